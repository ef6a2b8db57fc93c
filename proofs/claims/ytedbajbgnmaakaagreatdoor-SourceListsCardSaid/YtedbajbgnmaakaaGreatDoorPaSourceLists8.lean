/- Parts of the walk, put together by a program. By an AI agent. -/
import Derived.Test.YtedbajbgnmaakaaGreatDoorPaSourceLists7
import Derived.Laws.CopyRow
set_option linter.unusedSimpArgs false
set_option linter.unusedVariables false
namespace Go.Proofs.YtedbajbgnmaakaaGreatDoor
open Go Go.Eng Go.Proofs Dg
set_option maxRecDepth 100000 in
set_option maxHeartbeats 4000000 in
theorem stbD_c (l:List DgV) (g n c kc:Nat) (us cap:List Value) (Q:DgV→Prop) (cmp:DgV→DgV→Int) (hw:Swo (ltC cmp)) (hkc:funB Tryz.prog kc=some true) (hll:l.length=n) (hnc:n≤1000000) (hQx:∀ x∈l,Q x) (w:World) (hcmp:CmpOk kc us cap dgC Q cmp w g) (hS0:St w [g] [jW g n c 95 6 ((l).flatMap dgC)] w):Calls Tryz.prog 124 [.slice (some ⟨g,0,none⟩) n c,.int .i64 (n:Int),.func (.func kc) us.toArray cap.toArray].toArray w fun e w'=>e= .returned (.tuple #[])∧St w [g] [jW g n c 95 6 ((isort (ltC cmp) l).flatMap dgC)] w':=by
 let q1:Nat:=95
 let q2:Nat:=6
 let q3:=dgC
 have q4:= @F.fun160
 have q5:= @row_O1D
 have q6:= @row_O2D
 have q7:= @insD_c
 have q8:= @F.fun161
 have q9:= @symD_c
 have qO:∀ x,∀ u∈dgC x,u.oneCell'=true:=fun x=>jO
 exact stbK_c_s
theorem sstD_c (l:List DgV) (g n c kc:Nat) (us cap:List Value) (Q:DgV→Prop) (cmp:DgV→DgV→Int) (hw:Swo (ltC cmp)) (hkc:funB Tryz.prog kc=some true) (hll:l.length=n) (hnc:n≤1000000) (hQx:∀ x∈l,Q x) (w:World) (hcmp:CmpOk kc us cap dgC Q cmp w g) (hS0:St w [g] [jW g n c 95 6 ((l).flatMap dgC)] w):
  Calls Tryz.prog 95 [.slice (some ⟨g,0,none⟩) n c,.func (.func kc) us.toArray cap.toArray].toArray w fun e w'=>e= .returned (.tuple #[])∧St w [g] [jW g n c 95 6 ((isort (ltC cmp) l).flatMap dgC)] w':=by
 refine enter Tryz.func95 rfl Tryz.ntmps95 rfl (C:=[jW g n c 95 6 ((l).flatMap dgC)]) hS0 ?_
 refine jN 10 ?_
 refine WL.callC (β:=Unit) (res:=fun _=> .tuple #[]) (cs:=fun _=>[jW g n c 95 6 ((isort (ltC cmp) l).flatMap dgC)]) (Cs:=[jW g n c 95 6 ((l).flatMap dgC)]) (O':=[g]) F.fun124 (fun d h=>by cases h;rfl) rfl (List.Perm.refl _) row_O1D row_O2D (fun w hS hS2=>(stbD_c l g n c kc us cap Q cmp hw hkc hll hnc hQx w (hcmp.next hS) hS2).mono (fun e w2 h=>⟨(),h⟩)) (fun _=>?_)
 refine jN 1 ?_
 refine WQ.fin (rs:=[]) rfl .nil (fun w hS=>?_)
 exact ⟨rfl,hS⟩
noncomputable def neF (f:Cf→Bool):Bool:=by
 classical exact decide (∃ c,f c=true)
theorem neF_T {f:Cf→Bool} {c:Cf} (h:f c=true):neF f=true:=by
 unfold neF
 exact @decide_eq_true _ (Classical.propDecidable _) ⟨c,h⟩
theorem neF_F {f:Cf→Bool} (h:∀ c,f c=false):neF f=false:=by
 unfold neF
 refine @decide_eq_false _ (Classical.propDecidable _) ?_
 rintro ⟨c,hc⟩
 rw [h c] at hc
 cases hc
theorem neF_of {t:BT} (ho:t.ok 0):neF t.ev= !((canon t).2==0):=by
 cases h:(canon t).2==0 with
 | true=>exact neF_F ((emptyT ho).1 h)
 | false=>
  have h2: ¬ ∀ c,t.ev c=false:=fun e=>by rw [(emptyT ho).2 e] at h;cases h
  obtain ⟨c,hc⟩:=Classical.not_forall.1 h2
  exact neF_T (c:=c) (by simpa using hc)
abbrev kI (x:ItV):Nat×List UInt8×List Int×Int×Int:=(x.k,x.t,x.p,x.f,x.l)
abbrev kN (x:NoV):Nat×List Int×Int×Int:=(x.k,x.p,x.f,x.l)
abbrev hdT (t:TkV):=(kI t.x,t.d.ev)
abbrev hdD (t:DgV):=(kN t.x,t.d.ev)
noncomputable def resT {κ:Type} (P:(Cf→Bool)→Cf→Bool) (l:List (κ×(Cf→Bool))):List (κ×(Cf→Bool)):=(l.map fun r=>(r.1,P r.2)).filter fun r=>neF r.2
theorem resT_T {κ:Type} {P:(Cf→Bool)→Cf→Bool} {l:List (κ×(Cf→Bool))} {i:Nat} {r:κ×(Cf→Bool)} (h:l[i]?=some r) (hb:neF (P r.2)=true):resT P (l.take (i+1))=resT P (l.take i)++[(r.1,P r.2)]:=by
 unfold resT
 rw [List.take_add_one,h,List.map_append,List.filter_append]
 simp [hb]
theorem resT_F {κ:Type} {P:(Cf→Bool)→Cf→Bool} {l:List (κ×(Cf→Bool))} {i:Nat} {r:κ×(Cf→Bool)} (h:l[i]?=some r) (hb:neF (P r.2)=false):resT P (l.take (i+1))=resT P (l.take i):=by
 unfold resT
 rw [List.take_add_one,h,List.map_append,List.filter_append]
 simp [hb]
theorem resT_len {κ:Type} {P:(Cf→Bool)→Cf→Bool} {l:List (κ×(Cf→Bool))} {i:Nat}:(resT P (l.take i)).length≤i:=by
 unfold resT
 refine Nat.le_trans (List.length_filter_le _ _) ?_
 rw [List.length_map]
 exact List.length_take_le _ _
abbrev CdR (P:(Cf→Bool)→Cf→Bool) (t:BT) (a:Option Addr) (c:Nat):Type:={z:DV×List Nat×List DV // (z.1∈z.2.2∨z.1=(t,a,c))∧z.1.1.ok 0∧∀ cf,z.1.1.ev cf=P t.ev cf}
def CondOk (kc:Nat) (us cap:List Value) (P:(Cf→Bool)→Cf→Bool) (w0:World):Prop:=
 ∀ (C:List Chunk) (w:World),St w0 [] C w→∀ t a c,RdD w t a→Calls Tryz.prog kc (us++[dval t a c]++cap).toArray w fun e w'=>∃ z:CdR P t a c,e= .returned (dvv z.1.1)∧St w [] [dsC z.1.2.1 z.1.2.2] w'
structure OwV where
 ts:List TkV
 ta:Option Addr
 tc:Nat
 gs:List DgV
 ga:Option Addr
 gc:Nat
 F:List Nat
 ds:List DV
 Q:List Nat
 ps:List (List Int×Option Addr)
abbrev owT (m:OwV):Chunk:=rowc (.slice m.ta m.ts.length m.tc) m.ts.length 89 7 (m.ts.flatMap tkC)
abbrev owD (m:OwV):Chunk:=rowc (.slice m.ga m.gs.length m.gc) m.gs.length 95 6 (m.gs.flatMap dgC)
abbrev owA (m:OwV):List Value:=[.slice m.ta m.ts.length m.tc,.slice m.ga m.gs.length m.gc]
abbrev ownA (l:List TkV) (g:List DgV):List DV:=l.map (fun t=>(t.d,t.da,t.dc))++g.map (fun t=>(t.d,t.da,t.dc))
theorem ownA_T {l:List TkV} {g:List DgV} {t:TkV} (h:t∈l):(t.d,t.da,t.dc)∈ownA l g:=List.mem_append_left _ (List.mem_map_of_mem (f:=fun t:TkV=>((t.d,t.da,t.dc):DV)) h)
theorem ownA_D {l:List TkV} {g:List DgV} {t:DgV} (h:t∈g):(t.d,t.da,t.dc)∈ownA l g:=List.mem_append_right _ (List.mem_map_of_mem (f:=fun t:DgV=>((t.d,t.da,t.dc):DV)) h)
structure OwG (A:List DV) (a:List ((Nat×List UInt8×List Int×Int×Int)×(Cf→Bool))) (b:List ((Nat×List Int×Int×Int)×(Cf→Bool))) (m:OwV):Prop where
 t:m.ts.map hdT=a
 g:m.gs.map hdD=b
 td:∀ t∈m.ts,t.d.ok 0∧((t.d,t.da,t.dc)∈m.ds∨(t.d,t.da,t.dc)∈A)
 gd:∀ t∈m.gs,t.d.ok 0∧((t.d,t.da,t.dc)∈m.ds∨(t.d,t.da,t.dc)∈A)
 tp:∀ t∈m.ts,(t.x.p,t.x.pa)∈m.ps
 gp:∀ t∈m.gs,(t.x.p,t.x.pa)∈m.ps
theorem map_at6 {α β:Type} {f:α→β} {l:List α} {i:Nat} {x:α} (h:l[i]?=some x):(l.map f)[i]?=some (f x):=by rw [List.getElem?_map,h];rfl
set_option maxRecDepth 100000 in
set_option maxHeartbeats 1000000 in
theorem own_c (l:List TkV) (g:List DgV) (la ga:Option Addr) (lc gc:Nat) (hl:l.length≤10000) (hg:g.length≤10000) (kc:Nat) (us cap:List Value) (P:(Cf→Bool)→Cf→Bool) (hkc:funB Tryz.prog kc=some true) (w:World) (hcd:CondOk kc us cap P w) (h1:TsR w l la) (h2:DsR w g ga):
  Calls Tryz.prog 42 [.agg [.slice la l.length lc,.slice ga g.length gc].toArray,.func (.func kc) us.toArray cap.toArray].toArray w fun e w'=>∃ m:OwV,OwG (ownA l g) (resT P (l.map hdT)) (resT P (g.map hdD)) m∧e= .returned (.agg (owA m).toArray)∧St w [] [owT m,owD m,dsC m.F m.ds,pthC m.Q m.ps] w':=by
 refine enter Tryz.func42 rfl Tryz.ntmps42 rfl (St.init _) ?_
 refine jN 3 ?_
 refine WL.boxN rfl rfl (fun b2=>?_)
 refine jN 1 ?_
 refine WL.alloc F.zero33 rfl (fun b4=>?_)
 refine jN 5 ?_
 refine WL.alloc F.zero33 rfl (fun b5=>?_)
 refine jN 16 ?_
 refine WC.chunks (C':=[pt b2 [.slice la l.length lc,.slice ga g.length gc] 33,pt b4 [.slice none 0 0,.slice none 0 0] 33,pt b5 [.slice none 0 0,.slice none 0 0] 33,rowc (.slice none 0 0) 0 89 7 [],rowc (.slice none 0 0) 0 95 6 [],dsC [] [],pthC [] []]) (fun w hS=>(jK (St.rowNil (St.rowNil (St.dsNil (St.pthNil hS)) 95 6) 89 7))) ?_
 refine WC.loop (α:=Nat×OwV) (fun z=>z.1≤l.length∧OwG (ownA l g) (resT P ((l.map hdT).take z.1)) (resT P ((g.map hdD).take 0)) z.2) (fun z=>[(1,.func (.func kc) us.toArray cap.toArray),(2,pp b2),(4,pp b4),(5,pp b5),(11,.slice la l.length lc),(12,.int .i64 (l.length:Int)),(13,.int .i64 (z.1:Int))]) (fun z=>[pt b2 [.slice la l.length lc,.slice ga g.length gc] 33,pt b4 [.slice none 0 0,.slice none 0 0] 33,pt b5 (owA z.2) 33,owT z.2,owD z.2,dsC z.2.F z.2.ds,pthC z.2.Q z.2.ps]) (fun z=>l.length - z.1) ((0,(⟨[],none,0,[],none,0,[],[],[],[]⟩:OwV))) ?_ ?_ ?_ ?_
 ·exact ⟨Nat.zero_le _,⟨rfl,rfl,by simp,by simp,by simp,by simp⟩⟩
 ·exact ⟨rfl,rfl,rfl,rfl,rfl,rfl,rfl,trivial⟩
 ·rfl
 rintro ⟨i,m⟩ ⟨hi,hm⟩
 dsimp only at hi hm
 show WC _ _ _ _ _ _ _ [(1,.func (.func kc) us.toArray cap.toArray),(2,pp b2),(4,pp b4),(5,pp b5),(11,.slice la l.length lc),(12,.int .i64 (l.length:Int)),(13,.int .i64 (i:Int))] [pt b2 [.slice la l.length lc,.slice ga g.length gc] 33,pt b4 [.slice none 0 0,.slice none 0 0] 33,pt b5 (owA m) 33,owT m,owD m,dsC m.F m.ds,pthC m.Q m.ps]
 refine jN 7 ?_
 refine WC.cond rfl (fun hc1=>?_) (fun hc1=>?_)
 ·have hlt:i<l.length:=by simpa using hc1
  obtain ⟨y,hy9⟩:∃ z,l[i]?=some z:=⟨_,List.getElem?_eq_getElem hlt⟩
  have hym:=List.mem_of_getElem? hy9
  obtain ⟨b,o,h1a,hcx⟩:=h1.r i y hy9
  subst h1a
  have hml:m.ts.length≤i:=by
   have h9:=congrArg List.length hm.t
   rw [List.length_map] at h9
   rw [h9];exact resT_len
  refine jN 7 ?_
  refine WL.indexAddr F.sl30 rfl rfl rfl hlt ?_
  refine jN 1 ?_
  refine WL.loadN F.agg89 rfl rfl (vs:=tkC y) rfl (fun w hS j v hv=>hS.oldc (hcx j v hv) (by simp)) ?_
  refine jN 1 ?_
  refine WL.alloc F.zero89 rfl (fun b7=>?_)
  refine jN 11 ?_
  refine WL.loadN F.agg50 rfl rfl (vs:=[.slice y.da (canon y.d).1.length y.dc,.int .i64 ((canon y.d).2:Int)]) rfl (fun w hS j v hv=>(by (have h9:(tkC y)[5+j]?=some v:=(by (show ([.int .u8 (y.x.k:Int),.string (str y.x.t),.slice y.x.pa y.x.p.length y.x.pc,.int .i64 y.x.f,.int .i64 y.x.l]++([.slice y.da (canon y.d).1.length y.dc,.int .i64 ((canon y.d).2:Int)]:List Value))[5+j]?=some v);rw [List.getElem?_append_right (by simp)];simpa using hv));(show w.cell? ⟨b7,5+j,none⟩=some v);exact hS.cell (cs:=tkC y) jM h9)) ?_
  refine jN 1 ?_
  refine WL.callFC (β:=CdR P y.d y.da y.dc) (res:=fun z=>dvv z.1.1) (cs:=fun z=>[dsC z.1.2.1 z.1.2.2]) (Cs:=[]) (O':=[]) (us:=us) (cap:=cap) hkc (fun d h=>by cases h;rfl) rfl rfl (List.Perm.refl _) (by simp) (by simp) (fun w hS _=>hcd _ _ hS y.d y.da y.dc ((h1.d y hym).next0 hS)) (fun z=>?_)
  have hze:neF (P y.d.ev)= !((canon z.1.1.1).2==0):=by rw [← neF_of z.2.2.1];congr 1;exact (funext z.2.2.2).symm
  refine jN 11 ?_
  refine WL.loadN F.agg50 rfl rfl (vs:=[.slice z.1.1.2.1 (canon z.1.1.1).1.length z.1.1.2.2,.int .i64 ((canon z.1.1.1).2:Int)]) rfl (fun w hS j v hv=>(by (have h9:(tkC (⟨y.x,z.1.1.1,z.1.1.2.1,z.1.1.2.2⟩:TkV))[5+j]?=some v:=(by (show ([.int .u8 (y.x.k:Int),.string (str y.x.t),.slice y.x.pa y.x.p.length y.x.pc,.int .i64 y.x.f,.int .i64 y.x.l]++([.slice z.1.1.2.1 (canon z.1.1.1).1.length z.1.1.2.2,.int .i64 ((canon z.1.1.1).2:Int)]:List Value))[5+j]?=some v);rw [List.getElem?_append_right (by simp)];simpa using hv));(show w.cell? ⟨b7,5+j,none⟩=some v);exact hS.cell (cs:=tkC (⟨y.x,z.1.1.1,z.1.1.2.1,z.1.1.2.2⟩:TkV)) jM h9)) ?_
  refine jN 1 ?_
  refine WL.callV F.fun61 rfl rfl (fun w hS=>Empty_c z.1.1.1 z.1.1.2.1 z.1.1.2.2 w) ?_
  refine jN 4 ?_
  refine WC.cond rfl (fun hn1=>?_) (fun hn1=>?_)
  ·have hne:neF (P y.d.ev)=true:=hze.trans hn1
   refine WC.drawsL (by kernel_rfl) (FactsOk.cons (ds:=[5,7]) (LoadOk.one (t:=5) (off:=0) rfl jM rfl) (FactsOk.cons (ds:=[3,4,5,7]) (LoadOk.whole (t:=7) rfl jM) (FactsOk.nil))) ?_
   refine jT 0 rfl (Yl.fieldAddr0 F.fld33_0 rfl) ?_
   refine jF 1 0 rfl rfl (Yl.load1 F.one30 rfl) ?_
   refine jF 2 1 rfl rfl (Yl.loadN F.agg89 rfl rfl) ?_
   refine jA 3 rfl ?_
   refine WL.call0 (β:=Option Addr×Nat) (res:=fun x=> .returned (.agg (tkC (tkP (⟨y.x,z.1.1.1,z.1.1.2.1,z.1.1.2.2⟩:TkV) x.1 x.2)).toArray)) (cs:=fun x=>[rowc (.slice x.1 y.x.p.length x.2) y.x.p.length 3 1 (y.x.p.map (Value.int .i64))]) (ψ:=fun _=>True) F.fun82 (fun d h=>by cases h;rfl) rfl (fun w hS=>(ownTok_c (⟨y.x,z.1.1.1,z.1.1.2.1,z.1.1.2.2⟩:TkV) (h1.p y hym).2 w ((h1.p y hym).1.next hS)).mono (fun e w2 ⟨x,h1,h2⟩=>⟨x,trivial,h1,h2⟩)) (fun ⟨xa,xc⟩ _=>After_ret ?_)
   refine WD.on (closed_of (by kernel_rfl)) (fun w hS=>Sx.keep (hS.cell jM rfl) (Sx.gone rfl (Sx.none))) ?_
   refine jA 4 rfl ?_
   refine WL.buildSlice F.sl30 F.ez30 rfl rfl rfl rfl jB rfl (fun b30=>?_)
   refine WD.on (closed_of (by kernel_rfl)) (fun w hS=>Sx.keep (hS.cell jM rfl) (Sx.gone rfl (Sx.none))) ?_
   refine jA 5 rfl ?_
   refine WL.appendE (news:=[.int .u8 (y.x.k:Int),.string (str y.x.t),.slice xa y.x.p.length xc,.int .i64 y.x.f,.int .i64 y.x.l,.slice z.1.1.2.1 (canon z.1.1.1).1.length z.1.1.2.2,.int .i64 ((canon z.1.1.1).2:Int)]) F.el30 rfl rfl rfl jR (fun w hS jj u hu9=>by rw [Nat.zero_add];exact hS.cell (cs:=[.int .u8 (y.x.k:Int),.string (str y.x.t),.slice xa y.x.p.length xc,.int .i64 y.x.f,.int .i64 y.x.l,.slice z.1.1.2.1 (canon z.1.1.1).1.length z.1.1.2.2,.int .i64 ((canon z.1.1.1).2:Int)]) jM hu9) rfl jO (Nat.le_trans (m:=20000) (by omega) (by decide)) (by omega) (fun a9 c9=>?_)
   refine jG ?_
   refine jT 6 rfl (Yl.fieldAddr0 F.fld33_0 rfl) ?_
   refine jA 7 rfl ?_
   refine WL.store1 F.one30 rfl rfl rfl jU jS ?_
   refine jG ?_
   refine jD ?_
   refine jN 8 ?_
   refine WQ.chunks (C':=[pt b2 [.slice (some ⟨b,o,none⟩) l.length lc,.slice ga g.length gc] 33,pt b4 [.slice none 0 0,.slice none 0 0] 33,pt b5 [.slice a9 (m.ts.length+1) c9,.slice m.ga m.gs.length m.gc] 33,rowc (.slice a9 (m.ts.length+1) c9) (m.ts.length+1) 89 7 (m.ts.flatMap tkC++[.int .u8 (y.x.k:Int),.string (str y.x.t),.slice xa y.x.p.length xc,.int .i64 y.x.f,.int .i64 y.x.l,.slice z.1.1.2.1 (canon z.1.1.1).1.length z.1.1.2.2,.int .i64 ((canon z.1.1.1).2:Int)]),owD m,dsC (m.F++z.1.2.1) (m.ds++z.1.2.2),pthC m.Q m.ps,rowc (.slice xa y.x.p.length xc) y.x.p.length 3 1 (y.x.p.map (Value.int .i64))]) (fun w hS=>by have h9:=St.dsApp ((St.pick (St.pick hS (c:=dsC z.1.2.1 z.1.2.2) jR) (c:=dsC m.F m.ds) jR));exact (jK h9)) ?_
   refine WQ.chunksE (C':=fun Q9=>[pt b2 [.slice (some ⟨b,o,none⟩) l.length lc,.slice ga g.length gc] 33,pt b4 [.slice none 0 0,.slice none 0 0] 33,pt b5 [.slice a9 (m.ts.length+1) c9,.slice m.ga m.gs.length m.gc] 33,rowc (.slice a9 (m.ts.length+1) c9) (m.ts.length+1) 89 7 (m.ts.flatMap tkC++[.int .u8 (y.x.k:Int),.string (str y.x.t),.slice xa y.x.p.length xc,.int .i64 y.x.f,.int .i64 y.x.l,.slice z.1.1.2.1 (canon z.1.1.1).1.length z.1.1.2.2,.int .i64 ((canon z.1.1.1).2:Int)]),owD m,dsC (m.F++z.1.2.1) (m.ds++z.1.2.2),pthC Q9 (m.ps++[(y.x.p,xa)])]) (fun w hS=>?_) (fun Q9=>?_)
   ·obtain ⟨Q9,hQ9⟩:=St.pthSnoc ((St.pick (St.pick hS (c:=rowc (.slice xa y.x.p.length xc) y.x.p.length 3 1 (y.x.p.map (Value.int .i64))) jR) (c:=pthC m.Q m.ps) jR))
    exact ⟨Q9,(jK hQ9)⟩
   refine WQ.back (i+1,(⟨m.ts++[(tkP (⟨y.x,z.1.1.1,z.1.1.2.1,z.1.1.2.2⟩:TkV) xa xc)],a9,c9,m.gs,m.ga,m.gc,m.F++z.1.2.1,m.ds++z.1.2.2,Q9,m.ps++[(y.x.p,xa)]⟩:OwV)) ?_ ?_ ?_ ?_
   ·exact ⟨by show i+1≤l.length;omega,⟨(by (show (m.ts++[(tkP (⟨y.x,z.1.1.1,z.1.1.2.1,z.1.1.2.2⟩:TkV) xa xc)]).map hdT=_);rw [List.map_append,hm.t,resT_T (map_at6 (f:=hdT) hy9) hne,List.map_singleton];congr 2;exact Prod.ext rfl (funext z.2.2.2)),hm.g,(fun r9 h9=>by rcases List.mem_append.1 h9 with h9 | h9;exact ⟨(hm.td r9 h9).1,(hm.td r9 h9).2.imp (List.mem_append_left _) id⟩;rw [List.mem_singleton.1 h9];exact ⟨z.2.2.1,z.2.1.elim (fun h=> .inl (List.mem_append_right _ h)) (fun h=> .inr (by have e8:z.1.1=(y.d,y.da,y.dc):=h;(show z.1.1∈_);rw [e8];exact ownA_T hym))⟩),(fun r9 h9=>⟨(hm.gd r9 h9).1,(hm.gd r9 h9).2.imp (List.mem_append_left _) id⟩),(fun r9 h9=>by rcases List.mem_append.1 h9 with h9 | h9;exact List.mem_append_left _ (hm.tp r9 h9);rw [List.mem_singleton.1 h9];simp),(fun r9 h9=>List.mem_append_left _ (hm.gp r9 h9))⟩⟩
   ·show l.length - (i+1)<l.length - i;omega
   ·exact ⟨rfl,rfl,rfl,rfl,rfl,rfl,rfl,trivial⟩
   simp only [owT,owD,owA,List.length_append,List.length_cons,List.length_nil,List.flatMap_append]
   rfl
  have hne:neF (P y.d.ev)=false:=hze.trans hn1
  refine jN 9 ?_
  refine WQ.chunks (C':=[pt b2 [.slice (some ⟨b,o,none⟩) l.length lc,.slice ga g.length gc] 33,pt b4 [.slice none 0 0,.slice none 0 0] 33,pt b5 (owA m) 33,owT m,owD m,dsC m.F m.ds,pthC m.Q m.ps]) (fun w hS=>(jK hS)) ?_
  refine WQ.back (i+1,m) ?_ ?_ ?_ ?_
  ·exact ⟨by show i+1≤l.length;omega,⟨by rw [hm.t,resT_F (map_at6 (f:=hdT) hy9) hne],hm.g,hm.td,hm.gd,hm.tp,hm.gp⟩⟩
  ·show l.length - (i+1)<l.length - i;omega
  ·exact ⟨rfl,rfl,rfl,rfl,rfl,rfl,rfl,trivial⟩
  rfl
 have hie:i=l.length:=by simp at hc1;omega
 subst hie
 refine jN 19 ?_
 refine WC.loop (α:=Nat×OwV) (fun z=>z.1≤g.length∧OwG (ownA l g) (resT P ((l.map hdT).take l.length)) (resT P ((g.map hdD).take z.1)) z.2) (fun z=>[(1,.func (.func kc) us.toArray cap.toArray),(2,pp b2),(4,pp b4),(5,pp b5),(35,.slice ga g.length gc),(36,.int .i64 (g.length:Int)),(37,.int .i64 (z.1:Int))]) (fun z=>[pt b2 [.slice la l.length lc,.slice ga g.length gc] 33,pt b4 [.slice none 0 0,.slice none 0 0] 33,pt b5 (owA z.2) 33,owT z.2,owD z.2,dsC z.2.F z.2.ds,pthC z.2.Q z.2.ps]) (fun z=>g.length - z.1) ((0,m)) ?_ ?_ ?_ ?_
 ·exact ⟨Nat.zero_le _,hm⟩
 ·exact ⟨rfl,rfl,rfl,rfl,rfl,rfl,rfl,trivial⟩
 ·rfl
 rintro ⟨k,m⟩ ⟨hk,hm⟩
 dsimp only at hk hm
 show WC _ _ _ _ _ _ _ [(1,.func (.func kc) us.toArray cap.toArray),(2,pp b2),(4,pp b4),(5,pp b5),(35,.slice ga g.length gc),(36,.int .i64 (g.length:Int)),(37,.int .i64 (k:Int))] [pt b2 [.slice la l.length lc,.slice ga g.length gc] 33,pt b4 [.slice none 0 0,.slice none 0 0] 33,pt b5 (owA m) 33,owT m,owD m,dsC m.F m.ds,pthC m.Q m.ps]
 refine jN 7 ?_
 refine WC.cond rfl (fun hc2=>?_) (fun hc2=>?_)
 ·have hlt:k<g.length:=by simpa using hc2
  obtain ⟨y,hy9⟩:∃ z,g[k]?=some z:=⟨_,List.getElem?_eq_getElem hlt⟩
  have hym:=List.mem_of_getElem? hy9
  obtain ⟨b,o,h2a,hcx⟩:=h2.r k y hy9
  subst h2a
  have hml:m.gs.length≤k:=by
   have h9:=congrArg List.length hm.g
   rw [List.length_map] at h9
   rw [h9];exact resT_len
  refine jN 7 ?_
  refine WL.indexAddr F.sl31 rfl rfl rfl hlt ?_
  refine jN 1 ?_
  refine WL.loadN F.agg95 rfl rfl (vs:=dgC y) rfl (fun w hS j v hv=>hS.oldc (hcx j v hv) (by simp)) ?_
  refine jN 1 ?_
  refine WL.alloc F.zero95 rfl (fun b9=>?_)
  refine jN 11 ?_
  refine WL.loadN F.agg50 rfl rfl (vs:=[.slice y.da (canon y.d).1.length y.dc,.int .i64 ((canon y.d).2:Int)]) rfl (fun w hS j v hv=>(by (have h9:(dgC y)[4+j]?=some v:=(by (show ([.int .u8 (y.x.k:Int),.slice y.x.pa y.x.p.length y.x.pc,.int .i64 y.x.f,.int .i64 y.x.l]++([.slice y.da (canon y.d).1.length y.dc,.int .i64 ((canon y.d).2:Int)]:List Value))[4+j]?=some v);rw [List.getElem?_append_right (by simp)];simpa using hv));(show w.cell? ⟨b9,4+j,none⟩=some v);exact hS.cell (cs:=dgC y) jM h9)) ?_
  refine jN 1 ?_
  refine WL.callFC (β:=CdR P y.d y.da y.dc) (res:=fun z=>dvv z.1.1) (cs:=fun z=>[dsC z.1.2.1 z.1.2.2]) (Cs:=[]) (O':=[]) (us:=us) (cap:=cap) hkc (fun d h=>by cases h;rfl) rfl rfl (List.Perm.refl _) (by simp) (by simp) (fun w hS _=>hcd _ _ hS y.d y.da y.dc ((h2.d y hym).next0 hS)) (fun z=>?_)
  have hze:neF (P y.d.ev)= !((canon z.1.1.1).2==0):=by rw [← neF_of z.2.2.1];congr 1;exact (funext z.2.2.2).symm
  refine jN 11 ?_
  refine WL.loadN F.agg50 rfl rfl (vs:=[.slice z.1.1.2.1 (canon z.1.1.1).1.length z.1.1.2.2,.int .i64 ((canon z.1.1.1).2:Int)]) rfl (fun w hS j v hv=>(by (have h9:(dgC (⟨y.x,z.1.1.1,z.1.1.2.1,z.1.1.2.2⟩:DgV))[4+j]?=some v:=(by (show ([.int .u8 (y.x.k:Int),.slice y.x.pa y.x.p.length y.x.pc,.int .i64 y.x.f,.int .i64 y.x.l]++([.slice z.1.1.2.1 (canon z.1.1.1).1.length z.1.1.2.2,.int .i64 ((canon z.1.1.1).2:Int)]:List Value))[4+j]?=some v);rw [List.getElem?_append_right (by simp)];simpa using hv));(show w.cell? ⟨b9,4+j,none⟩=some v);exact hS.cell (cs:=dgC (⟨y.x,z.1.1.1,z.1.1.2.1,z.1.1.2.2⟩:DgV)) jM h9)) ?_
  refine jN 1 ?_
  refine WL.callV F.fun61 rfl rfl (fun w hS=>Empty_c z.1.1.1 z.1.1.2.1 z.1.1.2.2 w) ?_
  refine jN 4 ?_
  refine WC.cond rfl (fun hn2=>?_) (fun hn2=>?_)
  ·have hne:neF (P y.d.ev)=true:=hze.trans hn2
   refine WC.drawsL (by kernel_rfl) (FactsOk.cons (ds:=[5,7]) (LoadOk.one (t:=5) (off:=1) rfl jM rfl) (FactsOk.cons (ds:=[3,4,5,7]) (LoadOk.whole (t:=9) rfl jM) (FactsOk.nil))) ?_
   refine jT 0 rfl (Yl.fieldAddr0 F.fld33_1 rfl) ?_
   refine jF 1 0 rfl rfl (Yl.load1 F.one31 rfl) ?_
   refine jF 2 1 rfl rfl (Yl.loadN F.agg95 rfl rfl) ?_
   refine jA 3 rfl ?_
   refine WL.call0 (β:=Option Addr×Nat) (res:=fun x=> .returned (.agg (dgC (dgP (⟨y.x,z.1.1.1,z.1.1.2.1,z.1.1.2.2⟩:DgV) x.1 x.2)).toArray)) (cs:=fun x=>[rowc (.slice x.1 y.x.p.length x.2) y.x.p.length 3 1 (y.x.p.map (Value.int .i64))]) (ψ:=fun _=>True) F.fun83 (fun d h=>by cases h;rfl) rfl (fun w hS=>(ownDia_c (⟨y.x,z.1.1.1,z.1.1.2.1,z.1.1.2.2⟩:DgV) (h2.p y hym).2 w ((h2.p y hym).1.next hS)).mono (fun e w2 ⟨x,h1,h2⟩=>⟨x,trivial,h1,h2⟩)) (fun ⟨xa,xc⟩ _=>After_ret ?_)
   refine WD.on (closed_of (by kernel_rfl)) (fun w hS=>Sx.keep (hS.cell jM rfl) (Sx.gone rfl (Sx.none))) ?_
   refine jA 4 rfl ?_
   refine WL.buildSlice F.sl31 F.ez31 rfl rfl rfl rfl jB rfl (fun b54=>?_)
   refine WD.on (closed_of (by kernel_rfl)) (fun w hS=>Sx.keep (hS.cell jM rfl) (Sx.gone rfl (Sx.none))) ?_
   refine jA 5 rfl ?_
   refine WL.appendE (news:=[.int .u8 (y.x.k:Int),.slice xa y.x.p.length xc,.int .i64 y.x.f,.int .i64 y.x.l,.slice z.1.1.2.1 (canon z.1.1.1).1.length z.1.1.2.2,.int .i64 ((canon z.1.1.1).2:Int)]) F.el31 rfl rfl rfl jR (fun w hS jj u hu9=>by rw [Nat.zero_add];exact hS.cell (cs:=[.int .u8 (y.x.k:Int),.slice xa y.x.p.length xc,.int .i64 y.x.f,.int .i64 y.x.l,.slice z.1.1.2.1 (canon z.1.1.1).1.length z.1.1.2.2,.int .i64 ((canon z.1.1.1).2:Int)]) jM hu9) rfl jO (Nat.le_trans (m:=20000) (by omega) (by decide)) (by omega) (fun a9 c9=>?_)
   refine jG ?_
   refine jT 6 rfl (Yl.fieldAddr0 F.fld33_1 rfl) ?_
   refine jA 7 rfl ?_
   refine WL.store1 F.one31 rfl rfl rfl jU jS ?_
   refine jG ?_
   refine jD ?_
   refine jN 8 ?_
   refine WQ.chunks (C':=[pt b2 [.slice la l.length lc,.slice (some ⟨b,o,none⟩) g.length gc] 33,pt b4 [.slice none 0 0,.slice none 0 0] 33,pt b5 [.slice m.ta m.ts.length m.tc,.slice a9 (m.gs.length+1) c9] 33,owT m,rowc (.slice a9 (m.gs.length+1) c9) (m.gs.length+1) 95 6 (m.gs.flatMap dgC++[.int .u8 (y.x.k:Int),.slice xa y.x.p.length xc,.int .i64 y.x.f,.int .i64 y.x.l,.slice z.1.1.2.1 (canon z.1.1.1).1.length z.1.1.2.2,.int .i64 ((canon z.1.1.1).2:Int)]),dsC (m.F++z.1.2.1) (m.ds++z.1.2.2),pthC m.Q m.ps,rowc (.slice xa y.x.p.length xc) y.x.p.length 3 1 (y.x.p.map (Value.int .i64))]) (fun w hS=>by have h9:=St.dsApp ((St.pick (St.pick hS (c:=dsC z.1.2.1 z.1.2.2) jR) (c:=dsC m.F m.ds) jR));exact (jK h9)) ?_
   refine WQ.chunksE (C':=fun Q9=>[pt b2 [.slice la l.length lc,.slice (some ⟨b,o,none⟩) g.length gc] 33,pt b4 [.slice none 0 0,.slice none 0 0] 33,pt b5 [.slice m.ta m.ts.length m.tc,.slice a9 (m.gs.length+1) c9] 33,owT m,rowc (.slice a9 (m.gs.length+1) c9) (m.gs.length+1) 95 6 (m.gs.flatMap dgC++[.int .u8 (y.x.k:Int),.slice xa y.x.p.length xc,.int .i64 y.x.f,.int .i64 y.x.l,.slice z.1.1.2.1 (canon z.1.1.1).1.length z.1.1.2.2,.int .i64 ((canon z.1.1.1).2:Int)]),dsC (m.F++z.1.2.1) (m.ds++z.1.2.2),pthC Q9 (m.ps++[(y.x.p,xa)])]) (fun w hS=>?_) (fun Q9=>?_)
   ·obtain ⟨Q9,hQ9⟩:=St.pthSnoc ((St.pick (St.pick hS (c:=rowc (.slice xa y.x.p.length xc) y.x.p.length 3 1 (y.x.p.map (Value.int .i64))) jR) (c:=pthC m.Q m.ps) jR))
    exact ⟨Q9,(jK hQ9)⟩
   refine WQ.back (k+1,(⟨m.ts,m.ta,m.tc,m.gs++[(dgP (⟨y.x,z.1.1.1,z.1.1.2.1,z.1.1.2.2⟩:DgV) xa xc)],a9,c9,m.F++z.1.2.1,m.ds++z.1.2.2,Q9,m.ps++[(y.x.p,xa)]⟩:OwV)) ?_ ?_ ?_ ?_
   ·exact ⟨by show k+1≤g.length;omega,⟨hm.t,(by (show (m.gs++[(dgP (⟨y.x,z.1.1.1,z.1.1.2.1,z.1.1.2.2⟩:DgV) xa xc)]).map hdD=_);rw [List.map_append,hm.g,resT_T (map_at6 (f:=hdD) hy9) hne,List.map_singleton];congr 2;exact Prod.ext rfl (funext z.2.2.2)),(fun r9 h9=>⟨(hm.td r9 h9).1,(hm.td r9 h9).2.imp (List.mem_append_left _) id⟩),(fun r9 h9=>by rcases List.mem_append.1 h9 with h9 | h9;exact ⟨(hm.gd r9 h9).1,(hm.gd r9 h9).2.imp (List.mem_append_left _) id⟩;rw [List.mem_singleton.1 h9];exact ⟨z.2.2.1,z.2.1.elim (fun h=> .inl (List.mem_append_right _ h)) (fun h=> .inr (by have e8:z.1.1=(y.d,y.da,y.dc):=h;(show z.1.1∈_);rw [e8];exact ownA_D hym))⟩),(fun r9 h9=>List.mem_append_left _ (hm.tp r9 h9)),(fun r9 h9=>by rcases List.mem_append.1 h9 with h9 | h9;exact List.mem_append_left _ (hm.gp r9 h9);rw [List.mem_singleton.1 h9];simp)⟩⟩
   ·show g.length - (k+1)<g.length - k;omega
   ·exact ⟨rfl,rfl,rfl,rfl,rfl,rfl,rfl,trivial⟩
   simp only [owT,owD,owA,List.length_append,List.length_cons,List.length_nil,List.flatMap_append]
   rfl
  have hne:neF (P y.d.ev)=false:=hze.trans hn2
  refine jN 9 ?_
  refine WQ.chunks (C':=[pt b2 [.slice la l.length lc,.slice (some ⟨b,o,none⟩) g.length gc] 33,pt b4 [.slice none 0 0,.slice none 0 0] 33,pt b5 (owA m) 33,owT m,owD m,dsC m.F m.ds,pthC m.Q m.ps]) (fun w hS=>(jK hS)) ?_
  refine WQ.back (k+1,m) ?_ ?_ ?_ ?_
  ·exact ⟨by show k+1≤g.length;omega,⟨hm.t,by rw [hm.g,resT_F (map_at6 (f:=hdD) hy9) hne],hm.td,hm.gd,hm.tp,hm.gp⟩⟩
  ·show g.length - (k+1)<g.length - k;omega
  ·exact ⟨rfl,rfl,rfl,rfl,rfl,rfl,rfl,trivial⟩
  rfl
 have hie:k=g.length:=by simp at hc2;omega
 subst hie
 refine jN 14 ?_
 refine WQ.ret (rs:=[.cell 4 33]) rfl (.cellN F.agg33 rfl jM rfl .nil) (fun w hS=>⟨m,⟨by rw [hm.t,← List.length_map (f:=hdT),List.take_length],by rw [hm.g,← List.length_map (f:=hdD),List.take_length],hm.td,hm.gd,hm.tp,hm.gp⟩,rfl,(jK hS)⟩)
theorem all_cong {α:Type} {p q:α→Bool}:∀ {l:List α},(∀ x∈l,p x=q x)→l.all p=l.all q
 | [],_=>rfl
 | x::l,h=>by rw [List.all_cons,List.all_cons,h x (by simp),all_cong fun y hy=>h y (by simp [hy])]
theorem ris_rel {α β:Type} {R:α→β→Prop} {ne:α→Bool} {ne2:β→Bool} {c:α→α→Int} {c2:β→β→Int} {l:List α} {m:List β} (hlen:l.length=m.length) (h:∀ (i:Nat) x y,l[i]?=some x→m[i]?=some y→R x y)
  (hne:∀ x y,R x y→ne x=ne2 y) (hc:∀ x y x2 y2,R x y→R x2 y2→decide (c x x2<0)=decide (c2 y y2<0)):risB ne c l=risB ne2 c2 m:=by
 unfold risB
 rw [hlen]
 refine all_cong fun i hi=>?_
 have hi:=List.mem_range.1 hi
 have ex:=List.getElem?_eq_getElem (l:=l) (i:=i) (by omega)
 have ey:=List.getElem?_eq_getElem (l:=m) (i:=i) hi
 have hR:=h i _ _ ex ey
 cases i with
 | zero=>rw [okAt_0 ex,okAt_0 ey,hne _ _ hR]
 | succ j=>
  have ex2:=List.getElem?_eq_getElem (l:=l) (i:=j) (by omega)
  have ey2:=List.getElem?_eq_getElem (l:=m) (i:=j) (by omega)
  rw [okAt_s ex ex2,okAt_s ey ey2,hne _ _ hR,hc _ _ _ _ (h j _ _ ex2 ey2) hR]
theorem those_nil {u:Nat} (hu:u<2 ^ 32) {f:Cf→Bool} (hf:dep u f):thoseF u f=[]↔∀ c,f c=false:=by
 constructor
 ·intro h c
  have h0:thoseF u (fun _=>false)=[]:=by unfold thoseF;simp
  exact thoseF_ext hu hf (fun _ _ _=>rfl) (h.trans h0.symm) c
 intro h
 unfold thoseF
 rw [List.filter_eq_nil_iff]
 intro c _
 rw [h]
 simp
theorem neF_those {u:Nat} (hu:u<2 ^ 32) {f:Cf→Bool} (hf:dep u f):neF f=decide (thoseF u f≠[]):=by
 by_cases h:thoseF u f=[]
 ·rw [neF_F ((those_nil hu hf).1 h)];simp [h]
 have h2:∃ c,f c=true:=Classical.byContradiction fun hno=>h ((those_nil hu hf).2 fun c=>by
  cases e:f c with
  | false=>rfl
  | true=>exact absurd ⟨c,e⟩ hno)
 obtain ⟨c,hc⟩:=h2
 rw [neF_T hc];simp [h]
structure SmT (u:Nat) (t:TkV) (r:RtV):Prop where
 ok:t.d.ok 0
 f:∃ f,dep u f∧t.d.ev=f∧r.c=thoseF u f
 p:t.x.p=r.x.p
 k:t.x.k=r.x.k
 fl:t.x.f=r.x.f∧t.x.l=r.x.l
 t:t.x.t=r.x.t
theorem SmT.ne {u:Nat} (hu:u<2 ^ 32) {t:TkV} {r:RtV} (h:SmT u t r):neT t=neR r:=by
 obtain ⟨f,h1,h2,h3⟩:=h.f
 show (!((canon t.d).2==0))=decide (r.c≠[])
 rw [← neF_of h.ok,h2,h3]
 exact neF_those hu h1
theorem SmT.c {u:Nat} {t s:TkV} {r q:RtV} (h:SmT u t r) (g:SmT u s q):decide (oT t s<0)=decide (orR r q<0):=by
 have e1:oT t s=cmpT r.x q.x:=by
  show cmpT t.x s.x=_
  unfold cmpT
  rw [h.p,g.p,h.k,g.k,h.t,g.t]
 have e2:=ordR_sgn r.x q.x
 rw [e1]
 show decide (cmpT r.x q.x<0)=decide (ordR r.x q.x<0)
 obtain ⟨a1,a2⟩:=e2
 simp only [decide_eq_decide]
 omega
structure SmG (u:Nat) (t:DgV) (r:RgV):Prop where
 ok:t.d.ok 0
 f:∃ f,dep u f∧t.d.ev=f∧r.c=thoseF u f
 p:t.x.p=r.x.p
 k:t.x.k=r.x.k
 fl:t.x.f=r.x.f∧t.x.l=r.x.l
theorem SmG.ne {u:Nat} (hu:u<2 ^ 32) {t:DgV} {r:RgV} (h:SmG u t r):neD t=neG r:=by
 obtain ⟨f,h1,h2,h3⟩:=h.f
 show (!((canon t.d).2==0))=decide (r.c≠[])
 rw [← neF_of h.ok,h2,h3]
 exact neF_those hu h1
theorem SmG.c {u:Nat} {t s:DgV} {r q:RgV} (h:SmG u t r) (g:SmG u s q):decide (oD t s<0)=decide (orG r q<0):=by
 have e1:oD t s=cmpD r.x q.x:=by
  show cmpD t.x s.x=_
  unfold cmpD
  rw [h.p,g.p,h.k,g.k]
 have e2:=ordG_sgn r.x q.x
 rw [e1]
 show decide (cmpD r.x q.x<0)=decide (ordG r.x q.x<0)
 obtain ⟨a1,a2⟩:=e2
 simp only [decide_eq_decide]
 omega
theorem valid_same {u:Nat} (hu:u<2 ^ 32) {ts:List TkV} {rs:List RtV} {gs:List DgV} {hs:List RgV} (h1:ts.length=rs.length) (h2:gs.length=hs.length)
  (hT:∀ (i:Nat) x y,ts[i]?=some x→rs[i]?=some y→SmT u x y) (hG:∀ (i:Nat) x y,gs[i]?=some x→hs[i]?=some y→SmG u x y):
  (risB neT oT ts&&risB neD oD gs)=(risB neR orR rs&&risB neG orG hs):=by
 rw [ris_rel h1 hT (fun _ _ h=>h.ne hu) (fun _ _ _ _ h g=>h.c g),ris_rel h2 hG (fun _ _ h=>h.ne hu) (fun _ _ _ _ h g=>h.c g)]
def eqB2 {α β:Type} (f:α→β→Bool):List α→List β→Bool
 | [],[]=>true
 | x::l,y::m=>f x y&&eqB2 f l m
 | _,_=>false
theorem eqB2_len {α β:Type} {f:α→β→Bool}:∀ {l:List α} {m:List β},eqB2 f l m=true→l.length=m.length
 | [],[],_=>rfl
 | x::l,y::m,h=>by
  unfold eqB2 at h
  rw [Bool.and_eq_true] at h
  rw [List.length_cons,List.length_cons,eqB2_len h.2]
 | [],_::_,h=>by simp [eqB2] at h
 | _::_,[],h=>by simp [eqB2] at h
theorem eqB2_ne {α β:Type} {f:α→β→Bool} {l:List α} {m:List β} (h:l.length≠m.length):eqB2 f l m=false:=by
 cases he:eqB2 f l m with
 | false=>rfl
 | true=>exact absurd (eqB2_len he) h
theorem eqB2_at {α β:Type} {f:α→β→Bool} {l:List α} {m:List β} {i:Nat} {x:α} {y:β} (hx:l[i]?=some x) (hy:m[i]?=some y) (h:eqB2 f l m=eqB2 f (l.drop i) (m.drop i)):eqB2 f l m=(f x y&&eqB2 f (l.drop (i+1)) (m.drop (i+1))):=by
 have e:∀ {γ:Type} {l:List γ} {x:γ},l[i]?=some x→l.drop i=x::l.drop (i+1):=fun {γ l x} h=>by
  obtain ⟨h1,rfl⟩:=List.getElem?_eq_some_iff.1 h
  exact List.drop_eq_getElem_cons h1
 rw [h,e hx,e hy,eqB2]
def tokB (u:Nat) (y:TkV) (r:RtV):Bool:=decide (y.x.k=r.x.k)&&(decide (y.x.t=r.x.t)&&((cmpP y.x.p r.x.p==0)&&(decide (y.x.f=r.x.f)&&(decide (y.x.l=r.x.l)&&alikeF y.d r.c u))))
def dgB (u:Nat) (y:DgV) (r:RgV):Bool:=decide (y.x.k=r.x.k)&&((cmpP y.x.p r.x.p==0)&&(decide (y.x.f=r.x.f)&&(decide (y.x.l=r.x.l)&&alikeF y.d r.c u)))
set_option maxRecDepth 100000 in
theorem token6_c (y:TkV) (r:RtV) (u:Nat) (hu:u<4294967296) (hyp:y.x.p.length≤1000000000) (hrp:r.x.p.length≤1000000000) (h32:∀ z∈r.c,z<4294967296) (hrl:r.c.length≤1000000000000000) (w:World) (ry:RdC w y.x.p y.x.pa) (rr:RdC w r.x.p r.x.pa) (dy:RdD w y.d y.da) (dr:RdN w r.c r.ca):
  Pure Tryz.prog 40 [.agg (tkC y).toArray,.agg (rtC r).toArray,.int .u32 (u:Int)] w (.bool (tokB u y r)):=by
 refine enter Tryz.func40 rfl Tryz.ntmps40 rfl (St.init _) ?_
 refine jN 3 ?_
 refine WL.boxN rfl rfl (fun b3=>?_)
 refine jN 1 ?_
 refine WL.boxN rfl rfl (fun b4=>?_)
 refine jN 18 ?_
 refine WA.splitB (i:=12) rfl (fun g12=>?_) (fun g12=>?_)
 ·have hk:decide (y.x.k=r.x.k)=true:=decide_eq_true (by (have h9:=g12;simp at h9;first | exact h9 | omega))
  refine jN 19 ?_
  refine WA.splitB (i:=19) rfl (fun g19=>?_) (fun g19=>?_)
  ·have ht:decide (y.x.t=r.x.t)=true:=decide_eq_true (by (have h9:=g19;simp at h9;first | exact h9 | omega))
   refine jN 14 ?_
   refine WL.callV F.fun28 rfl rfl (fun w hS=>ints_c y.x.p r.x.p y.x.pa r.x.pa y.x.pc r.x.pc hyp hrp w (ry.next hS) (rr.next hS)) ?_
   refine jN 4 ?_
   refine WA.splitB (i:=26) rfl (fun g26=>?_) (fun g26=>?_)
   ·have hp:(cmpP y.x.p r.x.p==0)=true:=by simpa using g26
    refine jN 19 ?_
    refine WA.splitB (i:=33) rfl (fun g33=>?_) (fun g33=>?_)
    ·have hf:decide (y.x.f=r.x.f)=true:=decide_eq_true (by (have h9:=g33;simp at h9;first | exact h9 | omega))
     refine jN 19 ?_
     refine WA.splitB (i:=40) rfl (fun g40=>?_) (fun g40=>?_)
     have hl:decide (y.x.l=r.x.l)=true:=decide_eq_true (by (have h9:=g40;simp at h9;first | exact h9 | omega))
     refine jN 5 ?_
     refine WL.loadN F.agg50 rfl rfl (vs:=[.slice y.da (canon y.d).1.length y.dc,.int .i64 ((canon y.d).2:Int)]) rfl (fun w hS j v hv=>(by (have h9:(tkC y)[5+j]?=some v:=(by (show ([.int .u8 (y.x.k:Int),.string (str y.x.t),.slice y.x.pa y.x.p.length y.x.pc,.int .i64 y.x.f,.int .i64 y.x.l]++[Value.slice y.da (canon y.d).1.length y.dc,.int .i64 ((canon y.d).2:Int)])[5+j]?=some v);rw [List.getElem?_append_right (by simp)];simpa using hv));(show w.cell? ⟨b3,5+j,none⟩=some v);exact hS.cell (cs:=tkC y) jM h9)) ?_
     refine jN 11 ?_
     refine WL.callV F.fun21 rfl rfl (fun w hS=>alike_c y.d y.da y.dc r.c r.ca r.cc u hu h32 hrl w (dy.next0 hS) (dr.next hS)) ?_
     refine jN 7 ?_
     rotate_left
     have hl:decide (y.x.l=r.x.l)=false:=decide_eq_false (by intro e;first | (rw [e] at g40;simp at g40) | (simp [e] at g40))
     refine jN 19 ?_
     rotate_left
     all_goals
      exact WQ.ret (rs:=[.tmp 6]) rfl (.tmp rfl .nil) (fun w hS=>⟨by unfold tokB;rw [hk,ht,hp,hf,hl];rfl,hS.sublist (List.nil_sublist _)⟩)
    have hf:decide (y.x.f=r.x.f)=false:=decide_eq_false (by intro e;first | (rw [e] at g33;simp at g33) | (simp [e] at g33))
    refine jN 33 ?_
    exact WQ.ret (rs:=[.tmp 6]) rfl (.tmp rfl .nil) (fun w hS=>⟨by unfold tokB;rw [hk,ht,hp,hf];rfl,hS.sublist (List.nil_sublist _)⟩)
   have hp:(cmpP y.x.p r.x.p==0)=false:=by simpa using g26
   refine jN 47 ?_
   exact WQ.ret (rs:=[.tmp 6]) rfl (.tmp rfl .nil) (fun w hS=>⟨by unfold tokB;rw [hk,ht,hp];rfl,hS.sublist (List.nil_sublist _)⟩)
  have ht:decide (y.x.t=r.x.t)=false:=decide_eq_false (by intro e;first | (rw [e] at g19;simp at g19) | (simp [e] at g19))
  refine jN 61 ?_
  exact WQ.ret (rs:=[.tmp 6]) rfl (.tmp rfl .nil) (fun w hS=>⟨by unfold tokB;rw [hk,ht];rfl,hS.sublist (List.nil_sublist _)⟩)
 have hk:decide (y.x.k=r.x.k)=false:=decide_eq_false (by intro e;first | (rw [e] at g12;simp at g12) | (simp [e] at g12))
 refine jN 75 ?_
 exact WQ.ret (rs:=[.tmp 6]) rfl (.tmp rfl .nil) (fun w hS=>⟨by unfold tokB;rw [hk];rfl,hS.sublist (List.nil_sublist _)⟩)
set_option maxRecDepth 100000 in
theorem diag6_c (y:DgV) (r:RgV) (u:Nat) (hu:u<4294967296) (hyp:y.x.p.length≤1000000000) (hrp:r.x.p.length≤1000000000) (h32:∀ z∈r.c,z<4294967296) (hrl:r.c.length≤1000000000000000) (w:World) (ry:RdC w y.x.p y.x.pa) (rr:RdC w r.x.p r.x.pa) (dy:RdD w y.d y.da) (dr:RdN w r.c r.ca):
  Pure Tryz.prog 41 [.agg (dgC y).toArray,.agg (rgC r).toArray,.int .u32 (u:Int)] w (.bool (dgB u y r)):=by
 refine enter Tryz.func41 rfl Tryz.ntmps41 rfl (St.init _) ?_
 refine jN 3 ?_
 refine WL.boxN rfl rfl (fun b3=>?_)
 refine jN 1 ?_
 refine WL.boxN rfl rfl (fun b4=>?_)
 refine jN 18 ?_
 refine WA.splitB (i:=12) rfl (fun g12=>?_) (fun g12=>?_)
 ·have hk:decide (y.x.k=r.x.k)=true:=decide_eq_true (by (have h9:=g12;simp at h9;first | exact h9 | omega))
  refine jN 14 ?_
  refine WL.callV F.fun28 rfl rfl (fun w hS=>ints_c y.x.p r.x.p y.x.pa r.x.pa y.x.pc r.x.pc hyp hrp w (ry.next hS) (rr.next hS)) ?_
  refine jN 4 ?_
  refine WA.splitB (i:=19) rfl (fun g19=>?_) (fun g19=>?_)
  ·have hp:(cmpP y.x.p r.x.p==0)=true:=by simpa using g19
   refine jN 19 ?_
   refine WA.splitB (i:=26) rfl (fun g26=>?_) (fun g26=>?_)
   ·have hf:decide (y.x.f=r.x.f)=true:=decide_eq_true (by (have h9:=g26;simp at h9;first | exact h9 | omega))
    refine jN 19 ?_
    refine WA.splitB (i:=33) rfl (fun g33=>?_) (fun g33=>?_)
    have hl:decide (y.x.l=r.x.l)=true:=decide_eq_true (by (have h9:=g33;simp at h9;first | exact h9 | omega))
    refine jN 5 ?_
    refine WL.loadN F.agg50 rfl rfl (vs:=[.slice y.da (canon y.d).1.length y.dc,.int .i64 ((canon y.d).2:Int)]) rfl (fun w hS j v hv=>(by (have h9:(dgC y)[4+j]?=some v:=(by (show ([.int .u8 (y.x.k:Int),.slice y.x.pa y.x.p.length y.x.pc,.int .i64 y.x.f,.int .i64 y.x.l]++[Value.slice y.da (canon y.d).1.length y.dc,.int .i64 ((canon y.d).2:Int)])[4+j]?=some v);rw [List.getElem?_append_right (by simp)];simpa using hv));(show w.cell? ⟨b3,4+j,none⟩=some v);exact hS.cell (cs:=dgC y) jM h9)) ?_
    refine jN 11 ?_
    refine WL.callV F.fun21 rfl rfl (fun w hS=>alike_c y.d y.da y.dc r.c r.ca r.cc u hu h32 hrl w (dy.next0 hS) (dr.next hS)) ?_
    refine jN 7 ?_
    rotate_left
    have hl:decide (y.x.l=r.x.l)=false:=decide_eq_false (by intro e;first | (rw [e] at g33;simp at g33) | (simp [e] at g33))
    refine jN 19 ?_
    rotate_left
    all_goals
     exact WQ.ret (rs:=[.tmp 6]) rfl (.tmp rfl .nil) (fun w hS=>⟨by unfold dgB;rw [hk,hp,hf,hl];rfl,hS.sublist (List.nil_sublist _)⟩)
   have hf:decide (y.x.f=r.x.f)=false:=decide_eq_false (by intro e;first | (rw [e] at g26;simp at g26) | (simp [e] at g26))
   refine jN 33 ?_
   exact WQ.ret (rs:=[.tmp 6]) rfl (.tmp rfl .nil) (fun w hS=>⟨by unfold dgB;rw [hk,hp,hf];rfl,hS.sublist (List.nil_sublist _)⟩)
  have hp:(cmpP y.x.p r.x.p==0)=false:=by simpa using g19
  refine jN 47 ?_
  exact WQ.ret (rs:=[.tmp 6]) rfl (.tmp rfl .nil) (fun w hS=>⟨by unfold dgB;rw [hk,hp];rfl,hS.sublist (List.nil_sublist _)⟩)
 have hk:decide (y.x.k=r.x.k)=false:=decide_eq_false (by intro e;first | (rw [e] at g12;simp at g12) | (simp [e] at g12))
 refine jN 61 ?_
 exact WQ.ret (rs:=[.tmp 6]) rfl (.tmp rfl .nil) (fun w hS=>⟨by unfold dgB;rw [hk];rfl,hS.sublist (List.nil_sublist _)⟩)
set_option maxRecDepth 100000 in
theorem equal6_c (l:List TkV) (m:List RtV) (g:List DgV) (k:List RgV) (ta ra ga ha:Option Addr) (tc rc gc hc u:Nat) (hu:u<4294967296) (hll:l.length≤1000000000) (hml:m.length≤1000000000) (hgl:g.length≤1000000000) (hkl:k.length≤1000000000) (w:World) (h1:TsR w l ta) (h2:RsR w m ra) (h3:DsR w g ga) (h4:HsR w k ha) (h32a:∀ y∈m,∀ z∈y.c,z<4294967296) (h32b:∀ y∈k,∀ z∈y.c,z<4294967296):
  Pure Tryz.prog 10 [.agg [.slice ta l.length tc,.slice ga g.length gc].toArray,.agg [.slice ra m.length rc,.slice ha k.length hc].toArray,.int .u32 (u:Int)] w (.bool (eqB2 (tokB u) l m&&eqB2 (dgB u) g k)):=by
 refine enter Tryz.func10 rfl Tryz.ntmps10 rfl (St.init _) ?_
 refine jN 3 ?_
 refine WL.boxN rfl rfl (fun b3=>?_)
 refine jN 1 ?_
 refine WL.boxN rfl rfl (fun b4=>?_)
 refine jN 23 ?_
 refine WA.splitB (i:=16) rfl (fun g16=>?_) (fun g16=>?_)
 ·have hb0:eqB2 (tokB u) l m=false:=eqB2_ne (by intro e;rw [e] at g16;simp at g16)
  refine jN 27 ?_
  exact WQ.ret (rs:=[.tmp 6]) rfl (.tmp rfl .nil) (fun w hS=>⟨by rw [hb0];rfl,hS.sublist (List.nil_sublist _)⟩)
 have hlm:l.length=m.length:=by simp at g16;omega
 refine jN 25 ?_
 refine WC.cond rfl (fun h24=>?_) (fun h24=>?_)
 ·have hb0:eqB2 (dgB u) g k=false:=eqB2_ne (by intro e;rw [e] at h24;simp at h24)
  refine jN 8 ?_
  exact WQ.ret (rs:=[.tmp 6]) rfl (.tmp rfl .nil) (fun w hS=>⟨by rw [hb0,Bool.and_false];rfl,hS.sublist (List.nil_sublist _)⟩)
 have hgk:g.length=k.length:=by simp at h24;omega
 refine jN 10 ?_
 refine WC.chunks (C':=[pt b3 [.slice ta l.length tc,.slice ga g.length gc] 33,pt b4 [.slice ra m.length rc,.slice ha k.length hc] 37]) (fun w hS=>(jK hS)) ?_
 refine WC.loop (α:=Nat) (fun i=>i≤l.length∧eqB2 (tokB u) l m=eqB2 (tokB u) (l.drop i) (m.drop i)) (fun i=>[(2,.int .u32 (u:Int)),(3,pp b3),(4,pp b4),(7,.int .i64 (i:Int))]) (fun _=>[pt b3 [.slice ta l.length tc,.slice ga g.length gc] 33,pt b4 [.slice ra m.length rc,.slice ha k.length hc] 37]) (fun i=>l.length - i) (0) ?_ ?_ ?_ ?_
 ·exact ⟨Nat.zero_le _,rfl⟩
 ·exact ⟨rfl,rfl,rfl,rfl,trivial⟩
 ·rfl
 rintro i ⟨hi,he⟩
 show WC _ _ _ _ _ _ _ [(2,.int .u32 (u:Int)),(3,pp b3),(4,pp b4),(7,.int .i64 (i:Int))] [pt b3 [.slice ta l.length tc,.slice ga g.length gc] 33,pt b4 [.slice ra m.length rc,.slice ha k.length hc] 37]
 refine jN 15 ?_
 refine WC.cond rfl (fun h29=>?_) (fun h29=>?_)
 ·have hlt:i<l.length:=by simpa using h29
  have hlt2:i<m.length:=by omega
  obtain ⟨x,hx⟩:∃ x,l[i]?=some x:=⟨_,List.getElem?_eq_getElem hlt⟩
  obtain ⟨y,hy⟩:∃ x,m[i]?=some x:=⟨_,List.getElem?_eq_getElem hlt2⟩
  obtain ⟨b,o,rfl,hcx⟩:=h1.r i x hx
  obtain ⟨bq,oq,rfl,hcy⟩:=h2.r i y hy
  have hxm:=List.mem_of_getElem? hx
  have hym:=List.mem_of_getElem? hy
  have hat:=eqB2_at hx hy he
  refine jN 5 ?_
  refine WC.drawsL (by kernel_rfl) (FactsOk.cons (ds:=[11]) (LoadOk.one (t:=3) (off:=0) rfl jM rfl) (FactsOk.cons (ds:=[11]) (LoadOk.by (Y:=fun w=>∀ j v,(tkC x)[j]?=some v→w.cell? ⟨b,o+i*7+j,none⟩=some v) (fun w hS=>(fun j v hv=>hS.oldc (hcx j v hv) (by simp)))) (FactsOk.cons (ds:=[11]) (LoadOk.one (t:=4) (off:=0) rfl jM rfl) (FactsOk.cons (ds:=[11]) (LoadOk.by (Y:=fun w=>∀ j v,(rtC y)[j]?=some v→w.cell? ⟨bq,oq+i*6+j,none⟩=some v) (fun w hS=>(fun j v hv=>hS.oldc (hcy j v hv) (by simp)))) (FactsOk.nil))))) ?_
  refine jT 0 rfl (Yl.fieldAddr0 F.fld33_0 rfl) ?_
  refine jF 1 0 rfl rfl (Yl.load1 F.one30 rfl) ?_
  refine jQ [2] ?_
  refine jT 3 rfl (Yl.indexAddr F.sl30 rfl rfl hlt) ?_
  refine jF 4 1 rfl rfl (Yl.loadN F.agg89 rfl rfl) ?_
  refine jT 5 rfl (Yl.fieldAddr0 F.fld37_0 rfl) ?_
  refine jF 6 2 rfl rfl (Yl.load1 F.one34 rfl) ?_
  refine jQ [7] ?_
  refine jT 8 rfl (Yl.indexAddr F.sl34 rfl rfl hlt2) ?_
  refine jF 9 3 rfl rfl (Yl.loadN F.agg93 rfl rfl) ?_
  refine jQ [10] ?_
  refine jA 11 rfl ?_
  refine WL.callV F.fun40 rfl rfl (fun w hS=>token6_c x y u hu (h1.p x hxm).2 (h2.p y hym).2 (h32a y hym) (h2.d y hym).2 w ((h1.p x hxm).1.next hS) ((h2.p y hym).1.next hS) ((h1.d x hxm).next0 hS) ((h2.d y hym).1.next hS)) ?_
  refine jG ?_
  refine jQ [12] ?_
  refine jD ?_
  refine jN 1 ?_
  refine WC.cond rfl (fun h44=>?_) (fun h44=>?_)
  ·have hxy:tokB u x y=false:=by simpa using h44
   refine jN 12 ?_
   exact WQ.ret (rs:=[.tmp 6]) rfl (.tmp rfl .nil) (fun w hS=>⟨by rw [show eqB2 (tokB u) l m=false by (rw [hat,hxy];rfl)];rfl,hS.sublist (List.nil_sublist _)⟩)
  have hxy:tokB u x y=true:=by simpa using h44
  refine jN 11 ?_
  refine WQ.chunks (C':=[pt b3 [.slice (some ⟨b,o,none⟩) l.length tc,.slice ga g.length gc] 33,pt b4 [.slice (some ⟨bq,oq,none⟩) m.length rc,.slice ha k.length hc] 37]) (fun w hS=>(jK hS)) ?_
  refine WQ.back (i+1) ?_ ?_ ?_ ?_
  ·exact ⟨by omega,by rw [hat,hxy,Bool.true_and]⟩
  ·omega
  ·exact ⟨rfl,rfl,rfl,rfl,trivial⟩
  rfl
 have hie:i=l.length:=by simp at h29;omega
 have hb1:eqB2 (tokB u) l m=true:=by rw [he,hie,List.drop_length,hlm,List.drop_length];rfl
 refine jN 13 ?_
 refine WC.chunks (C':=[pt b3 [.slice ta l.length tc,.slice ga g.length gc] 33,pt b4 [.slice ra m.length rc,.slice ha k.length hc] 37]) (fun w hS=>(jK hS)) ?_
 refine WC.loop (α:=Nat) (fun i=>i≤g.length∧eqB2 (dgB u) g k=eqB2 (dgB u) (g.drop i) (k.drop i)) (fun i=>[(2,.int .u32 (u:Int)),(3,pp b3),(4,pp b4),(8,.int .i64 (i:Int))]) (fun _=>[pt b3 [.slice ta l.length tc,.slice ga g.length gc] 33,pt b4 [.slice ra m.length rc,.slice ha k.length hc] 37]) (fun i=>g.length - i) (0) ?_ ?_ ?_ ?_
 ·exact ⟨Nat.zero_le _,rfl⟩
 ·exact ⟨rfl,rfl,rfl,rfl,trivial⟩
 ·rfl
 rintro i ⟨hi,he⟩
 show WC _ _ _ _ _ _ _ [(2,.int .u32 (u:Int)),(3,pp b3),(4,pp b4),(8,.int .i64 (i:Int))] [pt b3 [.slice ta l.length tc,.slice ga g.length gc] 33,pt b4 [.slice ra m.length rc,.slice ha k.length hc] 37]
 refine jN 15 ?_
 refine WC.cond rfl (fun h49=>?_) (fun h49=>?_)
 ·have hlt:i<g.length:=by simpa using h49
  have hlt2:i<k.length:=by omega
  obtain ⟨x,hx⟩:∃ x,g[i]?=some x:=⟨_,List.getElem?_eq_getElem hlt⟩
  obtain ⟨y,hy⟩:∃ x,k[i]?=some x:=⟨_,List.getElem?_eq_getElem hlt2⟩
  obtain ⟨b,o,rfl,hcx⟩:=h3.r i x hx
  obtain ⟨bq,oq,rfl,hcy⟩:=h4.r i y hy
  have hxm:=List.mem_of_getElem? hx
  have hym:=List.mem_of_getElem? hy
  have hat:=eqB2_at hx hy he
  refine jN 5 ?_
  refine WC.drawsL (by kernel_rfl) (FactsOk.cons (ds:=[11]) (LoadOk.one (t:=3) (off:=1) rfl jM rfl) (FactsOk.cons (ds:=[11]) (LoadOk.by (Y:=fun w=>∀ j v,(dgC x)[j]?=some v→w.cell? ⟨b,o+i*6+j,none⟩=some v) (fun w hS=>(fun j v hv=>hS.oldc (hcx j v hv) (by simp)))) (FactsOk.cons (ds:=[11]) (LoadOk.one (t:=4) (off:=1) rfl jM rfl) (FactsOk.cons (ds:=[11]) (LoadOk.by (Y:=fun w=>∀ j v,(rgC y)[j]?=some v→w.cell? ⟨bq,oq+i*5+j,none⟩=some v) (fun w hS=>(fun j v hv=>hS.oldc (hcy j v hv) (by simp)))) (FactsOk.nil))))) ?_
  refine jT 0 rfl (Yl.fieldAddr0 F.fld33_1 rfl) ?_
  refine jF 1 0 rfl rfl (Yl.load1 F.one31 rfl) ?_
  refine jQ [2] ?_
  refine jT 3 rfl (Yl.indexAddr F.sl31 rfl rfl hlt) ?_
  refine jF 4 1 rfl rfl (Yl.loadN F.agg95 rfl rfl) ?_
  refine jT 5 rfl (Yl.fieldAddr0 F.fld37_1 rfl) ?_
  refine jF 6 2 rfl rfl (Yl.load1 F.one35 rfl) ?_
  refine jQ [7] ?_
  refine jT 8 rfl (Yl.indexAddr F.sl35 rfl rfl hlt2) ?_
  refine jF 9 3 rfl rfl (Yl.loadN F.agg97 rfl rfl) ?_
  refine jQ [10] ?_
  refine jA 11 rfl ?_
  refine WL.callV F.fun41 rfl rfl (fun w hS=>diag6_c x y u hu (h3.p x hxm).2 (h4.p y hym).2 (h32b y hym) (h4.d y hym).2 w ((h3.p x hxm).1.next hS) ((h4.p y hym).1.next hS) ((h3.d x hxm).next0 hS) ((h4.d y hym).1.next hS)) ?_
  refine jG ?_
  refine jQ [12] ?_
  refine jD ?_
  refine jN 1 ?_
  refine WC.cond rfl (fun h64=>?_) (fun h64=>?_)
  ·have hxy:dgB u x y=false:=by simpa using h64
   refine jN 12 ?_
   exact WQ.ret (rs:=[.tmp 6]) rfl (.tmp rfl .nil) (fun w hS=>⟨by rw [hb1,Bool.true_and,show eqB2 (dgB u) g k=false by (rw [hat,hxy];rfl)];rfl,hS.sublist (List.nil_sublist _)⟩)
  have hxy:dgB u x y=true:=by simpa using h64
  refine jN 11 ?_
  refine WQ.chunks (C':=[pt b3 [.slice ta l.length tc,.slice (some ⟨b,o,none⟩) g.length gc] 33,pt b4 [.slice ra m.length rc,.slice (some ⟨bq,oq,none⟩) k.length hc] 37]) (fun w hS=>(jK hS)) ?_
  refine WQ.back (i+1) ?_ ?_ ?_ ?_
  ·exact ⟨by omega,by rw [hat,hxy,Bool.true_and]⟩
  ·omega
  ·exact ⟨rfl,rfl,rfl,rfl,trivial⟩
  rfl
 have hie:i=g.length:=by simp at h49;omega
 have hb2:eqB2 (dgB u) g k=true:=by rw [he,hie,List.drop_length,hgk,List.drop_length];rfl
 refine jN 12 ?_
 exact WQ.ret (rs:=[.tmp 6]) rfl (.tmp rfl .nil) (fun w hS=>⟨by rw [hb1,hb2];rfl,hS.sublist (List.nil_sublist _)⟩)
def uniN :List Nat→List Nat→List Nat
 | [],m=>m
 | l,[]=>l
 | a::l,b::m=>if a≤b then (if a=b then a::uniN l m else a::uniN l (b::m)) else b::uniN (a::l) m
termination_by l m=>l.length+m.length
theorem uniN_l (l:List Nat):uniN l []=l:=by cases l<;>simp [uniN]
theorem uniN_r (m:List Nat):uniN [] m=m:=by simp [uniN]
theorem dropN {l:List Nat} {i x:Nat} (h:l[i]?=some x):l.drop i=x::l.drop (i+1):=by
 obtain ⟨hk,he⟩:=List.getElem?_eq_some_iff.1 h
 rw [← he,← List.drop_eq_getElem_cons hk]
theorem uni_eq {l m:List Nat} {i k x y:Nat} (hx:l[i]?=some x) (hy:m[k]?=some y) (h:x=y):uniN (l.drop i) (m.drop k)=x::uniN (l.drop (i+1)) (m.drop (k+1)):=by
 rw [dropN hx,dropN hy,uniN,if_pos (by omega),if_pos h]
theorem uni_lt {l m:List Nat} {i k x y:Nat} (hx:l[i]?=some x) (hy:m[k]?=some y) (h:x<y):uniN (l.drop i) (m.drop k)=x::uniN (l.drop (i+1)) (m.drop k):=by
 rw [dropN hx,dropN hy,uniN,if_pos (by omega),if_neg (by omega)]
theorem uni_gt {l m:List Nat} {i k x y:Nat} (hx:l[i]?=some x) (hy:m[k]?=some y) (h:y<x):uniN (l.drop i) (m.drop k)=y::uniN (l.drop i) (m.drop (k+1)):=by
 rw [dropN hx,dropN hy,uniN,if_neg (by omega)]
theorem uni_e {l m:List Nat} {i k x:Nat} (hx:l[i]?=some x) (hk:m.length≤k):uniN (l.drop i) (m.drop k)=x::uniN (l.drop (i+1)) (m.drop k):=by
 rw [List.drop_eq_nil_of_le hk,uniN_l,uniN_l,dropN hx]
theorem uni_f {l m:List Nat} {i k y:Nat} (hy:m[k]?=some y) (hi:l.length≤i):uniN (l.drop i) (m.drop k)=y::uniN (l.drop i) (m.drop (k+1)):=by
 rw [List.drop_eq_nil_of_le hi,uniN_r,uniN_r,dropN hy]
structure UnG where
 i:Nat
 k:Nat
 o:List Nat
 a:Option Addr
 c:Nat
set_option maxRecDepth 100000 in
theorem rUnion_c (l m:List Nat) (la ma:Option Addr) (lc mc:Nat) (hl:l.length≤4294967296) (hml:m.length≤4294967296) (w:World) (h1:RdN w l la) (h2:RdN w m ma):
  Calls Tryz.prog 96 [.slice la l.length lc,.slice ma m.length mc].toArray w fun e w'=>∃ x:Option Addr×Nat,e= .returned (.slice x.1 (uniN l m).length x.2)∧St w [] [rowc (.slice x.1 (uniN l m).length x.2) (uniN l m).length 24 1 ((uniN l m).flatMap nC)] w':=by
 refine enter Tryz.func96 rfl Tryz.ntmps96 rfl (St.init _) ?_
 refine jN 22 ?_
 refine WC.chunks (C':=[rowc (.slice none 0 0) 0 24 1 []]) (fun w hS=>(jK (hS.rowNil 24 1))) ?_
 refine WC.loop (α:=UnG) (fun g=>g.i≤l.length∧g.k≤m.length∧uniN l m=g.o++uniN (l.drop g.i) (m.drop g.k)∧g.o.length≤g.i+g.k) (fun g=>[(0,.slice la l.length lc),(1,.slice ma m.length mc),(5,.slice g.a g.o.length g.c),(6,.int .i64 (g.i:Int)),(7,.int .i64 (g.k:Int))]) (fun g=>[rowc (.slice g.a g.o.length g.c) g.o.length 24 1 (g.o.flatMap nC)]) (fun g=>(l.length - g.i)+(m.length - g.k)) (⟨0,0,[],none,0⟩) ?_ ?_ ?_ ?_
 ·exact ⟨Nat.zero_le _,Nat.zero_le _,rfl,Nat.le_refl _⟩
 ·exact ⟨rfl,rfl,rfl,rfl,rfl,trivial⟩
 ·rfl
 rintro ⟨i,k,o,a,c⟩ ⟨hi,hk,hu,hol⟩
 dsimp only at hi hk hu hol
 show WC _ _ _ _ _ _ _ [(0,.slice la l.length lc),(1,.slice ma m.length mc),(5,.slice a o.length c),(6,.int .i64 (i:Int)),(7,.int .i64 (k:Int))] [rowc (.slice a o.length c) o.length 24 1 (o.flatMap nC)]
 refine jN 2 ?_
 rcases Nat.lt_or_ge i l.length with hil | hil<;>rcases Nat.lt_or_ge k m.length with hkm | hkm
 ·obtain ⟨x,hx⟩:∃ z,l[i]?=some z:=⟨_,List.getElem?_eq_getElem hil⟩
  obtain ⟨b,o9,hla,hcx⟩:=h1 i x hx
  subst hla
  obtain ⟨y,hy⟩:∃ z,m[k]?=some z:=⟨_,List.getElem?_eq_getElem hkm⟩
  obtain ⟨b2,o2,hma,hcy⟩:=h2 k y hy
  subst hma
  refine jN 11 ?_
  refine WA.splitB (i:=12) rfl (fun g12=>?_) (fun g12=>?_)
  ·refine jN 17 ?_
   refine WC.draws [([],fun w=>w.cell? ⟨b,o9+i*1,none⟩=some (.int .u32 (x:Int))),([],fun w=>w.cell? ⟨b2,o2+k*1,none⟩=some (.int .u32 (y:Int)))] (by kernel_rfl) (fun w hS=>facts_cons (hS.oldc (hcx 0 _ rfl) (by simp)) (facts_cons (hS.oldc (hcy 0 _ rfl) (by simp)) (facts_nil))) ?_
   refine jQ [0,1] ?_
   refine jT 2 rfl (Yl.lenSl F.und53 rfl) ?_
   refine jQ [3,4] ?_
   refine fun hcl=>WA.splitB (i:=22) rfl (fun g22=>?_) (fun g22=>?_)
   ·refine (show WD _ _ _ _ _ _ _ _ _ _ _ _ from ?_) hcl
    exfalso;simp at g22;omega
   refine (show WD _ _ _ _ _ _ _ _ _ _ _ _ from ?_) hcl
   refine jQ [5,6] ?_
   refine WD.takeG (i:=7) rfl rfl rfl rfl rfl rfl (by decide+kernel) (by decide+kernel) (by decide+kernel) (fun _ _ _ h=>h) (by kernel_rfl) need_none (Yl.lenSl F.und53 rfl) ?_
   refine jQ [8,9] ?_
   refine fun hcl=>WA.splitB (i:=27) rfl (fun g27=>?_) (fun g27=>?_)
   ·refine (show WD _ _ _ _ _ _ _ _ _ _ _ _ from ?_) hcl
    refine jQ [10,11] ?_
    refine WD.takeG (i:=12) rfl rfl rfl rfl rfl rfl (by decide+kernel) (by decide+kernel) (by decide+kernel) (fun _ _ _ h=>h) (by kernel_rfl) need_none (Yl.indexAddr F.sl53 rfl rfl hil) ?_
    refine WD.takeG (i:=13) rfl rfl rfl rfl rfl rfl (by decide+kernel) (by decide+kernel) (by decide+kernel) (fun _ _ _ h=>h) (by kernel_rfl) (need_at2 0 rfl (by decide+kernel)) (Yl.load1 F.one24 rfl) ?_
    refine jQ [14,15] ?_
    refine WD.takeG (i:=16) rfl rfl rfl rfl rfl rfl (by decide+kernel) (by decide+kernel) (by decide+kernel) (fun _ _ _ h=>h) (by kernel_rfl) need_none (Yl.indexAddr F.sl53 rfl rfl hkm) ?_
    refine WD.takeG (i:=17) rfl rfl rfl rfl rfl rfl (by decide+kernel) (by decide+kernel) (by decide+kernel) (fun _ _ _ h=>h) (by kernel_rfl) (need_at2 1 rfl (by decide+kernel)) (Yl.load1 F.one24 rfl) ?_
    refine jQ [18,19,20] ?_
    refine jD ?_
    refine jN 1 ?_
    refine WC.cond rfl (fun h38=>?_) (fun h38=>?_)
    ·have hxy:x≤y:=by simp at h38;omega
     refine jN 2 ?_
     refine WC.draws [([],fun w=>w.cell? ⟨b,o9+i*1,none⟩=some (.int .u32 (x:Int))),([],fun w=>w.cell? ⟨b2,o2+k*1,none⟩=some (.int .u32 (y:Int)))] (by kernel_rfl) (fun w hS=>facts_cons (hS.oldc (hcx 0 _ rfl) (by simp)) (facts_cons (hS.oldc (hcy 0 _ rfl) (by simp)) (facts_nil))) ?_
     refine jQ [0,1] ?_
     refine jT 2 rfl (Yl.lenSl F.und53 rfl) ?_
     refine jQ [3,4] ?_
     refine fun hcl=>WA.splitB (i:=43) rfl (fun g43=>?_) (fun g43=>?_)
     ·refine (show WD _ _ _ _ _ _ _ _ _ _ _ _ from ?_) hcl
      refine jQ [5,6] ?_
      refine WD.takeG (i:=7) rfl rfl rfl rfl rfl rfl (by decide+kernel) (by decide+kernel) (by decide+kernel) (fun _ _ _ h=>h) (by kernel_rfl) need_none (Yl.indexAddr F.sl53 rfl rfl hil) ?_
      refine WD.takeG (i:=8) rfl rfl rfl rfl rfl rfl (by decide+kernel) (by decide+kernel) (by decide+kernel) (fun _ _ _ h=>h) (by kernel_rfl) (need_at2 0 rfl (by decide+kernel)) (Yl.load1 F.one24 rfl) ?_
      refine jQ [9,10] ?_
      refine WD.takeG (i:=11) rfl rfl rfl rfl rfl rfl (by decide+kernel) (by decide+kernel) (by decide+kernel) (fun _ _ _ h=>h) (by kernel_rfl) need_none (Yl.indexAddr F.sl53 rfl rfl hkm) ?_
      refine WD.takeG (i:=12) rfl rfl rfl rfl rfl rfl (by decide+kernel) (by decide+kernel) (by decide+kernel) (fun _ _ _ h=>h) (by kernel_rfl) (need_at2 1 rfl (by decide+kernel)) (Yl.load1 F.one24 rfl) ?_
      refine jQ [13,14] ?_
      refine jD ?_
      refine jN 1 ?_
      refine WC.cond rfl (fun h53=>?_) (fun h53=>?_)
      ·have hxe:x=y:=by have:=beq_iff_eq.1 h53;omega
       refine jN 4 ?_
       refine WL.bin (v:= .int .i64 ((k+1:Nat):Int)) rfl rfl rfl (fun w=>run_addN6 (n:=1) (by omega) (by decide) _ _ _ w) ?_
       refine jN 13 ?_
       refine WL.indexAddr F.sl53 rfl rfl rfl hil ?_
       refine jN 1 ?_
       refine WL.load1 F.one24 rfl rfl (v:= .int .u32 (x:Int)) (fun w hS=>hS.oldc (hcx 0 _ rfl) (by simp)) ?_
       refine jN 1 ?_
       refine WL.buildSlice F.sl53 F.ez53 rfl rfl rfl rfl jB rfl (fun b61=>?_)
       refine jN 1 ?_
       refine WL.appendE (news:=[.int .u32 (x:Int)]) F.el53 rfl rfl rfl jR (fun w hS jj u hu9=>by rw [Nat.zero_add];exact hS.cell (cs:=[.int .u32 (x:Int)]) jM hu9) rfl jO (Nat.le_trans (m:=8589934594) (by omega) (by decide)) (by omega) (fun a2 c2=>?_)
       refine jN 8 ?_
       refine WL.bin (v:= .int .i64 ((i+1:Nat):Int)) rfl rfl rfl (fun w=>run_addN6 (n:=1) (by omega) (by decide) _ _ _ w) ?_
       refine jN 4 ?_
       refine WQ.chunks (C':=[rowc (.slice a2 (o.length+1) c2) (o.length+1) 24 1 (o.flatMap nC++[.int .u32 (x:Int)])]) (fun w hS=>(jK hS)) ?_
       refine WQ.back (⟨(i+1),(k+1),o++[x],a2,c2⟩:UnG) ?_ ?_ ?_ ?_
       ·exact ⟨by show (i+1)≤l.length;omega,by show (k+1)≤m.length;omega,by (rw [hu,uni_eq hx hy hxe,List.append_assoc];rfl),by (show (o++[x]).length≤(i+1)+(k+1));rw [List.length_append,List.length_singleton];omega⟩
       ·show (l.length - ((i+1)))+(m.length - ((k+1)))<(l.length - i)+(m.length - k);omega
       ·simp only [List.length_append,List.length_cons,List.length_nil];exact ⟨rfl,rfl,rfl,rfl,rfl,trivial⟩
       simp only [List.length_append,List.length_cons,List.length_nil,List.flatMap_append];rfl
      have hxl:x<y:=by
       have hne:x≠y:=by rintro rfl;simp at h53
       omega
      refine jN 11 ?_
      refine WL.indexAddr F.sl53 rfl rfl rfl hil ?_
      refine jN 1 ?_
      refine WL.load1 F.one24 rfl rfl (v:= .int .u32 (x:Int)) (fun w hS=>hS.oldc (hcx 0 _ rfl) (by simp)) ?_
      refine jN 1 ?_
      refine WL.buildSlice F.sl53 F.ez53 rfl rfl rfl rfl jB rfl (fun b61=>?_)
      refine jN 1 ?_
      refine WL.appendE (news:=[.int .u32 (x:Int)]) F.el53 rfl rfl rfl jR (fun w hS jj u hu9=>by rw [Nat.zero_add];exact hS.cell (cs:=[.int .u32 (x:Int)]) jM hu9) rfl jO (Nat.le_trans (m:=8589934594) (by omega) (by decide)) (by omega) (fun a2 c2=>?_)
      refine jN 8 ?_
      refine WL.bin (v:= .int .i64 ((i+1:Nat):Int)) rfl rfl rfl (fun w=>run_addN6 (n:=1) (by omega) (by decide) _ _ _ w) ?_
      refine jN 4 ?_
      refine WQ.chunks (C':=[rowc (.slice a2 (o.length+1) c2) (o.length+1) 24 1 (o.flatMap nC++[.int .u32 (x:Int)])]) (fun w hS=>(jK hS)) ?_
      refine WQ.back (⟨(i+1),k,o++[x],a2,c2⟩:UnG) ?_ ?_ ?_ ?_
      ·exact ⟨by show (i+1)≤l.length;omega,by show k≤m.length;omega,by (rw [hu,uni_lt hx hy hxl,List.append_assoc];rfl),by (show (o++[x]).length≤(i+1)+k);rw [List.length_append,List.length_singleton];omega⟩
      ·show (l.length - ((i+1)))+(m.length - (k))<(l.length - i)+(m.length - k);omega
      ·simp only [List.length_append,List.length_cons,List.length_nil];exact ⟨rfl,rfl,rfl,rfl,rfl,trivial⟩
      simp only [List.length_append,List.length_cons,List.length_nil,List.flatMap_append];rfl
     refine (show WD _ _ _ _ _ _ _ _ _ _ _ _ from ?_) hcl
     exfalso;simp at g43;omega
    have hxy:y<x:=by simp at h38;omega
    refine jN 9 ?_
    refine WL.indexAddr F.sl53 rfl rfl rfl hkm ?_
    refine jN 1 ?_
    refine WL.load1 F.one24 rfl rfl (v:= .int .u32 (y:Int)) (fun w hS=>hS.oldc (hcy 0 _ rfl) (by simp)) ?_
    refine jN 1 ?_
    refine WL.buildSlice F.sl53 F.ez53 rfl rfl rfl rfl jB rfl (fun b70=>?_)
    refine jN 1 ?_
    refine WL.appendE (news:=[.int .u32 (y:Int)]) F.el53 rfl rfl rfl jR (fun w hS jj u hu9=>by rw [Nat.zero_add];exact hS.cell (cs:=[.int .u32 (y:Int)]) jM hu9) rfl jO (Nat.le_trans (m:=8589934594) (by omega) (by decide)) (by omega) (fun a2 c2=>?_)
    refine jN 8 ?_
    refine WL.bin (v:= .int .i64 ((k+1:Nat):Int)) rfl rfl rfl (fun w=>run_addN6 (n:=1) (by omega) (by decide) _ _ _ w) ?_
    refine jN 4 ?_
    refine WQ.chunks (C':=[rowc (.slice a2 (o.length+1) c2) (o.length+1) 24 1 (o.flatMap nC++[.int .u32 (y:Int)])]) (fun w hS=>(jK hS)) ?_
    refine WQ.back (⟨i,(k+1),o++[y],a2,c2⟩:UnG) ?_ ?_ ?_ ?_
    ·exact ⟨by show i≤l.length;omega,by show (k+1)≤m.length;omega,by (rw [hu,uni_gt hx hy hxy,List.append_assoc];rfl),by (show (o++[y]).length≤i+(k+1));rw [List.length_append,List.length_singleton];omega⟩
    ·show (l.length - (i))+(m.length - ((k+1)))<(l.length - i)+(m.length - k);omega
    ·simp only [List.length_append,List.length_cons,List.length_nil];exact ⟨rfl,rfl,rfl,rfl,rfl,trivial⟩
    simp only [List.length_append,List.length_cons,List.length_nil,List.flatMap_append];rfl
   refine (show WD _ _ _ _ _ _ _ _ _ _ _ _ from ?_) hcl
   exfalso;simp at g27;omega
  exfalso;simp at g12;omega
 ·obtain ⟨x,hx⟩:∃ z,l[i]?=some z:=⟨_,List.getElem?_eq_getElem hil⟩
  obtain ⟨b,o9,hla,hcx⟩:=h1 i x hx
  subst hla
  refine jN 11 ?_
  refine WA.splitB (i:=12) rfl (fun g12=>?_) (fun g12=>?_)
  ·refine jN 17 ?_
   refine WC.draws [] (by kernel_rfl) (fun w hS=>facts_nil) ?_
   refine jQ [0,1] ?_
   refine jT 2 rfl (Yl.lenSl F.und53 rfl) ?_
   refine jQ [3,4] ?_
   refine fun hcl=>WA.splitB (i:=22) rfl (fun g22=>?_) (fun g22=>?_)
   ·refine (show WD _ _ _ _ _ _ _ _ _ _ _ _ from ?_) hcl
    refine jQ [5,6,7,8,9,10,11,12,13,14,15,16,17,18,19,20] ?_
    refine jD ?_
    refine jN 4 ?_
    refine WC.draws [] (by kernel_rfl) (fun w hS=>facts_nil) ?_
    refine jQ [0,1] ?_
    refine jT 2 rfl (Yl.lenSl F.und53 rfl) ?_
    refine jQ [3,4] ?_
    refine fun hcl=>WA.splitB (i:=43) rfl (fun g43=>?_) (fun g43=>?_)
    ·refine (show WD _ _ _ _ _ _ _ _ _ _ _ _ from ?_) hcl
     exfalso;simp at g43;omega
    refine (show WD _ _ _ _ _ _ _ _ _ _ _ _ from ?_) hcl
    refine jQ [5,6,7,8,9,10,11,12,13,14] ?_
    refine jD ?_
    refine jN 13 ?_
    refine WL.indexAddr F.sl53 rfl rfl rfl hil ?_
    refine jN 1 ?_
    refine WL.load1 F.one24 rfl rfl (v:= .int .u32 (x:Int)) (fun w hS=>hS.oldc (hcx 0 _ rfl) (by simp)) ?_
    refine jN 1 ?_
    refine WL.buildSlice F.sl53 F.ez53 rfl rfl rfl rfl jB rfl (fun b61=>?_)
    refine jN 1 ?_
    refine WL.appendE (news:=[.int .u32 (x:Int)]) F.el53 rfl rfl rfl jR (fun w hS jj u hu9=>by rw [Nat.zero_add];exact hS.cell (cs:=[.int .u32 (x:Int)]) jM hu9) rfl jO (Nat.le_trans (m:=8589934594) (by omega) (by decide)) (by omega) (fun a2 c2=>?_)
    refine jN 8 ?_
    refine WL.bin (v:= .int .i64 ((i+1:Nat):Int)) rfl rfl rfl (fun w=>run_addN6 (n:=1) (by omega) (by decide) _ _ _ w) ?_
    refine jN 4 ?_
    refine WQ.chunks (C':=[rowc (.slice a2 (o.length+1) c2) (o.length+1) 24 1 (o.flatMap nC++[.int .u32 (x:Int)])]) (fun w hS=>(jK hS)) ?_
    refine WQ.back (⟨(i+1),k,o++[x],a2,c2⟩:UnG) ?_ ?_ ?_ ?_
    ·exact ⟨by show (i+1)≤l.length;omega,by show k≤m.length;omega,by (rw [hu,uni_e hx hkm,List.append_assoc];rfl),by (show (o++[x]).length≤(i+1)+k);rw [List.length_append,List.length_singleton];omega⟩
    ·show (l.length - ((i+1)))+(m.length - (k))<(l.length - i)+(m.length - k);omega
    ·simp only [List.length_append,List.length_cons,List.length_nil];exact ⟨rfl,rfl,rfl,rfl,rfl,trivial⟩
    simp only [List.length_append,List.length_cons,List.length_nil,List.flatMap_append];rfl
   refine (show WD _ _ _ _ _ _ _ _ _ _ _ _ from ?_) hcl
   exfalso;simp at g22;omega
  exfalso;simp at g12;omega
 ·obtain ⟨y,hy⟩:∃ z,m[k]?=some z:=⟨_,List.getElem?_eq_getElem hkm⟩
  obtain ⟨b2,o2,hma,hcy⟩:=h2 k y hy
  subst hma
  refine jN 11 ?_
  refine WA.splitB (i:=12) rfl (fun g12=>?_) (fun g12=>?_)
  ·exfalso;simp at g12;omega
  refine jN 16 ?_
  refine WC.cond rfl (fun h17=>?_) (fun h17=>?_)
  ·refine jN 4 ?_
   refine WC.draws [] (by kernel_rfl) (fun w hS=>facts_nil) ?_
   refine jQ [0,1] ?_
   refine jT 2 rfl (Yl.lenSl F.und53 rfl) ?_
   refine jQ [3,4] ?_
   refine fun hcl=>WA.splitB (i:=22) rfl (fun g22=>?_) (fun g22=>?_)
   ·refine (show WD _ _ _ _ _ _ _ _ _ _ _ _ from ?_) hcl
    exfalso;simp at g22;omega
   refine (show WD _ _ _ _ _ _ _ _ _ _ _ _ from ?_) hcl
   refine jQ [5,6] ?_
   refine WD.takeG (i:=7) rfl rfl rfl rfl rfl rfl (by decide+kernel) (by decide+kernel) (by decide+kernel) (fun _ _ _ h=>h) (by kernel_rfl) need_none (Yl.lenSl F.und53 rfl) ?_
   refine jQ [8,9] ?_
   refine fun hcl=>WA.splitB (i:=27) rfl (fun g27=>?_) (fun g27=>?_)
   ·refine (show WD _ _ _ _ _ _ _ _ _ _ _ _ from ?_) hcl
    exfalso;simp at g27;omega
   refine (show WD _ _ _ _ _ _ _ _ _ _ _ _ from ?_) hcl
   refine jQ [10,11,12,13,14,15,16,17,18,19,20] ?_
   refine jD ?_
   refine jN 11 ?_
   refine WL.indexAddr F.sl53 rfl rfl rfl hkm ?_
   refine jN 1 ?_
   refine WL.load1 F.one24 rfl rfl (v:= .int .u32 (y:Int)) (fun w hS=>hS.oldc (hcy 0 _ rfl) (by simp)) ?_
   refine jN 1 ?_
   refine WL.buildSlice F.sl53 F.ez53 rfl rfl rfl rfl jB rfl (fun b70=>?_)
   refine jN 1 ?_
   refine WL.appendE (news:=[.int .u32 (y:Int)]) F.el53 rfl rfl rfl jR (fun w hS jj u hu9=>by rw [Nat.zero_add];exact hS.cell (cs:=[.int .u32 (y:Int)]) jM hu9) rfl jO (Nat.le_trans (m:=8589934594) (by omega) (by decide)) (by omega) (fun a2 c2=>?_)
   refine jN 8 ?_
   refine WL.bin (v:= .int .i64 ((k+1:Nat):Int)) rfl rfl rfl (fun w=>run_addN6 (n:=1) (by omega) (by decide) _ _ _ w) ?_
   refine jN 4 ?_
   refine WQ.chunks (C':=[rowc (.slice a2 (o.length+1) c2) (o.length+1) 24 1 (o.flatMap nC++[.int .u32 (y:Int)])]) (fun w hS=>(jK hS)) ?_
   refine WQ.back (⟨i,(k+1),o++[y],a2,c2⟩:UnG) ?_ ?_ ?_ ?_
   ·exact ⟨by show i≤l.length;omega,by show (k+1)≤m.length;omega,by (rw [hu,uni_f hy hil,List.append_assoc];rfl),by (show (o++[y]).length≤i+(k+1));rw [List.length_append,List.length_singleton];omega⟩
   ·show (l.length - (i))+(m.length - ((k+1)))<(l.length - i)+(m.length - k);omega
   ·simp only [List.length_append,List.length_cons,List.length_nil];exact ⟨rfl,rfl,rfl,rfl,rfl,trivial⟩
   simp only [List.length_append,List.length_cons,List.length_nil,List.flatMap_append];rfl
  exfalso;simp at h17;omega
 refine jN 11 ?_
 refine WA.splitB (i:=12) rfl (fun g12=>?_) (fun g12=>?_)
 ·exfalso;simp at g12;omega
 refine jN 16 ?_
 refine WC.cond rfl (fun h17=>?_) (fun h17=>?_)
 ·exfalso;simp at h17;omega
 refine jN 14 ?_
 have e:uniN l m=o:=by rw [hu,List.drop_eq_nil_of_le hil,List.drop_eq_nil_of_le hkm,uniN_l,List.append_nil]
 exact WQ.ret (rs:=[.tmp 4]) rfl (.tmp rfl .nil) (fun w hS=>⟨(a,c),by rw [e];rfl,by rw [e];exact hS⟩)
theorem uniN_filter {p q:Nat→Bool}:∀ {l:List Nat},l.Pairwise (· < ·)→uniN (l.filter p) (l.filter q)=l.filter fun n=>p n||q n
 | [],_=>by simp [uniN]
 | n::l,h=>by
  obtain ⟨h1,h2⟩:=List.pairwise_cons.1 h
  have ih:=uniN_filter (p:=p) (q:=q) h2
  cases hp:p n<;>cases hq:q n
  ·rw [List.filter_cons_of_neg (by simp [hp]),List.filter_cons_of_neg (by simp [hq]),List.filter_cons_of_neg (by simp [hp,hq]),ih]
  ·rw [List.filter_cons_of_neg (by simp [hp]),List.filter_cons_of_pos hq,List.filter_cons_of_pos (by simp [hq]),← ih]
   cases hA:l.filter p with
   | nil=>rw [uniN_r,uniN_r]
   | cons a A=>
    have ha:n<a:=h1 a (List.mem_filter.1 (by rw [hA];simp)).1
    rw [uniN,if_neg (by omega)]
  ·rw [List.filter_cons_of_pos hp,List.filter_cons_of_neg (by simp [hq]),List.filter_cons_of_pos (by simp [hp]),← ih]
   cases hB:l.filter q with
   | nil=>rw [uniN_l,uniN_l]
   | cons b B=>
    have hb:n<b:=h1 b (List.mem_filter.1 (by rw [hB];simp)).1
    rw [uniN,if_pos (by omega),if_neg (by omega)]
  ·rw [List.filter_cons_of_pos hp,List.filter_cons_of_pos hq,List.filter_cons_of_pos (by simp [hp]),uniN,if_pos (Nat.le_refl _),if_pos rfl,ih]
theorem uni_those {u:Nat} {f g:Cf→Bool}:uniN (thoseF u f) (thoseF u g)=thoseF u (fun c=>f c||g c):=uniN_filter (cfgsN_up u 32)
theorem meet_those {u:Nat} {f g:Cf→Bool}:meetN (thoseF u f) (thoseF u g)=thoseF u (fun c=>g c&&f c):=by
 unfold meetN thoseF
 rw [List.filter_filter]
 refine List.filter_congr fun n hn=>?_
 congr 1
 rw [Bool.eq_iff_iff,decide_eq_true_eq,List.mem_filter]
 exact ⟨fun h=>h.2,fun h=>⟨hn,h⟩⟩
theorem pins_map {α β:Type} {lt:α→α→Bool} {lt2:β→β→Bool} {j:α→α→α} {j2:β→β→β} {f:α→β} (h:∀ x y,lt x y=lt2 (f x) (f y)) (hj:∀ x y,f (j x y)=j2 (f x) (f y)) (x:α):∀ l:List α,(pins lt j x l).map f=pins lt2 j2 (f x) (l.map f)
 | []=>rfl
 | y::r=>by
  rw [List.map_cons]
  unfold pins
  rw [h y x,h x y]
  split
  ·rw [List.map_cons,pins_map h hj x r]
  ·split
   ·rfl
   ·rw [List.map_cons,hj]
theorem fpins_map {α β:Type} {lt:α→α→Bool} {lt2:β→β→Bool} {j:α→α→α} {j2:β→β→β} {f:α→β} (h:∀ x y,lt x y=lt2 (f x) (f y)) (hj:∀ x y,f (j x y)=j2 (f x) (f y)):∀ (l acc:List α),(l.foldl (fun acc x=>pins lt j x acc) acc).map f=(l.map f).foldl (fun acc x=>pins lt2 j2 x acc) (acc.map f)
 | [],_=>rfl
 | x::l,acc=>by rw [List.foldl_cons,fpins_map h hj l,pins_map h hj,List.map_cons,List.foldl_cons]
theorem fpins_all {α:Type} {lt:α→α→Bool} {j:α→α→α} {P:α→Prop} (hj:∀ x y,P x→P y→P (j x y)):∀ (l acc:List α),(∀ x∈l,P x)→(∀ x∈acc,P x)→∀ x∈l.foldl (fun acc x=>pins lt j x acc) acc,P x
 | [],_,_,h=>h
 | x::l,acc,hl,h=>by
  rw [List.foldl_cons]
  refine fpins_all hj l _ (fun z hz=>hl z (by simp [hz])) fun z hz=>?_
  rcases pins_mem hz with rfl | hz | ⟨y,hy,rfl⟩
  ·exact hl z (by simp)
  ·exact h z hz
  ·exact hj _ _ (h y hy) (hl x (by simp))
def putN {κ:Type} (lt:κ→κ→Bool) (x:κ×List Nat) (acc:List (κ×List Nat)):List (κ×List Nat):=if x.2=[] then acc else pins (fun a b=>lt a.1 b.1) (fun a b=>(a.1,uniN a.2 b.2)) x acc
theorem putN_fold {κ:Type} {lt:κ→κ→Bool}:∀ (l acc:List (κ×List Nat)),l.foldl (fun acc x=>putN lt x acc) acc=(l.filter fun x=>decide (x.2≠[])).foldl (fun acc x=>pins (fun a b=>lt a.1 b.1) (fun a b=>(a.1,uniN a.2 b.2)) x acc) acc
 | [],_=>rfl
 | x::l,acc=>by
  rw [List.foldl_cons,putN_fold l]
  by_cases h:x.2=[]
  ·rw [List.filter_cons_of_neg (by simp [h])]
   unfold putN
   rw [if_pos h]
  ·rw [List.filter_cons_of_pos (by simp [h]),List.foldl_cons]
   unfold putN
   rw [if_neg h]
abbrev phi {κ:Type} (u:Nat) (a:κ×(Cf→Bool)):κ×List Nat:=(a.1,thoseF u a.2)
noncomputable def joiN {κ:Type} (lt:κ→κ→Bool) (l:List (κ×(Cf→Bool))):List (κ×(Cf→Bool)):=jadj (fun a b:κ×(Cf→Bool)=>lt a.1 b.1) jnK (isort (fun a b:κ×(Cf→Bool)=>lt a.1 b.1) (l.filter fun a=>neF a.2))
theorem joiN_pins {κ:Type} {lt:κ→κ→Bool} (h:Swo lt) (l:List (κ×(Cf→Bool))):joiN lt l=(l.filter fun a=>neF a.2).foldl (fun acc x=>pins (fun a b:κ×(Cf→Bool)=>lt a.1 b.1) jnK x acc) []:=jadj_isort jok_key (swo_key h) _
theorem filter_phi {κ:Type} {u:Nat} (hu:u<2 ^ 32):∀ {l:List (κ×(Cf→Bool))},(∀ a∈l,dep u a.2)→(l.map (phi u)).filter (fun x=>decide (x.2≠[]))=(l.filter fun a=>neF a.2).map (phi u)
 | [],_=>rfl
 | a::l,h=>by
  have ih:=filter_phi hu (l:=l) fun b hb=>h b (by simp [hb])
  have e:=neF_those hu (h a (by simp))
  rw [List.map_cons,List.filter_cons,List.filter_cons,ih,e]
  split<;>rfl
theorem put_join {κ:Type} {u:Nat} (hu:u<2 ^ 32) {lt lt2:κ→κ→Bool} (hw:Swo lt) (hlt:∀ x y,lt x y=lt2 x y) {l:List (κ×(Cf→Bool))} (h:∀ a∈l,dep u a.2):(l.map (phi u)).foldl (fun acc x=>putN lt2 x acc) []=(joiN lt l).map (phi u):=by
 rw [putN_fold,joiN_pins hw,filter_phi hu h]
 exact (fpins_map (lt:=fun a b:κ×(Cf→Bool)=>lt a.1 b.1) (lt2:=fun a b:κ×List Nat=>lt2 a.1 b.1) (j:=jnK) (j2:=fun a b:κ×List Nat=>(a.1,uniN a.2 b.2)) (f:=phi u) (fun x y=>hlt x.1 y.1) (fun x y=>by
  show (x.1,thoseF u fun c=>x.2 c||y.2 c)=(x.1,uniN (thoseF u x.2) (thoseF u y.2))
  rw [uni_those]) _ []).symm
theorem dep_or {u:Nat} {f g:Cf→Bool} (hf:dep u f) (hg:dep u g):dep u (fun c=>f c||g c):=fun c c' h=>by
 show (f c||g c)=(f c'||g c')
 rw [hf c c' h,hg c c' h]
theorem dep_and {u:Nat} {f g:Cf→Bool} (hf:dep u f) (hg:dep u g):dep u (fun c=>f c&&g c):=fun c c' h=>by
 show (f c&&g c)=(f c'&&g c')
 rw [hf c c' h,hg c c' h]
theorem joiN_dep {κ:Type} {u:Nat} {lt:κ→κ→Bool} (hw:Swo lt) {l:List (κ×(Cf→Bool))} (h:∀ a∈l,dep u a.2):∀ a∈joiN lt l,dep u a.2:=by
 rw [joiN_pins hw]
 exact fpins_all (P:=fun a:κ×(Cf→Bool)=>dep u a.2) (fun x y hx hy=>dep_or hx hy) _ _ (fun a ha=>h a (List.mem_filter.1 ha).1) (by simp)
theorem joiN_ne {κ:Type} {lt:κ→κ→Bool} (hw:Swo lt) {l:List (κ×(Cf→Bool))}:∀ a∈joiN lt l,neF a.2=true:=by
 rw [joiN_pins hw]
 refine fpins_all (P:=fun a:κ×(Cf→Bool)=>neF a.2=true) (fun x y hx hy=>?_) _ _ (fun a ha=>(List.mem_filter.1 ha).2) (by simp)
 cases e:neF (jnK x y).2 with
 | true=>rfl
 | false=>
  have hno: ¬ ∃ c,x.2 c=true:=fun ⟨c,hc⟩=>by
   have h9:neF (jnK x y).2=true:=neF_T (c:=c) (by show (x.2 c||y.2 c)=true;rw [hc];rfl)
   rw [e] at h9
   cases h9
  rw [neF_F fun c=>by
   cases hc:x.2 c with
   | false=>rfl
   | true=>exact absurd ⟨c,hc⟩ hno] at hx
  cases hx
theorem resT_id {κ:Type} {l:List (κ×(Cf→Bool))} (h:∀ a∈l,neF a.2=true):resT (fun f=>f) l=l:=by
 unfold resT
 rw [show (fun r:κ×(Cf→Bool)=>(r.1,r.2))=id from rfl,List.map_id]
 exact List.filter_eq_self.2 h
theorem resR_res {κ:Type} {u:Nat} (hu:u<2 ^ 32) {g:Cf→Bool} (hg:dep u g) {l:List (κ×(Cf→Bool))} (h:∀ a∈l,dep u a.2):resR (thoseF u g) (l.map (phi u))=(resT (fun f c=>g c&&f c) l).map (phi u):=by
 unfold resR resT
 rw [List.map_map,show ((fun r:κ×List Nat=>(r.1,meetN r.2 (thoseF u g)))∘phi u)=phi u∘(fun r:κ×(Cf→Bool)=>(r.1,fun c=>g c&&r.2 c)) from funext fun a=>by
  show (a.1,meetN (thoseF u a.2) (thoseF u g))=_
  rw [meet_those];rfl,← List.map_map]
 refine filter_phi hu fun a ha=>?_
 obtain ⟨b,hb,rfl⟩:=List.mem_map.1 ha
 exact dep_and hg (h b hb)
theorem resT_dep {κ:Type} {u:Nat} {P:(Cf→Bool)→Cf→Bool} {l:List (κ×(Cf→Bool))} (h:∀ a∈l,dep u (P a.2)):∀ a∈resT P l,dep u a.2:=fun a ha=>by
 obtain ⟨b,hb,rfl⟩:=List.mem_map.1 (List.mem_filter.1 ha).1
 exact h b hb
theorem cfg_and {u n k:Nat} (h:u.testBit k=true):cfg (n&&&u) k=cfg n k:=by
 unfold cfg
 rw [Nat.testBit_and,h,Bool.and_true]
theorem resR_one {κ:Type} {u n:Nat} (hu:u<2 ^ 32) {l:List (κ×(Cf→Bool))} (h:∀ a∈l,dep u a.2):(resR [n&&&u] (l.map (phi u))).map (fun r=>(r.1,cfgs u))=(resT (fun f _=>f (cfg n)) l).map (phi u):=by
 have hm:n&&&u∈cfgs u:=mem_cfgsN.2 ⟨Nat.lt_of_le_of_lt Nat.and_le_right hu,fun i hi=>by
  rw [Nat.testBit_and,Bool.and_eq_true] at hi
  exact hi.2⟩
 clear hu
 unfold resR resT
 induction l with
 | nil=>rfl
 | cons a l ih=>
  have ih:=ih fun b hb=>h b (by simp [hb])
  have hd:=h a (by simp)
  have ev:a.2 (cfg (n&&&u))=a.2 (cfg n):=hd _ _ fun k hk=>cfg_and hk
  rw [List.map_cons,List.map_cons,List.map_cons,List.filter_cons,List.filter_cons]
  show List.map (fun r:κ×List Nat=>(r.1,cfgs u)) (if decide (meetN (thoseF u a.2) [n&&&u]≠[])=true then (a.1,meetN (thoseF u a.2) [n&&&u])::_ else _)=List.map (phi u) (if neF (fun _:Cf=>a.2 (cfg n))=true then (a.1,fun _=>a.2 (cfg n))::_ else _)
  cases hb:a.2 (cfg n) with
  | true=>
   have e1:meetN (thoseF u a.2) [n&&&u]≠[]:=by
    intro e
    have h9:n&&&u∈meetN (thoseF u a.2) [n&&&u]:=by
     unfold meetN thoseF
     rw [List.mem_filter,List.mem_filter]
     exact ⟨⟨hm,by rw [ev];exact hb⟩,by simp⟩
    rw [e] at h9
    simp at h9
   rw [if_pos (by simpa using e1),if_pos (neF_T (f:=fun _:Cf=>true) (c:=cfg n) rfl),List.map_cons,List.map_cons,ih]
   congr 1
   show (a.1,cfgs u)=(a.1,thoseF u fun _=>true)
   rw [show thoseF u (fun _=>true)=cfgs u from List.filter_eq_self.2 fun _ _=>rfl]
  | false=>
   have e1:meetN (thoseF u a.2) [n&&&u]=[]:=by
    unfold meetN thoseF
    rw [List.filter_eq_nil_iff]
    intro z hz
    have hz2:=(List.mem_filter.1 hz).2
    intro h9
    have h8:z=n&&&u:=by simpa using h9
    rw [h8,ev,hb] at hz2
    cases hz2
   rw [if_neg (by simp [e1]),if_neg (by rw [neF_F (f:=fun _:Cf=>false) fun _=>rfl];decide),ih]
theorem eqT_ok {u:Nat} (hu:u<2 ^ 32):∀ {P:List (ItV×(Cf→Bool))} {ts:List TkV} {rs:List RtV},(∀ a∈P,dep u a.2)→ts.map hdT=P.map (fun a=>(kI a.1,a.2))→rs.map hdR=P.map (phi u)→(∀ t∈ts,t.d.ok 0)→eqB2 (tokB u) ts rs=true
 | [],[],[],_,_,_,_=>rfl
 | a::P,[],_,_,h,_,_=>by simp at h
 | [],_::_,_,_,h,_,_=>by simp at h
 | [],_,_::_,_,_,h,_=>by simp at h
 | _::_,_,[],_,_,h,_=>by simp at h
 | a::P,t::ts,r::rs,hd,h1,h2,h3=>by
  rw [List.map_cons,List.map_cons] at h1 h2
  injection h1 with h1 h1'
  injection h2 with h2 h2'
  rw [eqB2,eqT_ok hu (P:=P) (fun b hb=>hd b (by simp [hb])) h1' h2' (fun s hs=>h3 s (by simp [hs])),Bool.and_true]
  obtain ⟨e1,e2⟩:=Prod.mk.inj h1
  obtain ⟨e3,e4⟩:=Prod.mk.inj h2
  have hal:=alike_good (h3 t (by simp)) (fun c=>congrFun e2 c) (hd a (by simp)) hu
  rw [← e4] at hal
  rw [← e3] at e1
  simp only [kI,Prod.mk.injEq] at e1
  obtain ⟨qk,qt,qp,qf,ql⟩:=e1
  unfold tokB
  rw [hal,qk,qt,qp,qf,ql,cmpP_zero.2 rfl]
  simp
theorem eqD_ok {u:Nat} (hu:u<2 ^ 32):∀ {P:List (NoV×(Cf→Bool))} {ts:List DgV} {rs:List RgV},(∀ a∈P,dep u a.2)→ts.map hdD=P.map (fun a=>(kN a.1,a.2))→rs.map hdG=P.map (phi u)→(∀ t∈ts,t.d.ok 0)→eqB2 (dgB u) ts rs=true
 | [],[],[],_,_,_,_=>rfl
 | a::P,[],_,_,h,_,_=>by simp at h
 | [],_::_,_,_,h,_,_=>by simp at h
 | [],_,_::_,_,_,h,_=>by simp at h
 | _::_,_,[],_,_,h,_=>by simp at h
 | a::P,t::ts,r::rs,hd,h1,h2,h3=>by
  rw [List.map_cons,List.map_cons] at h1 h2
  injection h1 with h1 h1'
  injection h2 with h2 h2'
  rw [eqB2,eqD_ok hu (P:=P) (fun b hb=>hd b (by simp [hb])) h1' h2' (fun s hs=>h3 s (by simp [hs])),Bool.and_true]
  obtain ⟨e1,e2⟩:=Prod.mk.inj h1
  obtain ⟨e3,e4⟩:=Prod.mk.inj h2
  have hal:=alike_good (h3 t (by simp)) (fun c=>congrFun e2 c) (hd a (by simp)) hu
  rw [← e4] at hal
  rw [← e3] at e1
  simp only [kN,Prod.mk.injEq] at e1
  obtain ⟨qk,qp,qf,ql⟩:=e1
  unfold dgB
  rw [hal,qk,qp,qf,ql,cmpP_zero.2 rfl]
  simp
theorem Cmp3.sgn {α:Type} {c d:α→α→Int} (h:Cmp3 d) (hs:∀ x y,sgnE (c x y) (d x y)):Cmp3 c:=by
 refine ⟨fun x y=>?_,fun x y z h1 h2=>?_⟩
 ·have h1:=hs x y
  have h2:=hs y x
  have h3:=h.anti x y
  have h4:=h.anti y x
  unfold sgnE at h1 h2
  omega
 have e1:=hs x y
 have e2:=hs y z
 have e3:=hs x z
 unfold sgnE at e1 e2 e3
 have h3:=h.tr x y z (by omega) (by omega)
 omega
theorem ordR_3 :Cmp3 ordR:=cmpT_3.sgn ordR_sgn
theorem ordG_3 :Cmp3 ordG:=cmpD_3.sgn ordG_sgn
theorem lt_sgn {α:Type} {c d:α→α→Int} (hs:∀ x y,sgnE (c x y) (d x y)) (x y:α):ltC d x y=ltC c x y:=by
 have h:=hs x y
 unfold sgnE at h
 rw [Bool.eq_iff_iff,decide_eq_true_eq,decide_eq_true_eq]
 omega
abbrev pinC {κ:Type} (c:κ→κ→Int) (x:κ×List Nat) (l:List (κ×List Nat)):List (κ×List Nat):=pins (fun a b:κ×List Nat=>ltC c a.1 b.1) (fun a b=>(a.1,uniN a.2 b.2)) x l
theorem take_lt {κ:Type} {l:List κ} {lo:Nat} {y:κ} (hy:l[lo]?=some y):l=l.take lo++y::l.drop (lo+1):=by
 obtain ⟨h1,h2⟩:=List.getElem?_eq_some_iff.1 hy
 rw [← h2,← List.drop_eq_getElem_cons h1,List.take_append_drop]
theorem pins_eq {κ:Type} {c:κ→κ→Int} (h3:Cmp3 c) {x y:κ×List Nat} {l:List (κ×List Nat)} {lo:Nat} (hy:l[lo]?=some y) (hA:∀ z∈l.take lo,c z.1 x.1<0) (h0:c y.1 x.1=0):pinC c x l=l.set lo (y.1,uniN y.2 x.2):=by
 have hl:(l.take lo).length=lo:=by
  have:=(List.getElem?_eq_some_iff.1 hy).1
  rw [List.length_take];omega
 have e:=take_lt hy
 have h9:=pins_at (lt:=fun a b:κ×List Nat=>ltC c a.1 b.1) (j:=fun a b=>(a.1,uniN a.2 b.2)) (x:=x) (A:=l.take lo) (B:=y::l.drop (lo+1)) (fun z hz=>decide_eq_true (hA z hz)) (fun z hz=>by
  rw [List.head?_cons,Option.mem_def] at hz
  injection hz with hz
  rw [← hz]
  exact decide_eq_false (by omega))
 unfold pinC
 conv=>lhs;rw [e]
 rw [h9]
 dsimp only
 rw [if_neg (by have h8:=h3.zero h0;rw [decide_eq_true_eq];omega)]
 conv=>rhs;rw [e]
 rw [List.set_append_right _ _ (by omega),hl,Nat.sub_self,List.set_cons_zero]
theorem pins_ins {κ:Type} {c:κ→κ→Int} (h3:Cmp3 c) {x:κ×List Nat} {l:List (κ×List Nat)} {lo:Nat} (hA:∀ z∈l.take lo,c z.1 x.1<0) (hB:∀ y,l[lo]?=some y→0<c y.1 x.1):pinC c x l=l.take lo++x::l.drop lo:=by
 have hh:∀ z∈(l.drop lo).head?,0<c z.1 x.1:=fun z hz=>hB z (by rw [List.head?_drop] at hz;exact hz)
 have h9:=pins_at (lt:=fun a b:κ×List Nat=>ltC c a.1 b.1) (j:=fun a b=>(a.1,uniN a.2 b.2)) (x:=x) (A:=l.take lo) (B:=l.drop lo) (fun z hz=>decide_eq_true (hA z hz)) (fun z hz=>decide_eq_false (by have:=hh z hz;omega))
 rw [List.take_append_drop] at h9
 unfold pinC
 rw [h9]
 cases hd:l.drop lo with
 | nil=>rfl
 | cons y r=>
  dsimp only
  rw [hd] at hh
  rw [if_pos (decide_eq_true ((h3.anti y.1 x.1).2 (hh y rfl)))]
abbrev SrC {κ:Type} (c:κ→κ→Int) (l:List (κ×List Nat)):Prop:=l.Pairwise fun a b=>c a.1 b.1<0
theorem putN_srs {κ:Type} {c:κ→κ→Int} (h3:Cmp3 c) {x:κ×List Nat} {l:List (κ×List Nat)} (h:SrC c l):SrC c (putN (ltC c) x l):=by
 unfold putN
 split
 ·exact h
 have h9:=pins_srs (lt:=fun a b:κ×List Nat=>ltC c a.1 b.1) (j:=fun a b=>(a.1,uniN a.2 b.2)) (x:=x) (l:=l) ⟨fun _ _ _=>rfl,fun _ _ _=>rfl⟩ ⟨fun x y h1=>h3.swo.asym x.1 y.1 h1,fun x y z h1 h2=>h3.swo.tr x.1 y.1 z.1 h1 h2⟩ (fun x y z h1 h2=>h3.ltr x.1 y.1 z.1 h1 h2) (h.imp fun h=>decide_eq_true h)
 exact h9.imp fun h=>of_decide_eq_true h
theorem bs_lo {κ:Type} {c:κ→κ→Int} (h3:Cmp3 c) {x y:κ×List Nat} {l:List (κ×List Nat)} {m:Nat} (hs:SrC c l) (hy:l[m]?=some y) (h:c y.1 x.1<0):∀ z∈l.take (m+1),c z.1 x.1<0:=fun z hz=>by
 rw [List.take_add_one,hy,Option.toList_some] at hz
 rcases List.mem_append.1 hz with hz | hz
 ·have e:=take_lt hy
  rw [e] at hs
  have h9:c z.1 y.1<0:=(List.pairwise_append.1 hs).2.2 z hz y (by simp)
  exact of_decide_eq_true (h3.ltr _ _ _ (decide_eq_true h9) (decide_eq_true h))
 ·rw [List.mem_singleton.1 hz];exact h
theorem bs_hi {κ:Type} {c:κ→κ→Int} (h3:Cmp3 c) {x y:κ×List Nat} {l:List (κ×List Nat)} {m:Nat} (hs:SrC c l) (hy:l[m]?=some y) (h: ¬ c y.1 x.1<0):∀ z∈l.drop m,¬ c z.1 x.1<0:=fun z hz=>by
 have e:=take_lt hy
 obtain ⟨h1,h2⟩:=List.getElem?_eq_some_iff.1 hy
 rw [List.drop_eq_getElem_cons h1,h2] at hz
 rcases List.mem_cons.1 hz with rfl | hz
 ·exact h
 ·rw [e] at hs
  have h9:c y.1 z.1<0:=(List.pairwise_cons.1 (List.pairwise_append.1 hs).2.1).1 z hz
  intro h8
  exact h (of_decide_eq_true (h3.ltr _ _ _ (decide_eq_true h9) (decide_eq_true h8)))
def jstep {α:Type} (lt:α→α→Bool) (j:α→α→α) (out:List α) (x:α):List α:=match out.getLast? with
 | none=>[x]
 | some y=>if eqv lt y x then out.dropLast++[j y x] else out++[x]
theorem jstep_T {α:Type} {lt:α→α→Bool} {j:α→α→α} {P:List α} {y x:α} (h:eqv lt y x=true):jstep lt j (P++[y]) x=P++[j y x]:=by simp [jstep,h]
theorem jstep_F {α:Type} {lt:α→α→Bool} {j:α→α→α} {P:List α} {y x:α} (h:eqv lt y x=false):jstep lt j (P++[y]) x=P++[y]++[x]:=by simp [jstep,h]
theorem jgo_fold {α:Type} {lt:α→α→Bool} {j:α→α→α}:∀ (l P:List α) (acc:α),l.foldl (jstep lt j) (P++[acc])=P++jgo lt j acc l
 | [],P,acc=>rfl
 | y::r,P,acc=>by
  rw [List.foldl_cons,jgo]
  cases h:eqv lt acc y with
  | true=>rw [jstep_T h,jgo_fold r P];rfl
  | false=>rw [jstep_F h,jgo_fold r (P++[acc]),List.append_assoc];rfl
theorem jadj_fold {α:Type} {lt:α→α→Bool} {j:α→α→α} (l:List α):jadj lt j l=l.foldl (jstep lt j) []:=by
 cases l with
 | nil=>rfl
 | cons x r=>exact (jgo_fold r [] x).symm
theorem eqv_zero {α:Type} {c:α→α→Int} (h3:Cmp3 c) (x y:α):eqv (ltC c) x y=decide (c x y=0):=by
 unfold eqv
 have h1:=h3.anti x y
 have h2:=h3.anti y x
 rw [Bool.eq_iff_iff,Bool.and_eq_true,Bool.not_eq_true',Bool.not_eq_true',decide_eq_true_eq,decide_eq_false_iff_not,decide_eq_false_iff_not]
 omega
theorem jst_len {α:Type} {lt:α→α→Bool} {j:α→α→α}:∀ (l acc:List α),(l.foldl (jstep lt j) acc).length≤acc.length+l.length
 | [],_=>Nat.le_refl _
 | x::l,acc=>by
  rw [List.foldl_cons]
  refine Nat.le_trans (jst_len l _) ?_
  have h:(jstep lt j acc x).length≤acc.length+1:=by
   rcases List.eq_nil_or_concat acc with rfl | ⟨P,y,e⟩
   ·exact Nat.le_refl _
   ·rw [List.concat_eq_append] at e
    subst e
    cases hq:eqv lt y x with
    | true=>rw [jstep_T hq];simp
    | false=>rw [jstep_F hq];simp
  rw [List.length_cons]
  omega
theorem fold_snoc {α β:Type} {f:β→α→β} {b:β} {l:List α} {i:Nat} {x:α} (h:l[i]?=some x):(l.take (i+1)).foldl f b=f ((l.take i).foldl f b) x:=by
 rw [List.take_add_one,h,Option.toList_some,List.foldl_append]
 rfl
theorem map_snoc6 {α β:Type} {f:α→β} {l:List α} {i:Nat} {x:α} (h:l[i]?=some x):(l.map f)[i]?=some (f x):=by rw [List.getElem?_map,h];rfl
theorem set_snoc {α:Type} {P:List α} {y z:α}:(P++[y]).set P.length z=P++[z]:=by
 rw [List.set_append_right _ _ (Nat.le_refl _),Nat.sub_self]
 rfl
abbrev kvT (t:TkV):ItV×(Cf→Bool):=(t.x,t.d.ev)
structure JoTV where
 i:Nat
 o:List TkV
 a:Option Addr
 c:Nat
 F:List Nat
 ds:List DV
structure JoTG (l o:List TkV) (ds:List DV):Prop where
 d:∀ t∈o,t.d.ok 0∧((t.d,t.da,t.dc)∈ds∨∃ s∈l,((t.d,t.da,t.dc):DV)=(s.d,s.da,s.dc))
 x:∀ t∈o,∃ s∈l,t.x=s.x
theorem JoTG.snoc {l o:List TkV} {ds:List DV} {x:TkV} (h:JoTG l o ds) (hx:x∈l) (ho:x.d.ok 0):JoTG l (o++[x]) ds:=by
 refine ⟨fun t ht=>?_,fun t ht=>?_⟩
 ·rcases List.mem_append.1 ht with ht | ht
  ·exact h.d t ht
  rw [List.mem_singleton.1 ht];exact ⟨ho,.inr ⟨x,hx,rfl⟩⟩
 rcases List.mem_append.1 ht with ht | ht
 ·exact h.x t ht
 rw [List.mem_singleton.1 ht];exact ⟨x,hx,rfl⟩
theorem JoTG.join {l P:List TkV} {ds:List DV} {y:TkV} (h:JoTG l (P++[y]) ds) {z:DV} (hz:z.1.ok 0):JoTG l (P++[⟨y.x,z.1,z.2.1,z.2.2⟩]) (ds++[z]):=by
 refine ⟨fun t ht=>?_,fun t ht=>?_⟩
 ·rcases List.mem_append.1 ht with ht | ht
  ·obtain ⟨h1,h2⟩:=h.d t (List.mem_append_left _ ht)
   exact ⟨h1,h2.imp (List.mem_append_left _) id⟩
  rw [List.mem_singleton.1 ht];exact ⟨hz,.inl (List.mem_append_right _ (by simp))⟩
 rcases List.mem_append.1 ht with ht | ht
 ·exact h.x t (List.mem_append_left _ ht)
 rw [List.mem_singleton.1 ht];exact h.x y (by simp)
set_option maxRecDepth 1000000 in
theorem joinedK1_c_s {G:Prop} (h:G:=by
   first | refine enter Tryz.func51 rfl Tryz.ntmps51 rfl (St.init _) ?_ | refine enter Tryz.func53 rfl Tryz.ntmps53 rfl (St.init _) ?_
   refine jN 3 ?_
   refine WL.box1 rfl rfl rfl (fun b5=>?_)
   refine jN 9 ?_
   refine WL.call0 (β:=Option Addr×Nat) (res:=fun x=> .returned (.slice x.1 l.length x.2)) (cs:=fun x=>[rowc (.slice x.1 l.length x.2) l.length q1 q2 (l.flatMap q3)]) (ψ:=fun _=>True) q4 (fun d h=>by cases h;rfl) rfl (fun w hS=>(q5 l a c (by omega) w (hr.r.next hS)).mono (fun e w2 ⟨x,h1,h2⟩=>⟨x,trivial,h1,h2⟩)) (fun ⟨xa,xc⟩ _=>After_ret ?_)
   refine WA.know (φ:=∃ g,xa=some ⟨g,0,none⟩∧b5≠g) (fun w hS=>by obtain ⟨g,hg,_,_⟩:=rowc_addr (hS.ok _ (List.mem_cons_self ..)) hpos;subst hg;exact ⟨g,rfl,St_neR (hS.perm (List.Perm.swap ..))⟩) (fun hkn=>?_)
   obtain ⟨g,hg,hbg⟩:=hkn
   subst hg
   refine jN 3 ?_
   refine WL.callC (β:=Unit) (res:=fun _=> .slice (some ⟨g,0,none⟩) (keepE q6 l).length xc) (cs:=fun _=>[jW g (keepE q6 l).length xc q1 q2 ((keepE q6 l).flatMap q3)]) (Cs:=[jW g (l).length xc q1 q2 ((l).flatMap q3)]) (O':=[g]) q7 (fun d h=>by cases h;rfl) rfl (List.Perm.refl _) q8 q9 (fun w hS hS2=>(q10 l g xc b5 (by omega) hbg w (hS.cell (cs:=[(.func (.func q11) [].toArray [].toArray)]) jM rfl) hS2).mono (fun e w2 h=>⟨(),h⟩)) (fun _=>?_)
   refine jN 11 ?_
   refine WL.callC (β:=Unit) (res:=fun _=> .tuple #[]) (cs:=fun _=>[jW g (keepE q6 l).length xc q1 q2 ((isort (ltC fun x y:q12=>q13 x.x y.x) (keepE q6 l)).flatMap q3)]) (Cs:=[jW g (keepE q6 l).length xc q1 q2 ((keepE q6 l).flatMap q3)]) (O':=[g]) q14 (fun d h=>by cases h;rfl) rfl (List.Perm.refl _) q8 q9 (fun w hS hS2=>(q15 (keepE q6 l) g (keepE q6 l).length xc q16 [] [] (fun x=>x∈l) (fun x y=>q13 x.x y.x) ⟨fun x y h=>q17.swo.asym x.x y.x h,fun x y z h1 h2=>q17.swo.tr x.x y.x z.x h1 h2⟩ q18 rfl (Nat.le_trans (List.length_filter_le _ _) (by omega)) (fun x hx=>(List.mem_filter.1 hx).1) w (fun C2 w2 h2 x y hx hy=>q19 x y (hr.p x hx).2 (hr.p y hy).2 w2 (RdC.nextG (hr.p x hx).1 hS ⟨_,List.mem_cons_self ..,(FpIs.rowc g).2 (by simp [ob,Value.ownBlock])⟩ h2) (RdC.nextG (hr.p y hy).1 hS ⟨_,List.mem_cons_self ..,(FpIs.rowc g).2 (by simp [ob,Value.ownBlock])⟩ h2)) hS2).mono (fun e w2 h=>⟨(),h⟩)) (fun _=>?_)
   refine jN 6 ?_
   obtain ⟨S,hS9⟩:∃ S,S=isort (ltC fun x y:q12=>q13 x.x y.x) (keepE q6 l):=⟨_,rfl⟩
   obtain ⟨n,hn9⟩:∃ n,n=(keepE q6 l).length:=⟨_,rfl⟩
   have hSl:S.length=n:=by rw [hS9,isort_len,hn9]
   have hSm:∀ x∈S,x∈l:=fun x hx=>by rw [hS9] at hx;exact (List.mem_filter.1 (isort_mem.1 hx)).1
   have hnl:n≤l.length:=by rw [hn9];exact List.length_filter_le _ _
   rw [← hS9,← hn9]
   refine jN 14 ?_
   refine WC.chunks (C':=[pt b5 [(.func (.func q11) [].toArray [].toArray)] q20,jW g n xc q1 q2 (S.flatMap q3),rowc (.slice none 0 0) 0 q1 q2 [],dsC [] []]) (fun w hS=>(jK (St.rowNil (St.dsNil hS) q1 q2))) ?_
   refine WC.loop (α:=q21) (fun m=>m.i≤n∧m.o.map q22=((S.take m.i).map q22).foldl (jstep (fun a b:q23×(Cf→Bool)=>ltC q13 a.1 b.1) jnK) []∧q24 l m.o m.ds) (fun m=>[(1,(.func (.func q16) [].toArray [].toArray)),(5,pp b5),(7,.slice m.a (m.o).length m.c),(19,.slice (some ⟨g,0,none⟩) n xc),(20,.int .i64 (n:Int)),(21,.int .i64 (m.i:Int))]) (fun m=>[pt b5 [(.func (.func q11) [].toArray [].toArray)] q20,jW g n xc q1 q2 (S.flatMap q3),rowc (.slice m.a (m.o).length m.c) (m.o).length q1 q2 ((m.o).flatMap q3),dsC m.F m.ds]) (fun m=>n - m.i) (⟨0,[],none,0,[],[]⟩) ?_ ?_ ?_ ?_
   ·exact ⟨Nat.zero_le _,rfl,⟨by simp,by simp⟩⟩
   ·exact ⟨rfl,rfl,rfl,rfl,rfl,rfl,trivial⟩
   ·rfl
   rintro ⟨i,o,a,c,Fp,ds⟩ ⟨hi,ho,hJ⟩
   dsimp only at hi ho hJ
   show WC _ _ _ _ _ _ _ [(1,(.func (.func q16) [].toArray [].toArray)),(5,pp b5),(7,.slice a (o).length c),(19,.slice (some ⟨g,0,none⟩) n xc),(20,.int .i64 (n:Int)),(21,.int .i64 (i:Int))] [pt b5 [(.func (.func q11) [].toArray [].toArray)] q20,jW g n xc q1 q2 (S.flatMap q3),rowc (.slice a (o).length c) (o).length q1 q2 ((o).flatMap q3),dsC Fp ds]
   have hol:o.length≤i:=by have h9:=congrArg List.length ho;rw [List.length_map] at h9;rw [h9];refine Nat.le_trans (jst_len _ _) ?_;rw [List.length_nil,List.length_map,List.length_take];omega
   refine jN 7 ?_
   refine WC.cond rfl (fun h22=>?_) (fun h22=>?_)
   ·have hlt:i<n:=by simpa using h22
    obtain ⟨x,hx⟩:∃ y,S[i]?=some y:=⟨_,List.getElem?_eq_getElem (by omega)⟩
    have hxm:=List.mem_of_getElem? hx
    have pfX:∀ {w2:World} {C:List Chunk} (hS:St w [] C w2) {t:q12},(∃ s∈l,t.x=s.x)→RdC w2 t.x.p t.x.pa∧t.x.p.length≤1000000000:=by
     intro w2 C hS t ht
     obtain ⟨s9,hs9,e9⟩:=ht
     rw [e9]
     exact ⟨(hr.p s9 hs9).1.next hS,(hr.p s9 hs9).2⟩
    have rdY:∀ {w2:World} {C:List Chunk} (hS:St w [] C w2) {F:List Nat} {ds:List DV} {t:q12},((t.d,t.da,t.dc)∈ds∨∃ s∈l,((t.d,t.da,t.dc):DV)=(s.d,s.da,s.dc))→dsC F ds∈C→RdD w2 t.d t.da:=by
     intro w2 C hS F ds t ht hm
     rcases ht with ht | ⟨s9,hs9,e9⟩
     ·exact dsC_rd (hS.ok _ hm) ht
     ·simp only [Prod.mk.injEq] at e9
      rw [e9.1,e9.2.1]
      exact (hr.d s9 hs9).next0 hS
    refine jN 7 ?_
    refine WL.indexAddr q25 rfl rfl rfl hlt ?_
    refine jN 1 ?_
    refine WL.loadN q26 rfl rfl (vs:=q3 x) rfl (fun w hS jj v hv=>by rw [Nat.zero_add];exact rowc_cells (hS.ok (jW g n xc q1 q2 (S.flatMap q3)) jM) (flat_at (cells:=q3) (sz:=q2) (fun _ _=>rfl) hx jj _ hv)) ?_
    refine jN 1 ?_
    refine WL.alloc q27 rfl (fun b9=>?_)
    refine jN 1 ?_
    refine WL.storeN q26 rfl rfl rfl (q28 x) jU (by repeat constructor) ?_
    refine jN 4 ?_
    rcases List.eq_nil_or_concat o with rfl | ⟨P,y,hP9⟩
    ·refine jN 12 ?_
     refine WC.draws [] (by kernel_rfl) (fun w hS=>facts_nil) ?_
     refine jQ [0,1,2] ?_
     refine fun hcl=>WA.splitB (i:=30) rfl (fun g30=>?_) (fun g30=>?_)
     ·refine (show WD _ _ _ _ _ _ _ _ _ _ _ _ from ?_) hcl
      exfalso;simp at g30
     refine (show WD _ _ _ _ _ _ _ _ _ _ _ _ from ?_) hcl
     refine jQ [3,4,5,6,7,8,9,10,11] ?_
     refine jD ?_
     refine jN 10 ?_
     refine WL.buildSlice q25 q29 rfl rfl rfl rfl jB rfl (fun b57=>?_)
     refine jN 1 ?_
     refine WL.appendE (news:=q3 x) q30 rfl rfl rfl jR (fun w hS jj u hu9=>by rw [Nat.zero_add];exact hS.cell (cs:=q3 x) jM hu9) rfl (q28 x) (Nat.le_trans (m:=20000) (by omega) (by decide)) (by omega) (fun a9 c9=>?_)
     refine jN 11 ?_
     refine WQ.chunks (C':=[pt b5 [(.func (.func q11) [].toArray [].toArray)] q20,jW g n xc q1 q2 (S.flatMap q3),rowc (.slice a9 ((([]:List _)).length+1) c9) ((([]:List _)).length+1) q1 q2 ((([]:List _)).flatMap q3++q3 x),dsC Fp ds]) (fun w hS=>(jK hS)) ?_
     refine WQ.back (⟨i+1,([]:List _)++[x],a9,c9,Fp,ds⟩:q21) ?_ ?_ ?_ ?_
     ·exact ⟨hlt,by (show (([]:List _)++[x]).map q22=((S.take (i+1)).map q22).foldl _ []);rw [List.map_take] at ho ⊢;rw [fold_snoc (map_snoc6 hx),← ho];rfl,hJ.snoc (hSm x hxm) (hr.d x (hSm x hxm)).1⟩
     ·show n - (i+1)<n - i;omega
     ·simp only [List.length_append,List.length_cons,List.length_nil];exact ⟨rfl,rfl,rfl,rfl,rfl,rfl,trivial⟩
     simp only [List.length_append,List.length_cons,List.length_nil,List.flatMap_append,List.flatMap_cons,List.flatMap_nil,List.append_nil]<;>rfl
    rw [List.concat_eq_append] at hP9
    subst hP9
    have hyl:=hJ.x y (by simp)
    have hPl:(P++[y]).length=P.length+1:=by simp
    refine WC.know (φ:=∃ g,a=some ⟨g,0,none⟩∧(P++[y]).length=(P++[y]).length∧(P++[y]).length≤c) (fun w hS=>rowc_addr (hS.ok (rowc (.slice a (P++[y]).length c) (P++[y]).length q1 q2 ((P++[y]).flatMap q3)) jM) (by omega)) (fun ⟨g2,hg2,_,_⟩=>?_)
    subst hg2
    refine jN 6 ?_
    refine WL.bin (v:= .int .i64 ((P.length:Nat):Int)) rfl rfl rfl (fun w=>run_subK (i:=1) (k:=P.length) (s:=(P++[y]).length) (by omega) (by omega) _ _ _ w) ?_
    refine jN 5 ?_
    refine WC.drawsL (by kernel_rfl) (FactsOk.cons (ds:=[9]) (LoadOk.by (Y:=fun w=>∀ jj v,(q3 y)[jj]?=some v→w.cell? ⟨g2,0+P.length*q2+jj,none⟩=some v) (fun w hS=>(fun jj v hv=>by rw [Nat.zero_add];exact rowc_cells (hS.ok (jW g2 (P++[y]).length c q1 q2 ((P++[y]).flatMap q3)) jM) (flat_at (cells:=q3) (sz:=q2) (fun _ _=>rfl) (show (P++[y])[P.length]?=some y by simp) jj _ hv)))) (FactsOk.cons (ds:=[9]) (LoadOk.whole (t:=9) rfl jM) (FactsOk.nil))) ?_
    refine jQ [0,1,2] ?_
    refine fun hcl=>WA.splitB (i:=30) rfl (fun g30=>?_) (fun g30=>?_)
    ·refine (show WD _ _ _ _ _ _ _ _ _ _ _ _ from ?_) hcl
     refine jQ [3,4,5] ?_
     refine WD.takeG (i:=6) rfl rfl rfl rfl rfl rfl (by decide+kernel) (by decide+kernel) (by decide+kernel) (fun _ _ _ h=>h) (by kernel_rfl) need_none (Yl.indexAddr q25 rfl rfl (by omega)) ?_
     refine WD.takeG (i:=7) rfl rfl rfl rfl rfl rfl (by decide+kernel) (by decide+kernel) (by decide+kernel) (fun _ _ _ h=>h) (by kernel_rfl) (need_at2 0 rfl (by decide+kernel)) (Yl.loadN q26 rfl rfl) ?_
     refine WD.takeG (i:=8) rfl rfl rfl rfl rfl rfl (by decide+kernel) (by decide+kernel) (by decide+kernel) (fun _ _ _ h=>h) (by kernel_rfl) (need_at2 1 rfl (by decide+kernel)) (Yl.loadN q26 rfl rfl) ?_
     refine jA 9 rfl ?_
     refine WL.guardT rfl rfl rfl ?_
     refine WL.callFC (β:=Unit) (res:=fun _=> .int .i64 (q13 y.x x.x)) (cs:=fun _=>[]) (Cs:=[]) (O':=[]) (us:=[]) (cap:=[]) q18 (fun d h=>by cases h;rfl) rfl rfl (List.Perm.refl _) (by simp) (by simp) (fun w hS _=>(q19 y x (pfX hS hyl).2 (hr.p x (hSm x hxm)).2 w (pfX hS hyl).1 ((hr.p x (hSm x hxm)).1.next hS)).mono (fun e w2 h=>⟨(),by simpa using h⟩)) (fun _=>?_)
     refine jG ?_
     refine jQ [10,11] ?_
     refine jD ?_
     refine jN 1 ?_
     refine WC.cond rfl (fun h39=>?_) (fun h39=>?_)
     ·have h39:q13 y.x x.x=0:=by simpa using h39
      refine jN 1 ?_
      refine WC.drawsL (by kernel_rfl) (FactsOk.cons (ds:=[4]) (LoadOk.one (t:=5) (off:=0) rfl jM rfl) (FactsOk.nil)) ?_
      refine jF 0 0 rfl rfl (Yl.load1 q31 rfl) ?_
      refine jQ [1,2] ?_
      refine jT 3 rfl (Yl.indexAddr q25 rfl rfl (by omega)) ?_
      refine jA 4 rfl ?_
      refine WL.callFC (β:=Unit) (res:=fun _=> .pointer (some ⟨g2,0+P.length*q2+q32,none⟩)) (cs:=fun _=>[]) (Cs:=[]) (O':=[]) (us:=[]) (cap:=[]) q33 (fun d h=>by cases h;rfl) rfl rfl (List.Perm.refl _) (by simp) (by simp) (fun w hS _=>(q34 g2 (0+P.length*q2) w).mono (fun e w2 h=>⟨(),by simpa using h⟩)) (fun _=>?_)
      refine jG ?_
      refine jQ [5] ?_
      refine jD ?_
      refine jN 2 ?_
      refine WC.drawsL (by kernel_rfl) (FactsOk.cons (ds:=[8,10]) (LoadOk.by (Y:=fun w=>∀ jj v,([.slice y.da (canon y.d).1.length y.dc,.int .i64 ((canon y.d).2:Int)]:List Value)[jj]?=some v→w.cell? ⟨g2,0+P.length*q2+q32+jj,none⟩=some v) (fun w hS=>(fun jj v hv=>by rw [Nat.zero_add,Nat.add_assoc];exact rowc_cells (hS.ok (jW g2 (P++[y]).length c q1 q2 ((P++[y]).flatMap q3)) jM) (flat_at (cells:=q3) (sz:=q2) (fun _ _=>rfl) (show (P++[y])[P.length]?=some y by simp) (q32+jj) _ (by rw [Nat.add_comm];exact hv))))) (FactsOk.cons (ds:=[5,8,10]) (LoadOk.one (t:=5) (off:=0) rfl jM rfl) (FactsOk.cons (ds:=[8,10]) (LoadOk.by (Y:=fun w=>∀ jj v,([.slice x.da (canon x.d).1.length x.dc,.int .i64 ((canon x.d).2:Int)]:List Value)[jj]?=some v→w.cell? ⟨b9,q32+jj,none⟩=some v) (fun w hS=>(fun jj v hv=>by rw [Nat.add_comm];exact hS.cell (cs:=q3 x) jM (off:=jj+q32) hv))) (FactsOk.nil)))) ?_
      refine jQ [0,1,2] ?_
      refine jF 3 0 rfl rfl (Yl.loadN F.agg50 rfl rfl) ?_
      refine jF 4 1 rfl rfl (Yl.load1 q31 rfl) ?_
      refine jA 5 rfl ?_
      refine WL.callFC (β:=Unit) (res:=fun _=> .pointer (some ⟨b9,0+q32,none⟩)) (cs:=fun _=>[]) (Cs:=[]) (O':=[]) (us:=[]) (cap:=[]) q33 (fun d h=>by cases h;rfl) rfl rfl (List.Perm.refl _) (by simp) (by simp) (fun w hS _=>(q34 b9 0 w).mono (fun e w2 h=>⟨(),by simpa using h⟩)) (fun _=>?_)
      refine WD.on (closed_of (by decide+kernel)) (fun w hS=>Sx.keep ((fun jj v hv=>by rw [Nat.zero_add,Nat.add_assoc];exact rowc_cells (hS.ok (jW g2 (P++[y]).length c q1 q2 ((P++[y]).flatMap q3)) jM) (flat_at (cells:=q3) (sz:=q2) (fun _ _=>rfl) (show (P++[y])[P.length]?=some y by simp) (q32+jj) _ (by rw [Nat.add_comm];exact hv)))) (Sx.gone rfl (Sx.keep ((fun jj v hv=>by rw [Nat.add_comm];exact hS.cell (cs:=q3 x) jM (off:=jj+q32) hv)) (Sx.none)))) ?_
      refine jQ [6] ?_
      refine jF 7 2 rfl rfl (Yl.loadN F.agg50 rfl rfl) ?_
      refine jA 8 rfl ?_
      refine WL.call0 (β:=DRes (fun cf=>y.d.ev cf||x.d.ev cf)) (res:=fun z=> .returned z.v) (cs:=fun z=>[z.ch]) (ψ:=fun _=>True) F.fun45 (fun d h=>by cases h;rfl) rfl (fun w hS=>(Or_c y.d x.d y.da x.da y.dc x.dc w (rdY hS (hJ.d y (by simp)).2 (F:=Fp) (ds:=ds) jM) ((hr.d x (hSm x hxm)).next0 hS)).mono (fun e w2 ⟨x,h1,h2⟩=>⟨x,trivial,h1,h2⟩)) (fun z _=>After_ret ?_)
      refine jG ?_
      refine jQ [9] ?_
      refine jA 10 rfl ?_
      refine WL.storeRow (n:=(P++[y]).length) (xs':=((P++[y]).set P.length (⟨y.x,z.1.1,z.1.2.1,z.1.2.2⟩:q12)).flatMap q3) F.agg50 rfl rfl rfl (by first | exact qO _ | simp [Value.oneCell']) (by omega) jU (by rw [Nat.zero_add];exact setN_sub (cells:=q3) (sz:=q2) (fun _=>rfl) (show (P++[y])[P.length]?=some y by simp) (by repeat constructor)) ?_
      refine jG ?_
      refine jD ?_
      refine jN 11 ?_
      refine WQ.chunksE (C':=fun F9=>[pt b5 [(.func (.func q11) [].toArray [].toArray)] q20,jW g n xc q1 q2 (S.flatMap q3),jW g2 (P++[y]).length c q1 q2 (((P++[y]).set P.length (⟨y.x,z.1.1,z.1.2.1,z.1.2.2⟩:q12)).flatMap q3),dsC F9 (ds++[(z.1.1,z.1.2.1,z.1.2.2)])]) (fun w hS=>?_) (fun F9=>?_)
      ·obtain ⟨F9,hF9⟩:=St.dsSnoc z.2.1 ((St.pick (St.pick hS (c:=z.ch) jR) (c:=dsC Fp ds) jR))
       exact ⟨F9,(jK hF9)⟩
      have hset:(P++[y]).set P.length (⟨y.x,z.1.1,z.1.2.1,z.1.2.2⟩:q12)=P++[(⟨y.x,z.1.1,z.1.2.1,z.1.2.2⟩:q12)]:=set_snoc
      have hsl:(P++[(⟨y.x,z.1.1,z.1.2.1,z.1.2.2⟩:q12)]).length=(P++[y]).length:=by simp
      refine WQ.back (⟨i+1,P++[(⟨y.x,z.1.1,z.1.2.1,z.1.2.2⟩:q12)],some ⟨g2,0,none⟩,c,F9,ds++[(z.1.1,z.1.2.1,z.1.2.2)]⟩:q21) ?_ ?_ ?_ ?_
      ·exact ⟨hlt,by (show (P++[(⟨y.x,z.1.1,z.1.2.1,z.1.2.2⟩:q12)]).map q22=((S.take (i+1)).map q22).foldl _ []);rw [List.map_take] at ho ⊢;rw [fold_snoc (map_snoc6 hx),← ho,List.map_append,List.map_append,List.map_singleton,List.map_singleton,jstep_T (by rw [eqv_zero (q17.on (fun a:q23×(Cf→Bool)=>a.1))];exact decide_eq_true h39)];congr 2;exact Prod.ext rfl (funext z.2.2),hJ.join (z:=(z.1.1,z.1.2.1,z.1.2.2)) z.2.1⟩
      ·show n - (i+1)<n - i;omega
      ·dsimp only;rw [hsl];exact ⟨rfl,rfl,rfl,rfl,rfl,rfl,trivial⟩
      dsimp only;rw [hsl,hset]
     have h39: ¬ q13 y.x x.x=0:=by simpa using h39
     refine jN 8 ?_
     refine WL.buildSlice q25 q29 rfl rfl rfl rfl jB rfl (fun b57=>?_)
     refine jN 1 ?_
     refine WL.appendE (news:=q3 x) q30 rfl rfl rfl jR (fun w hS jj u hu9=>by rw [Nat.zero_add];exact hS.cell (cs:=q3 x) jM hu9) rfl (q28 x) (Nat.le_trans (m:=20000) (by omega) (by decide)) (by omega) (fun a9 c9=>?_)
     refine jN 11 ?_
     refine WQ.chunks (C':=[pt b5 [(.func (.func q11) [].toArray [].toArray)] q20,jW g n xc q1 q2 (S.flatMap q3),rowc (.slice a9 (((P++[y])).length+1) c9) (((P++[y])).length+1) q1 q2 (((P++[y])).flatMap q3++q3 x),dsC Fp ds]) (fun w hS=>(jK hS)) ?_
     refine WQ.back (⟨i+1,(P++[y])++[x],a9,c9,Fp,ds⟩:q21) ?_ ?_ ?_ ?_
     ·exact ⟨hlt,by (show ((P++[y])++[x]).map q22=((S.take (i+1)).map q22).foldl _ []);rw [List.map_take] at ho ⊢;rw [fold_snoc (map_snoc6 hx),← ho,List.map_append,List.map_append,List.map_singleton,List.map_singleton,jstep_F (by rw [eqv_zero (q17.on (fun a:q23×(Cf→Bool)=>a.1))];exact decide_eq_false h39)],hJ.snoc (hSm x hxm) (hr.d x (hSm x hxm)).1⟩
     ·show n - (i+1)<n - i;omega
     ·simp only [List.length_append,List.length_cons,List.length_nil];exact ⟨rfl,rfl,rfl,rfl,rfl,rfl,trivial⟩
     simp only [List.length_append,List.length_cons,List.length_nil,List.flatMap_append,List.flatMap_cons,List.flatMap_nil,List.append_nil]<;>rfl
    refine (show WD _ _ _ _ _ _ _ _ _ _ _ _ from ?_) hcl
    exfalso;simp at g30<;>omega
   have hie:i=n:=by simp at h22;omega
   subst hie
   refine jN 14 ?_
   refine WQ.ret (rs:=[.tmp 6]) rfl (.tmp rfl .nil) (fun w hS=>⟨⟨0,o,a,c,Fp,ds⟩,?_,hJ,rfl,(jK hS)⟩)
   show o.map q22=joiN (ltC q13) (l.map q22)
   rw [ho,← hSl,List.take_length]
   unfold joiN
   rw [jadj_fold]
   congr 1
   rw [hS9,isort_map (lt2:=(fun a b:q23×(Cf→Bool)=>ltC q13 a.1 b.1)) (f:=q22) (fun _ _=>rfl),List.filter_map]
   congr 2
   refine List.filter_congr fun t ht=>?_
   show (!((canon t.d).2==0))=neF t.d.ev
   rw [neF_of (hr.d t ht).1]):G:=h
set_option maxRecDepth 100000 in
set_option maxHeartbeats 1000000 in
theorem joinedT1_c (l:List TkV) (a:Option Addr) (c:Nat) (hpos:0<l.length) (hl:l.length≤10000) (w:World) (hr:TsR w l a):Calls Tryz.prog 51 [.slice a l.length c,(.func (.func 33) [].toArray [].toArray),(.func (.func 52) [].toArray [].toArray)].toArray w fun e w'=>∃ m:JoTV,m.o.map kvT=joiN (ltC cmpT) (l.map kvT)∧JoTG l m.o m.ds∧e= .returned (.slice m.a m.o.length m.c)∧St w [] [rowc (.slice m.a m.o.length m.c) m.o.length 89 7 (m.o.flatMap tkC),dsC m.F m.ds] w':=by
 let q1:Nat:=89
 let q2:Nat:=7
 let q3:=tkC
 have q4:= @F.fun89
 have q5:= @CloneT_c
 let q6:=emT
 have q7:= @F.fun88
 have q8:= @row_O1T
 have q9:= @row_O2T
 have q10:= @delT_c
 let q11:Nat:=52
 let q12:=TkV
 let q13:=cmpT
 have q14:= @F.fun91
 have q15:= @sstT_c
 let q16:Nat:=33
 have q17:= @cmpT_3
 have q18:= @F.fun33
 have q19:= @cmpTok_c
 let q20:Nat:=102
 let q21:=JoTV
 let q22:=kvT
 let q23:=ItV
 let q24:=JoTG
 have q25:= @F.sl30
 have q26:= @F.agg89
 have q27:= @F.zero89
 have q28:= @tkC_one
 have q29:= @F.ez30
 have q30:= @F.el30
 have q31:= @F.one102
 let q32:Nat:=5
 have q33:= @F.fun52
 have q34:= @Mg1_c
 have qO:∀ x,∀ u∈tkC x,u.oneCell'=true:=fun x=>jO
 exact joinedK1_c_s
theorem joinedT_c (l:List TkV) (a:Option Addr) (c:Nat) (hl:l.length≤10000) (w:World) (hr:TsR w l a):
  Calls Tryz.prog 51 [.slice a l.length c,(.func (.func 33) [].toArray [].toArray),(.func (.func 52) [].toArray [].toArray)].toArray w fun e w'=>∃ m:JoTV,m.o.map kvT=joiN (ltC cmpT) (l.map kvT)∧JoTG l m.o m.ds∧e= .returned (.slice m.a m.o.length m.c)∧St w [] [rowc (.slice m.a m.o.length m.c) m.o.length 89 7 (m.o.flatMap tkC),dsC m.F m.ds] w':=by
 cases l with
 | cons x r=>exact joinedT1_c (x::r) a c (by simp) hl w hr
 | nil=>exact (joinedT0_c a c w).mono fun e w2 ⟨h1,h2⟩=>⟨⟨0,[],none,0,[],[]⟩,rfl,⟨by simp,by simp⟩,h1,St.rowNil (St.dsNil h2) 89 7⟩
abbrev kvD (t:DgV):NoV×(Cf→Bool):=(t.x,t.d.ev)
structure JoDV where
 i:Nat
 o:List DgV
 a:Option Addr
 c:Nat
 F:List Nat
 ds:List DV
structure JoDG (l o:List DgV) (ds:List DV):Prop where
 d:∀ t∈o,t.d.ok 0∧((t.d,t.da,t.dc)∈ds∨∃ s∈l,((t.d,t.da,t.dc):DV)=(s.d,s.da,s.dc))
 x:∀ t∈o,∃ s∈l,t.x=s.x
theorem JoDG.snoc {l o:List DgV} {ds:List DV} {x:DgV} (h:JoDG l o ds) (hx:x∈l) (ho:x.d.ok 0):JoDG l (o++[x]) ds:=by
 refine ⟨fun t ht=>?_,fun t ht=>?_⟩
 ·rcases List.mem_append.1 ht with ht | ht
  ·exact h.d t ht
  rw [List.mem_singleton.1 ht];exact ⟨ho,.inr ⟨x,hx,rfl⟩⟩
 rcases List.mem_append.1 ht with ht | ht
 ·exact h.x t ht
 rw [List.mem_singleton.1 ht];exact ⟨x,hx,rfl⟩
theorem JoDG.join {l P:List DgV} {ds:List DV} {y:DgV} (h:JoDG l (P++[y]) ds) {z:DV} (hz:z.1.ok 0):JoDG l (P++[⟨y.x,z.1,z.2.1,z.2.2⟩]) (ds++[z]):=by
 refine ⟨fun t ht=>?_,fun t ht=>?_⟩
 ·rcases List.mem_append.1 ht with ht | ht
  ·obtain ⟨h1,h2⟩:=h.d t (List.mem_append_left _ ht)
   exact ⟨h1,h2.imp (List.mem_append_left _) id⟩
  rw [List.mem_singleton.1 ht];exact ⟨hz,.inl (List.mem_append_right _ (by simp))⟩
 rcases List.mem_append.1 ht with ht | ht
 ·exact h.x t (List.mem_append_left _ ht)
 rw [List.mem_singleton.1 ht];exact h.x y (by simp)
set_option maxRecDepth 100000 in
set_option maxHeartbeats 1000000 in
theorem joinedD1_c (l:List DgV) (a:Option Addr) (c:Nat) (hpos:0<l.length) (hl:l.length≤10000) (w:World) (hr:DsR w l a):Calls Tryz.prog 53 [.slice a l.length c,(.func (.func 36) [].toArray [].toArray),(.func (.func 54) [].toArray [].toArray)].toArray w fun e w'=>∃ m:JoDV,m.o.map kvD=joiN (ltC cmpD) (l.map kvD)∧JoDG l m.o m.ds∧e= .returned (.slice m.a m.o.length m.c)∧St w [] [rowc (.slice m.a m.o.length m.c) m.o.length 95 6 (m.o.flatMap dgC),dsC m.F m.ds] w':=by
 let q1:Nat:=95
 let q2:Nat:=6
 let q3:=dgC
 have q4:= @F.fun93
 have q5:= @CloneD_c
 let q6:=emD
 have q7:= @F.fun92
 have q8:= @row_O1D
 have q9:= @row_O2D
 have q10:= @delD_c
 let q11:Nat:=54
 let q12:=DgV
 let q13:=cmpD
 have q14:= @F.fun95
 have q15:= @sstD_c
 let q16:Nat:=36
 have q17:= @cmpD_3
 have q18:= @F.fun36
 have q19:= @cmpDia_c
 let q20:Nat:=106
 let q21:=JoDV
 let q22:=kvD
 let q23:=NoV
 let q24:=JoDG
 have q25:= @F.sl31
 have q26:= @F.agg95
 have q27:= @F.zero95
 have q28:= @dgC_one
 have q29:= @F.ez31
 have q30:= @F.el31
 have q31:= @F.one106
 let q32:Nat:=4
 have q33:= @F.fun54
 have q34:= @Mg2_c
 have qO:∀ x,∀ u∈dgC x,u.oneCell'=true:=fun x=>jO
 exact joinedK1_c_s
theorem joinedD_c (l:List DgV) (a:Option Addr) (c:Nat) (hl:l.length≤10000) (w:World) (hr:DsR w l a):
  Calls Tryz.prog 53 [.slice a l.length c,(.func (.func 36) [].toArray [].toArray),(.func (.func 54) [].toArray [].toArray)].toArray w fun e w'=>∃ m:JoDV,m.o.map kvD=joiN (ltC cmpD) (l.map kvD)∧JoDG l m.o m.ds∧e= .returned (.slice m.a m.o.length m.c)∧St w [] [rowc (.slice m.a m.o.length m.c) m.o.length 95 6 (m.o.flatMap dgC),dsC m.F m.ds] w':=by
 cases l with
 | cons x r=>exact joinedD1_c (x::r) a c (by simp) hl w hr
 | nil=>exact (joinedD0_c a c w).mono fun e w2 ⟨h1,h2⟩=>⟨⟨0,[],none,0,[],[]⟩,rfl,⟨by simp,by simp⟩,h1,St.rowNil (St.dsNil h2) 95 6⟩
theorem condOf {P:(Cf→Bool)→Cf→Bool} {t:BT} {a:Option Addr} {c:Nat} {w w':World} {e:Ending} (h:DPost (fun cf=>P t.ev cf) w e w'):∃ z:CdR P t a c,e= .returned (dvv z.1.1)∧St w [] [dsC z.1.2.1 z.1.2.2] w':=by
 obtain ⟨z,h1,h2⟩:=h
 obtain ⟨F9,hF9⟩:=St.dsSnoc z.2.1 (St.dsNil h2)
 exact ⟨⟨(z.1,F9,[]++[(z.1.1,z.1.2.1,z.1.2.2)]),.inl (by simp),z.2.1,z.2.2⟩,h1,hF9⟩
set_option maxRecDepth 100000 in
theorem Restrict_c (l:List TkV) (g:List DgV) (la ga:Option Addr) (lc gc:Nat) (hl:l.length≤10000) (hg:g.length≤10000) (dt:BT) (da:Option Addr) (dc:Nat) (w:World) (h1:TsR w l la) (h2:DsR w g ga) (hd:RdD w dt da):
  Calls Tryz.prog 11 [.agg [.slice la l.length lc,.slice ga g.length gc].toArray,dval dt da dc].toArray w fun e w'=>∃ m:OwV,OwG (ownA l g) (resT (fun f cf=>dt.ev cf&&f cf) (l.map hdT)) (resT (fun f cf=>dt.ev cf&&f cf) (g.map hdD)) m∧e= .returned (.agg (owA m).toArray)∧St w [] [owT m,owD m,dsC m.F m.ds,pthC m.Q m.ps] w':=by
 refine enter Tryz.func11 rfl Tryz.ntmps11 rfl (St.init _) ?_
 refine jN 3 ?_
 refine WL.boxN rfl rfl (fun b2=>?_)
 refine jN 1 ?_
 refine WL.boxN rfl rfl (fun b3=>?_)
 refine jN 1 ?_
 refine WL.alloc F.zero33 rfl (fun b4=>?_)
 refine jN 11 ?_
 refine WL.call0 (β:={m:OwV // OwG (ownA l g) (resT (fun f cf=>dt.ev cf&&f cf) (l.map hdT)) (resT (fun f cf=>dt.ev cf&&f cf) (g.map hdD)) m}) (res:=fun m=> .returned (.agg (owA m.1).toArray)) (cs:=fun m=>[owT m.1,owD m.1,dsC m.1.F m.1.ds,pthC m.1.Q m.1.ps]) (ψ:=fun _=>True) F.fun42 (fun d h=>by cases h;rfl) rfl (fun w2 hS=>(own_c l g la ga lc gc hl hg (43) ([dval dt da dc]) ([]) (fun f cf=>dt.ev cf&&f cf) F.fun43 w2 (fun C w4 hS4 t a c ht=>(And_c dt t da a dc c w4 ((hd.next0 hS).next0 hS4) ht).mono (fun e w5 h=>condOf h)) (h1.next hS) (h2.next hS)).mono (fun e w3 ⟨x,q1,q2,q3⟩=>⟨⟨x,q1⟩,trivial,q2,q3⟩)) (fun m _=>After_ret ?_)
 refine jN 5 ?_
 refine WQ.ret (rs:=[.cell 4 33]) rfl (.cellN F.agg33 rfl jM rfl .nil) (fun w2 hS=>⟨m.1,m.2,rfl,(jK hS)⟩)
set_option maxRecDepth 100000 in
theorem Project1_c (t:BT) (a:Option Addr) (c n b:Nat) (hn:n<4294967296) (w:World) (hb:w.cell? ⟨b,0,none⟩=some (.int .u32 (n:Int))) (ht:RdD w t a):
  Calls Tryz.prog 49 [dval t a c,pp b].toArray w (DPost (fun _=>t.ev (cfg n)) w):=by
 refine enter Tryz.func49 rfl Tryz.ntmps49 rfl (St.init _) ?_
 refine jN 3 ?_
 refine WL.boxN rfl rfl (fun b2=>?_)
 refine jN 1 ?_
 refine WL.alloc F.zero50 rfl (fun b3=>?_)
 refine jN 8 ?_
 refine WL.load1 F.one24 rfl rfl (v:= .int .u32 (n:Int)) (fun w hS=>hS.oldc hb (by simp)) ?_
 refine jN 1 ?_
 refine WL.callV (v:= .bool (t.ev (cfg n))) F.fun50 rfl rfl (fun w hS=>Has_c t a c n hn w (ht.next0 hS)) ?_
 refine jN 2 ?_
 refine WC.cond rfl (fun h6=>?_) (fun h6=>?_)
 refine jN 3 ?_
 refine WL.call0 (β:=DRes (fun _=>true)) (res:=fun z=> .returned z.v) (cs:=fun z=>[z.ch]) (ψ:=fun _=>True) F.fun26 (fun d h=>by cases h;rfl) rfl (fun w hS=>(True_c w).mono (fun e w2 ⟨x,h1,h2⟩=>⟨x,trivial,h1,h2⟩)) (fun z _=>After_ret ?_)
 refine jN 6 ?_
 rotate_left
 refine jN 5 ?_
 refine WL.call0 (β:=DRes (fun _=>false)) (res:=fun z=> .returned z.v) (cs:=fun z=>[z.ch]) (ψ:=fun _=>True) F.fun44 (fun d h=>by cases h;rfl) rfl (fun w hS=>(False_c w).mono (fun e w2 ⟨x,h1,h2⟩=>⟨x,trivial,h1,h2⟩)) (fun z _=>After_ret ?_)
 refine jN 5 ?_
 rotate_left
 all_goals
  refine WQ.ret (rs:=[.cell 3 50]) rfl (.cellN F.agg50 rfl jM rfl .nil) (fun w hS=>⟨⟨z.1,z.2.1,fun cf=>by rw [h6];exact z.2.2 cf⟩,rfl,(jK hS)⟩)
set_option maxRecDepth 100000 in
theorem Project_c (l:List TkV) (g:List DgV) (la ga:Option Addr) (lc gc:Nat) (hl:l.length≤10000) (hg:g.length≤10000) (n:Nat) (hn:n<4294967296) (w:World) (h1:TsR w l la) (h2:DsR w g ga):
  Calls Tryz.prog 15 [.agg [.slice la l.length lc,.slice ga g.length gc].toArray,.int .u32 (n:Int)].toArray w fun e w'=>∃ m:OwV,OwG (ownA l g) (resT (fun f _=>f (cfg n)) (l.map hdT)) (resT (fun f _=>f (cfg n)) (g.map hdD)) m∧e= .returned (.agg (owA m).toArray)∧St w [] [owT m,owD m,dsC m.F m.ds,pthC m.Q m.ps] w':=by
 refine enter Tryz.func15 rfl Tryz.ntmps15 rfl (St.init _) ?_
 refine jN 3 ?_
 refine WL.boxN rfl rfl (fun b2=>?_)
 refine jN 1 ?_
 refine WL.box1 rfl rfl rfl (fun b3=>?_)
 refine jN 1 ?_
 refine WL.alloc F.zero33 rfl (fun b4=>?_)
 refine jN 9 ?_
 refine WL.call0 (β:={m:OwV // OwG (ownA l g) (resT (fun f _=>f (cfg n)) (l.map hdT)) (resT (fun f _=>f (cfg n)) (g.map hdD)) m}) (res:=fun m=> .returned (.agg (owA m.1).toArray)) (cs:=fun m=>[owT m.1,owD m.1,dsC m.1.F m.1.ds,pthC m.1.Q m.1.ps]) (ψ:=fun _=>True) F.fun42 (fun d h=>by cases h;rfl) rfl (fun w2 hS=>(own_c l g la ga lc gc hl hg (49) ([]) ([pp b3]) (fun f _=>f (cfg n)) F.fun49 w2 (fun C w4 hS4 t a c ht=>(Project1_c t a c n b3 hn w4 (hS4.oldc (hS.cell (cs:=[.int .u32 (n:Int)]) jM rfl) (by simp)) ht).mono (fun e w5 h=>condOf (P:=fun f _=>f (cfg n)) h)) (h1.next hS) (h2.next hS)).mono (fun e w3 ⟨x,q1,q2,q3⟩=>⟨⟨x,q1⟩,trivial,q2,q3⟩)) (fun m _=>After_ret ?_)
 refine jN 5 ?_
 refine WQ.ret (rs:=[.cell 4 33]) rfl (.cellN F.agg33 rfl jM rfl .nil) (fun w2 hS=>⟨m.1,m.2,rfl,(jK hS)⟩)
theorem Merge3_c (t:BT) (a:Option Addr) (c:Nat) (w:World) (ht:RdD w t a):
  Calls Tryz.prog 55 [dval t a c].toArray w fun e w'=>∃ z:CdR (fun f=>f) t a c,e= .returned (dvv z.1.1)∧St w [] [dsC z.1.2.1 z.1.2.2] w':=by
 refine enter Tryz.func55 rfl Tryz.ntmps55 rfl (St.init _) ?_
 refine jN 3 ?_
 refine WL.boxN rfl rfl (fun b1=>?_)
 refine jN 1 ?_
 refine WL.alloc F.zero50 rfl (fun b2=>?_)
 refine jN 11 ?_
 refine WQ.ret (rs:=[.cell 2 50]) rfl (.cellN F.agg50 rfl jM rfl .nil) (fun w hS=>⟨⟨((t,a,c),[],[]),.inr rfl,ht.1,fun _=>rfl⟩,rfl,(jK (St.dsNil hS))⟩)
abbrev atT (ms:List MdV) (i:Nat):List TkV:=(ms.take i).flatMap fun m=>m.ts
abbrev atD (ms:List MdV) (i:Nat):List DgV:=(ms.take i).flatMap fun m=>m.gs
theorem at_T {ms:List MdV} {i:Nat} {m:MdV} (h:ms[i]?=some m):atT ms (i+1)=atT ms i++m.ts:=by
 unfold atT
 rw [List.take_add_one,h,Option.toList_some,List.flatMap_append,List.flatMap_singleton]
theorem at_D {ms:List MdV} {i:Nat} {m:MdV} (h:ms[i]?=some m):atD ms (i+1)=atD ms i++m.gs:=by
 unfold atD
 rw [List.take_add_one,h,Option.toList_some,List.flatMap_append,List.flatMap_singleton]
theorem at_le {α β:Type} {f:α→List β} {l:List α} {i:Nat} {x:α} (h:l[i]?=some x):((l.take i).flatMap f).length+(f x).length≤(l.flatMap f).length:=by
 have e:l=l.take i++x::l.drop (i+1):=by
  obtain ⟨h1,h2⟩:=List.getElem?_eq_some_iff.1 h
  rw [← h2,← List.drop_eq_getElem_cons h1,List.take_append_drop]
 conv=>rhs;rw [e]
 rw [List.flatMap_append,List.flatMap_cons,List.length_append,List.length_append]
 omega
theorem at_le0 {α β:Type} {f:α→List β} {l:List α} {i:Nat}:((l.take i).flatMap f).length≤(l.flatMap f).length:=by
 conv=>rhs;rw [← List.take_append_drop i l]
 rw [List.flatMap_append,List.length_append]
 omega
theorem at_mem {α β:Type} {f:α→List β} {l:List α} {i:Nat} {z:β} (h:z∈(l.take i).flatMap f):∃ x∈l,z∈f x:=by
 obtain ⟨x,hx,hz⟩:=List.mem_flatMap.1 h
 exact ⟨x,List.mem_of_mem_take hx,hz⟩
theorem joiN_len {κ:Type} {lt:κ→κ→Bool} {l:List (κ×(Cf→Bool))}:(joiN lt l).length≤l.length:=by
 unfold joiN
 rw [jadj_fold]
 refine Nat.le_trans (jst_len _ _) ?_
 rw [List.length_nil,isort_len,Nat.zero_add]
 exact List.length_filter_le _ _
structure MgS where
 i:Nat
 ta:Option Addr
 tc:Nat
 ga:Option Addr
 gc:Nat
structure MsR (w:World) (ms:List MdV) (a:Option Addr):Prop where
 r:RdSl mdA 2 w ms a
 t:∀ m∈ms,TsR w m.ts m.ta
 g:∀ m∈ms,DsR w m.gs m.ga
theorem resT_map {κ ι:Type} {f:κ→ι} {l:List (κ×(Cf→Bool))} (h:∀ a∈l,neF a.2=true):resT (fun f=>f) (l.map fun a=>(f a.1,a.2))=l.map fun a=>(f a.1,a.2):=resT_id fun a ha=>by
 obtain ⟨b,hb,rfl⟩:=List.mem_map.1 ha
 exact h b hb
set_option maxRecDepth 100000 in
set_option maxHeartbeats 1000000 in
theorem Merge_c (ms:List MdV) (la:Option Addr) (lc:Nat) (hml:ms.length≤10000) (hT:(ms.flatMap fun m=>m.ts).length≤10000) (hG:(ms.flatMap fun m=>m.gs).length≤10000) (w:World) (h:MsR w ms la):
  Calls Tryz.prog 17 [.slice la ms.length lc].toArray w fun e w'=>∃ m:OwV,OwG (ownA (ms.flatMap fun m=>m.ts) (ms.flatMap fun m=>m.gs)) ((joiN (ltC cmpT) ((ms.flatMap fun m=>m.ts).map kvT)).map fun a=>(kI a.1,a.2)) ((joiN (ltC cmpD) ((ms.flatMap fun m=>m.gs).map kvD)).map fun a=>(kN a.1,a.2)) m∧e= .returned (.agg (owA m).toArray)∧St w [] [owT m,owD m,dsC m.F m.ds,pthC m.Q m.ps] w':=by
 refine enter Tryz.func17 rfl Tryz.ntmps17 rfl (St.init _) ?_
 refine jN 3 ?_
 refine WL.alloc F.zero33 rfl (fun b2=>?_)
 refine jN 5 ?_
 refine WL.alloc F.zero33 rfl (fun b3=>?_)
 refine jN 14 ?_
 refine WC.chunks (C':=[pt b2 [.slice none 0 0,.slice none 0 0] 33,pt b3 [.slice none 0 0,.slice none 0 0] 33,rowc (.slice none 0 0) 0 89 7 [],rowc (.slice none 0 0) 0 95 6 []]) (fun w hS=>(jK (St.rowNil (St.rowNil hS 95 6) 89 7))) ?_
 refine WC.loop (α:=MgS) (fun m=>m.i≤ms.length) (fun m=>[(2,pp b2),(3,pp b3),(6,.slice la ms.length lc),(7,.int .i64 (ms.length:Int)),(8,.int .i64 (m.i:Int))]) (fun m=>[pt b2 [.slice none 0 0,.slice none 0 0] 33,pt b3 [.slice m.ta (atT ms m.i).length m.tc,.slice m.ga (atD ms m.i).length m.gc] 33,rowc (.slice m.ta (atT ms m.i).length m.tc) (atT ms m.i).length 89 7 ((atT ms m.i).flatMap tkC),rowc (.slice m.ga (atD ms m.i).length m.gc) (atD ms m.i).length 95 6 ((atD ms m.i).flatMap dgC)]) (fun m=>ms.length - m.i) (⟨0,none,0,none,0⟩) ?_ ?_ ?_ ?_
 ·exact Nat.zero_le _
 ·exact ⟨rfl,rfl,rfl,rfl,rfl,trivial⟩
 ·rfl
 rintro ⟨i,ta,tc,ga,gc⟩ hi
 dsimp only at hi
 show WC _ _ _ _ _ _ _ [(2,pp b2),(3,pp b3),(6,.slice la ms.length lc),(7,.int .i64 (ms.length:Int)),(8,.int .i64 (i:Int))] [pt b2 [.slice none 0 0,.slice none 0 0] 33,pt b3 [.slice ta (atT ms i).length tc,.slice ga (atD ms i).length gc] 33,rowc (.slice ta (atT ms i).length tc) (atT ms i).length 89 7 ((atT ms i).flatMap tkC),rowc (.slice ga (atD ms i).length gc) (atD ms i).length 95 6 ((atD ms i).flatMap dgC)]
 refine jN 7 ?_
 refine WC.cond rfl (fun h9=>?_) (fun h9=>?_)
 ·have hlt:i<ms.length:=by simpa using h9
  obtain ⟨m,hm⟩:∃ y,ms[i]?=some y:=⟨_,List.getElem?_eq_getElem hlt⟩
  have hmm:=List.mem_of_getElem? hm
  obtain ⟨b,o,hla,hcx⟩:=h.r i m hm
  subst hla
  have hl1:(atT ms i).length+m.ts.length≤10000:=Nat.le_trans (at_le (f:=fun m:MdV=>m.ts) hm) hT
  have hl2:(atD ms i).length+m.gs.length≤10000:=Nat.le_trans (at_le (f:=fun m:MdV=>m.gs) hm) hG
  refine jN 7 ?_
  refine WL.indexAddr F.sl28 rfl rfl rfl hlt ?_
  refine jN 1 ?_
  refine WL.loadN F.agg33 rfl rfl (vs:=mdA m) rfl (fun w hS j v hv=>hS.oldc (hcx j v hv) (by simp)) ?_
  refine jN 1 ?_
  refine WL.alloc F.zero33 rfl (fun b5=>?_)
  refine jN 15 ?_
  refine WL.appendC (n:=(atT ms i).length) (news:=(m.ts).flatMap tkC) F.el30 rfl rfl rfl jR (fun w hS hm=>(by obtain ⟨bx,ox,e1,e2⟩:=RdSl.newsV (l:=m.ts) (cells:=tkC) (sz:=7) (fun _=>rfl) (h.t m hmm).r (fun h=>hm (by rw [h];rfl));exact ⟨bx,ox,e1,fun j u hu=>hS.oldc (e2 j u hu) (by simp)⟩)) (flat_len fun _ _=>rfl) (flat_one tkC_one) (Nat.le_trans (m:=1099511627776) (by omega) (by decide)) (by omega) (fun a2 c2=>?_)
  refine jN 16 ?_
  refine WL.appendC (n:=(atD ms i).length) (news:=(m.gs).flatMap dgC) F.el31 rfl rfl rfl jR (fun w hS hm=>(by obtain ⟨bx,ox,e1,e2⟩:=RdSl.newsV (l:=m.gs) (cells:=dgC) (sz:=6) (fun _=>rfl) (h.g m hmm).r (fun h=>hm (by rw [h];rfl));exact ⟨bx,ox,e1,fun j u hu=>hS.oldc (e2 j u hu) (by simp)⟩)) (flat_len fun _ _=>rfl) (flat_one dgC_one) (Nat.le_trans (m:=1099511627776) (by omega) (by decide)) (by omega) (fun a4 c4=>?_)
  refine jN 13 ?_
  refine WQ.chunks (C':=[pt b2 [.slice none 0 0,.slice none 0 0] 33,pt b3 [.slice a2 ((atT ms i).length+m.ts.length) c2,.slice a4 ((atD ms i).length+m.gs.length) c4] 33,rowc (.slice a2 ((atT ms i).length+m.ts.length) c2) ((atT ms i).length+m.ts.length) 89 7 ((atT ms i).flatMap tkC++m.ts.flatMap tkC),rowc (.slice a4 ((atD ms i).length+m.gs.length) c4) ((atD ms i).length+m.gs.length) 95 6 ((atD ms i).flatMap dgC++m.gs.flatMap dgC)]) (fun w hS=>(jK hS)) ?_
  refine WQ.back (⟨i+1,a2,c2,a4,c4⟩:MgS) ?_ ?_ ?_ ?_
  ·exact hlt
  ·show ms.length - (i+1)<ms.length - i;omega
  ·exact ⟨rfl,rfl,rfl,rfl,rfl,trivial⟩
  simp only [at_T hm,at_D hm,List.length_append,List.flatMap_append]
 have hie:i=ms.length:=by simp at h9;omega
 subst hie
 have hl1:(atT ms ms.length).length≤10000:=Nat.le_trans (at_le0 (f:=fun m:MdV=>m.ts) (l:=ms) (i:=ms.length)) hT
 have hl2:(atD ms ms.length).length≤10000:=Nat.le_trans (at_le0 (f:=fun m:MdV=>m.gs) (l:=ms) (i:=ms.length)) hG
 refine jN 12 ?_
 refine WL.call0 (β:=JoTV) (res:=fun m=> .returned (.slice m.a m.o.length m.c)) (cs:=fun m=>[rowc (.slice m.a m.o.length m.c) m.o.length 89 7 (m.o.flatMap tkC),dsC m.F m.ds]) (ψ:=fun m=>m.o.map kvT=joiN (ltC cmpT) ((atT ms ms.length).map kvT)∧JoTG (atT ms ms.length) m.o m.ds) F.fun51 (fun d h=>by cases h;rfl) rfl (fun w2 hS=>(joinedT_c (atT ms ms.length) ta tc (by omega) w2 ⟨RdSl.of_row (cells:=tkC) (fun _ _=>rfl) (fun h=>h) (Nat.le_refl _) (hS.ok (rowc (.slice ta ((atT ms ms.length)).length tc) ((atT ms ms.length)).length 89 7 (((atT ms ms.length)).flatMap tkC)) jM),fun t ht=>(by obtain ⟨m,hm,hz⟩:=at_mem ht;exact ⟨((h.t m hm).p t hz).1.next hS,((h.t m hm).p t hz).2⟩),fun t ht=>(by obtain ⟨m,hm,hz⟩:=at_mem ht;exact ((h.t m hm).d t hz).next0 hS)⟩).mono (fun e w3 ⟨x,q1,q2,q3,q4⟩=>⟨x,⟨q1,q2⟩,q3,q4⟩)) (fun x1 hx1=>After_ret ?_)
 refine jN 13 ?_
 refine WL.call0 (β:=JoDV) (res:=fun m=> .returned (.slice m.a m.o.length m.c)) (cs:=fun m=>[rowc (.slice m.a m.o.length m.c) m.o.length 95 6 (m.o.flatMap dgC),dsC m.F m.ds]) (ψ:=fun m=>m.o.map kvD=joiN (ltC cmpD) ((atD ms ms.length).map kvD)∧JoDG (atD ms ms.length) m.o m.ds) F.fun53 (fun d h=>by cases h;rfl) rfl (fun w2 hS=>(joinedD_c (atD ms ms.length) ga gc (by omega) w2 ⟨RdSl.of_row (cells:=dgC) (fun _ _=>rfl) (fun h=>h) (Nat.le_refl _) (hS.ok (rowc (.slice ga ((atD ms ms.length)).length gc) ((atD ms ms.length)).length 95 6 (((atD ms ms.length)).flatMap dgC)) jM),fun t ht=>(by obtain ⟨m,hm,hz⟩:=at_mem ht;exact ⟨((h.g m hm).p t hz).1.next hS,((h.g m hm).p t hz).2⟩),fun t ht=>(by obtain ⟨m,hm,hz⟩:=at_mem ht;exact ((h.g m hm).d t hz).next0 hS)⟩).mono (fun e w3 ⟨x,q1,q2,q3,q4⟩=>⟨x,⟨q1,q2⟩,q3,q4⟩)) (fun x2 hx2=>After_ret ?_)
 refine jN 11 ?_
 refine WL.call0 (β:=OwV) (res:=fun m=> .returned (.agg (owA m).toArray)) (cs:=fun m=>[owT m,owD m,dsC m.F m.ds,pthC m.Q m.ps]) (ψ:=fun m=>OwG (ownA x1.o x2.o) (resT (fun f=>f) (x1.o.map hdT)) (resT (fun f=>f) (x2.o.map hdD)) m) F.fun42 (fun d h=>by cases h;rfl) rfl (fun w2 hS=>(own_c x1.o x2.o x1.a x2.a x1.c x2.c (by have h9:=congrArg List.length hx1.1;rw [List.length_map] at h9;rw [h9];refine Nat.le_trans joiN_len ?_;rw [List.length_map];omega) (by have h9:=congrArg List.length hx2.1;rw [List.length_map] at h9;rw [h9];refine Nat.le_trans joiN_len ?_;rw [List.length_map];omega) 55 [] [] (fun f=>f) F.fun55 w2 (fun C w4 hS4 t a c ht=>Merge3_c t a c w4 ht) ⟨RdSl.of_row (cells:=tkC) (fun _ _=>rfl) (fun h=>h) (Nat.le_refl _) (hS.ok (rowc (.slice x1.a x1.o.length x1.c) x1.o.length 89 7 (x1.o.flatMap tkC)) jM),fun t ht=>(by obtain ⟨s,hs,e⟩:=hx1.2.x t ht;obtain ⟨m,hm,hz⟩:=at_mem hs;rw [e];exact ⟨((h.t m hm).p s hz).1.next hS,((h.t m hm).p s hz).2⟩),fun t ht=>(by rcases (hx1.2.d t ht).2 with h9 | ⟨s,hs,e⟩;exact dsC_rd (hS.ok (dsC x1.F x1.ds) jM) h9;obtain ⟨m,hm,hz⟩:=at_mem hs;simp only [Prod.mk.injEq] at e;rw [e.1,e.2.1];exact ((h.t m hm).d s hz).next0 hS)⟩ ⟨RdSl.of_row (cells:=dgC) (fun _ _=>rfl) (fun h=>h) (Nat.le_refl _) (hS.ok (rowc (.slice x2.a x2.o.length x2.c) x2.o.length 95 6 (x2.o.flatMap dgC)) jM),fun t ht=>(by obtain ⟨s,hs,e⟩:=hx2.2.x t ht;obtain ⟨m,hm,hz⟩:=at_mem hs;rw [e];exact ⟨((h.g m hm).p s hz).1.next hS,((h.g m hm).p s hz).2⟩),fun t ht=>(by rcases (hx2.2.d t ht).2 with h9 | ⟨s,hs,e⟩;exact dsC_rd (hS.ok (dsC x2.F x2.ds) jM) h9;obtain ⟨m,hm,hz⟩:=at_mem hs;simp only [Prod.mk.injEq] at e;rw [e.1,e.2.1];exact ((h.g m hm).d s hz).next0 hS)⟩).mono (fun e w3 ⟨x,q1,q2,q3⟩=>⟨x,q1,q2,q3⟩)) (fun m hm=>After_ret ?_)
 refine jN 5 ?_
 refine WQ.ret (rs:=[.cell 2 33]) rfl (.cellN F.agg33 rfl jM rfl .nil) (fun w hS=>⟨(⟨m.ts,m.ta,m.tc,m.gs,m.ga,m.gc,m.F++(x1.F++x2.F),m.ds++(x1.ds++x2.ds),m.Q,m.ps⟩:OwV),?_,rfl,?_⟩)
 ·have e1:x1.o.map hdT=(joiN (ltC cmpT) ((atT ms ms.length).map kvT)).map fun a=>(kI a.1,a.2):=by rw [← hx1.1,List.map_map];rfl
  have e2:x2.o.map hdD=(joiN (ltC cmpD) ((atD ms ms.length).map kvD)).map fun a=>(kN a.1,a.2):=by rw [← hx2.1,List.map_map];rfl
  have t1:=hm.t
  have t2:=hm.g
  rw [e1,resT_map (joiN_ne cmpT_3.swo)] at t1
  rw [e2,resT_map (joiN_ne cmpD_3.swo)] at t2
  have hAll:∀ z∈ownA x1.o x2.o,z∈x1.ds++x2.ds∨z∈ownA (ms.flatMap fun m=>m.ts) (ms.flatMap fun m=>m.gs):=by
   intro z hz
   rcases List.mem_append.1 hz with hz | hz
   ·obtain ⟨t,ht,rfl⟩:=List.mem_map.1 hz
    rcases (hx1.2.d t ht).2 with h9 | ⟨s,hs,e⟩
    ·exact .inl (List.mem_append_left _ h9)
    ·right;rw [e];unfold atT at hs;rw [List.take_length] at hs;exact ownA_T hs
   ·obtain ⟨t,ht,rfl⟩:=List.mem_map.1 hz
    rcases (hx2.2.d t ht).2 with h9 | ⟨s,hs,e⟩
    ·exact .inl (List.mem_append_right _ h9)
    ·right;rw [e];unfold atD at hs;rw [List.take_length] at hs;exact ownA_D hs
  have hUp:∀ z:DV,(z∈m.ds∨z∈ownA x1.o x2.o)→(z∈m.ds++(x1.ds++x2.ds)∨z∈ownA (ms.flatMap fun m=>m.ts) (ms.flatMap fun m=>m.gs)):=fun z hz=>hz.elim (fun h=> .inl (List.mem_append_left _ h)) fun h=>(hAll z h).imp (List.mem_append_right _) id
  unfold atT at t1
  unfold atD at t2
  rw [List.take_length] at t1 t2
  exact ⟨t1,t2,fun t ht=>⟨(hm.td t ht).1,hUp _ (hm.td t ht).2⟩,fun t ht=>⟨(hm.gd t ht).1,hUp _ (hm.gd t ht).2⟩,hm.tp,hm.gp⟩
 have h9:=St.dsApp ((St.pick (St.pick hS (c:=dsC x2.F x2.ds) jR) (c:=dsC x1.F x1.ds) jR))
 have h8:=St.dsApp ((St.pick (St.pick h9 (c:=dsC (x1.F++x2.F) (x1.ds++x2.ds)) jR) (c:=dsC m.F m.ds) jR))
 exact (jK h8)
end Go.Proofs.YtedbajbgnmaakaaGreatDoor
namespace Go.Eng
open Go Go.RowKit
section
variable {P : Program} {w0 : World} {O : List Nat} {ops : Array Oper} {Q : Exit → Act → World → Prop} {N : Nat} {D : List Deferred} {L : FL} {C : List Chunk} {K : Act → World → Prop}
variable {d : Nat} {ty : TypeId} {pos : String} {af : Array Edge}
def fldTB (P:Program) (t:TypeId) (f:Nat):Option (TypeId×Nat):=match P.underlying t with
 | some (.struct fields)=>(fields[f]?).map fun fd=>(fd.type,fd.offset)
 | _=>none
theorem fldTB_some {t ft:TypeId} {f off:Nat} (h:fldTB P t f=some (ft,off)):∃ (fields:Array Field) (fd:Field),P.underlying t=some (.struct fields)∧fields[f]?=some fd∧fd.type=ft∧fd.offset=off:=by
 unfold fldTB at h
 split at h
 ·rename_i fields hu
  cases hq:fields[f]? with
  | none=>rw [hq] at h;cases h
  | some fd=>
   rw [hq] at h
   simp only [Option.map_some,Option.some.injEq,Prod.mk.injEq] at h
   exact ⟨fields,fd,hu,hq,h.1,h.2⟩
 cases h
end
open Go Go.RowKit
section
variable {P : Program} {w0 : World} {O : List Nat} {ops : Array Oper} {Q : Exit → Act → World → Prop} {N : Nat} {D : List Deferred} {L : FL} {C : List Chunk} {K : Act → World → Prop}
variable {d : Nat} {ty : TypeId} {pos : String} {af : Array Edge}
theorem WL.copyRow {x y:Operand} {dT sT elem:TypeId} {sz n cap:Nat} {g o dLen dCap sLen sCap b2 so m:Nat} {xs xs' vs:List Value} {e:TypeId} {C':List Chunk} (hu:P.underlying dT=some (.slice elem)) (hs:sizeB P elem=some sz) (hd:Nat.blt d N=true)
  (hx:ev L x=some (.slice (some ⟨g,o,none⟩) dLen dCap)) (hy:ev L y=some (.slice (some ⟨b2,so,none⟩) sLen sCap)) (hm:Nat.min sLen dLen=m) (hn:vs.length=m*sz)
  (hsrc:∀ w,St w0 O C w→∀ j v,vs[j]?=some v→w.cell? ⟨b2,so+j,none⟩=some v) (h1:∀ v∈vs,v.oneCell'=true)
  (hup:Upd (jW g n cap e sz xs) (jW g n cap e sz xs') C C') (hset:SetN xs o vs xs')
  (h:WA w0 O K N D ((d,.int .i64 (m:Int))::L) C'):
  WK P w0 O ops Q ⟨some d,.call {callee:= .builtin .copy,args:=#[x,y],argTypes:=#[dT,sT]},ty,pos,af,none⟩ K N D L C:=fun a w hF hS=>by
 obtain ⟨hlen,hr⟩:=(show w.ownsRow 0 e sz (.slice (some ⟨g,0,none⟩) n cap) n xs from hS.ok _ hup.mem)
 rcases hr with ⟨h1',_⟩ | ⟨g',cap',cur,h1',_,hh,hnc,hcm,hcs,htk⟩
 ·cases h1'
 ·injection h1' with h1' h2 h3
  injection h1' with h1'
  injection h1' with h1'
  subst h1';subst h3
  have hsplit:cur.toList=xs++cur.toList.drop (n*sz):=by rw [← htk,List.take_append_drop]
  have hn':SetN cur.toList o vs (xs'++cur.toList.drop (n*sz)):=by
   have:=hset.append (cur.toList.drop (n*sz))
   rw [← hsplit] at this
   exact this
  obtain ⟨e1,e2⟩:=hn'.eq
  have hh':w.heap[g]?=some (.cells cur.toList.toArray e (0,0)):=by rw [Array.toArray_toList];exact hh
  have hst:=run_storeCells_at P g o e vs 0 cur w hh (by simpa using e2) h1
  simp only [Nat.add_zero] at hst
  rw [e1] at hst
  have hld:=run_loadCells_list (P:=P) w ⟨b2,so,none⟩ vs (fun j v hj=>by rw [add_blk];exact hsrc w hS j v hj)
  have hxl:xs'.length=xs.length:=hset.len
  have hSt:St w0 O C' (w.setRow g (xs'++cur.toList.drop (n*sz)).toArray):=by
   refine hS.rowUpd (b:=g) hup (fun k=>?_) (fun k=>?_) ?_
   ·constructor
    ·intro hk;exact (Option.some.inj hk).symm
    ·intro hk;rw [hk];rfl
   ·constructor
    ·intro hk;exact (Option.some.inj hk).symm
    ·intro hk;rw [hk];rfl
   ·refine ⟨by rw [hxl,hlen],.inr ⟨g,cap,(xs'++cur.toList.drop (n*sz)).toArray,rfl,Nat.zero_le _,setRow_heap w g _ _ e _ hh',hnc,hcm,?_,?_⟩⟩
    ·have:=congrArg List.length hsplit
     simp at this ⊢
     omega
    ·have e2:xs'.length=n*sz:=by rw [hxl,hlen]
     show (xs'++cur.toList.drop (n*sz)).take (n*sz)=xs'
     rw [List.take_left' e2]
  refine wpo_val (w':=w.setRow g (xs'++cur.toList.drop (n*sz)).toArray) (v:= .int .i64 (m:Int)) rfl ?_ (h _ _ (hF.put d _ hd) hSt)
  cases hq:P.info? elem with
  | none=>simp [sizeB,hq] at hs
  | some i=>
   have hi:i.size=sz:=by simpa [sizeB,hq] using hs
   rw [hn] at hld
   simp [execOp,resolve,invoke,builtin,hF.ev hx,hF.ev hy,Builtin.copy_,run_underlying hu,Builtin.lenOf,Builtin.firstCells,sizeOf,typeInfo,hq,hi,hm,hld,hst]
   try rfl
theorem Yl.sliceSlE {F:World→Prop} {t e:TypeId} {sz:Nat} {x y:Operand} {b off len cap m l c:Nat} {k:IntKind} (ht:SlT P t e sz) (hx:ev L x=some (.slice (some ⟨b,off,none⟩) len cap)) (hy:ev L y=some (.int k m)) (hm:m≤len) (hl:len - m=l) (hc:cap - m=c):
  Yl P N D L F ⟨some d,.slice t x (some y) none none,ty,pos,af,none⟩ (.slice (some ⟨b,if cap=m then off else off+m*sz,none⟩) l c):=fun a w hF _=>by
 subst hl;subst hc
 have h2:=run_bound (P:=P) (w:=w) (k:=k) (i:=m) (y:=len) (code:= .sliceB) hm
 by_cases h3:cap=m
 ·simp [execOp,Instr.sliceAt,Instr.slice,Instr.sliceBounds,hF.ev hx,hF.ev hy,run_underlying ht.und,h2,run_sizeOf ht.size,h3,add_blk]
 ·simp [execOp,Instr.sliceAt,Instr.slice,Instr.sliceBounds,hF.ev hx,hF.ev hy,run_underlying ht.und,h2,run_sizeOf ht.size,h3,add_blk]
end
end Go.Eng
namespace Go.Proofs.YtedbajbgnmaakaaGreatDoor
open Go Go.Eng Go.Proofs Dg
theorem run_quoK2 {n:Nat} (hn:n<9223372036854775808) (t:TypeId) (x y:Operand) (w:World):(do eqGuard .quo t x y (.int .i64 (n:Int)) (.int .i64 2);binOp .quo t (.int .i64 (n:Int)) (.int .i64 2):Sem Value).run Tryz.prog w= .ok (.int .i64 ((n / 2:Nat):Int)) w:=by
 have h1:(n:Int).tdiv 2=(n:Int) / 2:=Int.tdiv_eq_ediv_of_nonneg (Int.natCast_nonneg _)
 have h2:IntKind.i64.wrap ((n:Int) / 2)=(n:Int) / 2:=by
  unfold IntKind.wrap
  simp [IntKind.signed,IntKind.bits]
  omega
 simp [eqGuard,binOp,Op.intDiv,h1,h2]
theorem rtC_one (x:RtV):∀ u∈rtC x,u.oneCell'=true:=by intro u hu;simp [rtC] at hu;rcases hu with h | h | h | h | h | h<;>subst h<;>rfl
theorem rgC_one (x:RgV):∀ u∈rgC x,u.oneCell'=true:=by intro u hu;simp [rgC] at hu;rcases hu with h | h | h | h | h<;>subst h<;>rfl
theorem setN_copy {α:Type} {cells:α→List Value} {sz lo o:Nat} {l:List α} {z:α} (hc:∀ x,(cells x).length=sz) (hlo:lo≤l.length) (ho:o=0+(lo+1)*sz∨(o=0∧lo=l.length)):SetN ((l++[z]).flatMap cells) o ((l.drop lo).flatMap cells) (((l++[z]).take (lo+1)++l.drop lo).flatMap cells):=by
 rcases ho with ho | ⟨ho,he⟩
 ·subst ho
  have hl1:((l++[z]).flatMap cells).length=(l.length+1)*sz:=by rw [flat_len (fun x _=>hc x),List.length_append,List.length_singleton]
  have h9:=setN_tail (xs:=(l++[z]).flatMap cells) (off:=0+(lo+1)*sz) (vs:=(l.drop lo).flatMap cells) (by
   rw [hl1,flat_len (fun x _=>hc x),List.length_drop,Nat.zero_add,← Nat.add_mul]
   congr 1
   omega)
  have e:((l++[z]).flatMap cells).take (0+(lo+1)*sz)=((l++[z]).take (lo+1)).flatMap cells:=by
   have h8:=take_flatZ (cells:=cells) (sz:=sz) (i:=lo+1) (R:=l++[z]) (Z:=[]) hc (by simp;omega)
   rw [List.append_nil,Nat.zero_add,List.take_take,Nat.min_self] at h8
   rw [Nat.zero_add]
   exact h8
  rw [e,← List.flatMap_append] at h9
  exact h9
 subst ho;subst he
 rw [List.drop_length,List.append_nil,List.take_of_length_le (by simp),List.flatMap_nil]
 exact SetN.done
theorem drop_cells {α:Type} {cells:α→List Value} {sz lo j:Nat} {l:List α} {z:α} {v:Value} (hc:∀ x,(cells x).length=sz) (hlo:lo≤l.length) (h:((l.drop lo).flatMap cells)[j]?=some v):((l++[z]).flatMap cells)[lo*sz+j]?=some v:=by
 have e:l++[z]=l.take lo++(l.drop lo++[z]):=by rw [← List.append_assoc,List.take_append_drop]
 have hl:((l.take lo).flatMap cells).length=lo*sz:=by rw [flat_len (fun x _=>hc x),List.length_take,Nat.min_eq_left hlo]
 rw [e,List.flatMap_append,List.getElem?_append_right (by omega),hl,Nat.add_sub_cancel_left,List.flatMap_append]
 rw [List.getElem?_append_left (List.getElem?_eq_some_iff.1 h).1]
 exact h
theorem put_set {α:Type} {lo:Nat} {l:List α} {x z:α} (hlo:lo≤l.length):((l++[z]).take (lo+1)++l.drop lo).set lo x=l.take lo++x::l.drop lo:=by
 have e:∃ y,(l++[z]).take (lo+1)=l.take lo++[y]:=by
  rw [List.take_add_one]
  refine ⟨(l++[z])[lo]'(by simp;omega),?_⟩
  rw [List.getElem?_eq_getElem (by simp;omega),Option.toList_some,List.take_append_of_le_length hlo]
 obtain ⟨y,e⟩:=e
 have hl:(l.take lo).length=lo:=by rw [List.length_take,Nat.min_eq_left hlo]
 rw [e,List.append_assoc,List.set_append_right _ _ (by omega),hl,Nat.sub_self,List.singleton_append,List.set_cons_zero]
structure PuTV where
 o:List RtV
 a:Option Addr
 c:Nat
 G:List Nat
 cs:List (List Nat×Option Addr)
structure PuTE (w:World) (t:RtV):Prop where
 k:t.x.k<256
 p:RdC w t.x.p t.x.pa∧t.x.p.length≤1000000000
 d:RdN w t.c t.ca∧t.c.length≤4294967296
abbrev PuTR (w0:World) (O:List Nat) (l:List RtV):Prop:=∀ (C:List Chunk) (w:World),St w0 O C w→∀ t∈l,PuTE w t
structure PuTG (l o:List RtV) (cs:List (List Nat×Option Addr)):Prop where
 d:∀ t∈o,(t.c,t.ca)∈cs∨∃ s∈l,((t.c,t.ca):List Nat×Option Addr)=(s.c,s.ca)
 x:∀ t∈o,∃ s∈l,t.x=s.x
set_option maxRecDepth 100000 in
set_option maxHeartbeats 1000000 in
theorem put_c (l:List RtV) (la:Option Addr) (lc:Nat) (x:RtV) (hl:l.length≤10000) (hs:SrC ordR (l.map hdR)) (w:World) (h:PuTR w (ob (.slice la l.length lc)) (x::l)) (hS0:St w (ob (.slice la l.length lc)) [rowc (.slice la l.length lc) l.length 93 6 (l.flatMap rtC)] w):
  Calls Tryz.prog 56 [.slice la l.length lc,.agg (rtC x).toArray].toArray w fun e w'=>∃ m:PuTV,m.o.map hdR=putN (ltC ordR) (hdR x) (l.map hdR)∧PuTG (x::l) m.o m.cs∧e= .returned (.slice m.a m.o.length m.c)∧St w (ob (.slice la l.length lc)) [rowc (.slice m.a m.o.length m.c) m.o.length 93 6 (m.o.flatMap rtC),insC m.G m.cs] w':=by
 refine enter Tryz.func56 rfl Tryz.ntmps56 rfl (C:=[rowc (.slice la l.length lc) l.length 93 6 (l.flatMap rtC)]) hS0 ?_
 refine jN 3 ?_
 refine WL.boxN rfl rfl (fun b3=>?_)
 refine jN 17 ?_
 refine WC.cond rfl (fun h11=>?_) (fun h11=>?_)
 ·have hc0:x.c=[]:=List.eq_nil_of_length_eq_zero (by have h9:(x.c.length:Int)=0:=(by simpa using h11);omega)
  refine jN 10 ?_
  refine WQ.ret (rs:=[.tmp 4]) rfl (.tmp rfl .nil) (fun w hS=>⟨⟨l,la,lc,[],[]⟩,?_,⟨fun t ht=> .inr ⟨t,List.mem_cons_of_mem _ ht,rfl⟩,fun t ht=>⟨t,List.mem_cons_of_mem _ ht,rfl⟩⟩,rfl,(jK (St.insNil hS))⟩)
  show l.map hdR=putN _ (hdR x) _
  unfold putN
  rw [if_pos (show (hdR x).2=[] from hc0)]
 have hc0: ¬ x.c=[]:=by intro e;rw [e] at h11;simp at h11
 refine jN 16 ?_
 refine WC.loop (α:=Nat×Nat) (fun z=>z.1≤z.2∧z.2≤l.length∧(∀ q∈(l.map hdR).take z.1,ordR q.1 x.x<0)∧∀ q∈(l.map hdR).drop z.2,¬ ordR q.1 x.x<0) (fun z=>[(0,.slice la l.length lc),(3,pp b3),(5,.int .i64 (z.1:Int)),(6,.int .i64 (z.2:Int))]) (fun _=>[pt b3 (rtC x) 93,rowc (.slice la l.length lc) l.length 93 6 (l.flatMap rtC)]) (fun z=>z.2 - z.1) ((0,l.length)) ?_ ?_ ?_ ?_
 ·exact ⟨Nat.zero_le _,Nat.le_refl _,by simp,by rw [List.drop_eq_nil_of_le (by rw [List.length_map];omega)];simp⟩
 ·exact ⟨rfl,rfl,rfl,rfl,trivial⟩
 ·rfl
 rintro ⟨lo,hi⟩ ⟨hlh,hhl,hA,hH⟩
 dsimp only at hlh hhl hA hH
 show WC _ _ _ _ _ _ _ [(0,.slice la l.length lc),(3,pp b3),(5,.int .i64 (lo:Int)),(6,.int .i64 (hi:Int))] [pt b3 (rtC x) 93,rowc (.slice la l.length lc) l.length 93 6 (l.flatMap rtC)]
 refine jN 11 ?_
 refine WC.cond rfl (fun h17=>?_) (fun h17=>?_)
 ·have hlt9:lo<hi:=by simpa using h17
  obtain ⟨md,hmd⟩:∃ md,md=(lo+hi) / 2:=⟨_,rfl⟩
  have hm1:lo≤md∧md<hi:=by omega
  obtain ⟨y,hy⟩:∃ z,l[md]?=some z:=⟨_,List.getElem?_eq_getElem (by omega)⟩
  have hym:=List.mem_of_getElem? hy
  refine WC.know (φ:=∃ g,la=some ⟨g,0,none⟩∧l.length=l.length∧l.length≤lc) (fun w hS=>rowc_addr (hS.ok (rowc (.slice la l.length lc) l.length 93 6 (l.flatMap rtC)) jM) (by omega)) (fun ⟨g,hg9,_,_⟩=>?_)
  subst hg9
  refine jN 10 ?_
  refine WL.bin (v:= .int .i64 ((lo+hi:Nat):Int)) rfl rfl rfl (fun w=>run_addN6 (by omega) (by omega) _ _ _ w) ?_
  refine jN 1 ?_
  refine WL.bin (v:= .int .i64 ((md:Nat):Int)) rfl rfl rfl (fun w=>by rw [hmd];exact run_quoK2 (by omega) _ _ _ w) ?_
  refine jN 5 ?_
  refine WC.drawsL (by kernel_rfl) (FactsOk.cons (ds:=[5]) (LoadOk.by (Y:=fun w=>∀ jj v,(rtC y)[jj]?=some v→w.cell? ⟨g,0+(md)*6+jj,none⟩=some v) (fun w hS=>(fun jj v hv=>by rw [Nat.zero_add];exact rowc_cells (hS.ok (jW g l.length lc 93 6 (l.flatMap rtC)) jM) (flat_at (cells:=rtC) (sz:=6) (fun _ _=>rfl) hy jj _ hv)))) (FactsOk.cons (ds:=[5]) (LoadOk.whole (t:=3) rfl jM) (FactsOk.nil))) ?_
  refine jQ [0,1] ?_
  refine jT 2 rfl (Yl.indexAddr F.sl34 rfl rfl (by omega)) ?_
  refine jF 3 0 rfl rfl (Yl.loadN F.agg93 rfl rfl) ?_
  refine jF 4 1 rfl rfl (Yl.loadN F.agg93 rfl rfl) ?_
  refine jA 5 rfl ?_
  refine WL.callV F.fun38 rfl rfl (fun w hS=>rOrder_c y x (h _ _ hS y (List.mem_cons_of_mem _ hym)).k (h _ _ hS x (by simp)).k (h _ _ hS y (List.mem_cons_of_mem _ hym)).p.2 (h _ _ hS x (by simp)).p.2 w (h _ _ hS y (List.mem_cons_of_mem _ hym)).p.1 (h _ _ hS x (by simp)).p.1) ?_
  refine jG ?_
  refine jQ [6] ?_
  refine jD ?_
  refine jN 1 ?_
  refine WC.cond rfl (fun h28=>?_) (fun h28=>?_)
  ·have h28:ordR y.x x.x<0:=by simpa using h28
   refine jN 4 ?_
   refine WL.bin (v:= .int .i64 ((md+1:Nat):Int)) rfl rfl rfl (fun w=>run_addN6 (n:=1) (by omega) (by decide) _ _ _ w) ?_
   refine jN 4 ?_
   refine WQ.chunks (C':=[pt b3 (rtC x) 93,jW g l.length lc 93 6 (l.flatMap rtC)]) (fun w hS=>(jK hS)) ?_
   refine WQ.back ((md+1,hi):Nat×Nat) ?_ ?_ ?_ ?_
   ·exact ⟨by dsimp only;omega,hhl,bs_lo (x:=hdR x) ordR_3 hs (map_snoc6 hy) h28,hH⟩
   ·dsimp only;omega
   ·exact ⟨rfl,rfl,rfl,rfl,trivial⟩
   rfl
  have h28: ¬ ordR y.x x.x<0:=by simpa using h28
  refine jN 7 ?_
  refine WQ.chunks (C':=[pt b3 (rtC x) 93,jW g l.length lc 93 6 (l.flatMap rtC)]) (fun w hS=>(jK hS)) ?_
  refine WQ.back ((lo,md):Nat×Nat) ?_ ?_ ?_ ?_
  ·exact ⟨hm1.1,by dsimp only;omega,hA,bs_hi (x:=hdR x) ordR_3 hs (map_snoc6 hy) h28⟩
  ·dsimp only;omega
  ·exact ⟨rfl,rfl,rfl,rfl,trivial⟩
  rfl
 have hle:hi=lo:=by simp at h17;omega
 have hlo:lo≤l.length:=by omega
 rw [hle] at hH
 clear hle
 refine jN 7 ?_
 rcases Nat.lt_or_ge lo l.length with hlt | hge
 ·obtain ⟨y,hy⟩:∃ z,l[lo]?=some z:=⟨_,List.getElem?_eq_getElem hlt⟩
  have hym:=List.mem_of_getElem? hy
  refine WC.know (φ:=∃ g,la=some ⟨g,0,none⟩∧l.length=l.length∧l.length≤lc) (fun w hS=>rowc_addr (hS.ok (rowc (.slice la l.length lc) l.length 93 6 (l.flatMap rtC)) jM) (by omega)) (fun ⟨g,hg9,_,_⟩=>?_)
  subst hg9
  refine WC.drawsL (by kernel_rfl) (FactsOk.cons (ds:=[10]) (LoadOk.by (Y:=fun w=>∀ jj v,(rtC y)[jj]?=some v→w.cell? ⟨g,0+(lo)*6+jj,none⟩=some v) (fun w hS=>(fun jj v hv=>by rw [Nat.zero_add];exact rowc_cells (hS.ok (jW g l.length lc 93 6 (l.flatMap rtC)) jM) (flat_at (cells:=rtC) (sz:=6) (fun _ _=>rfl) hy jj _ hv)))) (FactsOk.cons (ds:=[10]) (LoadOk.whole (t:=3) rfl jM) (FactsOk.nil))) ?_
  refine jQ [0,1] ?_
  refine jT 2 rfl (Yl.lenSl F.und34 rfl) ?_
  refine jQ [3,4] ?_
  refine fun hcl=>WA.splitB (i:=36) rfl (fun g36=>?_) (fun g36=>?_)
  ·refine (show WD _ _ _ _ _ _ _ _ _ _ _ _ from ?_) hcl
   refine jQ [5,6] ?_
   refine WD.takeG (i:=7) rfl rfl rfl rfl rfl rfl (by decide+kernel) (by decide+kernel) (by decide+kernel) (fun _ _ _ h=>h) (by kernel_rfl) need_none (Yl.indexAddr F.sl34 rfl rfl (by omega)) ?_
   refine WD.takeG (i:=8) rfl rfl rfl rfl rfl rfl (by decide+kernel) (by decide+kernel) (by decide+kernel) (fun _ _ _ h=>h) (by kernel_rfl) (need_at2 0 rfl (by decide+kernel)) (Yl.loadN F.agg93 rfl rfl) ?_
   refine WD.takeG (i:=9) rfl rfl rfl rfl rfl rfl (by decide+kernel) (by decide+kernel) (by decide+kernel) (fun _ _ _ h=>h) (by kernel_rfl) (need_at2 1 rfl (by decide+kernel)) (Yl.loadN F.agg93 rfl rfl) ?_
   refine jA 10 rfl ?_
   refine WL.guardT rfl rfl rfl ?_
   refine WL.callV F.fun38 rfl rfl (fun w hS=>rOrder_c y x (h _ _ hS y (List.mem_cons_of_mem _ hym)).k (h _ _ hS x (by simp)).k (h _ _ hS y (List.mem_cons_of_mem _ hym)).p.2 (h _ _ hS x (by simp)).p.2 w (h _ _ hS y (List.mem_cons_of_mem _ hym)).p.1 (h _ _ hS x (by simp)).p.1) ?_
   refine jG ?_
   refine jQ [11,12] ?_
   refine jD ?_
   refine jN 1 ?_
   refine WC.cond rfl (fun h44=>?_) (fun h44=>?_)
   ·have h0:ordR y.x x.x=0:=by simpa using h44
    refine jN 1 ?_
    refine WC.drawsL (by kernel_rfl) (FactsOk.cons (ds:=[9,12]) (LoadOk.by (Y:=fun w=>w.cell? ⟨g,0+lo*6+5,none⟩=some (.slice y.ca y.c.length y.cc)) (fun w hS=>(by rw [Nat.zero_add];exact rowc_cells (hS.ok (jW g l.length lc 93 6 (l.flatMap rtC)) jM) (flat_at (cells:=rtC) (sz:=6) (fun _ _=>rfl) hy 5 _ rfl)))) (FactsOk.cons (ds:=[9,12]) (LoadOk.one (t:=3) (off:=5) rfl jM rfl) (FactsOk.nil))) ?_
    refine jQ [0,1,2,3] ?_
    refine jT 4 rfl (Yl.indexAddr F.sl34 rfl rfl (by omega)) ?_
    refine jT 5 rfl (Yl.fieldAddr F.fld93_5 rfl) ?_
    refine jF 6 0 rfl rfl (Yl.load1 F.one53 rfl) ?_
    refine jT 7 rfl (Yl.fieldAddr0 F.fld93_5 rfl) ?_
    refine jF 8 1 rfl rfl (Yl.load1 F.one53 rfl) ?_
    refine jA 9 rfl ?_
    refine WL.call0 (β:=Option Addr×Nat) (res:=fun z=> .returned (.slice z.1 (uniN y.c x.c).length z.2)) (cs:=fun z=>[rowc (.slice z.1 (uniN y.c x.c).length z.2) (uniN y.c x.c).length 24 1 ((uniN y.c x.c).flatMap nC)]) (ψ:=fun _=>True) F.fun96 (fun d h=>by cases h;rfl) rfl (fun w hS=>(rUnion_c y.c x.c y.ca x.ca y.cc x.cc (h _ _ hS y (List.mem_cons_of_mem _ hym)).d.2 (h _ _ hS x (by simp)).d.2 w (h _ _ hS y (List.mem_cons_of_mem _ hym)).d.1 (h _ _ hS x (by simp)).d.1).mono (fun e w2 ⟨x,h1,h2⟩=>⟨x,trivial,h1,h2⟩)) (fun ⟨xa,xc⟩ _=>After_ret ?_)
    refine jG ?_
    refine jT 10 rfl (Yl.indexAddr F.sl34 rfl rfl (by omega)) ?_
    refine jT 11 rfl (Yl.fieldAddr F.fld93_5 rfl) ?_
    refine jA 12 rfl ?_
    refine WL.storeRow1 (n:=l.length) F.one53 rfl rfl rfl jU (by rw [Nat.zero_add];exact setN_cell (x':=(⟨y.x,uniN y.c x.c,xa,xc⟩:RtV)) (fun _=>rfl) hy (by decide) rfl) ?_
    refine jG ?_
    refine jD ?_
    refine jN 11 ?_
    refine WQ.chunksE (C':=fun G9=>[jW g l.length lc 93 6 ((l.set lo (⟨y.x,uniN y.c x.c,xa,xc⟩:RtV)).flatMap rtC),insC G9 [(uniN y.c x.c,xa)]]) (fun w hS=>?_) (fun G9=>?_)
    ·obtain ⟨G9,hG9⟩:=St.insSnoc ((St.pick (St.pick (St.insNil hS) (c:=rowc (.slice xa (uniN y.c x.c).length xc) (uniN y.c x.c).length 24 1 ((uniN y.c x.c).flatMap nC)) jR) (c:=insC [] []) jR))
     exact ⟨G9,(jK hG9)⟩
    have hsl:(l.set lo (⟨y.x,uniN y.c x.c,xa,xc⟩:RtV)).length=l.length:=List.length_set
    refine WQ.ret (rs:=[.tmp 4]) rfl (.tmp rfl .nil) (fun w hS=>⟨⟨l.set lo (⟨y.x,uniN y.c x.c,xa,xc⟩:RtV),some ⟨g,0,none⟩,lc,G9,[(uniN y.c x.c,xa)]⟩,?_,⟨fun t ht=>?_,fun t ht=>?_⟩,by (show Ending.returned (.slice (some ⟨g,0,none⟩) l.length lc)= .returned (.slice (some ⟨g,0,none⟩) (l.set lo (⟨y.x,uniN y.c x.c,xa,xc⟩:RtV)).length lc));rw [hsl],by dsimp only;rw [hsl];exact hS⟩)
    ·show _=putN _ (hdR x) _
     unfold putN
     rw [if_neg (show ¬ (hdR x).2=[] from hc0)]
     rw [show (pins (fun a b=>ltC ordR a.1 b.1) (fun a b=>(a.1,uniN a.2 b.2)) (hdR x) (l.map hdR))=_ from pins_eq ordR_3 (map_snoc6 hy) hA h0,List.map_set]
    ·rcases List.mem_or_eq_of_mem_set ht with ht | rfl
     ·exact .inr ⟨t,List.mem_cons_of_mem _ ht,rfl⟩
     exact .inl (by simp)
    rcases List.mem_or_eq_of_mem_set ht with ht | rfl
    ·exact ⟨t,List.mem_cons_of_mem _ ht,rfl⟩
    exact ⟨y,List.mem_cons_of_mem _ hym,rfl⟩
   have hnl: ¬ ordR y.x x.x<0:=hH (hdR y) (List.mem_of_getElem? (i:=0) (by rw [List.getElem?_drop];exact map_snoc6 hy))
   have h0: ¬ ordR y.x x.x=0:=by simpa using h44
   have hB:∀ z,(l.map hdR)[lo]?=some z→0<ordR z.1 (hdR x).1:=fun z hz=>by
    rw [map_snoc6 hy] at hz
    injection hz with hz
    rw [← hz]
    show 0<ordR y.x x.x
    omega
   refine jN 9 ?_
   refine WL.buildSlice F.sl34 F.ez34 rfl rfl rfl rfl jB rfl (fun b60=>?_)
   refine jN 1 ?_
   refine WL.appendE (news:=[.int .u8 0,.string (str []),.slice none 0 0,.int .i64 0,.int .i64 0,.slice none 0 0]) F.el34 rfl rfl rfl jR (fun w hS jj u hu9=>by rw [Nat.zero_add];exact hS.cell (cs:=[.int .u8 0,.string (str []),.slice none 0 0,.int .i64 0,.int .i64 0,.slice none 0 0]) jM hu9) rfl jO (Nat.le_trans (m:=20000) (by omega) (by decide)) (by omega) (fun a9 c9=>?_)
   refine jN 5 ?_
   refine WC.know (φ:=∃ g,a9=some ⟨g,0,none⟩∧l.length+1=l.length+1∧l.length+1≤c9) (fun w hS=>rowc_addr (hS.ok (rowc (.slice a9 (l.length+1) c9) (l.length+1) 93 6 (l.flatMap rtC++[.int .u8 0,.string (str []),.slice none 0 0,.int .i64 0,.int .i64 0,.slice none 0 0])) jM) (by omega)) (fun ⟨g9,hg9,_,hc9⟩=>?_)
   subst hg9
   refine WC.chunks (C':=[pt b3 (rtC x) 93,jW g9 (l.length+1) c9 93 6 (((l++[(⟨⟨0,[],[],none,0,0,0,[],none,0⟩,[],none,0⟩:RtV)])).flatMap rtC)]) (fun w hS=>by rw [List.flatMap_append,List.flatMap_singleton];exact (jK hS)) ?_
   refine WC.draws [] (by kernel_rfl) (fun w hS=>facts_nil) ?_
   refine jQ [0,1] ?_
   refine jT 2 rfl (Yl.bin (v:= .int .i64 ((lo+1:Nat):Int)) rfl rfl (fun w=>run_addN6 (n:=1) (by omega) (by decide) _ _ _ w)) ?_
   refine jT 3 rfl (Yl.sliceSlE F.sl34 rfl rfl (by omega) rfl rfl) ?_
   refine jQ [4,5] ?_
   refine jT 6 rfl (Yl.sliceSlF F.sl34 rfl rfl (by omega) (by omega) rfl rfl) ?_
   refine jA 7 rfl ?_
   refine WL.copyRow (m:=l.length - lo) (sz:=6) (n:=l.length+1) (cap:=c9) (e:=93) (xs:=(l++[(⟨⟨0,[],[],none,0,0,0,[],none,0⟩,[],none,0⟩:RtV)]).flatMap rtC) (xs':=((l++[(⟨⟨0,[],[],none,0,0,0,[],none,0⟩,[],none,0⟩:RtV)]).take (lo+1)++l.drop lo).flatMap rtC) (vs:=(l.drop lo).flatMap rtC) F.und34 (by kernel_rfl) rfl rfl rfl (by first | omega | (simp only [Nat.min_def];split<;>omega)) (by rw [flat_len (cells:=rtC) (sz:=6) (fun _ _=>rfl),List.length_drop]) (fun w hS j v hv=>by rw [Nat.zero_add];exact rowc_cells (hS.ok (jW g9 (l.length+1) c9 93 6 (((l++[(⟨⟨0,[],[],none,0,0,0,[],none,0⟩,[],none,0⟩:RtV)])).flatMap rtC)) jM) (drop_cells (sz:=6) (fun _=>rfl) hlo hv)) (flat_one (rtC_one)) jU (setN_copy (sz:=6) (fun _=>rfl) hlo (by split<;>omega)) ?_
   refine jG ?_
   refine jD ?_
   refine jN 10 ?_
   refine WL.indexAddr F.sl34 rfl rfl rfl (by omega) ?_
   refine jN 1 ?_
   refine WL.storeRow (n:=l.length+1) F.agg93 rfl rfl rfl jO (by omega) jU (by rw [Nat.zero_add];exact setN_flat (fun _=>rfl) (by rw [List.length_append,List.length_take,List.length_append,List.length_drop,List.length_singleton];omega)) ?_
   refine jN 11 ?_
   refine WQ.chunks (C':=[jW g9 (l.length+1) c9 93 6 (((l.take lo++x::l.drop lo)).flatMap rtC),insC [] []]) (fun w hS=>by rw [← put_set (z:=(⟨⟨0,[],[],none,0,0,0,[],none,0⟩,[],none,0⟩:RtV)) hlo];exact (jK (St.insNil hS))) ?_
   have hfl:(l.take lo++x::l.drop lo).length=l.length+1:=by rw [List.length_append,List.length_cons,List.length_take,List.length_drop];omega
   refine WQ.ret (rs:=[.tmp 4]) rfl (.tmp rfl .nil) (fun w hS=>⟨⟨(l.take lo++x::l.drop lo),some ⟨g9,0,none⟩,c9,[],[]⟩,?_,⟨fun t ht=>?_,fun t ht=>?_⟩,by (show Ending.returned (.slice _ (l.length+1) c9)= .returned (.slice _ (l.take lo++x::l.drop lo).length c9));rw [hfl],by dsimp only;rw [hfl];exact hS⟩)
   ·show _=putN _ (hdR x) _
    unfold putN
    rw [if_neg (show ¬ (hdR x).2=[] from hc0)]
    rw [show (pins (fun a b=>ltC ordR a.1 b.1) (fun a b=>(a.1,uniN a.2 b.2)) (hdR x) (l.map hdR))=_ from pins_ins ordR_3 hA hB,List.map_append,List.map_cons,List.map_take,List.map_drop]
   ·refine .inr ⟨t,?_,rfl⟩
    rcases List.mem_append.1 ht with ht | ht
    ·exact List.mem_cons_of_mem _ (List.mem_of_mem_take ht)
    rcases List.mem_cons.1 ht with rfl | ht
    ·simp
    exact List.mem_cons_of_mem _ (List.mem_of_mem_drop ht)
   refine ⟨t,?_,rfl⟩
   rcases List.mem_append.1 ht with ht | ht
   ·exact List.mem_cons_of_mem _ (List.mem_of_mem_take ht)
   rcases List.mem_cons.1 ht with rfl | ht
   ·simp
   exact List.mem_cons_of_mem _ (List.mem_of_mem_drop ht)
  refine (show WD _ _ _ _ _ _ _ _ _ _ _ _ from ?_) hcl
  exfalso;simp at g36;omega
 have hB:∀ z,(l.map hdR)[lo]?=some z→0<ordR z.1 (hdR x).1:=fun z hz=>by
  rw [List.getElem?_eq_none (by rw [List.length_map];omega)] at hz
  cases hz
 refine WC.draws [] (by kernel_rfl) (fun w hS=>facts_nil) ?_
 refine jQ [0,1] ?_
 refine jT 2 rfl (Yl.lenSl F.und34 rfl) ?_
 refine jQ [3,4] ?_
 refine fun hcl=>WA.splitB (i:=36) rfl (fun g36=>?_) (fun g36=>?_)
 ·refine (show WD _ _ _ _ _ _ _ _ _ _ _ _ from ?_) hcl
  exfalso;simp at g36;omega
 refine (show WD _ _ _ _ _ _ _ _ _ _ _ _ from ?_) hcl
 refine jQ [5,6,7,8,9,10,11,12] ?_
 refine jD ?_
 refine jN 11 ?_
 refine WL.buildSlice F.sl34 F.ez34 rfl rfl rfl rfl jB rfl (fun b60=>?_)
 refine jN 1 ?_
 refine WL.appendE (news:=[.int .u8 0,.string (str []),.slice none 0 0,.int .i64 0,.int .i64 0,.slice none 0 0]) F.el34 rfl rfl rfl jR (fun w hS jj u hu9=>by rw [Nat.zero_add];exact hS.cell (cs:=[.int .u8 0,.string (str []),.slice none 0 0,.int .i64 0,.int .i64 0,.slice none 0 0]) jM hu9) rfl jO (Nat.le_trans (m:=20000) (by omega) (by decide)) (by omega) (fun a9 c9=>?_)
 refine jN 5 ?_
 refine WC.know (φ:=∃ g,a9=some ⟨g,0,none⟩∧l.length+1=l.length+1∧l.length+1≤c9) (fun w hS=>rowc_addr (hS.ok (rowc (.slice a9 (l.length+1) c9) (l.length+1) 93 6 (l.flatMap rtC++[.int .u8 0,.string (str []),.slice none 0 0,.int .i64 0,.int .i64 0,.slice none 0 0])) jM) (by omega)) (fun ⟨g9,hg9,_,hc9⟩=>?_)
 subst hg9
 refine WC.chunks (C':=[pt b3 (rtC x) 93,jW g9 (l.length+1) c9 93 6 (((l++[(⟨⟨0,[],[],none,0,0,0,[],none,0⟩,[],none,0⟩:RtV)])).flatMap rtC)]) (fun w hS=>by rw [List.flatMap_append,List.flatMap_singleton];exact (jK hS)) ?_
 refine WC.draws [] (by kernel_rfl) (fun w hS=>facts_nil) ?_
 refine jQ [0,1] ?_
 refine jT 2 rfl (Yl.bin (v:= .int .i64 ((lo+1:Nat):Int)) rfl rfl (fun w=>run_addN6 (n:=1) (by omega) (by decide) _ _ _ w)) ?_
 refine jT 3 rfl (Yl.sliceSlE F.sl34 rfl rfl (by omega) rfl rfl) ?_
 refine jQ [4,5] ?_
 refine jT 6 rfl (Yl.sliceSlF F.sl34 rfl rfl (by omega) (by omega) rfl rfl) ?_
 refine jA 7 rfl ?_
 refine WL.copyRow (m:=l.length - lo) (sz:=6) (n:=l.length+1) (cap:=c9) (e:=93) (xs:=(l++[(⟨⟨0,[],[],none,0,0,0,[],none,0⟩,[],none,0⟩:RtV)]).flatMap rtC) (xs':=((l++[(⟨⟨0,[],[],none,0,0,0,[],none,0⟩,[],none,0⟩:RtV)]).take (lo+1)++l.drop lo).flatMap rtC) (vs:=(l.drop lo).flatMap rtC) F.und34 (by kernel_rfl) rfl rfl rfl (by first | omega | (simp only [Nat.min_def];split<;>omega)) (by rw [flat_len (cells:=rtC) (sz:=6) (fun _ _=>rfl),List.length_drop]) (fun w hS j v hv=>by rw [Nat.zero_add];exact rowc_cells (hS.ok (jW g9 (l.length+1) c9 93 6 (((l++[(⟨⟨0,[],[],none,0,0,0,[],none,0⟩,[],none,0⟩:RtV)])).flatMap rtC)) jM) (drop_cells (sz:=6) (fun _=>rfl) hlo hv)) (flat_one (rtC_one)) jU (setN_copy (sz:=6) (fun _=>rfl) hlo (by split<;>omega)) ?_
 refine jG ?_
 refine jD ?_
 refine jN 10 ?_
 refine WL.indexAddr F.sl34 rfl rfl rfl (by omega) ?_
 refine jN 1 ?_
 refine WL.storeRow (n:=l.length+1) F.agg93 rfl rfl rfl jO (by omega) jU (by rw [Nat.zero_add];exact setN_flat (fun _=>rfl) (by rw [List.length_append,List.length_take,List.length_append,List.length_drop,List.length_singleton];omega)) ?_
 refine jN 11 ?_
 refine WQ.chunks (C':=[jW g9 (l.length+1) c9 93 6 (((l.take lo++x::l.drop lo)).flatMap rtC),insC [] []]) (fun w hS=>by rw [← put_set (z:=(⟨⟨0,[],[],none,0,0,0,[],none,0⟩,[],none,0⟩:RtV)) hlo];exact (jK (St.insNil hS))) ?_
 have hfl:(l.take lo++x::l.drop lo).length=l.length+1:=by rw [List.length_append,List.length_cons,List.length_take,List.length_drop];omega
 refine WQ.ret (rs:=[.tmp 4]) rfl (.tmp rfl .nil) (fun w hS=>⟨⟨(l.take lo++x::l.drop lo),some ⟨g9,0,none⟩,c9,[],[]⟩,?_,⟨fun t ht=>?_,fun t ht=>?_⟩,by (show Ending.returned (.slice _ (l.length+1) c9)= .returned (.slice _ (l.take lo++x::l.drop lo).length c9));rw [hfl],by dsimp only;rw [hfl];exact hS⟩)
 ·show _=putN _ (hdR x) _
  unfold putN
  rw [if_neg (show ¬ (hdR x).2=[] from hc0)]
  rw [show (pins (fun a b=>ltC ordR a.1 b.1) (fun a b=>(a.1,uniN a.2 b.2)) (hdR x) (l.map hdR))=_ from pins_ins ordR_3 hA hB,List.map_append,List.map_cons,List.map_take,List.map_drop]
 ·refine .inr ⟨t,?_,rfl⟩
  rcases List.mem_append.1 ht with ht | ht
  ·exact List.mem_cons_of_mem _ (List.mem_of_mem_take ht)
  rcases List.mem_cons.1 ht with rfl | ht
  ·simp
  exact List.mem_cons_of_mem _ (List.mem_of_mem_drop ht)
 refine ⟨t,?_,rfl⟩
 rcases List.mem_append.1 ht with ht | ht
 ·exact List.mem_cons_of_mem _ (List.mem_of_mem_take ht)
 rcases List.mem_cons.1 ht with rfl | ht
 ·simp
 exact List.mem_cons_of_mem _ (List.mem_of_mem_drop ht)
structure PuDV where
 o:List RgV
 a:Option Addr
 c:Nat
 G:List Nat
 cs:List (List Nat×Option Addr)
structure PuDE (w:World) (t:RgV):Prop where
 k:t.x.k<256
 p:RdC w t.x.p t.x.pa∧t.x.p.length≤1000000000
 d:RdN w t.c t.ca∧t.c.length≤4294967296
abbrev PuDR (w0:World) (O:List Nat) (l:List RgV):Prop:=∀ (C:List Chunk) (w:World),St w0 O C w→∀ t∈l,PuDE w t
structure PuDG (l o:List RgV) (cs:List (List Nat×Option Addr)):Prop where
 d:∀ t∈o,(t.c,t.ca)∈cs∨∃ s∈l,((t.c,t.ca):List Nat×Option Addr)=(s.c,s.ca)
 x:∀ t∈o,∃ s∈l,t.x=s.x
set_option maxRecDepth 100000 in
set_option maxHeartbeats 1000000 in
theorem putDiag_c (l:List RgV) (la:Option Addr) (lc:Nat) (x:RgV) (hl:l.length≤10000) (hs:SrC ordG (l.map hdG)) (w:World) (h:PuDR w (ob (.slice la l.length lc)) (x::l)) (hS0:St w (ob (.slice la l.length lc)) [rowc (.slice la l.length lc) l.length 97 5 (l.flatMap rgC)] w):
  Calls Tryz.prog 57 [.slice la l.length lc,.agg (rgC x).toArray].toArray w fun e w'=>∃ m:PuDV,m.o.map hdG=putN (ltC ordG) (hdG x) (l.map hdG)∧PuDG (x::l) m.o m.cs∧e= .returned (.slice m.a m.o.length m.c)∧St w (ob (.slice la l.length lc)) [rowc (.slice m.a m.o.length m.c) m.o.length 97 5 (m.o.flatMap rgC),insC m.G m.cs] w':=by
 refine enter Tryz.func57 rfl Tryz.ntmps57 rfl (C:=[rowc (.slice la l.length lc) l.length 97 5 (l.flatMap rgC)]) hS0 ?_
 refine jN 3 ?_
 refine WL.boxN rfl rfl (fun b3=>?_)
 refine jN 17 ?_
 refine WC.cond rfl (fun h9c=>?_) (fun h9c=>?_)
 ·have hc0:x.c=[]:=List.eq_nil_of_length_eq_zero (by have h9:(x.c.length:Int)=0:=(by simpa using h9c);omega)
  refine jN 10 ?_
  refine WQ.ret (rs:=[.tmp 4]) rfl (.tmp rfl .nil) (fun w hS=>⟨⟨l,la,lc,[],[]⟩,?_,⟨fun t ht=> .inr ⟨t,List.mem_cons_of_mem _ ht,rfl⟩,fun t ht=>⟨t,List.mem_cons_of_mem _ ht,rfl⟩⟩,rfl,(jK (St.insNil hS))⟩)
  show l.map hdG=putN _ (hdG x) _
  unfold putN
  rw [if_pos (show (hdG x).2=[] from hc0)]
 have hc0: ¬ x.c=[]:=by intro e;rw [e] at h9c;simp at h9c
 refine jN 10 ?_
 refine WC.loop (α:=Nat) (fun lo=>lo≤l.length∧∀ q∈(l.map hdG).take lo,ordG q.1 x.x<0) (fun lo=>[(0,.slice la l.length lc),(3,pp b3),(5,.int .i64 (lo:Int))]) (fun _=>[pt b3 (rgC x) 97,rowc (.slice la l.length lc) l.length 97 5 (l.flatMap rgC)]) (fun lo=>l.length - lo) (0) ?_ ?_ ?_ ?_
 ·exact ⟨Nat.zero_le _,by simp⟩
 ·exact ⟨rfl,rfl,rfl,trivial⟩
 ·rfl
 rintro lo ⟨hlo,hA⟩
 show WC _ _ _ _ _ _ _ [(0,.slice la l.length lc),(3,pp b3),(5,.int .i64 (lo:Int))] [pt b3 (rgC x) 97,rowc (.slice la l.length lc) l.length 97 5 (l.flatMap rgC)]
 refine jN 2 ?_
 rcases Nat.lt_or_ge lo l.length with hlt | hge
 ·obtain ⟨y,hy⟩:∃ z,l[lo]?=some z:=⟨_,List.getElem?_eq_getElem hlt⟩
  have hym:=List.mem_of_getElem? hy
  refine WC.know (φ:=∃ g,la=some ⟨g,0,none⟩∧l.length=l.length∧l.length≤lc) (fun w hS=>rowc_addr (hS.ok (rowc (.slice la l.length lc) l.length 97 5 (l.flatMap rgC)) jM) (by omega)) (fun ⟨g,hg9,_,_⟩=>?_)
  subst hg9
  refine WC.drawsL (by kernel_rfl) (FactsOk.cons (ds:=[10]) (LoadOk.by (Y:=fun w=>∀ jj v,(rgC y)[jj]?=some v→w.cell? ⟨g,0+(lo)*5+jj,none⟩=some v) (fun w hS=>(fun jj v hv=>by rw [Nat.zero_add];exact rowc_cells (hS.ok (jW g l.length lc 97 5 (l.flatMap rgC)) jM) (flat_at (cells:=rgC) (sz:=5) (fun _ _=>rfl) hy jj _ hv)))) (FactsOk.cons (ds:=[10]) (LoadOk.whole (t:=3) rfl jM) (FactsOk.nil))) ?_
  refine jQ [0,1] ?_
  refine jT 2 rfl (Yl.lenSl F.und35 rfl) ?_
  refine jQ [3,4] ?_
  refine fun hcl=>WA.splitB (i:=15) rfl (fun g15=>?_) (fun g15=>?_)
  ·refine (show WD _ _ _ _ _ _ _ _ _ _ _ _ from ?_) hcl
   refine jQ [5,6] ?_
   refine WD.takeG (i:=7) rfl rfl rfl rfl rfl rfl (by decide+kernel) (by decide+kernel) (by decide+kernel) (fun _ _ _ h=>h) (by kernel_rfl) need_none (Yl.indexAddr F.sl35 rfl rfl (by omega)) ?_
   refine WD.takeG (i:=8) rfl rfl rfl rfl rfl rfl (by decide+kernel) (by decide+kernel) (by decide+kernel) (fun _ _ _ h=>h) (by kernel_rfl) (need_at2 0 rfl (by decide+kernel)) (Yl.loadN F.agg97 rfl rfl) ?_
   refine WD.takeG (i:=9) rfl rfl rfl rfl rfl rfl (by decide+kernel) (by decide+kernel) (by decide+kernel) (fun _ _ _ h=>h) (by kernel_rfl) (need_at2 1 rfl (by decide+kernel)) (Yl.loadN F.agg97 rfl rfl) ?_
   refine jA 10 rfl ?_
   refine WL.guardT rfl rfl rfl ?_
   refine WL.callV F.fun39 rfl rfl (fun w hS=>rOrderG_c y x (h _ _ hS y (List.mem_cons_of_mem _ hym)).k (h _ _ hS x (by simp)).k (h _ _ hS y (List.mem_cons_of_mem _ hym)).p.2 (h _ _ hS x (by simp)).p.2 w (h _ _ hS y (List.mem_cons_of_mem _ hym)).p.1 (h _ _ hS x (by simp)).p.1) ?_
   refine jG ?_
   refine jQ [11,12] ?_
   refine jD ?_
   refine jN 1 ?_
   refine WC.cond rfl (fun h23=>?_) (fun h23=>?_)
   ·have h23:ordG y.x x.x<0:=by simpa using h23
    refine jN 7 ?_
    refine WL.bin (v:= .int .i64 ((lo+1:Nat):Int)) rfl rfl rfl (fun w=>run_addN6 (n:=1) (by omega) (by decide) _ _ _ w) ?_
    refine jN 4 ?_
    refine WQ.chunks (C':=[pt b3 (rgC x) 97,jW g l.length lc 97 5 (l.flatMap rgC)]) (fun w hS=>(jK hS)) ?_
    refine WQ.back (lo+1) ?_ ?_ ?_ ?_
    ·exact ⟨hlt,fun q hq=>by rw [List.take_add_one,map_snoc6 hy,Option.toList_some] at hq;rcases List.mem_append.1 hq with hq | hq;exact hA q hq;rw [List.mem_singleton.1 hq];exact h23⟩
    ·omega
    ·exact ⟨rfl,rfl,rfl,trivial⟩
    rfl
   have h23: ¬ ordG y.x x.x<0:=by simpa using h23
   refine jN 7 ?_
   refine WC.drawsL (by kernel_rfl) (FactsOk.cons (ds:=[10]) (LoadOk.by (Y:=fun w=>∀ jj v,(rgC y)[jj]?=some v→w.cell? ⟨g,0+(lo)*5+jj,none⟩=some v) (fun w hS=>(fun jj v hv=>by rw [Nat.zero_add];exact rowc_cells (hS.ok (jW g l.length lc 97 5 (l.flatMap rgC)) jM) (flat_at (cells:=rgC) (sz:=5) (fun _ _=>rfl) hy jj _ hv)))) (FactsOk.cons (ds:=[10]) (LoadOk.whole (t:=3) rfl jM) (FactsOk.nil))) ?_
   refine jQ [0,1] ?_
   refine jT 2 rfl (Yl.lenSl F.und35 rfl) ?_
   refine jQ [3,4] ?_
   refine fun hcl=>WA.splitB (i:=30) rfl (fun g30=>?_) (fun g30=>?_)
   ·refine (show WD _ _ _ _ _ _ _ _ _ _ _ _ from ?_) hcl
    refine jQ [5,6] ?_
    refine WD.takeG (i:=7) rfl rfl rfl rfl rfl rfl (by decide+kernel) (by decide+kernel) (by decide+kernel) (fun _ _ _ h=>h) (by kernel_rfl) need_none (Yl.indexAddr F.sl35 rfl rfl (by omega)) ?_
    refine WD.takeG (i:=8) rfl rfl rfl rfl rfl rfl (by decide+kernel) (by decide+kernel) (by decide+kernel) (fun _ _ _ h=>h) (by kernel_rfl) (need_at2 0 rfl (by decide+kernel)) (Yl.loadN F.agg97 rfl rfl) ?_
    refine WD.takeG (i:=9) rfl rfl rfl rfl rfl rfl (by decide+kernel) (by decide+kernel) (by decide+kernel) (fun _ _ _ h=>h) (by kernel_rfl) (need_at2 1 rfl (by decide+kernel)) (Yl.loadN F.agg97 rfl rfl) ?_
    refine jA 10 rfl ?_
    refine WL.guardT rfl rfl rfl ?_
    refine WL.callV F.fun39 rfl rfl (fun w hS=>rOrderG_c y x (h _ _ hS y (List.mem_cons_of_mem _ hym)).k (h _ _ hS x (by simp)).k (h _ _ hS y (List.mem_cons_of_mem _ hym)).p.2 (h _ _ hS x (by simp)).p.2 w (h _ _ hS y (List.mem_cons_of_mem _ hym)).p.1 (h _ _ hS x (by simp)).p.1) ?_
    refine jG ?_
    refine jQ [11,12] ?_
    refine jD ?_
    refine jN 1 ?_
    refine WC.cond rfl (fun h38=>?_) (fun h38=>?_)
    ·have h0:ordG y.x x.x=0:=by simpa using h38
     refine jN 1 ?_
     refine WC.drawsL (by kernel_rfl) (FactsOk.cons (ds:=[9,12]) (LoadOk.by (Y:=fun w=>w.cell? ⟨g,0+lo*5+4,none⟩=some (.slice y.ca y.c.length y.cc)) (fun w hS=>(by rw [Nat.zero_add];exact rowc_cells (hS.ok (jW g l.length lc 97 5 (l.flatMap rgC)) jM) (flat_at (cells:=rgC) (sz:=5) (fun _ _=>rfl) hy 4 _ rfl)))) (FactsOk.cons (ds:=[9,12]) (LoadOk.one (t:=3) (off:=4) rfl jM rfl) (FactsOk.nil))) ?_
     refine jQ [0,1,2,3] ?_
     refine jT 4 rfl (Yl.indexAddr F.sl35 rfl rfl (by omega)) ?_
     refine jT 5 rfl (Yl.fieldAddr F.fld97_4 rfl) ?_
     refine jF 6 0 rfl rfl (Yl.load1 F.one53 rfl) ?_
     refine jT 7 rfl (Yl.fieldAddr0 F.fld97_4 rfl) ?_
     refine jF 8 1 rfl rfl (Yl.load1 F.one53 rfl) ?_
     refine jA 9 rfl ?_
     refine WL.call0 (β:=Option Addr×Nat) (res:=fun z=> .returned (.slice z.1 (uniN y.c x.c).length z.2)) (cs:=fun z=>[rowc (.slice z.1 (uniN y.c x.c).length z.2) (uniN y.c x.c).length 24 1 ((uniN y.c x.c).flatMap nC)]) (ψ:=fun _=>True) F.fun96 (fun d h=>by cases h;rfl) rfl (fun w hS=>(rUnion_c y.c x.c y.ca x.ca y.cc x.cc (h _ _ hS y (List.mem_cons_of_mem _ hym)).d.2 (h _ _ hS x (by simp)).d.2 w (h _ _ hS y (List.mem_cons_of_mem _ hym)).d.1 (h _ _ hS x (by simp)).d.1).mono (fun e w2 ⟨x,h1,h2⟩=>⟨x,trivial,h1,h2⟩)) (fun ⟨xa,xc⟩ _=>After_ret ?_)
     refine jG ?_
     refine jT 10 rfl (Yl.indexAddr F.sl35 rfl rfl (by omega)) ?_
     refine jT 11 rfl (Yl.fieldAddr F.fld97_4 rfl) ?_
     refine jA 12 rfl ?_
     refine WL.storeRow1 (n:=l.length) F.one53 rfl rfl rfl jU (by rw [Nat.zero_add];exact setN_cell (x':=(⟨y.x,uniN y.c x.c,xa,xc⟩:RgV)) (fun _=>rfl) hy (by decide) rfl) ?_
     refine jG ?_
     refine jD ?_
     refine jN 11 ?_
     refine WQ.chunksE (C':=fun G9=>[jW g l.length lc 97 5 ((l.set lo (⟨y.x,uniN y.c x.c,xa,xc⟩:RgV)).flatMap rgC),insC G9 [(uniN y.c x.c,xa)]]) (fun w hS=>?_) (fun G9=>?_)
     ·obtain ⟨G9,hG9⟩:=St.insSnoc ((St.pick (St.pick (St.insNil hS) (c:=rowc (.slice xa (uniN y.c x.c).length xc) (uniN y.c x.c).length 24 1 ((uniN y.c x.c).flatMap nC)) jR) (c:=insC [] []) jR))
      exact ⟨G9,(jK hG9)⟩
     have hsl:(l.set lo (⟨y.x,uniN y.c x.c,xa,xc⟩:RgV)).length=l.length:=List.length_set
     refine WQ.ret (rs:=[.tmp 4]) rfl (.tmp rfl .nil) (fun w hS=>⟨⟨l.set lo (⟨y.x,uniN y.c x.c,xa,xc⟩:RgV),some ⟨g,0,none⟩,lc,G9,[(uniN y.c x.c,xa)]⟩,?_,⟨fun t ht=>?_,fun t ht=>?_⟩,by (show Ending.returned (.slice (some ⟨g,0,none⟩) l.length lc)= .returned (.slice (some ⟨g,0,none⟩) (l.set lo (⟨y.x,uniN y.c x.c,xa,xc⟩:RgV)).length lc));rw [hsl],by dsimp only;rw [hsl];exact hS⟩)
     ·show _=putN _ (hdG x) _
      unfold putN
      rw [if_neg (show ¬ (hdG x).2=[] from hc0)]
      rw [show (pins (fun a b=>ltC ordG a.1 b.1) (fun a b=>(a.1,uniN a.2 b.2)) (hdG x) (l.map hdG))=_ from pins_eq ordG_3 (map_snoc6 hy) hA h0,List.map_set]
     ·rcases List.mem_or_eq_of_mem_set ht with ht | rfl
      ·exact .inr ⟨t,List.mem_cons_of_mem _ ht,rfl⟩
      exact .inl (by simp)
     rcases List.mem_or_eq_of_mem_set ht with ht | rfl
     ·exact ⟨t,List.mem_cons_of_mem _ ht,rfl⟩
     exact ⟨y,List.mem_cons_of_mem _ hym,rfl⟩
    have h0: ¬ ordG y.x x.x=0:=by simpa using h38
    have hB:∀ z,(l.map hdG)[lo]?=some z→0<ordG z.1 (hdG x).1:=fun z hz=>by
     rw [map_snoc6 hy] at hz
     injection hz with hz
     rw [← hz]
     show 0<ordG y.x x.x
     omega
    refine jN 9 ?_
    refine WL.buildSlice F.sl35 F.ez35 rfl rfl rfl rfl jB rfl (fun b54=>?_)
    refine jN 1 ?_
    refine WL.appendE (news:=[.int .u8 0,.slice none 0 0,.int .i64 0,.int .i64 0,.slice none 0 0]) F.el35 rfl rfl rfl jR (fun w hS jj u hu9=>by rw [Nat.zero_add];exact hS.cell (cs:=[.int .u8 0,.slice none 0 0,.int .i64 0,.int .i64 0,.slice none 0 0]) jM hu9) rfl jO (Nat.le_trans (m:=20000) (by omega) (by decide)) (by omega) (fun a9 c9=>?_)
    refine jN 5 ?_
    refine WC.know (φ:=∃ g,a9=some ⟨g,0,none⟩∧l.length+1=l.length+1∧l.length+1≤c9) (fun w hS=>rowc_addr (hS.ok (rowc (.slice a9 (l.length+1) c9) (l.length+1) 97 5 (l.flatMap rgC++[.int .u8 0,.slice none 0 0,.int .i64 0,.int .i64 0,.slice none 0 0])) jM) (by omega)) (fun ⟨g9,hg9,_,hc9⟩=>?_)
    subst hg9
    refine WC.chunks (C':=[pt b3 (rgC x) 97,jW g9 (l.length+1) c9 97 5 (((l++[(⟨⟨0,[],none,0,0,0,[],none,0⟩,[],none,0⟩:RgV)])).flatMap rgC)]) (fun w hS=>by rw [List.flatMap_append,List.flatMap_singleton];exact (jK hS)) ?_
    refine WC.draws [] (by kernel_rfl) (fun w hS=>facts_nil) ?_
    refine jQ [0,1] ?_
    refine jT 2 rfl (Yl.bin (v:= .int .i64 ((lo+1:Nat):Int)) rfl rfl (fun w=>run_addN6 (n:=1) (by omega) (by decide) _ _ _ w)) ?_
    refine jT 3 rfl (Yl.sliceSlE F.sl35 rfl rfl (by omega) rfl rfl) ?_
    refine jQ [4,5] ?_
    refine jT 6 rfl (Yl.sliceSlF F.sl35 rfl rfl (by omega) (by omega) rfl rfl) ?_
    refine jA 7 rfl ?_
    refine WL.copyRow (m:=l.length - lo) (sz:=5) (n:=l.length+1) (cap:=c9) (e:=97) (xs:=(l++[(⟨⟨0,[],none,0,0,0,[],none,0⟩,[],none,0⟩:RgV)]).flatMap rgC) (xs':=((l++[(⟨⟨0,[],none,0,0,0,[],none,0⟩,[],none,0⟩:RgV)]).take (lo+1)++l.drop lo).flatMap rgC) (vs:=(l.drop lo).flatMap rgC) F.und35 (by kernel_rfl) rfl rfl rfl (by first | omega | (simp only [Nat.min_def];split<;>omega)) (by rw [flat_len (cells:=rgC) (sz:=5) (fun _ _=>rfl),List.length_drop]) (fun w hS j v hv=>by rw [Nat.zero_add];exact rowc_cells (hS.ok (jW g9 (l.length+1) c9 97 5 (((l++[(⟨⟨0,[],none,0,0,0,[],none,0⟩,[],none,0⟩:RgV)])).flatMap rgC)) jM) (drop_cells (sz:=5) (fun _=>rfl) hlo hv)) (flat_one (rgC_one)) jU (setN_copy (sz:=5) (fun _=>rfl) hlo (by split<;>omega)) ?_
    refine jG ?_
    refine jD ?_
    refine jN 10 ?_
    refine WL.indexAddr F.sl35 rfl rfl rfl (by omega) ?_
    refine jN 1 ?_
    refine WL.storeRow (n:=l.length+1) F.agg97 rfl rfl rfl jO (by omega) jU (by rw [Nat.zero_add];exact setN_flat (fun _=>rfl) (by rw [List.length_append,List.length_take,List.length_append,List.length_drop,List.length_singleton];omega)) ?_
    refine jN 11 ?_
    refine WQ.chunks (C':=[jW g9 (l.length+1) c9 97 5 (((l.take lo++x::l.drop lo)).flatMap rgC),insC [] []]) (fun w hS=>by rw [← put_set (z:=(⟨⟨0,[],none,0,0,0,[],none,0⟩,[],none,0⟩:RgV)) hlo];exact (jK (St.insNil hS))) ?_
    have hfl:(l.take lo++x::l.drop lo).length=l.length+1:=by rw [List.length_append,List.length_cons,List.length_take,List.length_drop];omega
    refine WQ.ret (rs:=[.tmp 4]) rfl (.tmp rfl .nil) (fun w hS=>⟨⟨(l.take lo++x::l.drop lo),some ⟨g9,0,none⟩,c9,[],[]⟩,?_,⟨fun t ht=>?_,fun t ht=>?_⟩,by (show Ending.returned (.slice _ (l.length+1) c9)= .returned (.slice _ (l.take lo++x::l.drop lo).length c9));rw [hfl],by dsimp only;rw [hfl];exact hS⟩)
    ·show _=putN _ (hdG x) _
     unfold putN
     rw [if_neg (show ¬ (hdG x).2=[] from hc0)]
     rw [show (pins (fun a b=>ltC ordG a.1 b.1) (fun a b=>(a.1,uniN a.2 b.2)) (hdG x) (l.map hdG))=_ from pins_ins ordG_3 hA hB,List.map_append,List.map_cons,List.map_take,List.map_drop]
    ·refine .inr ⟨t,?_,rfl⟩
     rcases List.mem_append.1 ht with ht | ht
     ·exact List.mem_cons_of_mem _ (List.mem_of_mem_take ht)
     rcases List.mem_cons.1 ht with rfl | ht
     ·simp
     exact List.mem_cons_of_mem _ (List.mem_of_mem_drop ht)
    refine ⟨t,?_,rfl⟩
    rcases List.mem_append.1 ht with ht | ht
    ·exact List.mem_cons_of_mem _ (List.mem_of_mem_take ht)
    rcases List.mem_cons.1 ht with rfl | ht
    ·simp
    exact List.mem_cons_of_mem _ (List.mem_of_mem_drop ht)
   refine (show WD _ _ _ _ _ _ _ _ _ _ _ _ from ?_) hcl
   exfalso;simp at g30;omega
  refine (show WD _ _ _ _ _ _ _ _ _ _ _ _ from ?_) hcl
  exfalso;simp at g15;omega
 have hB:∀ z,(l.map hdG)[lo]?=some z→0<ordG z.1 (hdG x).1:=fun z hz=>by
  rw [List.getElem?_eq_none (by rw [List.length_map];omega)] at hz
  cases hz
 refine WC.draws [] (by kernel_rfl) (fun w hS=>facts_nil) ?_
 refine jQ [0,1] ?_
 refine jT 2 rfl (Yl.lenSl F.und35 rfl) ?_
 refine jQ [3,4] ?_
 refine fun hcl=>WA.splitB (i:=15) rfl (fun g15=>?_) (fun g15=>?_)
 ·refine (show WD _ _ _ _ _ _ _ _ _ _ _ _ from ?_) hcl
  exfalso;simp at g15;omega
 refine (show WD _ _ _ _ _ _ _ _ _ _ _ _ from ?_) hcl
 refine jQ [5,6,7,8,9,10,11,12] ?_
 refine jD ?_
 refine jN 9 ?_
 refine WC.draws [] (by kernel_rfl) (fun w hS=>facts_nil) ?_
 refine jQ [0,1] ?_
 refine jT 2 rfl (Yl.lenSl F.und35 rfl) ?_
 refine jQ [3,4] ?_
 refine fun hcl=>WA.splitB (i:=30) rfl (fun g30=>?_) (fun g30=>?_)
 ·refine (show WD _ _ _ _ _ _ _ _ _ _ _ _ from ?_) hcl
  exfalso;simp at g30;omega
 refine (show WD _ _ _ _ _ _ _ _ _ _ _ _ from ?_) hcl
 refine jQ [5,6,7,8,9,10,11,12] ?_
 refine jD ?_
 refine jN 11 ?_
 refine WL.buildSlice F.sl35 F.ez35 rfl rfl rfl rfl jB rfl (fun b54=>?_)
 refine jN 1 ?_
 refine WL.appendE (news:=[.int .u8 0,.slice none 0 0,.int .i64 0,.int .i64 0,.slice none 0 0]) F.el35 rfl rfl rfl jR (fun w hS jj u hu9=>by rw [Nat.zero_add];exact hS.cell (cs:=[.int .u8 0,.slice none 0 0,.int .i64 0,.int .i64 0,.slice none 0 0]) jM hu9) rfl jO (Nat.le_trans (m:=20000) (by omega) (by decide)) (by omega) (fun a9 c9=>?_)
 refine jN 5 ?_
 refine WC.know (φ:=∃ g,a9=some ⟨g,0,none⟩∧l.length+1=l.length+1∧l.length+1≤c9) (fun w hS=>rowc_addr (hS.ok (rowc (.slice a9 (l.length+1) c9) (l.length+1) 97 5 (l.flatMap rgC++[.int .u8 0,.slice none 0 0,.int .i64 0,.int .i64 0,.slice none 0 0])) jM) (by omega)) (fun ⟨g9,hg9,_,hc9⟩=>?_)
 subst hg9
 refine WC.chunks (C':=[pt b3 (rgC x) 97,jW g9 (l.length+1) c9 97 5 (((l++[(⟨⟨0,[],none,0,0,0,[],none,0⟩,[],none,0⟩:RgV)])).flatMap rgC)]) (fun w hS=>by rw [List.flatMap_append,List.flatMap_singleton];exact (jK hS)) ?_
 refine WC.draws [] (by kernel_rfl) (fun w hS=>facts_nil) ?_
 refine jQ [0,1] ?_
 refine jT 2 rfl (Yl.bin (v:= .int .i64 ((lo+1:Nat):Int)) rfl rfl (fun w=>run_addN6 (n:=1) (by omega) (by decide) _ _ _ w)) ?_
 refine jT 3 rfl (Yl.sliceSlE F.sl35 rfl rfl (by omega) rfl rfl) ?_
 refine jQ [4,5] ?_
 refine jT 6 rfl (Yl.sliceSlF F.sl35 rfl rfl (by omega) (by omega) rfl rfl) ?_
 refine jA 7 rfl ?_
 refine WL.copyRow (m:=l.length - lo) (sz:=5) (n:=l.length+1) (cap:=c9) (e:=97) (xs:=(l++[(⟨⟨0,[],none,0,0,0,[],none,0⟩,[],none,0⟩:RgV)]).flatMap rgC) (xs':=((l++[(⟨⟨0,[],none,0,0,0,[],none,0⟩,[],none,0⟩:RgV)]).take (lo+1)++l.drop lo).flatMap rgC) (vs:=(l.drop lo).flatMap rgC) F.und35 (by kernel_rfl) rfl rfl rfl (by first | omega | (simp only [Nat.min_def];split<;>omega)) (by rw [flat_len (cells:=rgC) (sz:=5) (fun _ _=>rfl),List.length_drop]) (fun w hS j v hv=>by rw [Nat.zero_add];exact rowc_cells (hS.ok (jW g9 (l.length+1) c9 97 5 (((l++[(⟨⟨0,[],none,0,0,0,[],none,0⟩,[],none,0⟩:RgV)])).flatMap rgC)) jM) (drop_cells (sz:=5) (fun _=>rfl) hlo hv)) (flat_one (rgC_one)) jU (setN_copy (sz:=5) (fun _=>rfl) hlo (by split<;>omega)) ?_
 refine jG ?_
 refine jD ?_
 refine jN 10 ?_
 refine WL.indexAddr F.sl35 rfl rfl rfl (by omega) ?_
 refine jN 1 ?_
 refine WL.storeRow (n:=l.length+1) F.agg97 rfl rfl rfl jO (by omega) jU (by rw [Nat.zero_add];exact setN_flat (fun _=>rfl) (by rw [List.length_append,List.length_take,List.length_append,List.length_drop,List.length_singleton];omega)) ?_
 refine jN 11 ?_
 refine WQ.chunks (C':=[jW g9 (l.length+1) c9 97 5 (((l.take lo++x::l.drop lo)).flatMap rgC),insC [] []]) (fun w hS=>by rw [← put_set (z:=(⟨⟨0,[],none,0,0,0,[],none,0⟩,[],none,0⟩:RgV)) hlo];exact (jK (St.insNil hS))) ?_
 have hfl:(l.take lo++x::l.drop lo).length=l.length+1:=by rw [List.length_append,List.length_cons,List.length_take,List.length_drop];omega
 refine WQ.ret (rs:=[.tmp 4]) rfl (.tmp rfl .nil) (fun w hS=>⟨⟨(l.take lo++x::l.drop lo),some ⟨g9,0,none⟩,c9,[],[]⟩,?_,⟨fun t ht=>?_,fun t ht=>?_⟩,by (show Ending.returned (.slice _ (l.length+1) c9)= .returned (.slice _ (l.take lo++x::l.drop lo).length c9));rw [hfl],by dsimp only;rw [hfl];exact hS⟩)
 ·show _=putN _ (hdG x) _
  unfold putN
  rw [if_neg (show ¬ (hdG x).2=[] from hc0)]
  rw [show (pins (fun a b=>ltC ordG a.1 b.1) (fun a b=>(a.1,uniN a.2 b.2)) (hdG x) (l.map hdG))=_ from pins_ins ordG_3 hA hB,List.map_append,List.map_cons,List.map_take,List.map_drop]
 ·refine .inr ⟨t,?_,rfl⟩
  rcases List.mem_append.1 ht with ht | ht
  ·exact List.mem_cons_of_mem _ (List.mem_of_mem_take ht)
  rcases List.mem_cons.1 ht with rfl | ht
  ·simp
  exact List.mem_cons_of_mem _ (List.mem_of_mem_drop ht)
 refine ⟨t,?_,rfl⟩
 rcases List.mem_append.1 ht with ht | ht
 ·exact List.mem_cons_of_mem _ (List.mem_of_mem_take ht)
 rcases List.mem_cons.1 ht with rfl | ht
 ·simp
 exact List.mem_cons_of_mem _ (List.mem_of_mem_drop ht)
theorem pool_next {w0 w w2:World} {O:List Nat} {C1 C2:List Chunk} {v:Value} {n sz:Nat} {e:TypeId} {xs:List Value} (hS:St w0 O (rowc v n e sz xs::C1) w) {c:Chunk} (hm:c∈C1) (h2:St w (ob v) C2 w2):c.ok w2:=
 c.loc w w2 (fun k hk=>h2.old k (hS.bnd c (List.mem_cons_of_mem _ hm) k hk).1 fun ho=>(List.pairwise_cons.1 hS.disj).1 c hm k ((FpIs.rowc k).2 ho) hk) (hS.ok c (List.mem_cons_of_mem _ hm))
theorem cell_nextO {w0 w w2:World} {C1 C2:List Chunk} {v:Value} {n sz:Nat} {e:TypeId} {xs:List Value} (hS:St w0 [] (rowc v n e sz xs::C1) w) (h2:St w (ob v) C2 w2) {b o:Nat} {u:Value} (hc:w0.cell? ⟨b,o,none⟩=some u):w2.cell? ⟨b,o,none⟩=some u:=by
 refine h2.oldc (hS.oldc hc (by simp)) fun hb=>?_
 have h1:=(hS.bnd _ (List.mem_cons_self ..) b ((FpIs.rowc b).2 hb)).2
 have hlt:b<w0.heap.size:=by
  rcases Nat.lt_or_ge b w0.heap.size with h' | h'
  ·exact h'
  ·simp [World.cell?,Array.getElem?_eq_none h'] at hc
 exact absurd (h1 hlt) (by simp)
theorem RdC.nextO {w0 w w2:World} {C1 C2:List Chunk} {v:Value} {n sz:Nat} {e:TypeId} {xs:List Value} {l:List Int} {a:Option Addr} (h:RdC w0 l a) (hS:St w0 [] (rowc v n e sz xs::C1) w) (h2:St w (ob v) C2 w2):RdC w2 l a:=fun i x hx=>by
 obtain ⟨b,o,e9,hc⟩:=h i x hx
 exact ⟨b,o,e9,cell_nextO hS h2 hc⟩
theorem RdSl.nextO {w0 w w2:World} {C1 C2:List Chunk} {v:Value} {n sz:Nat} {e:TypeId} {xs:List Value} {α:Type} {cells:α→List Value} {s:Nat} {l:List α} {a:Option Addr} (h:RdSl cells s w0 l a) (hS:St w0 [] (rowc v n e sz xs::C1) w) (h2:St w (ob v) C2 w2):RdSl cells s w2 l a:=fun i x hx=>by
 obtain ⟨b,o,e9,hc⟩:=h i x hx
 exact ⟨b,o,e9,fun j u hu=>cell_nextO hS h2 (hc j u hu)⟩
theorem rowG_O1 {v:Value} {n sz:Nat} {e:TypeId} {xs:List Value}:∀ c∈[rowc v n e sz xs],∀ k,c.fp k→k∈ob v:=by
 intro c hc k hk
 rw [List.mem_singleton.1 hc] at hk
 exact (FpIs.rowc k).1 hk
theorem rowG_O2 {v:Value} {n sz:Nat} {e:TypeId} {xs:List Value}:∀ k∈ob v,∃ c∈[rowc v n e sz xs],c.fp k:=fun k hk=>⟨_,List.mem_singleton.2 rfl,(FpIs.rowc k).2 hk⟩
section
variable {w0 : World} {O : List Nat} {C : List Chunk}
theorem _root_.Go.Eng.St.insApp {w:World} {F G:List Nat} {l m:List (List Nat×Option Addr)} (h:St w0 O (insC F l::insC G m::C) w):St w0 O (insC (F++G) (l++m)::C) w:=by
 refine h.join (fun k hk=>?_) (fun hc hd _=>?_)
 ·have hk':k∈F++G:=hk
  exact List.mem_append.1 hk'
 intro x hx
 rcases List.mem_append.1 hx with hx | hx
 ·intro i y hy
  obtain ⟨b,off,e1,e2,e3⟩:=hc x hx i y hy
  exact ⟨b,off,e1,e2,List.mem_append_left _ e3⟩
 intro i y hy
 obtain ⟨b,off,e1,e2,e3⟩:=hd x hx i y hy
 exact ⟨b,off,e1,e2,List.mem_append_right _ e3⟩
end
abbrev fPut {κ:Type} (c:κ→κ→Int) (l:List (κ×List Nat)):List (κ×List Nat):=l.foldl (fun acc x=>putN (ltC c) x acc) []
theorem fPut_snoc {κ:Type} {c:κ→κ→Int} {l:List (κ×List Nat)} {x:κ×List Nat}:fPut c (l++[x])=putN (ltC c) x (fPut c l):=by
 unfold fPut
 rw [List.foldl_append]
 rfl
theorem fPut_srs {κ:Type} {c:κ→κ→Int} (h3:Cmp3 c) (l:List (κ×List Nat)):SrC c (fPut c l):=by
 refine rev_ind (P:=fun l=>SrC c (fPut c l)) List.Pairwise.nil (fun l x h=>?_) l
 rw [fPut_snoc]
 exact putN_srs h3 h
theorem pins_len {α:Type} {lt:α→α→Bool} {j:α→α→α} {x:α}:∀ l:List α,(pins lt j x l).length≤l.length+1
 | []=>Nat.le_refl _
 | y::r=>by
  unfold pins
  split
  ·have:=pins_len (lt:=lt) (j:=j) (x:=x) r
   simp only [List.length_cons]
   omega
  ·split<;>simp
theorem fPut_len {κ:Type} {c:κ→κ→Int} (l:List (κ×List Nat)):(fPut c l).length≤l.length:=by
 refine rev_ind (P:=fun l=>(fPut c l).length≤l.length) (Nat.le_refl _) (fun l x h=>?_) l
 rw [fPut_snoc,List.length_append,List.length_singleton]
 unfold putN
 split
 ·omega
 exact Nat.le_trans (pins_len _) (by omega)
theorem fPut_those {κ:Type} {c:κ→κ→Int} {u:Nat} {l:List (κ×List Nat)} (h:∀ a∈l,∃ f,a.2=thoseF u f):∀ a∈fPut c l,∃ f,a.2=thoseF u f:=by
 unfold fPut
 rw [putN_fold]
 exact fpins_all (P:=fun a:κ×List Nat=>∃ f,a.2=thoseF u f) (fun x y ⟨f,hf⟩ ⟨g,hg⟩=>⟨fun c=>f c||g c,by dsimp only;rw [hf,hg,uni_those]⟩) _ _ (fun a ha=>h a (List.mem_filter.1 ha).1) (by simp)
abbrev atR (ms:List MdV) (i:Nat):List RtV:=(ms.take i).flatMap fun m=>m.rs
abbrev atH (ms:List MdV) (i:Nat):List RgV:=(ms.take i).flatMap fun m=>m.hs
theorem at_R {ms:List MdV} {i:Nat} {m:MdV} (h:ms[i]?=some m):atR ms (i+1)=atR ms i++m.rs:=by
 unfold atR
 rw [List.take_add_one,h,Option.toList_some,List.flatMap_append,List.flatMap_singleton]
theorem at_H {ms:List MdV} {i:Nat} {m:MdV} (h:ms[i]?=some m):atH ms (i+1)=atH ms i++m.hs:=by
 unfold atH
 rw [List.take_add_one,h,Option.toList_some,List.flatMap_append,List.flatMap_singleton]
structure MrR (w:World) (u:Nat) (ms:List MdV) (a:Option Addr):Prop where
 r:RdSl mdB 2 w ms a
 t:∀ m∈ms,RsR w m.rs m.ra
 g:∀ m∈ms,HsR w m.hs m.ha
 kt:∀ m∈ms,∀ r∈m.rs,r.x.k<256∧∃ f,r.c=thoseF u f
 kg:∀ m∈ms,∀ r∈m.hs,r.x.k<256∧∃ f,r.c=thoseF u f
structure RmG (A:List RtV) (B:List RgV) (m:RlV):Prop where
 r:m.rs.map hdR=fPut ordR (A.map hdR)
 h:m.hs.map hdG=fPut ordG (B.map hdG)
 rt:PuTG A m.rs m.cs
 ht:PuDG B m.hs m.cs
theorem thF_len {u:Nat} {l:List Nat} (h:∃ f,l=thoseF u f):l.length≤4294967296:=by
 obtain ⟨f,rfl⟩:=h
 exact Nat.le_trans (List.length_filter_le _ _) (cfgs_len u)
theorem PuTG.mono {l o:List RtV} {cs es:List (List Nat×Option Addr)} (h:PuTG l o cs) (hs:∀ z∈cs,z∈es):PuTG l o es:=⟨fun t ht=>(h.d t ht).imp (hs _) id,h.x⟩
theorem PuTG.step {A o o2:List RtV} {x:RtV} {cs es:List (List Nat×Option Addr)} (h:PuTG A o cs) (h2:PuTG (x::o) o2 es):PuTG (A++[x]) o2 (cs++es):=by
 refine ⟨fun t ht=>?_,fun t ht=>?_⟩
 ·rcases h2.d t ht with h9 | ⟨s,hs,e⟩
  ·exact .inl (List.mem_append_right _ h9)
  rcases List.mem_cons.1 hs with rfl | hs
  ·exact .inr ⟨s,by simp,e⟩
  rcases h.d s hs with h9 | ⟨s2,hs2,e2⟩
  ·exact .inl (List.mem_append_left _ (by rw [e];exact h9))
  exact .inr ⟨s2,List.mem_append_left _ hs2,e.trans e2⟩
 obtain ⟨s,hs,e⟩:=h2.x t ht
 rcases List.mem_cons.1 hs with rfl | hs
 ·exact ⟨s,by simp,e⟩
 obtain ⟨s2,hs2,e2⟩:=h.x s hs
 exact ⟨s2,List.mem_append_left _ hs2,e.trans e2⟩
theorem PuDG.mono {l o:List RgV} {cs es:List (List Nat×Option Addr)} (h:PuDG l o cs) (hs:∀ z∈cs,z∈es):PuDG l o es:=⟨fun t ht=>(h.d t ht).imp (hs _) id,h.x⟩
theorem PuDG.step {A o o2:List RgV} {x:RgV} {cs es:List (List Nat×Option Addr)} (h:PuDG A o cs) (h2:PuDG (x::o) o2 es):PuDG (A++[x]) o2 (cs++es):=by
 refine ⟨fun t ht=>?_,fun t ht=>?_⟩
 ·rcases h2.d t ht with h9 | ⟨s,hs,e⟩
  ·exact .inl (List.mem_append_right _ h9)
  rcases List.mem_cons.1 hs with rfl | hs
  ·exact .inr ⟨s,by simp,e⟩
  rcases h.d s hs with h9 | ⟨s2,hs2,e2⟩
  ·exact .inl (List.mem_append_left _ (by rw [e];exact h9))
  exact .inr ⟨s2,List.mem_append_left _ hs2,e.trans e2⟩
 obtain ⟨s,hs,e⟩:=h2.x t ht
 rcases List.mem_cons.1 hs with rfl | hs
 ·exact ⟨s,by simp,e⟩
 obtain ⟨s2,hs2,e2⟩:=h.x s hs
 exact ⟨s2,List.mem_append_left _ hs2,e.trans e2⟩
set_option maxRecDepth 100000 in
set_option maxHeartbeats 1000000 in
theorem rMerge_c (u:Nat) (ms:List MdV) (la:Option Addr) (lc:Nat) (hml:ms.length≤10000) (hT:(ms.flatMap fun m=>m.rs).length≤10000) (hG:(ms.flatMap fun m=>m.hs).length≤10000) (w:World) (h:MrR w u ms la):
  Calls Tryz.prog 18 [.slice la ms.length lc].toArray w fun e w'=>∃ m:RlV,RmG (ms.flatMap fun m=>m.rs) (ms.flatMap fun m=>m.hs) m∧e= .returned (.agg (rlB m).toArray)∧St w [] [rlR m,rlH m,insC m.G m.cs] w':=by
 refine enter Tryz.func18 rfl Tryz.ntmps18 rfl (St.init _) ?_
 refine jN 3 ?_
 refine WL.alloc F.zero37 rfl (fun b2=>?_)
 refine jN 5 ?_
 refine WL.alloc F.zero37 rfl (fun b3=>?_)
 refine jN 10 ?_
 refine WC.chunks (C':=[pt b2 [.slice none 0 0,.slice none 0 0] 37,pt b3 [.slice none 0 0,.slice none 0 0] 37,rowc (.slice none 0 0) 0 93 6 [],rowc (.slice none 0 0) 0 97 5 [],insC [] []]) (fun w hS=>(jK (St.rowNil (St.rowNil (St.insNil hS) 97 5) 93 6))) ?_
 refine WC.loop (α:=Nat×RlV) (fun z=>z.1≤ms.length∧RmG (atR ms z.1) (atH ms z.1) z.2) (fun z=>[(0,.slice la ms.length lc),(2,pp b2),(3,pp b3),(4,.int .i64 (z.1:Int))]) (fun z=>[pt b2 [.slice none 0 0,.slice none 0 0] 37,pt b3 (rlB z.2) 37,rlR z.2,rlH z.2,insC z.2.G z.2.cs]) (fun z=>ms.length - z.1) ((0,(⟨[],none,0,[],none,0,[],[]⟩:RlV))) ?_ ?_ ?_ ?_
 ·exact ⟨Nat.zero_le _,⟨rfl,rfl,⟨by simp,by simp⟩,⟨by simp,by simp⟩⟩⟩
 ·exact ⟨rfl,rfl,rfl,rfl,trivial⟩
 ·rfl
 rintro ⟨i,m⟩ ⟨hi,hI⟩
 dsimp only at hi hI
 show WC _ _ _ _ _ _ _ [(0,.slice la ms.length lc),(2,pp b2),(3,pp b3),(4,.int .i64 (i:Int))] [pt b2 [.slice none 0 0,.slice none 0 0] 37,pt b3 (rlB m) 37,rlR m,rlH m,insC m.G m.cs]
 refine jN 13 ?_
 refine WC.cond rfl (fun h10=>?_) (fun h10=>?_)
 ·have hlt:i<ms.length:=by simpa using h10
  obtain ⟨mm,hmi⟩:∃ y,ms[i]?=some y:=⟨_,List.getElem?_eq_getElem hlt⟩
  have hmm:=List.mem_of_getElem? hmi
  obtain ⟨b,o,hla,hcx⟩:=h.r i mm hmi
  subst hla
  have hl1:(atR ms i).length+mm.rs.length≤10000:=Nat.le_trans (at_le (f:=fun m:MdV=>m.rs) hmi) hT
  have hl2:(atH ms i).length+mm.hs.length≤10000:=Nat.le_trans (at_le (f:=fun m:MdV=>m.hs) hmi) hG
  refine jN 12 ?_
  refine WC.chunks (C':=[pt b2 [.slice none 0 0,.slice none 0 0] 37,pt b3 (rlB m) 37,rlR m,rlH m,insC m.G m.cs]) (fun w hS=>(jK hS)) ?_
  refine WC.loop (α:=Nat×RlV) (fun z=>z.1≤mm.rs.length∧RmG (atR ms i++mm.rs.take z.1) (atH ms i) z.2) (fun z=>[(0,.slice (some ⟨b,o,none⟩) ms.length lc),(2,pp b2),(3,pp b3),(4,.int .i64 (i:Int)),(5,.int .i64 (z.1:Int))]) (fun z=>[pt b2 [.slice none 0 0,.slice none 0 0] 37,pt b3 (rlB z.2) 37,rlR z.2,rlH z.2,insC z.2.G z.2.cs]) (fun z=>mm.rs.length - z.1) ((0,m)) ?_ ?_ ?_ ?_
  ·exact ⟨Nat.zero_le _,by rw [List.take_zero,List.append_nil];exact hI⟩
  ·exact ⟨rfl,rfl,rfl,rfl,rfl,trivial⟩
  ·rfl
  rintro ⟨k,m⟩ ⟨hk,hI⟩
  dsimp only at hk hI
  show WC _ _ _ _ _ _ _ [(0,.slice (some ⟨b,o,none⟩) ms.length lc),(2,pp b2),(3,pp b3),(4,.int .i64 (i:Int)),(5,.int .i64 (k:Int))] [pt b2 [.slice none 0 0,.slice none 0 0] 37,pt b3 (rlB m) 37,rlR m,rlH m,insC m.G m.cs]
  refine jN 10 ?_
  refine WL.indexAddr F.sl29 rfl rfl rfl hlt ?_
  refine jN 1 ?_
  refine WL.fieldAddr F.fld37_0 rfl rfl ?_
  refine jN 1 ?_
  refine WL.load1 F.one34 rfl rfl (v:= .slice mm.ra mm.rs.length mm.rc) (fun w hS=>hS.oldc (hcx 0 _ rfl) (by simp)) ?_
  refine jN 6 ?_
  refine WC.cond rfl (fun h20=>?_) (fun h20=>?_)
  ·have hlt2:k<mm.rs.length:=by simpa using h20
   obtain ⟨r,hr9⟩:∃ z,mm.rs[k]?=some z:=⟨_,List.getElem?_eq_getElem hlt2⟩
   have hrm:=List.mem_of_getElem? hr9
   obtain ⟨b9,o9,hla9,hcr⟩:=(h.t mm hmm).r k r hr9
   have hsrs:SrC ordR (m.rs.map hdR):=by rw [hI.r];exact fPut_srs ordR_3 _
   have hml:m.rs.length≤10000:=by
    have h9:=congrArg List.length hI.r
    rw [List.length_map] at h9
    rw [h9]
    refine Nat.le_trans (fPut_len _) ?_
    rw [List.length_map,List.length_append,List.length_take]
    have:=Nat.min_le_right k mm.rs.length
    omega
   have hthose:∀ t∈m.rs,∃ f,t.c=thoseF u f:=fun t ht=>by
    have h9:hdR t∈m.rs.map hdR:=List.mem_map_of_mem ht
    rw [hI.r] at h9
    refine fPut_those (u:=u) (fun a ha=>?_) _ h9
    obtain ⟨s,hs,rfl⟩:=List.mem_map.1 ha
    rcases List.mem_append.1 hs with hs | hs
    ·obtain ⟨m2,hm2,hs9⟩:=at_mem hs
     exact (h.kt m2 hm2 s hs9).2
    ·exact (h.kt mm hmm s (List.mem_of_mem_take hs)).2
   refine jN 4 ?_
   refine WC.drawsL (by kernel_rfl) (FactsOk.cons (ds:=[10,12]) (LoadOk.one (t:=3) (off:=0) rfl jM rfl) (FactsOk.cons (ds:=[10,12]) (LoadOk.by (Y:=fun w=>w.cell? ⟨b,o+i*2+0,none⟩=some (.slice mm.ra mm.rs.length mm.rc)) (fun w hS=>(hS.oldc (hcx 0 _ rfl) (by simp)))) (FactsOk.cons (ds:=[10,12]) (LoadOk.by (Y:=fun w=>∀ jj v,(rtC r)[jj]?=some v→w.cell? ⟨b9,o9+k*6+jj,none⟩=some v) (fun w hS=>(fun jj v hv=>hS.oldc (hcr jj v hv) (by simp)))) (FactsOk.nil)))) ?_
   refine jT 0 rfl (Yl.fieldAddr0 F.fld37_0 rfl) ?_
   refine jF 1 0 rfl rfl (Yl.load1 F.one34 rfl) ?_
   refine jQ [2,3] ?_
   refine jT 4 rfl (Yl.indexAddr F.sl29 rfl rfl hlt) ?_
   refine jT 5 rfl (Yl.fieldAddr F.fld37_0 rfl) ?_
   refine jF 6 1 rfl rfl (Yl.load1 F.one34 rfl) ?_
   refine jQ [7] ?_
   refine jT 8 rfl (Yl.indexAddr F.sl34 (by rw [hla9];rfl) rfl hlt2) ?_
   refine jF 9 2 rfl rfl (Yl.loadN F.agg93 rfl rfl) ?_
   refine jA 10 rfl ?_
   refine WL.callC (β:={q:PuTV // q.o.map hdR=putN (ltC ordR) (hdR r) (m.rs.map hdR)∧PuTG (r::m.rs) q.o q.cs}) (res:=fun q=> .slice q.1.a q.1.o.length q.1.c) (cs:=fun q=>[rowc (.slice q.1.a q.1.o.length q.1.c) q.1.o.length 93 6 (q.1.o.flatMap rtC),insC q.1.G q.1.cs]) (Cs:=[rlR m]) (O':=ob (.slice m.ra m.rs.length m.rc)) F.fun56 (fun d h=>by cases h;rfl) rfl (Rem.perm (c:=rlR m) jR) rowG_O1 rowG_O2 (fun w hS hS2=>(put_c m.rs m.ra m.rc r (by omega) hsrs w (fun C2 w2 h2 t ht=>?_) hS2).mono (fun e w2 ⟨q,q1,q2,q3,q4⟩=>⟨⟨q,q1,q2⟩,q3,q4⟩)) (fun q=>?_)
   ·have hold:∀ s∈(atR ms i++mm.rs.take k++[r]),s.x.k<256∧RdC w2 s.x.p s.x.pa∧s.x.p.length≤1000000000:=fun s hs=>by
     have hs8:∃ m2∈ms,s∈m2.rs:=by
      rcases List.mem_append.1 hs with hs | hs
      ·rcases List.mem_append.1 hs with hs | hs
       ·exact at_mem hs
       ·exact ⟨mm,hmm,List.mem_of_mem_take hs⟩
      ·rw [List.mem_singleton.1 hs];exact ⟨mm,hmm,hrm⟩
     obtain ⟨m2,hm2,hs9⟩:=hs8
     exact ⟨(h.kt m2 hm2 s hs9).1,((h.t m2 hm2).p s hs9).1.nextO hS h2,((h.t m2 hm2).p s hs9).2⟩
    have holdN:∀ s∈(atR ms i++mm.rs.take k++[r]),RdN w2 s.c s.ca:=fun s hs=>by
     have hs8:∃ m2∈ms,s∈m2.rs:=by
      rcases List.mem_append.1 hs with hs | hs
      ·rcases List.mem_append.1 hs with hs | hs
       ·exact at_mem hs
       ·exact ⟨mm,hmm,List.mem_of_mem_take hs⟩
      ·rw [List.mem_singleton.1 hs];exact ⟨mm,hmm,hrm⟩
     obtain ⟨m2,hm2,hs9⟩:=hs8
     exact ((h.t m2 hm2).d s hs9).1.nextO hS h2
    rcases List.mem_cons.1 ht with rfl | ht
    ·have h9:=hold t (by simp)
     exact ⟨h9.1,h9.2,holdN t (by simp),thF_len (h.kt mm hmm t hrm).2⟩
    obtain ⟨s,hs,e⟩:=hI.rt.x t ht
    have h9:=hold s (List.mem_append_left _ hs)
    rw [← e] at h9
    refine ⟨h9.1,h9.2,?_,thF_len (hthose t ht)⟩
    rcases hI.rt.d t ht with h8 | ⟨s2,hs2,e2⟩
    ·exact insC_rd (pool_next hS (c:=insC m.G m.cs) jM h2) h8
    obtain ⟨e3,e4⟩:=Prod.mk.inj e2
    rw [e3,e4]
    exact holdN s2 (List.mem_append_left _ hs2)
   refine jG ?_
   refine jT 11 rfl (Yl.fieldAddr0 F.fld37_0 rfl) ?_
   refine jA 12 rfl ?_
   refine WL.store1 F.one34 rfl rfl rfl jU jS ?_
   refine jG ?_
   refine jD ?_
   refine jN 6 ?_
   refine WL.bin (v:= .int .i64 ((k+1:Nat):Int)) rfl rfl rfl (fun w=>run_addN6 (n:=1) (by omega) (by decide) _ _ _ w) ?_
   refine jN 3 ?_
   refine WQ.chunks (C':=[pt b2 [.slice none 0 0,.slice none 0 0] 37,pt b3 [.slice q.1.a q.1.o.length q.1.c,.slice m.ha m.hs.length m.hc] 37,rowc (.slice q.1.a q.1.o.length q.1.c) q.1.o.length 93 6 (q.1.o.flatMap rtC),rlH m,insC (m.G++q.1.G) (m.cs++q.1.cs)]) (fun w hS=>by have h9:=St.insApp ((St.pick (St.pick hS (c:=insC q.1.G q.1.cs) jR) (c:=insC m.G m.cs) jR));exact (jK h9)) ?_
   have htk:mm.rs.take (k+1)=mm.rs.take k++[r]:=by rw [List.take_add_one,hr9];rfl
   refine WQ.back ((k+1,(⟨q.1.o,q.1.a,q.1.c,m.hs,m.ha,m.hc,m.G++q.1.G,m.cs++q.1.cs⟩:RlV)):Nat×RlV) ?_ ?_ ?_ ?_
   ·exact ⟨hlt2,⟨by (show q.1.o.map hdR=_);rw [htk,q.2.1,hI.r,← fPut_snoc];simp only [List.map_append,List.map_cons,List.map_nil,List.append_assoc],hI.h,by rw [htk,← List.append_assoc];exact hI.rt.step q.2.2,hI.ht.mono (fun z hz=>List.mem_append_left _ hz)⟩⟩
   ·show mm.rs.length - (k+1)<mm.rs.length - k;omega
   ·exact ⟨rfl,rfl,rfl,rfl,rfl,trivial⟩
   rfl
  have hke:k=mm.rs.length:=by simp at h20;omega
  rw [hke,List.take_length,← at_R hmi] at hI
  clear hke
  refine jN 12 ?_
  refine WC.chunks (C':=[pt b2 [.slice none 0 0,.slice none 0 0] 37,pt b3 (rlB m) 37,rlR m,rlH m,insC m.G m.cs]) (fun w hS=>(jK hS)) ?_
  refine WC.loop (α:=Nat×RlV) (fun z=>z.1≤mm.hs.length∧RmG (atR ms (i+1)) (atH ms i++mm.hs.take z.1) z.2) (fun z=>[(0,.slice (some ⟨b,o,none⟩) ms.length lc),(2,pp b2),(3,pp b3),(4,.int .i64 (i:Int)),(6,.int .i64 (z.1:Int))]) (fun z=>[pt b2 [.slice none 0 0,.slice none 0 0] 37,pt b3 (rlB z.2) 37,rlR z.2,rlH z.2,insC z.2.G z.2.cs]) (fun z=>mm.hs.length - z.1) ((0,m)) ?_ ?_ ?_ ?_
  ·exact ⟨Nat.zero_le _,by rw [List.take_zero,List.append_nil];exact hI⟩
  ·exact ⟨rfl,rfl,rfl,rfl,rfl,trivial⟩
  ·rfl
  rintro ⟨k,m⟩ ⟨hk,hI⟩
  dsimp only at hk hI
  show WC _ _ _ _ _ _ _ [(0,.slice (some ⟨b,o,none⟩) ms.length lc),(2,pp b2),(3,pp b3),(4,.int .i64 (i:Int)),(6,.int .i64 (k:Int))] [pt b2 [.slice none 0 0,.slice none 0 0] 37,pt b3 (rlB m) 37,rlR m,rlH m,insC m.G m.cs]
  refine jN 10 ?_
  refine WL.indexAddr F.sl29 rfl rfl rfl hlt ?_
  refine jN 1 ?_
  refine WL.fieldAddr F.fld37_1 rfl rfl ?_
  refine jN 1 ?_
  refine WL.load1 F.one35 rfl rfl (v:= .slice mm.ha mm.hs.length mm.hc) (fun w hS=>hS.oldc (hcx 1 _ rfl) (by simp)) ?_
  refine jN 6 ?_
  refine WC.cond rfl (fun h42=>?_) (fun h42=>?_)
  ·have hlt2:k<mm.hs.length:=by simpa using h42
   obtain ⟨r,hr9⟩:∃ z,mm.hs[k]?=some z:=⟨_,List.getElem?_eq_getElem hlt2⟩
   have hrm:=List.mem_of_getElem? hr9
   obtain ⟨b9,o9,hla9,hcr⟩:=(h.g mm hmm).r k r hr9
   have hsrs:SrC ordG (m.hs.map hdG):=by rw [hI.h];exact fPut_srs ordG_3 _
   have hml:m.hs.length≤10000:=by
    have h9:=congrArg List.length hI.h
    rw [List.length_map] at h9
    rw [h9]
    refine Nat.le_trans (fPut_len _) ?_
    rw [List.length_map,List.length_append,List.length_take]
    have:=Nat.min_le_right k mm.hs.length
    omega
   have hthose:∀ t∈m.hs,∃ f,t.c=thoseF u f:=fun t ht=>by
    have h9:hdG t∈m.hs.map hdG:=List.mem_map_of_mem ht
    rw [hI.h] at h9
    refine fPut_those (u:=u) (fun a ha=>?_) _ h9
    obtain ⟨s,hs,rfl⟩:=List.mem_map.1 ha
    rcases List.mem_append.1 hs with hs | hs
    ·obtain ⟨m2,hm2,hs9⟩:=at_mem hs
     exact (h.kg m2 hm2 s hs9).2
    ·exact (h.kg mm hmm s (List.mem_of_mem_take hs)).2
   refine jN 4 ?_
   refine WC.drawsL (by kernel_rfl) (FactsOk.cons (ds:=[10,12]) (LoadOk.one (t:=3) (off:=1) rfl jM rfl) (FactsOk.cons (ds:=[10,12]) (LoadOk.by (Y:=fun w=>w.cell? ⟨b,o+i*2+1,none⟩=some (.slice mm.ha mm.hs.length mm.hc)) (fun w hS=>(hS.oldc (hcx 1 _ rfl) (by simp)))) (FactsOk.cons (ds:=[10,12]) (LoadOk.by (Y:=fun w=>∀ jj v,(rgC r)[jj]?=some v→w.cell? ⟨b9,o9+k*5+jj,none⟩=some v) (fun w hS=>(fun jj v hv=>hS.oldc (hcr jj v hv) (by simp)))) (FactsOk.nil)))) ?_
   refine jT 0 rfl (Yl.fieldAddr0 F.fld37_1 rfl) ?_
   refine jF 1 0 rfl rfl (Yl.load1 F.one35 rfl) ?_
   refine jQ [2,3] ?_
   refine jT 4 rfl (Yl.indexAddr F.sl29 rfl rfl hlt) ?_
   refine jT 5 rfl (Yl.fieldAddr F.fld37_1 rfl) ?_
   refine jF 6 1 rfl rfl (Yl.load1 F.one35 rfl) ?_
   refine jQ [7] ?_
   refine jT 8 rfl (Yl.indexAddr F.sl35 (by rw [hla9];rfl) rfl hlt2) ?_
   refine jF 9 2 rfl rfl (Yl.loadN F.agg97 rfl rfl) ?_
   refine jA 10 rfl ?_
   refine WL.callC (β:={q:PuDV // q.o.map hdG=putN (ltC ordG) (hdG r) (m.hs.map hdG)∧PuDG (r::m.hs) q.o q.cs}) (res:=fun q=> .slice q.1.a q.1.o.length q.1.c) (cs:=fun q=>[rowc (.slice q.1.a q.1.o.length q.1.c) q.1.o.length 97 5 (q.1.o.flatMap rgC),insC q.1.G q.1.cs]) (Cs:=[rlH m]) (O':=ob (.slice m.ha m.hs.length m.hc)) F.fun57 (fun d h=>by cases h;rfl) rfl (Rem.perm (c:=rlH m) jR) rowG_O1 rowG_O2 (fun w hS hS2=>(putDiag_c m.hs m.ha m.hc r (by omega) hsrs w (fun C2 w2 h2 t ht=>?_) hS2).mono (fun e w2 ⟨q,q1,q2,q3,q4⟩=>⟨⟨q,q1,q2⟩,q3,q4⟩)) (fun q=>?_)
   ·have hold:∀ s∈(atH ms i++mm.hs.take k++[r]),s.x.k<256∧RdC w2 s.x.p s.x.pa∧s.x.p.length≤1000000000:=fun s hs=>by
     have hs8:∃ m2∈ms,s∈m2.hs:=by
      rcases List.mem_append.1 hs with hs | hs
      ·rcases List.mem_append.1 hs with hs | hs
       ·exact at_mem hs
       ·exact ⟨mm,hmm,List.mem_of_mem_take hs⟩
      ·rw [List.mem_singleton.1 hs];exact ⟨mm,hmm,hrm⟩
     obtain ⟨m2,hm2,hs9⟩:=hs8
     exact ⟨(h.kg m2 hm2 s hs9).1,((h.g m2 hm2).p s hs9).1.nextO hS h2,((h.g m2 hm2).p s hs9).2⟩
    have holdN:∀ s∈(atH ms i++mm.hs.take k++[r]),RdN w2 s.c s.ca:=fun s hs=>by
     have hs8:∃ m2∈ms,s∈m2.hs:=by
      rcases List.mem_append.1 hs with hs | hs
      ·rcases List.mem_append.1 hs with hs | hs
       ·exact at_mem hs
       ·exact ⟨mm,hmm,List.mem_of_mem_take hs⟩
      ·rw [List.mem_singleton.1 hs];exact ⟨mm,hmm,hrm⟩
     obtain ⟨m2,hm2,hs9⟩:=hs8
     exact ((h.g m2 hm2).d s hs9).1.nextO hS h2
    rcases List.mem_cons.1 ht with rfl | ht
    ·have h9:=hold t (by simp)
     exact ⟨h9.1,h9.2,holdN t (by simp),thF_len (h.kg mm hmm t hrm).2⟩
    obtain ⟨s,hs,e⟩:=hI.ht.x t ht
    have h9:=hold s (List.mem_append_left _ hs)
    rw [← e] at h9
    refine ⟨h9.1,h9.2,?_,thF_len (hthose t ht)⟩
    rcases hI.ht.d t ht with h8 | ⟨s2,hs2,e2⟩
    ·exact insC_rd (pool_next hS (c:=insC m.G m.cs) jM h2) h8
    obtain ⟨e3,e4⟩:=Prod.mk.inj e2
    rw [e3,e4]
    exact holdN s2 (List.mem_append_left _ hs2)
   refine jG ?_
   refine jT 11 rfl (Yl.fieldAddr0 F.fld37_1 rfl) ?_
   refine jA 12 rfl ?_
   refine WL.store1 F.one35 rfl rfl rfl jU jS ?_
   refine jG ?_
   refine jD ?_
   refine jN 6 ?_
   refine WL.bin (v:= .int .i64 ((k+1:Nat):Int)) rfl rfl rfl (fun w=>run_addN6 (n:=1) (by omega) (by decide) _ _ _ w) ?_
   refine jN 3 ?_
   refine WQ.chunks (C':=[pt b2 [.slice none 0 0,.slice none 0 0] 37,pt b3 [.slice m.ra m.rs.length m.rc,.slice q.1.a q.1.o.length q.1.c] 37,rlR m,rowc (.slice q.1.a q.1.o.length q.1.c) q.1.o.length 97 5 (q.1.o.flatMap rgC),insC (m.G++q.1.G) (m.cs++q.1.cs)]) (fun w hS=>by have h9:=St.insApp ((St.pick (St.pick hS (c:=insC q.1.G q.1.cs) jR) (c:=insC m.G m.cs) jR));exact (jK h9)) ?_
   have htk:mm.hs.take (k+1)=mm.hs.take k++[r]:=by rw [List.take_add_one,hr9];rfl
   refine WQ.back ((k+1,(⟨m.rs,m.ra,m.rc,q.1.o,q.1.a,q.1.c,m.G++q.1.G,m.cs++q.1.cs⟩:RlV)):Nat×RlV) ?_ ?_ ?_ ?_
   ·exact ⟨hlt2,⟨hI.r,by (show q.1.o.map hdG=_);rw [htk,q.2.1,hI.h,← fPut_snoc];simp only [List.map_append,List.map_cons,List.map_nil,List.append_assoc],hI.rt.mono (fun z hz=>List.mem_append_left _ hz),by rw [htk,← List.append_assoc];exact hI.ht.step q.2.2⟩⟩
   ·show mm.hs.length - (k+1)<mm.hs.length - k;omega
   ·exact ⟨rfl,rfl,rfl,rfl,rfl,trivial⟩
   rfl
  have hke:k=mm.hs.length:=by simp at h42;omega
  rw [hke,List.take_length,← at_H hmi] at hI
  clear hke
  refine jN 10 ?_
  refine WL.bin (v:= .int .i64 ((i+1:Nat):Int)) rfl rfl rfl (fun w=>run_addN6 (n:=1) (by omega) (by decide) _ _ _ w) ?_
  refine jN 3 ?_
  refine WQ.chunks (C':=[pt b2 [.slice none 0 0,.slice none 0 0] 37,pt b3 (rlB m) 37,rlR m,rlH m,insC m.G m.cs]) (fun w hS=>(jK hS)) ?_
  refine WQ.back ((i+1,m):Nat×RlV) ?_ ?_ ?_ ?_
  ·exact ⟨hlt,hI⟩
  ·show ms.length - (i+1)<ms.length - i;omega
  ·exact ⟨rfl,rfl,rfl,rfl,trivial⟩
  rfl
 have hie:i=ms.length:=by simp at h10;omega
 subst hie
 refine jN 14 ?_
 unfold atR atH at hI
 rw [List.take_length] at hI
 refine WQ.ret (rs:=[.cell 2 37]) rfl (.cellN F.agg37 rfl jM rfl .nil) (fun w hS=>⟨m,hI,rfl,(jK hS)⟩)
open Go Go.Eng Go.Proofs Dg
def SlIn {α:Type} (cells:α→List Value) (sz:Nat) (w:World) (l:List α) (a:Option Addr) (F:List Nat):Prop:=∀ i x,l[i]?=some x→∃ b off,a=some ⟨b,off,none⟩∧b∈F∧∀ j u,(cells x)[j]?=some u→w.cell? ⟨b,off+i*sz+j,none⟩=some u
section
variable {α : Type} {cells : α → List Value} {sz : Nat} {w w' : World} {l : List α} {a : Option Addr} {F G : List Nat}
theorem SlIn.rd (h:SlIn cells sz w l a F):RdSl cells sz w l a:=fun i x hx=>by
 obtain ⟨b,off,e,_,h2⟩:=h i x hx
 exact ⟨b,off,e,h2⟩
theorem SlIn.mono (h:SlIn cells sz w l a F) (hs:∀ k∈F,k∈G):SlIn cells sz w l a G:=fun i x hx=>by
 obtain ⟨b,off,e,h1,h2⟩:=h i x hx
 exact ⟨b,off,e,hs b h1,h2⟩
theorem SlIn.loc (h:SlIn cells sz w l a F) (hk:∀ k∈F,w'.heap[k]?=w.heap[k]?):SlIn cells sz w' l a F:=fun i x hx=>by
 obtain ⟨b,off,e,h1,h2⟩:=h i x hx
 exact ⟨b,off,e,h1,fun j u hu=>by rw [World.cell?_of_block (hk b h1)];exact h2 j u hu⟩
theorem SlIn.row {c:Nat} {e:TypeId} (hl:∀ x,(cells x).length=sz) (h:(rowc (.slice a l.length c) l.length e sz (l.flatMap cells)).ok w):SlIn cells sz w l a (ob (.slice a l.length c)):=fun i x hx=>by
 have hi:=(List.getElem?_eq_some_iff.1 hx).1
 obtain ⟨g,hg,_,_⟩:=rowc_addr h (by omega)
 subst hg
 exact ⟨g,0,rfl,by simp [ob,Value.ownBlock],fun j u hu=>by rw [Nat.zero_add];exact rowc_cells h (flat_at (fun x _=>hl x) hx j u hu)⟩
end
structure MdIn (w:World) (F:List Nat) (m:MdV):Prop where
 t:SlIn tkC 7 w m.ts m.ta F
 r:SlIn rtC 6 w m.rs m.ra F
 g:SlIn dgC 6 w m.gs m.ga F
 h:SlIn rgC 5 w m.hs m.ha F
 d:∀ v∈m.ds,RdIn w v F
 c:∀ x∈m.cs,CfgAt w x.1 x.2 F
theorem RdIn.mono {w:World} {x:DV} {F G:List Nat} (h:RdIn w x F) (hs:∀ k∈F,k∈G):RdIn w x G:=⟨h.1,fun j u hu=>by
 obtain ⟨b,off,e1,e2,e3⟩:=h.2 j u hu
 exact ⟨b,off,e1,e2,hs b e3⟩⟩
theorem CfgAt.mono {w:World} {c:List Nat} {a:Option Addr} {F G:List Nat} (h:CfgAt w c a F) (hs:∀ k∈F,k∈G):CfgAt w c a G:=fun i x hx=>by
 obtain ⟨b,off,e1,e2,e3⟩:=h i x hx
 exact ⟨b,off,e1,e2,hs b e3⟩
theorem MdIn.mono {w:World} {F G:List Nat} {m:MdV} (h:MdIn w F m) (hs:∀ k∈F,k∈G):MdIn w G m:=⟨h.t.mono hs,h.r.mono hs,h.g.mono hs,h.h.mono hs,fun v hv=>(h.d v hv).mono hs,fun x hx=>(h.c x hx).mono hs⟩
def msP (F:List Nat) (ms:List MdV):Chunk where
 fp k:=k∈F
 ok w:=∀ m∈ms,MdIn w F m
 loc w w' h hw:=fun m hm=>by
  have h1:=hw m hm
  exact ⟨h1.t.loc h,h1.r.loc h,h1.g.loc h,h1.h.loc h,fun v hv=>⟨(h1.d v hv).1,fun j u hu=>by
   obtain ⟨b,off,e1,e2,e3⟩:=(h1.d v hv).2 j u hu
   exact ⟨b,off,e1,by rw [World.cell?_of_block (h b e3)];exact e2,e3⟩⟩,fun x hx i y hy=>by
   obtain ⟨b,off,e1,e2,e3⟩:=h1.c x hx i y hy
   exact ⟨b,off,e1,by rw [World.cell?_of_block (h b e3)];exact e2,e3⟩⟩
theorem FpIs.msP {F:List Nat} {ms:List MdV}:FpIs (msP F ms) F:=fun k=>Iff.rfl
section
variable {w0 : World} {O : List Nat} {C : List Chunk}
theorem _root_.Go.Eng.St.msNil {w:World} (h:St w0 O C w):St w0 O (msP [] []::C) w:=
 ⟨h.os,h.tape,h.output,h.size,h.old,fun c hc=>by
  rcases List.mem_cons.1 hc with rfl | hc
  ·intro x hx;cases hx
  ·exact h.ok c hc,fun c hc k hk=>by
  rcases List.mem_cons.1 hc with rfl | hc
  ·cases hk
  ·exact h.bnd c hc k hk,List.Pairwise.cons (fun _ _ _ hk=>by cases hk) h.disj⟩
theorem _root_.Go.Eng.St.msSnoc {w:World} {F:List Nat} {ms:List MdV} {m:MdV} (h:St w0 O (msP F ms::mdT m::mdR m::mdD m::mdH m::dsC m.F m.ds::insC m.G m.cs::C) w):∃ F',St w0 O (msP F' (ms++[m])::C) w:=by
 have h1:St w0 O ([msP F ms,mdT m,mdR m,mdD m,mdH m,dsC m.F m.ds,insC m.G m.cs]++C) w:=h
 have hF:=FpL.cons (FpIs.msP (F:=F) (ms:=ms)) (FpL.cons (FpIs.rowc (v:= .slice m.ta m.ts.length m.tc) (n:=m.ts.length) (e:=89) (sz:=7) (xs:=m.ts.flatMap tkC)) (FpL.cons (FpIs.rowc (v:= .slice m.ra m.rs.length m.rc) (n:=m.rs.length) (e:=93) (sz:=6) (xs:=m.rs.flatMap rtC)) (FpL.cons (FpIs.rowc (v:= .slice m.ga m.gs.length m.gc) (n:=m.gs.length) (e:=95) (sz:=6) (xs:=m.gs.flatMap dgC)) (FpL.cons (FpIs.rowc (v:= .slice m.ha m.hs.length m.hc) (n:=m.hs.length) (e:=97) (sz:=5) (xs:=m.hs.flatMap rgC)) (FpL.cons (FpIs.dsC (F:=m.F) (l:=m.ds)) (FpL.cons (FpIs.insC (F:=m.G) (l:=m.cs)) FpL.nil))))))
 have h2:=St.bunClose' (Cs:=fun _:Unit=>[msP F ms,mdT m,mdR m,mdD m,mdH m,dsC m.F m.ds,insC m.G m.cs]) (φ:=fun _=>True) () trivial hF h1
 refine ⟨_,h2.swap (c':=msP (F++(ob (.slice m.ta m.ts.length m.tc)++(ob (.slice m.ra m.rs.length m.rc)++(ob (.slice m.ga m.gs.length m.gc)++(ob (.slice m.ha m.hs.length m.hc)++(m.F++(m.G++[]))))))) (ms++[m])) (fun ⟨_,_,hok,_⟩=>?_) (fun k hk=>hk)⟩
 intro m2 hm2
 rcases List.mem_append.1 hm2 with hm2 | hm2
 ·exact ((hok (msP F ms) (by simp)) m2 hm2).mono fun k hk=>List.mem_append_left _ hk
 rw [List.mem_singleton.1 hm2]
 have k1:∀ z:Nat,z∈ob (.slice m.ta m.ts.length m.tc)→z∈F++(ob (.slice m.ta m.ts.length m.tc)++(ob (.slice m.ra m.rs.length m.rc)++(ob (.slice m.ga m.gs.length m.gc)++(ob (.slice m.ha m.hs.length m.hc)++(m.F++(m.G++[])))))):=fun z hz=>by simp only [List.mem_append];simp [hz]
 have k2:∀ z:Nat,z∈ob (.slice m.ra m.rs.length m.rc)→z∈F++(ob (.slice m.ta m.ts.length m.tc)++(ob (.slice m.ra m.rs.length m.rc)++(ob (.slice m.ga m.gs.length m.gc)++(ob (.slice m.ha m.hs.length m.hc)++(m.F++(m.G++[])))))):=fun z hz=>by simp only [List.mem_append];simp [hz]
 have k3:∀ z:Nat,z∈ob (.slice m.ga m.gs.length m.gc)→z∈F++(ob (.slice m.ta m.ts.length m.tc)++(ob (.slice m.ra m.rs.length m.rc)++(ob (.slice m.ga m.gs.length m.gc)++(ob (.slice m.ha m.hs.length m.hc)++(m.F++(m.G++[])))))):=fun z hz=>by simp only [List.mem_append];simp [hz]
 have k4:∀ z:Nat,z∈ob (.slice m.ha m.hs.length m.hc)→z∈F++(ob (.slice m.ta m.ts.length m.tc)++(ob (.slice m.ra m.rs.length m.rc)++(ob (.slice m.ga m.gs.length m.gc)++(ob (.slice m.ha m.hs.length m.hc)++(m.F++(m.G++[])))))):=fun z hz=>by simp only [List.mem_append];simp [hz]
 have k5:∀ z:Nat,z∈m.F→z∈F++(ob (.slice m.ta m.ts.length m.tc)++(ob (.slice m.ra m.rs.length m.rc)++(ob (.slice m.ga m.gs.length m.gc)++(ob (.slice m.ha m.hs.length m.hc)++(m.F++(m.G++[])))))):=fun z hz=>by simp only [List.mem_append];simp [hz]
 have k6:∀ z:Nat,z∈m.G→z∈F++(ob (.slice m.ta m.ts.length m.tc)++(ob (.slice m.ra m.rs.length m.rc)++(ob (.slice m.ga m.gs.length m.gc)++(ob (.slice m.ha m.hs.length m.hc)++(m.F++(m.G++[])))))):=fun z hz=>by simp only [List.mem_append];simp [hz]
 exact ⟨(SlIn.row (cells:=tkC) (sz:=7) (fun _=>rfl) (hok (mdT m) (by simp))).mono k1,(SlIn.row (cells:=rtC) (sz:=6) (fun _=>rfl) (hok (mdR m) (by simp))).mono k2,(SlIn.row (cells:=dgC) (sz:=6) (fun _=>rfl) (hok (mdD m) (by simp))).mono k3,(SlIn.row (cells:=rgC) (sz:=5) (fun _=>rfl) (hok (mdH m) (by simp))).mono k4,fun v hv=>((hok (dsC m.F m.ds) (by simp)) v hv).mono k5,fun x hx=>((hok (insC m.G m.cs) (by simp)) x hx).mono k6⟩
end
theorem RdIn.rd {w:World} {x:DV} {F:List Nat} (h:RdIn w x F):RdD w x.1 x.2.1:=⟨h.1,fun j u hu=>by
 obtain ⟨b,off,e1,e2,_⟩:=h.2 j u hu
 exact ⟨b,off,e1,e2⟩⟩
theorem CfgAt.rd {w:World} {c:List Nat} {a:Option Addr} {F:List Nat} (h:CfgAt w c a F):RdN w c a:=insC_rd (F:=F) (l:=[(c,a)]) (x:=(c,a)) (fun x hx=>by rw [List.mem_singleton.1 hx];exact h) (by simp)
section
variable {w0 w : World} {C : List Chunk} {x : RwV} {m : MdV} {u i k : Nat} {F : List Nat} {ms : List MdV}
theorem MdG.tsP (hm:MdG u x i k m) (hx:RwR w0 x) (hp:∀ y∈x.i,y.p.length≤1000000000) (hS:St w0 [] C w) (h1:msP F ms∈C) (hmm:m∈ms):TsR w m.ts m.ta:=
 ⟨(hS.ok _ h1 m hmm).t.rd,fun t ht=>⟨(hx.io _ (hm.tm ht)).p.next hS,hp _ (hm.tm ht)⟩,fun t ht=>((hS.ok _ h1 m hmm).d _ (hm.t.d t ht).2.2).rd⟩
theorem MdG.dsP (hm:MdG u x i k m) (hx:RwR w0 x) (hp:∀ y∈x.n,y.p.length≤1000000000) (hS:St w0 [] C w) (h1:msP F ms∈C) (hmm:m∈ms):DsR w m.gs m.ga:=
 ⟨(hS.ok _ h1 m hmm).g.rd,fun t ht=>⟨(hx.no _ (hm.gm ht)).p.next hS,hp _ (hm.gm ht)⟩,fun t ht=>((hS.ok _ h1 m hmm).d _ (hm.g.d t ht).2.2).rd⟩
theorem MdG.rsP (hm:MdG u x i k m) (hx:RwR w0 x) (hp:∀ y∈x.i,y.p.length≤1000000000) (hS:St w0 [] C w) (h1:msP F ms∈C) (hmm:m∈ms):RsR w m.rs m.ra:=
 ⟨(hS.ok _ h1 m hmm).r.rd,fun t ht=>⟨(hx.io _ (hm.rm ht)).p.next hS,hp _ (hm.rm ht)⟩,fun t ht=>⟨((hS.ok _ h1 m hmm).c _ (hm.r.d t ht).2).rd,by rw [(hm.r.d t ht).1];exact Nat.le_trans thoseL_len (by decide)⟩⟩
theorem MdG.hsP (hm:MdG u x i k m) (hx:RwR w0 x) (hp:∀ y∈x.n,y.p.length≤1000000000) (hS:St w0 [] C w) (h1:msP F ms∈C) (hmm:m∈ms):HsR w m.hs m.ha:=
 ⟨(hS.ok _ h1 m hmm).h.rd,fun t ht=>⟨(hx.no _ (hm.hm ht)).p.next hS,hp _ (hm.hm ht)⟩,fun t ht=>⟨((hS.ok _ h1 m hmm).c _ (hm.h.d t ht).2).rd,by rw [(hm.h.d t ht).1];exact Nat.le_trans thoseL_len (by decide)⟩⟩
end
theorem resT_mapk {κ ι:Type} {f:κ→ι} {P:(Cf→Bool)→Cf→Bool}:∀ l:List (κ×(Cf→Bool)),resT P (l.map fun a=>(f a.1,a.2))=(resT P l).map fun a=>(f a.1,a.2)
 | []=>rfl
 | a::l=>by
  have ih:=resT_mapk (f:=f) (P:=P) l
  unfold resT at ih ⊢
  rw [List.map_cons,List.map_cons,List.map_cons,List.filter_cons,List.filter_cons,ih]
  split<;>rfl
theorem resT_fst {κ:Type} {P:(Cf→Bool)→Cf→Bool} {l:List (κ×(Cf→Bool))}:∀ a∈resT P l,∃ b∈l,a.1=b.1:=fun a ha=>by
 obtain ⟨b,hb,rfl⟩:=List.mem_map.1 (List.mem_filter.1 ha).1
 exact ⟨b,hb,rfl⟩
theorem joiN_fst {κ:Type} {lt:κ→κ→Bool} (hw:Swo lt) {l:List (κ×(Cf→Bool))}:∀ a∈joiN lt l,∃ b∈l,a.1=b.1:=by
 rw [joiN_pins hw]
 exact fpins_all (j:=jnK) (P:=fun a:κ×(Cf→Bool)=>∃ b∈l,a.1=b.1) (fun x y hx hy=>hx) (l.filter fun a=>neF a.2) [] (fun a ha=>⟨a,(List.mem_filter.1 ha).1,rfl⟩) (fun a ha=>by cases ha)
theorem flat_rel {α β γ:Type} {f:α→List γ} {g:β→List γ}:∀ {l:List α} {m:List β},l.length=m.length→(∀ (k:Nat) x y,l[k]?=some x→m[k]?=some y→f x=g y)→l.flatMap f=m.flatMap g
 | [],[],_,_=>rfl
 | [],_::_,h,_=>by simp at h
 | _::_,[],h,_=>by simp at h
 | x::l,y::m,h,hh=>by
  rw [List.flatMap_cons,List.flatMap_cons,hh 0 x y rfl rfl,flat_rel (l:=l) (m:=m) (by simpa using h) fun k a b ha hb=>hh (k+1) a b (by simpa using ha) (by simpa using hb)]
theorem flat_le {α β:Type} {f:α→List β} {n:Nat}:∀ {l:List α},(∀ x∈l,(f x).length≤n)→(l.flatMap f).length≤l.length*n
 | [],_=>by simp
 | x::l,h=>by
  have ih:=flat_le (f:=f) (n:=n) (l:=l) fun y hy=>h y (by simp [hy])
  have h1:=h x (by simp)
  rw [List.flatMap_cons,List.length_append,List.length_cons,Nat.add_mul]
  omega
theorem those_32 {u:Nat} {f:Cf→Bool}:∀ z∈thoseF u f,z<4294967296:=fun z hz=>cfgsN_32 (Nat.le_refl 32) (List.mem_filter.1 hz).1
abbrev lsT (x:RwV):List (ItV×(Cf→Bool)):=x.i.map fun y=>(y,setF y.q)
theorem TkG.kv {its:List ItV} {ts:List TkV} {ds:List DV} (h:TkG its ts ds):ts.map kvT=its.map fun y=>(y,setF y.q):=by
 rw [← h.x,List.map_map]
 exact List.map_congr_left fun t ht=>Prod.ext rfl (funext (h.d t ht).2.1)
theorem RtG.hd {u:Nat} {its:List ItV} {rs:List RtV} {cs:List (List Nat×Option Addr)} (h:RtG u its rs cs):rs.map hdR=(its.map fun y=>(y,setF y.q)).map (phi u):=by
 rw [← h.x,List.map_map,List.map_map]
 exact List.map_congr_left fun r hr=>Prod.ext rfl (by show r.c=thoseF u (setF r.x.q);rw [(h.d r hr).1,thoseL_F])
theorem kv_hdT {ts:List TkV} {L:List (ItV×(Cf→Bool))} (h:ts.map kvT=L):ts.map hdT=L.map fun a=>(kI a.1,a.2):=by
 rw [← h,List.map_map]
 rfl
theorem sameT {u:Nat} {its:List ItV} {ts:List TkV} {ds:List DV} {rs:List RtV} {cs:List (List Nat×Option Addr)} (h1:TkG its ts ds) (h2:RtG u its rs cs) (hi:∀ y∈its,inU y.q u) (i:Nat) (t:TkV) (r:RtV) (ht:ts[i]?=some t) (hr:rs[i]?=some r):SmT u t r:=by
 have e1:its[i]?=some t.x:=by rw [← h1.x,List.getElem?_map,ht];rfl
 have e2:its[i]?=some r.x:=by rw [← h2.x,List.getElem?_map,hr];rfl
 have e:t.x=r.x:=by rw [e1] at e2;exact Option.some.inj e2
 have d1:=h1.d t (List.mem_of_getElem? ht)
 have d2:=h2.d r (List.mem_of_getElem? hr)
 exact {ok:=d1.1,f:=⟨setF t.x.q,setF_dep (hi _ (List.mem_of_getElem? e1)),funext d1.2.1,by rw [d2.1,e,thoseL_F]⟩,p:=by rw [e],k:=by rw [e],fl:=⟨by rw [e],by rw [e]⟩,t:=by rw [e]}
theorem OwG.tR {w0 w:World} {C:List Chunk} {A:List DV} {L1:List (ItV×(Cf→Bool))} {L2:List ((Nat×List Int×Int×Int)×(Cf→Bool))} {m:OwV} (hm:OwG A (L1.map fun a=>(kI a.1,a.2)) L2 m) (h1:∀ a∈L1,a.1.p.length≤1000000000) (hS:St w0 [] C w) (c1:owT m∈C) (c2:dsC m.F m.ds∈C) (c3:pthC m.Q m.ps∈C) (hA:∀ v∈A,RdD w v.1 v.2.1):TsR w m.ts m.ta:=by
 refine ⟨RdSl.of_row (fun _ _=>rfl) (fun h=>h) (Nat.le_refl _) (hS.ok _ c1),fun t ht=>⟨pthC_rd (hS.ok _ c3) (hm.tp t ht),?_⟩,fun t ht=>?_⟩
 ·have h9:hdT t∈m.ts.map hdT:=List.mem_map_of_mem ht
  rw [hm.t] at h9
  obtain ⟨a,ha,e⟩:=List.mem_map.1 h9
  have e2:=congrArg Prod.fst e
  simp only [kI,Prod.mk.injEq] at e2
  obtain ⟨qk,qt,qp,qf,ql⟩:=e2
  rw [← qp]
  exact h1 a ha
 rcases (hm.td t ht).2 with h9 | h9
 ·exact dsC_rd (hS.ok _ c2) h9
 exact hA _ h9
theorem mkT {w:World} {u:Nat} {L:List (ItV×(Cf→Bool))} {rs:List RtV} {ra:Option Addr} (e:rs.map hdR=L.map (phi u)) (hx:∀ a∈L,RdC w a.1.p a.1.pa∧a.1.p.length≤1000000000) (hrow:RdSl rtC 6 w rs ra) (hc:∀ r∈rs,RdN w r.c r.ca):RsR w rs ra:=by
 refine ⟨hrow,fun r hr=>?_,fun r hr=>⟨hc r hr,?_⟩⟩
 ·have h9:hdR r∈rs.map hdR:=List.mem_map_of_mem hr
  rw [e] at h9
  obtain ⟨a,ha,e2⟩:=List.mem_map.1 h9
  rw [← (Prod.mk.inj e2).1]
  exact hx a ha
 have h9:hdR r∈rs.map hdR:=List.mem_map_of_mem hr
 rw [e] at h9
 obtain ⟨a,ha,e2⟩:=List.mem_map.1 h9
 rw [← (Prod.mk.inj e2).2]
 exact Nat.le_trans (Nat.le_trans (List.length_filter_le _ _) (cfgs_len u)) (by decide)
theorem c32T {u:Nat} {L:List (ItV×(Cf→Bool))} {rs:List RtV} (e:rs.map hdR=L.map (phi u)):∀ y∈rs,∀ z∈y.c,z<4294967296:=fun r hr z hz=>by
 have h9:hdR r∈rs.map hdR:=List.mem_map_of_mem hr
 rw [e] at h9
 obtain ⟨a,ha,e2⟩:=List.mem_map.1 h9
 rw [← (Prod.mk.inj e2).2] at hz
 exact those_32 z hz
abbrev lsD (x:RwV):List (NoV×(Cf→Bool)):=x.n.map fun y=>(y,setF y.q)
theorem DgG.kv {its:List NoV} {ts:List DgV} {ds:List DV} (h:DgG its ts ds):ts.map kvD=its.map fun y=>(y,setF y.q):=by
 rw [← h.x,List.map_map]
 exact List.map_congr_left fun t ht=>Prod.ext rfl (funext (h.d t ht).2.1)
theorem RgG.hd {u:Nat} {its:List NoV} {rs:List RgV} {cs:List (List Nat×Option Addr)} (h:RgG u its rs cs):rs.map hdG=(its.map fun y=>(y,setF y.q)).map (phi u):=by
 rw [← h.x,List.map_map,List.map_map]
 exact List.map_congr_left fun r hr=>Prod.ext rfl (by show r.c=thoseF u (setF r.x.q);rw [(h.d r hr).1,thoseL_F])
theorem kv_hdD {ts:List DgV} {L:List (NoV×(Cf→Bool))} (h:ts.map kvD=L):ts.map hdD=L.map fun a=>(kN a.1,a.2):=by
 rw [← h,List.map_map]
 rfl
theorem sameD {u:Nat} {its:List NoV} {ts:List DgV} {ds:List DV} {rs:List RgV} {cs:List (List Nat×Option Addr)} (h1:DgG its ts ds) (h2:RgG u its rs cs) (hi:∀ y∈its,inU y.q u) (i:Nat) (t:DgV) (r:RgV) (ht:ts[i]?=some t) (hr:rs[i]?=some r):SmG u t r:=by
 have e1:its[i]?=some t.x:=by rw [← h1.x,List.getElem?_map,ht];rfl
 have e2:its[i]?=some r.x:=by rw [← h2.x,List.getElem?_map,hr];rfl
 have e:t.x=r.x:=by rw [e1] at e2;exact Option.some.inj e2
 have d1:=h1.d t (List.mem_of_getElem? ht)
 have d2:=h2.d r (List.mem_of_getElem? hr)
 exact {ok:=d1.1,f:=⟨setF t.x.q,setF_dep (hi _ (List.mem_of_getElem? e1)),funext d1.2.1,by rw [d2.1,e,thoseL_F]⟩,p:=by rw [e],k:=by rw [e],fl:=⟨by rw [e],by rw [e]⟩}
theorem OwG.gR {w0 w:World} {C:List Chunk} {A:List DV} {L1:List (NoV×(Cf→Bool))} {L2:List ((Nat×List UInt8×List Int×Int×Int)×(Cf→Bool))} {m:OwV} (hm:OwG A L2 (L1.map fun a=>(kN a.1,a.2)) m) (h1:∀ a∈L1,a.1.p.length≤1000000000) (hS:St w0 [] C w) (c1:owD m∈C) (c2:dsC m.F m.ds∈C) (c3:pthC m.Q m.ps∈C) (hA:∀ v∈A,RdD w v.1 v.2.1):DsR w m.gs m.ga:=by
 refine ⟨RdSl.of_row (fun _ _=>rfl) (fun h=>h) (Nat.le_refl _) (hS.ok _ c1),fun t ht=>⟨pthC_rd (hS.ok _ c3) (hm.gp t ht),?_⟩,fun t ht=>?_⟩
 ·have h9:hdD t∈m.gs.map hdD:=List.mem_map_of_mem ht
  rw [hm.g] at h9
  obtain ⟨a,ha,e⟩:=List.mem_map.1 h9
  have e2:=congrArg Prod.fst e
  simp only [kN,Prod.mk.injEq] at e2
  obtain ⟨qk,qp,qf,ql⟩:=e2
  rw [← qp]
  exact h1 a ha
 rcases (hm.gd t ht).2 with h9 | h9
 ·exact dsC_rd (hS.ok _ c2) h9
 exact hA _ h9
theorem mkD {w:World} {u:Nat} {L:List (NoV×(Cf→Bool))} {rs:List RgV} {ra:Option Addr} (e:rs.map hdG=L.map (phi u)) (hx:∀ a∈L,RdC w a.1.p a.1.pa∧a.1.p.length≤1000000000) (hrow:RdSl rgC 5 w rs ra) (hc:∀ r∈rs,RdN w r.c r.ca):HsR w rs ra:=by
 refine ⟨hrow,fun r hr=>?_,fun r hr=>⟨hc r hr,?_⟩⟩
 ·have h9:hdG r∈rs.map hdG:=List.mem_map_of_mem hr
  rw [e] at h9
  obtain ⟨a,ha,e2⟩:=List.mem_map.1 h9
  rw [← (Prod.mk.inj e2).1]
  exact hx a ha
 have h9:hdG r∈rs.map hdG:=List.mem_map_of_mem hr
 rw [e] at h9
 obtain ⟨a,ha,e2⟩:=List.mem_map.1 h9
 rw [← (Prod.mk.inj e2).2]
 exact Nat.le_trans (Nat.le_trans (List.length_filter_le _ _) (cfgs_len u)) (by decide)
theorem c32D {u:Nat} {L:List (NoV×(Cf→Bool))} {rs:List RgV} (e:rs.map hdG=L.map (phi u)):∀ y∈rs,∀ z∈y.c,z<4294967296:=fun r hr z hz=>by
 have h9:hdG r∈rs.map hdG:=List.mem_map_of_mem hr
 rw [e] at h9
 obtain ⟨a,ha,e2⟩:=List.mem_map.1 h9
 rw [← (Prod.mk.inj e2).2] at hz
 exact those_32 z hz
end Go.Proofs.YtedbajbgnmaakaaGreatDoor
