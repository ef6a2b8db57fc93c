/- Parts of the walk, put together by a program. By an AI agent. -/
import Derived.Test.YtedbajbgnmaakaaGreatDoorPaSourceLists3
set_option linter.unusedSimpArgs false
set_option linter.unusedVariables false
namespace Go.Proofs.YtedbajbgnmaakaaGreatDoor
open Go Go.Eng Go.Proofs Dg
def keepE {α:Type} (em:α→Bool) (l:List α):List α:=l.filter fun t=> !em t
structure DelI {α:Type} (em:α→Bool) (l:List α) (i j:Nat) (R:List α):Prop where
 lt:i<j
 le:j≤l.length
 len:R.length=l.length
 tk:R.take i=keepE em (l.take j)
 dr:R.drop j=l.drop j
theorem DelI.at {α:Type} {em:α→Bool} {l R:List α} {i j:Nat} {x:α} (h:DelI em l i j R) (hx:l[j]?=some x):R[j]?=some x:=by
 have h1:=congrArg (fun z=>z[0]?) h.dr
 simp only [List.getElem?_drop,Nat.add_zero] at h1
 rw [h1,hx]
theorem DelI.skip {α:Type} {em:α→Bool} {l R:List α} {i j:Nat} {x:α} (h:DelI em l i j R) (hx:l[j]?=some x) (he:em x=true):DelI em l i (j+1) R:=by
 have hj:=(List.getElem?_eq_some_iff.1 hx).1
 refine ⟨by have:=h.lt;omega,hj,h.len,?_,?_⟩
 ·rw [h.tk,List.take_add_one,hx]
  unfold keepE
  simp [he]
 have:=congrArg (List.drop 1) h.dr
 simpa [List.drop_drop,Nat.add_comm] using this
theorem DelI.keep {α:Type} {em:α→Bool} {l R:List α} {i j:Nat} {x:α} (h:DelI em l i j R) (hx:l[j]?=some x) (he:em x=false):DelI em l (i+1) (j+1) (R.set i x):=by
 have hj:=(List.getElem?_eq_some_iff.1 hx).1
 have hij:=h.lt
 have hi:i<R.length:=by rw [h.len];omega
 refine ⟨by omega,hj,by rw [List.length_set,h.len],?_,?_⟩
 ·rw [List.take_add_one,List.getElem?_set_self hi,List.take_set_of_le (Nat.le_refl i),h.tk,List.take_add_one,hx]
  unfold keepE
  simp [he]
 rw [List.drop_set_of_lt (by omega)]
 have:=congrArg (List.drop 1) h.dr
 simpa [List.drop_drop,Nat.add_comm] using this
theorem setN_tail :∀ {xs:List Value} {off:Nat} {vs:List Value},off+vs.length=xs.length→SetN xs off vs (xs.take off++vs)
 | [],off,vs,h=>by
  simp only [List.length_nil] at h
  have h1:off=0:=by omega
  have h2:vs=[]:=List.eq_nil_of_length_eq_zero (by omega)
  subst h1;subst h2
  exact SetN.nil
 | x::xs,0,[],h=>by simp at h
 | x::xs,0,v::vs,h=>by
  have h9:=setN_tail (xs:=xs) (off:=0) (vs:=vs) (by simp at h ⊢;omega)
  rw [List.take_zero,List.nil_append] at h9
  exact SetN.put h9
 | x::xs,off+1,vs,h=>SetN.skip (setN_tail (by simp at h ⊢;omega))
theorem repl_len {zs:List Value}:∀ {m:Nat},(List.replicate m zs).flatten.length=m*zs.length
 | 0=>by simp
 | m+1=>by rw [List.replicate_succ,List.flatten_cons,List.length_append,repl_len,Nat.add_mul];omega
theorem setN_zeros {α:Type} {cells:α→List Value} {sz i m:Nat} {R:List α} {zs:List Value} (hc:∀ x,(cells x).length=sz) (hz:zs.length=sz) (him:i+m=R.length):SetN (R.flatMap cells) (0+i*sz) (List.replicate m zs).flatten ((R.flatMap cells).take (0+i*sz)++(List.replicate m zs).flatten):=by
 refine setN_tail ?_
 rw [repl_len,hz,flat_len (fun x _=>hc x),← him,Nat.add_mul]
 omega
theorem take_flatZ {α:Type} {cells:α→List Value} {sz i:Nat} {R:List α} {Z:List Value} (hc:∀ x,(cells x).length=sz) (hi:i≤R.length):((R.flatMap cells).take (0+i*sz)++Z).take (i*sz)=(R.take i).flatMap cells:=by
 have e:R.flatMap cells=(R.take i).flatMap cells++(R.drop i).flatMap cells:=by rw [← List.flatMap_append,List.take_append_drop]
 have hl:((R.take i).flatMap cells).length=i*sz:=by rw [flat_len (fun x _=>hc x),List.length_take,Nat.min_eq_left hi]
 rw [e,Nat.zero_add,List.take_left' hl,List.take_left' hl]
theorem DelI.start {α:Type} {em:α→Bool} {l:List α} {i:Nat} (hi:i<l.length) (hp:∀ z∈l.take i,em z=false) (hx:∀ x,l[i]?=some x→em x=true):DelI em l i (i+1) l:=by
 refine ⟨by omega,hi,rfl,?_,rfl⟩
 have hg:=List.getElem?_eq_getElem hi
 rw [List.take_add_one,hg]
 unfold keepE
 rw [List.filter_append]
 have e1:(l.take i).filter (fun t=> !em t)=l.take i:=List.filter_eq_self.2 fun z hz=>by rw [hp z hz];rfl
 rw [e1]
 simp [hx _ hg]
set_option maxRecDepth 1000000 in
theorem delK_c_s {G:Prop} (h:G:=by
   first | refine enter Tryz.func88 rfl Tryz.ntmps88 rfl (C:=[jW g l.length c 89 7 ((l).flatMap tkC)]) hS0 ?_ | refine enter Tryz.func92 rfl Tryz.ntmps92 rfl (C:=[jW g l.length c 95 6 ((l).flatMap dgC)]) hS0 ?_
   refine jN 13 ?_
   refine WL.call0 (β:=Int) (res:=fun x=> .returned (.int .i64 x)) (cs:=fun _=>[]) (ψ:=fun r=>FndI q1 l r) q2 (fun d h=>by cases h;rfl) rfl (fun w hS=>(q3 l (some ⟨g,0,none⟩) c bf hl w (RdSl.of_row (cells:=q4) (fun _ _=>rfl) (fun h=>h) (Nat.le_refl _) (hS.ok (jW g l.length c q5 q6 ((l).flatMap q4)) jM)) (hS.oldc hb (by simpa using hbg))).mono (fun e w2 ⟨x,h0,h1,h2⟩=>⟨x,h0,h1,h2⟩)) (fun r hfd=>After_ret ?_)
   refine jN 13 ?_
   refine WC.cond rfl (fun h12=>?_) (fun h12=>?_)
   ·have hall:∀ z∈l,q1 z=false:=by
     rcases hfd with ⟨_,h⟩ | ⟨i0,e,_⟩
     ·exact h
     ·exfalso;subst e;simp at h12
    have hk9:keepE q1 l=l:=List.filter_eq_self.2 fun z hz=>by rw [hall z hz];rfl
    refine jN 10 ?_
    exact WQ.ret (rs:=[.tmp 4]) rfl (.tmp rfl .nil) (fun w hS=>by rw [hk9];exact ⟨rfl,(jK hS)⟩)
   obtain ⟨i0,hri,hi0,hpre,hx0⟩:∃ i:Nat,r=(i:Int)∧i<l.length∧(∀ z∈l.take i,q1 z=false)∧∀ x,l[i]?=some x→q1 x=true:=by
    rcases hfd with ⟨e,_⟩ | h
    ·exfalso;subst e;simp at h12
    ·exact h
   subst hri
   refine jN 14 ?_
   refine WC.chunks (C':=[jW g l.length c q5 q6 ((l).flatMap q4)]) (fun w hS=>(jK hS)) ?_
   refine WC.loop (α:=Nat×Nat×List _) (fun z=>DelI q1 l z.1 z.2.1 z.2.2) (fun z=>[(0,.slice (some ⟨g,0,none⟩) l.length c),(1,.func (.func q7) [].toArray [pp bf].toArray),(5,.int .i64 (z.1:Int)),(6,.int .i64 (z.2.1:Int))]) (fun z=>[jW g l.length c q5 q6 ((z.2.2).flatMap q4)]) (fun z=>l.length - z.2.1) ((i0,i0+1,l)) ?_ ?_ ?_ ?_
   ·exact DelI.start hi0 hpre hx0
   ·exact ⟨rfl,rfl,rfl,rfl,trivial⟩
   ·rfl
   rintro ⟨i,j,R⟩ hI
   show WC _ _ _ _ _ _ _ [(0,.slice (some ⟨g,0,none⟩) l.length c),(1,.func (.func q7) [].toArray [pp bf].toArray),(5,.int .i64 (i:Int)),(6,.int .i64 (j:Int))] [jW g l.length c q5 q6 ((R).flatMap q4)]
   refine jN 13 ?_
   refine WC.cond rfl (fun h19=>?_) (fun h19=>?_)
   ·have hlt:j<l.length:=by simpa using h19
    obtain ⟨x,hx⟩:∃ y,l[j]?=some y:=⟨_,List.getElem?_eq_getElem hlt⟩
    have hxR:=hI.at hx
    have hij:i<j:=hI.lt
    have hRl:R.length=l.length:=hI.len
    refine jN 11 ?_
    refine WL.indexAddr q8 rfl rfl rfl hlt ?_
    refine jN 1 ?_
    refine WL.loadN q9 rfl rfl (vs:=q4 x) rfl (fun w hS jj v hv=>by rw [Nat.zero_add];exact rowc_cells (hS.ok (jW g l.length c q5 q6 ((R).flatMap q4)) jM) (flat_at (cells:=q4) (sz:=q6) (fun _ _=>rfl) hxR jj _ hv)) ?_
    refine jN 1 ?_
    refine WL.alloc q10 rfl (fun b7=>?_)
    refine jN 1 ?_
    refine WL.storeN q9 rfl rfl rfl (q11 x) jU (by repeat constructor) ?_
    refine jN 7 ?_
    refine WL.loadN q9 rfl rfl (vs:=q4 x) rfl (fun w hS jj v hv=>by rw [Nat.zero_add];exact hS.cell (cs:=q4 x) jM hv) ?_
    refine jN 1 ?_
    refine WL.callFC (β:=Unit) (res:=fun _=> .bool (q1 x)) (cs:=fun _=>[]) (Cs:=[]) (O':=[]) (us:=[]) (cap:=[pp bf]) q12 (fun d h=>by cases h;rfl) rfl rfl (List.Perm.refl _) (by simp) (by simp) (fun w hS _=>(q13 x bf w (hS.oldc hb (by simpa using hbg))).mono (fun e w2 h=>⟨(),h⟩)) (fun _=>?_)
    refine jN 4 ?_
    refine WC.cond rfl (fun h29=>?_) (fun h29=>?_)
    ·have hsf:q1 x=false:=by simpa using h29
     refine jN 7 ?_
     refine WL.loadN q9 rfl rfl (vs:=q4 x) rfl (fun w hS jj v hv=>by rw [Nat.zero_add];exact hS.cell (cs:=q4 x) jM hv) ?_
     refine jN 1 ?_
     refine WL.indexAddr q8 rfl rfl rfl (by omega) ?_
     refine jN 1 ?_
     refine WL.storeRow (n:=l.length) q9 rfl rfl rfl (by first | exact qO _ | simp [Value.oneCell']) (by omega) jU (by rw [Nat.zero_add];exact setN_flat (fun _=>rfl) (by omega)) ?_
     refine jN 20 ?_
     refine WQ.chunks (C':=[jW g l.length c q5 q6 ((R.set i x).flatMap q4)]) (fun w hS=>(jK hS)) ?_
     refine WQ.back ((i+1,j+1,R.set i x):Nat×Nat×List _) ?_ ?_ ?_ ?_
     ·exact hI.keep hx hsf
     ·show l.length - (j+1)<l.length - j;omega
     ·exact ⟨rfl,rfl,rfl,rfl,trivial⟩
     rfl
    have hsf:q1 x=true:=by simpa using h29
    refine jN 11 ?_
    refine WQ.chunks (C':=[jW g l.length c q5 q6 ((R).flatMap q4)]) (fun w hS=>(jK hS)) ?_
    refine WQ.back ((i,j+1,R):Nat×Nat×List _) ?_ ?_ ?_ ?_
    ·exact hI.skip hx hsf
    ·show l.length - (j+1)<l.length - j;omega
    ·exact ⟨rfl,rfl,rfl,rfl,trivial⟩
    rfl
   have hje:j=l.length:=by have h8:=hI.le;simp at h19;(have h9:j≤l.length:=h8);omega
   have hij:i<j:=hI.lt
   have hRl:R.length=l.length:=hI.len
   refine WC.know (φ:=l.length≤c) (fun w hS=>by obtain ⟨_,_,_,h8⟩:=rowc_addr (hS.ok (jW g l.length c q5 q6 ((R).flatMap q4)) jM) (by omega);exact h8) (fun hlc=>?_)
   refine jN 12 ?_
   refine WL.sliceSlF q8 rfl rfl rfl (by omega) (by omega) rfl rfl ?_
   refine jN 1 ?_
   refine WL.clearRow (zs:=_) q14 q10 (by simp) rfl (by first | exact qO _ | simp [Value.oneCell']) jU (setN_zeros (sz:=q6) (fun _=>rfl) rfl (by omega)) ?_
   refine jN 9 ?_
   refine WL.y (Yl.sliceSlTo q8 rfl rfl (by omega)) rfl (fun _ _=>trivial) ?_
   refine jN 5 ?_
   have hk9:R.take i=keepE q1 l:=by rw [hI.tk,hje,List.take_length]
   have hki:(keepE q1 l).length=i:=by rw [← hk9,List.length_take];omega
   refine WQ.ret (rs:=[.tmp 4]) rfl (.tmp rfl .nil) (fun w hS=>?_)
   rw [hki]
   refine ⟨rfl,?_⟩
   have h9:=St.rowTakeN (k:=i) hS (by omega) (by omega)
   rw [take_flatZ (cells:=q4) (sz:=q6) (i:=i) (R:=R) (fun _=>rfl) (by omega),hk9] at h9
   exact h9):G:=h
set_option maxRecDepth 100000 in
theorem delT_c (l:List TkV) (g c bf:Nat) (hl:l.length≤1000000) (hbg:bf≠g) (w:World) (hb:w.cell? ⟨bf,0,none⟩=some (.func (.func 52) [].toArray [].toArray)) (hS0:St w [g] [jW g l.length c 89 7 ((l).flatMap tkC)] w):Calls Tryz.prog 88 [.slice (some ⟨g,0,none⟩) l.length c,.func (.func 90) [].toArray [pp bf].toArray].toArray w fun e w'=>e= .returned (.slice (some ⟨g,0,none⟩) (keepE emT l).length c)∧St w [g] [jW g (keepE emT l).length c 89 7 ((keepE emT l).flatMap tkC)] w':=by
 let q1:=emT
 have q2:= @F.fun121
 have q3:= @idxT_c
 let q4:=tkC
 let q5:Nat:=89
 let q6:Nat:=7
 let q7:Nat:=90
 have q8:= @F.sl30
 have q9:= @F.agg89
 have q10:= @F.zero89
 have q11:= @tkC_one
 have q12:= @F.fun90
 have q13:= @jnT_c
 have q14:= @F.und30
 have qO:∀ x,∀ u∈tkC x,u.oneCell'=true:=fun x=>jO
 exact delK_c_s
set_option maxRecDepth 100000 in
theorem delD_c (l:List DgV) (g c bf:Nat) (hl:l.length≤1000000) (hbg:bf≠g) (w:World) (hb:w.cell? ⟨bf,0,none⟩=some (.func (.func 54) [].toArray [].toArray)) (hS0:St w [g] [jW g l.length c 95 6 ((l).flatMap dgC)] w):Calls Tryz.prog 92 [.slice (some ⟨g,0,none⟩) l.length c,.func (.func 94) [].toArray [pp bf].toArray].toArray w fun e w'=>e= .returned (.slice (some ⟨g,0,none⟩) (keepE emD l).length c)∧St w [g] [jW g (keepE emD l).length c 95 6 ((keepE emD l).flatMap dgC)] w':=by
 let q1:=emD
 have q2:= @F.fun123
 have q3:= @idxD_c
 let q4:=dgC
 let q5:Nat:=95
 let q6:Nat:=6
 let q7:Nat:=94
 have q8:= @F.sl31
 have q9:= @F.agg95
 have q10:= @F.zero95
 have q11:= @dgC_one
 have q12:= @F.fun94
 have q13:= @jnD_c
 have q14:= @F.und31
 have qO:∀ x,∀ u∈dgC x,u.oneCell'=true:=fun x=>jO
 exact delK_c_s
set_option maxRecDepth 100000 in
theorem delT0_c (a:Option Addr) (c bf:Nat) (w:World) (hb:w.cell? ⟨bf,0,none⟩=some (.func (.func 52) [].toArray [].toArray)):
  Pure Tryz.prog 88 [.slice a 0 c,.func (.func 90) [].toArray [pp bf].toArray] w (.slice a 0 c):=by
 refine enter Tryz.func88 rfl Tryz.ntmps88 rfl (St.init _) ?_
 refine jN 13 ?_
 refine WL.call0 (β:=Int) (res:=fun x=> .returned (.int .i64 x)) (cs:=fun _=>[]) (ψ:=fun r=>FndI emT ([]:List TkV) r) F.fun121 (fun d h=>by cases h;rfl) rfl (fun w hS=>(idxT_c [] a c bf (by simp) w (fun i x hx=>by simp at hx) (hS.oldc hb (by simp))).mono (fun e w2 ⟨x,h0,h1,h2⟩=>⟨x,h0,h1,h2⟩)) (fun r hfd=>After_ret ?_)
 refine jN 7 ?_
 have hr1:r= -1:=by
  rcases hfd with ⟨e,_⟩ | ⟨i0,_,h,_⟩
  ·exact e
  ·simp at h
 subst hr1
 refine jN 17 ?_
 exact WQ.ret (rs:=[.tmp 4]) rfl (.tmp rfl .nil) (fun w hS=>⟨rfl,hS⟩)
set_option maxRecDepth 100000 in
theorem delD0_c (a:Option Addr) (c bf:Nat) (w:World) (hb:w.cell? ⟨bf,0,none⟩=some (.func (.func 54) [].toArray [].toArray)):
  Pure Tryz.prog 92 [.slice a 0 c,.func (.func 94) [].toArray [pp bf].toArray] w (.slice a 0 c):=by
 refine enter Tryz.func92 rfl Tryz.ntmps92 rfl (St.init _) ?_
 refine jN 13 ?_
 refine WL.call0 (β:=Int) (res:=fun x=> .returned (.int .i64 x)) (cs:=fun _=>[]) (ψ:=fun r=>FndI emD ([]:List DgV) r) F.fun123 (fun d h=>by cases h;rfl) rfl (fun w hS=>(idxD_c [] a c bf (by simp) w (fun i x hx=>by simp at hx) (hS.oldc hb (by simp))).mono (fun e w2 ⟨x,h0,h1,h2⟩=>⟨x,h0,h1,h2⟩)) (fun r hfd=>After_ret ?_)
 refine jN 7 ?_
 have hr1:r= -1:=by
  rcases hfd with ⟨e,_⟩ | ⟨i0,_,h,_⟩
  ·exact e
  ·simp at h
 subst hr1
 refine jN 17 ?_
 exact WQ.ret (rs:=[.tmp 4]) rfl (.tmp rfl .nil) (fun w hS=>⟨rfl,hS⟩)
theorem insT0_c (a:Option Addr) (c:Nat) (v:Value) (w:World):
  Pure Tryz.prog 158 [.slice a 0 c,.int .i64 0,.int .i64 0,v] w (.tuple #[]):=by
 refine enter Tryz.func158 rfl Tryz.ntmps158 rfl (St.init _) ?_
 refine jN 11 ?_
 refine WC.loop (α:=Unit) (fun _=>True) (fun _=>[(2,.int .i64 0),(8,.int .i64 1)]) (fun _=>[]) (fun _=>0) (()) ?_ ?_ ?_ ?_
 ·exact trivial
 ·exact ⟨rfl,rfl,trivial⟩
 ·rfl
 rintro ⟨⟩ _
 show WC _ _ _ _ _ _ _ [(2,.int .i64 0),(8,.int .i64 1)] []
 refine jN 16 ?_
 refine WQ.fin (rs:=[]) rfl .nil (fun w hS=>?_)
 exact ⟨rfl,hS⟩
theorem stbT0_c (a:Option Addr) (c:Nat) (v:Value) (w:World):
  Pure Tryz.prog 122 [.slice a 0 c,.int .i64 0,v] w (.tuple #[]):=by
 refine enter Tryz.func122 rfl Tryz.ntmps122 rfl (St.init _) ?_
 refine jN 18 ?_
 refine WC.loop (α:=Unit) (fun _=>True) (fun _=>[(0,.slice a 0 c),(1,.int .i64 0),(2,v),(6,.int .i64 20),(7,.int .i64 0),(8,.int .i64 20)]) (fun _=>[]) (fun _=>0) (()) ?_ ?_ ?_ ?_
 ·exact trivial
 ·exact ⟨rfl,rfl,rfl,rfl,rfl,rfl,trivial⟩
 ·rfl
 rintro ⟨⟩ _
 show WC _ _ _ _ _ _ _ [(0,.slice a 0 c),(1,.int .i64 0),(2,v),(6,.int .i64 20),(7,.int .i64 0),(8,.int .i64 20)] []
 refine jN 28 ?_
 refine WL.callV (v:= .tuple #[]) F.fun158 rfl rfl (fun w hS=>insT0_c a c v w) ?_
 refine jN 3 ?_
 refine WC.loop (α:=Unit) (fun _=>True) (fun _=>[(1,.int .i64 0),(6,.int .i64 20)]) (fun _=>[]) (fun _=>0) (()) ?_ ?_ ?_ ?_
 ·exact trivial
 ·exact ⟨rfl,rfl,trivial⟩
 ·rfl
 rintro ⟨⟩ _
 show WC _ _ _ _ _ _ _ [(1,.int .i64 0),(6,.int .i64 20)] []
 refine jN 16 ?_
 refine WQ.fin (rs:=[]) rfl .nil (fun w hS=>?_)
 exact ⟨rfl,hS⟩
theorem sstT0_c (a:Option Addr) (c:Nat) (v:Value) (w:World):
  Pure Tryz.prog 91 [.slice a 0 c,v] w (.tuple #[]):=by
 refine enter Tryz.func91 rfl Tryz.ntmps91 rfl (St.init _) ?_
 refine jN 10 ?_
 refine WL.callV (v:= .tuple #[]) F.fun122 rfl rfl (fun w hS=>stbT0_c a c v w) ?_
 refine jN 1 ?_
 refine WQ.fin (rs:=[]) rfl .nil (fun w hS=>?_)
 exact ⟨rfl,hS⟩
theorem insD0_c (a:Option Addr) (c:Nat) (v:Value) (w:World):
  Pure Tryz.prog 160 [.slice a 0 c,.int .i64 0,.int .i64 0,v] w (.tuple #[]):=by
 refine enter Tryz.func160 rfl Tryz.ntmps160 rfl (St.init _) ?_
 refine jN 11 ?_
 refine WC.loop (α:=Unit) (fun _=>True) (fun _=>[(2,.int .i64 0),(8,.int .i64 1)]) (fun _=>[]) (fun _=>0) (()) ?_ ?_ ?_ ?_
 ·exact trivial
 ·exact ⟨rfl,rfl,trivial⟩
 ·rfl
 rintro ⟨⟩ _
 show WC _ _ _ _ _ _ _ [(2,.int .i64 0),(8,.int .i64 1)] []
 refine jN 16 ?_
 refine WQ.fin (rs:=[]) rfl .nil (fun w hS=>?_)
 exact ⟨rfl,hS⟩
theorem stbD0_c (a:Option Addr) (c:Nat) (v:Value) (w:World):
  Pure Tryz.prog 124 [.slice a 0 c,.int .i64 0,v] w (.tuple #[]):=by
 refine enter Tryz.func124 rfl Tryz.ntmps124 rfl (St.init _) ?_
 refine jN 18 ?_
 refine WC.loop (α:=Unit) (fun _=>True) (fun _=>[(0,.slice a 0 c),(1,.int .i64 0),(2,v),(6,.int .i64 20),(7,.int .i64 0),(8,.int .i64 20)]) (fun _=>[]) (fun _=>0) (()) ?_ ?_ ?_ ?_
 ·exact trivial
 ·exact ⟨rfl,rfl,rfl,rfl,rfl,rfl,trivial⟩
 ·rfl
 rintro ⟨⟩ _
 show WC _ _ _ _ _ _ _ [(0,.slice a 0 c),(1,.int .i64 0),(2,v),(6,.int .i64 20),(7,.int .i64 0),(8,.int .i64 20)] []
 refine jN 28 ?_
 refine WL.callV (v:= .tuple #[]) F.fun160 rfl rfl (fun w hS=>insD0_c a c v w) ?_
 refine jN 3 ?_
 refine WC.loop (α:=Unit) (fun _=>True) (fun _=>[(1,.int .i64 0),(6,.int .i64 20)]) (fun _=>[]) (fun _=>0) (()) ?_ ?_ ?_ ?_
 ·exact trivial
 ·exact ⟨rfl,rfl,trivial⟩
 ·rfl
 rintro ⟨⟩ _
 show WC _ _ _ _ _ _ _ [(1,.int .i64 0),(6,.int .i64 20)] []
 refine jN 16 ?_
 refine WQ.fin (rs:=[]) rfl .nil (fun w hS=>?_)
 exact ⟨rfl,hS⟩
theorem sstD0_c (a:Option Addr) (c:Nat) (v:Value) (w:World):
  Pure Tryz.prog 95 [.slice a 0 c,v] w (.tuple #[]):=by
 refine enter Tryz.func95 rfl Tryz.ntmps95 rfl (St.init _) ?_
 refine jN 10 ?_
 refine WL.callV (v:= .tuple #[]) F.fun124 rfl rfl (fun w hS=>stbD0_c a c v w) ?_
 refine jN 1 ?_
 refine WQ.fin (rs:=[]) rfl .nil (fun w hS=>?_)
 exact ⟨rfl,hS⟩
structure RlV where
 rs:List RtV
 ra:Option Addr
 rc:Nat
 hs:List RgV
 ha:Option Addr
 hc:Nat
 G:List Nat
 cs:List (List Nat×Option Addr)
abbrev rlR (m:RlV):Chunk:=rowc (.slice m.ra m.rs.length m.rc) m.rs.length 93 6 (m.rs.flatMap rtC)
abbrev rlH (m:RlV):Chunk:=rowc (.slice m.ha m.hs.length m.hc) m.hs.length 97 5 (m.hs.flatMap rgC)
abbrev rlB (m:RlV):List Value:=[.slice m.ra m.rs.length m.rc,.slice m.ha m.hs.length m.hc]
abbrev hdR (r:RtV):ItV×List Nat:=(r.x,r.c)
abbrev hdG (r:RgV):NoV×List Nat:=(r.x,r.c)
def resR {α:Type} (d:List Nat) (l:List (α×List Nat)):List (α×List Nat):=(l.map fun r=>(r.1,meetN r.2 d)).filter fun r=>decide (r.2≠[])
theorem resR_T {α:Type} {d:List Nat} {l:List (α×List Nat)} {i:Nat} {r:α×List Nat} (h:l[i]?=some r) (hb:meetN r.2 d≠[]):resR d (l.take (i+1))=resR d (l.take i)++[(r.1,meetN r.2 d)]:=by
 unfold resR
 rw [List.take_add_one,h,List.map_append,List.filter_append]
 simp [hb]
theorem resR_F {α:Type} {d:List Nat} {l:List (α×List Nat)} {i:Nat} {r:α×List Nat} (h:l[i]?=some r) (hb:meetN r.2 d=[]):resR d (l.take (i+1))=resR d (l.take i):=by
 unfold resR
 rw [List.take_add_one,h,List.map_append,List.filter_append]
 simp [hb]
theorem resR_len {α:Type} {d:List Nat} {l:List (α×List Nat)} {i:Nat}:(resR d (l.take i)).length≤i:=by
 unfold resR
 refine Nat.le_trans (List.length_filter_le _ _) ?_
 rw [List.length_map]
 exact List.length_take_le _ _
structure RlG (a:List (ItV×List Nat)) (b:List (NoV×List Nat)) (m:RlV):Prop where
 r:m.rs.map hdR=a
 h:m.hs.map hdG=b
 rp:∀ r∈m.rs,(r.c,r.ca)∈m.cs
 hp:∀ r∈m.hs,(r.c,r.ca)∈m.cs
theorem map_at {α β:Type} {f:α→β} {l:List α} {i:Nat} {x:α} (h:l[i]?=some x):(l.map f)[i]?=some (f x):=by rw [List.getElem?_map,h];rfl
set_option maxRecDepth 100000 in
theorem rRestrict_c (l:List RtV) (g:List RgV) (d:List Nat) (la ga da:Option Addr) (lc gc dc:Nat) (hl:l.length≤1000) (hg:g.length≤1000) (hdl:d.length≤1000000000000000) (w:World) (h1:RdSl rtC 6 w l la) (h2:RdSl rgC 5 w g ga) (hd:RdN w d da) (hd1:∀ r∈l,RdN w r.c r.ca∧r.c.length≤4294967296) (hd2:∀ r∈g,RdN w r.c r.ca∧r.c.length≤4294967296):
  Calls Tryz.prog 13 [.agg [.slice la l.length lc,.slice ga g.length gc].toArray,.slice da d.length dc].toArray w fun e w'=>∃ m:RlV,RlG (resR d (l.map hdR)) (resR d (g.map hdG)) m∧e= .returned (.agg (rlB m).toArray)∧St w [] [rlR m,rlH m,insC m.G m.cs] w':=by
 refine enter Tryz.func13 rfl Tryz.ntmps13 rfl (St.init _) ?_
 refine jN 3 ?_
 refine WL.boxN rfl rfl (fun b2=>?_)
 refine jN 1 ?_
 refine WL.alloc F.zero37 rfl (fun b4=>?_)
 refine jN 5 ?_
 refine WL.alloc F.zero37 rfl (fun b5=>?_)
 refine jN 10 ?_
 refine WC.chunks (C':=[pt b2 [.slice la l.length lc,.slice ga g.length gc] 37,pt b4 [.slice none 0 0,.slice none 0 0] 37,pt b5 [.slice none 0 0,.slice none 0 0] 37,rowc (.slice none 0 0) 0 93 6 [],rowc (.slice none 0 0) 0 97 5 [],insC [] []]) (fun w hS=>(jK (St.rowNil (St.rowNil (St.insNil hS) 97 5) 93 6))) ?_
 refine WC.loop (α:=Nat×RlV) (fun z=>z.1≤l.length∧RlG (resR d ((l.map hdR).take z.1)) (resR d ((g.map hdG).take 0)) z.2) (fun z=>[(1,.slice da d.length dc),(2,pp b2),(4,pp b4),(5,pp b5),(6,.int .i64 (z.1:Int))]) (fun z=>[pt b2 [.slice la l.length lc,.slice ga g.length gc] 37,pt b4 [.slice none 0 0,.slice none 0 0] 37,pt b5 (rlB z.2) 37,rlR z.2,rlH z.2,insC z.2.G z.2.cs]) (fun z=>l.length - z.1) ((0,(⟨[],none,0,[],none,0,[],[]⟩:RlV))) ?_ ?_ ?_ ?_
 ·exact ⟨Nat.zero_le _,⟨rfl,rfl,by simp,by simp⟩⟩
 ·exact ⟨rfl,rfl,rfl,rfl,rfl,trivial⟩
 ·rfl
 rintro ⟨i,m⟩ ⟨hi,hm⟩
 dsimp only at hi hm
 show WC _ _ _ _ _ _ _ [(1,.slice da d.length dc),(2,pp b2),(4,pp b4),(5,pp b5),(6,.int .i64 (i:Int))] [pt b2 [.slice la l.length lc,.slice ga g.length gc] 37,pt b4 [.slice none 0 0,.slice none 0 0] 37,pt b5 (rlB m) 37,rlR m,rlH m,insC m.G m.cs]
 refine jN 15 ?_
 refine WC.cond rfl (fun hc1=>?_) (fun hc1=>?_)
 ·have hlt:i<l.length:=by simpa using hc1
  obtain ⟨r,hr9⟩:∃ z,l[i]?=some z:=⟨_,List.getElem?_eq_getElem hlt⟩
  have hrm:=List.mem_of_getElem? hr9
  obtain ⟨b,o,h1a,hcx⟩:=h1 i r hr9
  subst h1a
  have hml:m.rs.length≤i:=by
   have h9:=congrArg List.length hm.r
   rw [List.length_map] at h9
   rw [h9];exact resR_len
  refine jN 13 ?_
  refine WL.indexAddr F.sl34 rfl rfl rfl hlt ?_
  refine jN 1 ?_
  refine WL.loadN F.agg93 rfl rfl (vs:=rtC r) rfl (fun w hS j v hv=>hS.oldc (hcx j v hv) (by simp)) ?_
  refine jN 1 ?_
  refine WL.alloc F.zero93 rfl (fun b7=>?_)
  refine jN 13 ?_
  refine WL.call0 (β:=Option Addr×Nat) (res:=fun x=> .returned (.slice x.1 (meetN r.c d).length x.2)) (cs:=fun x=>[rowc (.slice x.1 (meetN r.c d).length x.2) (meetN r.c d).length 24 1 ((meetN r.c d).flatMap nC)]) (ψ:=fun _=>True) F.fun46 (fun d h=>by cases h;rfl) rfl (fun w hS=>(rMeet_c r.c d r.ca da r.cc dc (hd1 r hrm).2 hdl w ((hd1 r hrm).1.next hS) (hd.next hS)).mono (fun e w2 ⟨x,h1,h2⟩=>⟨x,trivial,h1,h2⟩)) (fun ⟨xa,xc⟩ _=>After_ret ?_)
  refine jN 18 ?_
  refine WC.cond rfl (fun hn1=>?_) (fun hn1=>?_)
  ·have hne:meetN r.c d≠[]:=by intro e;rw [e] at hn1;simp at hn1
   refine jN 8 ?_
   refine WL.buildSlice F.sl34 F.ez34 rfl rfl rfl rfl jB rfl (fun b34=>?_)
   refine jN 1 ?_
   refine WL.appendE (news:=[.int .u8 (r.x.k:Int),.string (str r.x.t),.slice r.x.pa r.x.p.length r.x.pc,.int .i64 r.x.f,.int .i64 r.x.l,.slice xa (meetN r.c d).length xc]) F.el34 rfl rfl rfl jR (fun w hS jj u hu9=>by rw [Nat.zero_add];exact hS.cell (cs:=[.int .u8 (r.x.k:Int),.string (str r.x.t),.slice r.x.pa r.x.p.length r.x.pc,.int .i64 r.x.f,.int .i64 r.x.l,.slice xa (meetN r.c d).length xc]) jM hu9) rfl jO (Nat.le_trans (m:=2000) (by omega) (by decide)) (by omega) (fun a9 c9=>?_)
   refine jN 15 ?_
   refine WQ.chunksE (C':=fun G9=>[pt b2 [.slice (some ⟨b,o,none⟩) l.length lc,.slice ga g.length gc] 37,pt b4 [.slice none 0 0,.slice none 0 0] 37,pt b5 [.slice a9 (m.rs.length+1) c9,.slice m.ha m.hs.length m.hc] 37,rowc (.slice a9 (m.rs.length+1) c9) (m.rs.length+1) 93 6 (m.rs.flatMap rtC++[.int .u8 (r.x.k:Int),.string (str r.x.t),.slice r.x.pa r.x.p.length r.x.pc,.int .i64 r.x.f,.int .i64 r.x.l,.slice xa (meetN r.c d).length xc]),rlH m,insC G9 (m.cs++[(meetN r.c d,xa)])]) (fun w hS=>?_) (fun G9=>?_)
   ·obtain ⟨G9,hG9⟩:=St.insSnoc ((St.pick (St.pick hS (c:=rowc (.slice xa (meetN r.c d).length xc) (meetN r.c d).length 24 1 ((meetN r.c d).flatMap nC)) jR) (c:=insC m.G m.cs) jR))
    exact ⟨G9,(jK hG9)⟩
   refine WQ.back (i+1,(⟨m.rs++[(⟨r.x,meetN r.c d,xa,xc⟩:RtV)],a9,c9,m.hs,m.ha,m.hc,G9,m.cs++[(meetN r.c d,xa)]⟩:RlV)) ?_ ?_ ?_ ?_
   ·exact ⟨by show i+1≤l.length;omega,⟨by (show (m.rs++[(⟨r.x,meetN r.c d,xa,xc⟩:RtV)]).map hdR=_);rw [List.map_append,hm.r,resR_T (map_at (f:=hdR) hr9) hne];rfl,hm.h,fun r9 h9=>by rcases List.mem_append.1 h9 with h9 | h9;exact List.mem_append_left _ (hm.rp r9 h9);rw [List.mem_singleton.1 h9];simp,fun r9 h9=>List.mem_append_left _ (hm.hp r9 h9)⟩⟩
   ·show l.length - (i+1)<l.length - i;omega
   ·exact ⟨rfl,rfl,rfl,rfl,rfl,trivial⟩
   simp only [rlR,rlH,rlB,List.length_append,List.length_cons,List.length_nil,List.flatMap_append]
   rfl
  have hem:meetN r.c d=[]:=by simpa using hn1
  refine jN 11 ?_
  refine WQ.chunks (C':=[pt b2 [.slice (some ⟨b,o,none⟩) l.length lc,.slice ga g.length gc] 37,pt b4 [.slice none 0 0,.slice none 0 0] 37,pt b5 (rlB m) 37,rlR m,rlH m,insC m.G m.cs]) (fun w hS=>(jK hS)) ?_
  refine WQ.back (i+1,m) ?_ ?_ ?_ ?_
  ·exact ⟨by show i+1≤l.length;omega,⟨by rw [hm.r,resR_F (map_at (f:=hdR) hr9) hem],hm.h,hm.rp,hm.hp⟩⟩
  ·show l.length - (i+1)<l.length - i;omega
  ·exact ⟨rfl,rfl,rfl,rfl,rfl,trivial⟩
  rfl
 have hie:i=l.length:=by simp at hc1;omega
 subst hie
 refine jN 13 ?_
 refine WC.loop (α:=Nat×RlV) (fun z=>z.1≤g.length∧RlG (resR d ((l.map hdR).take l.length)) (resR d ((g.map hdG).take z.1)) z.2) (fun z=>[(1,.slice da d.length dc),(2,pp b2),(4,pp b4),(5,pp b5),(8,.int .i64 (z.1:Int))]) (fun z=>[pt b2 [.slice la l.length lc,.slice ga g.length gc] 37,pt b4 [.slice none 0 0,.slice none 0 0] 37,pt b5 (rlB z.2) 37,rlR z.2,rlH z.2,insC z.2.G z.2.cs]) (fun z=>g.length - z.1) ((0,m)) ?_ ?_ ?_ ?_
 ·exact ⟨Nat.zero_le _,hm⟩
 ·exact ⟨rfl,rfl,rfl,rfl,rfl,trivial⟩
 ·rfl
 rintro ⟨k,m⟩ ⟨hk,hm⟩
 dsimp only at hk hm
 show WC _ _ _ _ _ _ _ [(1,.slice da d.length dc),(2,pp b2),(4,pp b4),(5,pp b5),(8,.int .i64 (k:Int))] [pt b2 [.slice la l.length lc,.slice ga g.length gc] 37,pt b4 [.slice none 0 0,.slice none 0 0] 37,pt b5 (rlB m) 37,rlR m,rlH m,insC m.G m.cs]
 refine jN 15 ?_
 refine WC.cond rfl (fun hc2=>?_) (fun hc2=>?_)
 ·have hlt:k<g.length:=by simpa using hc2
  obtain ⟨r,hr9⟩:∃ z,g[k]?=some z:=⟨_,List.getElem?_eq_getElem hlt⟩
  have hrm:=List.mem_of_getElem? hr9
  obtain ⟨b,o,h2a,hcx⟩:=h2 k r hr9
  subst h2a
  have hml:m.hs.length≤k:=by
   have h9:=congrArg List.length hm.h
   rw [List.length_map] at h9
   rw [h9];exact resR_len
  refine jN 13 ?_
  refine WL.indexAddr F.sl35 rfl rfl rfl hlt ?_
  refine jN 1 ?_
  refine WL.loadN F.agg97 rfl rfl (vs:=rgC r) rfl (fun w hS j v hv=>hS.oldc (hcx j v hv) (by simp)) ?_
  refine jN 1 ?_
  refine WL.alloc F.zero97 rfl (fun b9=>?_)
  refine jN 13 ?_
  refine WL.call0 (β:=Option Addr×Nat) (res:=fun x=> .returned (.slice x.1 (meetN r.c d).length x.2)) (cs:=fun x=>[rowc (.slice x.1 (meetN r.c d).length x.2) (meetN r.c d).length 24 1 ((meetN r.c d).flatMap nC)]) (ψ:=fun _=>True) F.fun46 (fun d h=>by cases h;rfl) rfl (fun w hS=>(rMeet_c r.c d r.ca da r.cc dc (hd2 r hrm).2 hdl w ((hd2 r hrm).1.next hS) (hd.next hS)).mono (fun e w2 ⟨x,h1,h2⟩=>⟨x,trivial,h1,h2⟩)) (fun ⟨xa,xc⟩ _=>After_ret ?_)
  refine jN 18 ?_
  refine WC.cond rfl (fun hn2=>?_) (fun hn2=>?_)
  ·have hne:meetN r.c d≠[]:=by intro e;rw [e] at hn2;simp at hn2
   refine jN 8 ?_
   refine WL.buildSlice F.sl35 F.ez35 rfl rfl rfl rfl jB rfl (fun b61=>?_)
   refine jN 1 ?_
   refine WL.appendE (news:=[.int .u8 (r.x.k:Int),.slice r.x.pa r.x.p.length r.x.pc,.int .i64 r.x.f,.int .i64 r.x.l,.slice xa (meetN r.c d).length xc]) F.el35 rfl rfl rfl jR (fun w hS jj u hu9=>by rw [Nat.zero_add];exact hS.cell (cs:=[.int .u8 (r.x.k:Int),.slice r.x.pa r.x.p.length r.x.pc,.int .i64 r.x.f,.int .i64 r.x.l,.slice xa (meetN r.c d).length xc]) jM hu9) rfl jO (Nat.le_trans (m:=2000) (by omega) (by decide)) (by omega) (fun a9 c9=>?_)
   refine jN 15 ?_
   refine WQ.chunksE (C':=fun G9=>[pt b2 [.slice la l.length lc,.slice (some ⟨b,o,none⟩) g.length gc] 37,pt b4 [.slice none 0 0,.slice none 0 0] 37,pt b5 [.slice m.ra m.rs.length m.rc,.slice a9 (m.hs.length+1) c9] 37,rlR m,rowc (.slice a9 (m.hs.length+1) c9) (m.hs.length+1) 97 5 (m.hs.flatMap rgC++[.int .u8 (r.x.k:Int),.slice r.x.pa r.x.p.length r.x.pc,.int .i64 r.x.f,.int .i64 r.x.l,.slice xa (meetN r.c d).length xc]),insC G9 (m.cs++[(meetN r.c d,xa)])]) (fun w hS=>?_) (fun G9=>?_)
   ·obtain ⟨G9,hG9⟩:=St.insSnoc ((St.pick (St.pick hS (c:=rowc (.slice xa (meetN r.c d).length xc) (meetN r.c d).length 24 1 ((meetN r.c d).flatMap nC)) jR) (c:=insC m.G m.cs) jR))
    exact ⟨G9,(jK hG9)⟩
   refine WQ.back (k+1,(⟨m.rs,m.ra,m.rc,m.hs++[(⟨r.x,meetN r.c d,xa,xc⟩:RgV)],a9,c9,G9,m.cs++[(meetN r.c d,xa)]⟩:RlV)) ?_ ?_ ?_ ?_
   ·exact ⟨by show k+1≤g.length;omega,⟨hm.r,by (show (m.hs++[(⟨r.x,meetN r.c d,xa,xc⟩:RgV)]).map hdG=_);rw [List.map_append,hm.h,resR_T (map_at (f:=hdG) hr9) hne];rfl,fun r9 h9=>List.mem_append_left _ (hm.rp r9 h9),fun r9 h9=>by rcases List.mem_append.1 h9 with h9 | h9;exact List.mem_append_left _ (hm.hp r9 h9);rw [List.mem_singleton.1 h9];simp⟩⟩
   ·show g.length - (k+1)<g.length - k;omega
   ·exact ⟨rfl,rfl,rfl,rfl,rfl,trivial⟩
   simp only [rlR,rlH,rlB,List.length_append,List.length_cons,List.length_nil,List.flatMap_append]
   rfl
  have hem:meetN r.c d=[]:=by simpa using hn2
  refine jN 11 ?_
  refine WQ.chunks (C':=[pt b2 [.slice la l.length lc,.slice (some ⟨b,o,none⟩) g.length gc] 37,pt b4 [.slice none 0 0,.slice none 0 0] 37,pt b5 (rlB m) 37,rlR m,rlH m,insC m.G m.cs]) (fun w hS=>(jK hS)) ?_
  refine WQ.back (k+1,m) ?_ ?_ ?_ ?_
  ·exact ⟨by show k+1≤g.length;omega,⟨hm.r,by rw [hm.h,resR_F (map_at (f:=hdG) hr9) hem],hm.rp,hm.hp⟩⟩
  ·show g.length - (k+1)<g.length - k;omega
  ·exact ⟨rfl,rfl,rfl,rfl,rfl,trivial⟩
  rfl
 have hie:k=g.length:=by simp at hc2;omega
 subst hie
 refine jN 14 ?_
 refine WQ.ret (rs:=[.cell 4 37]) rfl (.cellN F.agg37 rfl jM rfl .nil) (fun w hS=>⟨m,⟨by rw [hm.r,← List.length_map (f:=hdR),List.take_length],by rw [hm.h,← List.length_map (f:=hdG),List.take_length],hm.rp,hm.hp⟩,rfl,(jK hS)⟩)
end Go.Proofs.YtedbajbgnmaakaaGreatDoor
namespace Go.Eng
open Go Go.RowKit
section
variable {w0 : World} {O : List Nat} {C : List Chunk}
end
open Go Go.RowKit
section
variable {P : Program} {w0 : World} {O : List Nat} {ops : Array Oper} {Q : Exit → Act → World → Prop} {N : Nat} {D : List Deferred} {L : FL} {C : List Chunk} {K : Act → World → Prop}
variable {ty : TypeId} {pos : String} {af : Array Edge}
theorem WL.storeRow1 {t:TypeId} {n sz cap:Nat} {x y:Operand} {g off:Nat} {xs xs':List Value} {v:Value} {e:TypeId} {C':List Chunk} (ht:One P t) (hx:ev L x=some (.pointer (some ⟨g,off,none⟩))) (hy:ev L y=some v) (hv:v.oneCell'=true)
  (hu:Upd (jW g n cap e sz xs) (jW g n cap e sz xs') C C') (hn:SetN xs off [v] xs') (h:WA w0 O K N D L C'):
  WK P w0 O ops Q ⟨none,.store t x y,ty,pos,af,none⟩ K N D L C:=fun a w hF hS=>by
 obtain ⟨hlen,hr⟩:=(show w.ownsRow 0 e sz (.slice (some ⟨g,0,none⟩) n cap) n xs from hS.ok _ hu.mem)
 rcases hr with ⟨h1,_⟩ | ⟨g',cap',cur,h1,_,hh,hnc,hcm,hcs,htk⟩
 ·cases h1
 ·injection h1 with h1 h2 h3
  injection h1 with h1
  injection h1 with h1
  subst h1;subst h3
  have hsplit:cur.toList=xs++cur.toList.drop (n*sz):=by rw [← htk,List.take_append_drop]
  have hn':SetN cur.toList off [v] (xs'++cur.toList.drop (n*sz)):=by
   have:=hn.append (cur.toList.drop (n*sz))
   rw [← hsplit] at this
   exact this
  have hh':w.heap[g]?=some (.cells cur.toList.toArray e (0,0)):=by rw [Array.toArray_toList];exact hh
  have hr:=run_storeN (P:=P) (t:=t) (vs:=[v]) ht.size (cells_one hv) (by simpa using hv) hh' hn'
  have hxl:xs'.length=xs.length:=hn.len
  have hSt:St w0 O C' (w.setRow g (xs'++cur.toList.drop (n*sz)).toArray):=by
   refine hS.rowUpd (b:=g) hu (fun k=>?_) (fun k=>?_) ?_
   ·constructor
    ·intro hk;exact (Option.some.inj hk).symm
    ·intro hk;rw [hk];rfl
   ·constructor
    ·intro hk;exact (Option.some.inj hk).symm
    ·intro hk;rw [hk];rfl
   ·refine ⟨by rw [hxl,hlen],.inr ⟨g,cap,(xs'++cur.toList.drop (n*sz)).toArray,rfl,Nat.zero_le _,setRow_heap w g _ _ e _ hh',hnc,hcm,?_,?_⟩⟩
    ·have:=congrArg List.length hsplit
     simp at this ⊢
     omega
    ·have e2:xs'.length=n*sz:=by rw [hxl,hlen]
     show (xs'++cur.toList.drop (n*sz)).take (n*sz)=xs'
     rw [List.take_left' e2]
  exact wpo_skip rfl (by simp [execOp,hF.ev hx,hF.ev hy,hr]) (h _ _ hF hSt)
end
end Go.Eng
namespace Go.Proofs.YtedbajbgnmaakaaGreatDoor
open Go Go.Eng Go.Proofs Dg
theorem set_flat {α:Type} {cells:α→List Value} {sz:Nat}:∀ {l:List α} {i j:Nat} {x x':α} {v:Value},(∀ x,(cells x).length=sz)→l[i]?=some x→j<sz→cells x'=(cells x).set j v→(l.flatMap cells).set (i*sz+j) v=(l.set i x').flatMap cells
 | [],i,_,_,_,_,_,h,_,_=>by simp at h
 | y::l,0,j,x,x',v,hl,h,hj,he=>by
  simp at h;subst h
  rw [List.flatMap_cons,List.set_cons_zero,List.flatMap_cons,he,Nat.zero_mul,Nat.zero_add,List.set_append_left _ _ (by rw [hl];exact hj)]
 | y::l,i+1,j,x,x',v,hl,h,hj,he=>by
  have ih:=set_flat (l:=l) (i:=i) hl (by simpa using h) hj he
  rw [List.flatMap_cons,List.set_cons_succ,List.flatMap_cons,List.set_append_right _ _ (by rw [hl,Nat.succ_mul];omega),hl y,← ih]
  congr 2
  rw [Nat.succ_mul];omega
theorem setN_cell {α:Type} {cells:α→List Value} {sz i j:Nat} {l:List α} {x x':α} {v:Value} (hcl:∀ x,(cells x).length=sz) (hi:l[i]?=some x) (hj:j<sz) (he:cells x'=(cells x).set j v):SetN (l.flatMap cells) (i*sz+j) [v] ((l.set i x').flatMap cells):=by
 rw [← set_flat hcl hi hj he]
 refine setN_set _ _ _ ?_
 rw [flat_len (fun x _=>hcl x)]
 have h1:=(List.getElem?_eq_some_iff.1 hi).1
 calc i*sz+j<i*sz+sz:=by omega
  _=(i+1)*sz:=by rw [Nat.succ_mul]
  _≤l.length*sz:=Nat.mul_le_mul_right _ h1
theorem map_step {α:Type} {f:α→α} {l:List α} {i:Nat} {x:α} (h:l[i]?=some x):((l.take i).map f++l.drop i)[i]?=some x∧((l.take i).map f++l.drop i).set i (f x)=(l.take (i+1)).map f++l.drop (i+1):=by
 obtain ⟨hi,he⟩:=List.getElem?_eq_some_iff.1 h
 have hd:l.drop i=x::l.drop (i+1):=by rw [← he,← List.drop_eq_getElem_cons hi]
 have hl:((l.take i).map f).length=i:=by rw [List.length_map,List.length_take];omega
 constructor
 ·rw [hd,List.getElem?_append_right (by omega),hl,Nat.sub_self];rfl
 rw [hd,List.set_append_right _ _ (by omega),hl,Nat.sub_self,List.set_cons_zero,List.take_add_one,h,List.map_append,List.append_assoc];rfl
abbrev evR (u:Nat) (xa:Option Addr) (xc:Nat) (r:RtV):RtV:=⟨r.x,cfgs u,xa,xc⟩
abbrev evG (u:Nat) (xa:Option Addr) (xc:Nat) (r:RgV):RgV:=⟨r.x,cfgs u,xa,xc⟩
set_option maxRecDepth 100000 in
theorem every_c (rs:List RtV) (hs:List RgV) (ra ha:Option Addr) (rc hc v:Nat) (hv:v<4294967296) (hrl:rs.length≤1000) (hhl:hs.length≤1000) (w:World) (hS0:St w (ob (.slice ra rs.length rc)++ob (.slice ha hs.length hc)) [rowc (.slice ra rs.length rc) rs.length 93 6 (rs.flatMap rtC),rowc (.slice ha hs.length hc) hs.length 97 5 (hs.flatMap rgC)] w):
  Calls Tryz.prog 16 [.agg [.slice ra rs.length rc,.slice ha hs.length hc].toArray,.int .u32 (v:Int)].toArray w fun e w'=>∃ x:Option Addr×Nat,e= .returned (.agg [.slice ra rs.length rc,.slice ha hs.length hc].toArray)∧St w (ob (.slice ra rs.length rc)++ob (.slice ha hs.length hc)) [rowc (.slice ra rs.length rc) rs.length 93 6 ((rs.map (evR v x.1 x.2)).flatMap rtC),rowc (.slice ha hs.length hc) hs.length 97 5 ((hs.map (evG v x.1 x.2)).flatMap rgC),rowc (.slice x.1 (cfgs v).length x.2) (cfgs v).length 24 1 ((cfgs v).flatMap nC)] w':=by
 refine enter Tryz.func16 rfl Tryz.ntmps16 rfl (C:=[rowc (.slice ra rs.length rc) rs.length 93 6 (rs.flatMap rtC),rowc (.slice ha hs.length hc) hs.length 97 5 (hs.flatMap rgC)]) hS0 ?_
 refine jN 3 ?_
 refine WL.boxN rfl rfl (fun b2=>?_)
 refine jN 1 ?_
 refine WL.alloc F.zero37 rfl (fun b4=>?_)
 refine jN 7 ?_
 refine WL.call0 (β:=Option Addr×Nat) (res:=fun x=> .returned (.slice x.1 (cfgs v).length x.2)) (cs:=fun x=>[rowc (.slice x.1 (cfgs v).length x.2) (cfgs v).length 24 1 ((cfgs v).flatMap nC)]) (ψ:=fun _=>True) F.fun47 (fun d h=>by cases h;rfl) rfl (fun w hS=>(rConfigs_c v hv w).mono (fun e w2 ⟨x,h1,h2⟩=>⟨x,trivial,h1,h2⟩)) (fun ⟨xa,xc⟩ _=>After_ret ?_)
 refine jN 12 ?_
 refine WC.chunks (C':=[pt b2 [.slice ra rs.length rc,.slice ha hs.length hc] 37,pt b4 [.slice none 0 0,.slice none 0 0] 37,rowc (.slice ra rs.length rc) rs.length 93 6 (((rs.take 0).map (evR v xa xc)++rs.drop 0).flatMap rtC),rowc (.slice ha hs.length hc) hs.length 97 5 (hs.flatMap rgC),rowc (.slice xa (cfgs v).length xc) (cfgs v).length 24 1 ((cfgs v).flatMap nC)]) (fun w hS=>by rw [List.take_zero,List.map_nil,List.nil_append,List.drop_zero];exact (jK hS)) ?_
 refine WC.loop (α:=Nat) (fun i=>i≤rs.length) (fun i=>[(2,pp b2),(4,pp b4),(5,.slice xa (cfgs v).length xc),(6,.int .i64 (i:Int))]) (fun i=>[pt b2 [.slice ra rs.length rc,.slice ha hs.length hc] 37,pt b4 [.slice none 0 0,.slice none 0 0] 37,rowc (.slice ra rs.length rc) rs.length 93 6 (((rs.take i).map (evR v xa xc)++rs.drop i).flatMap rtC),rowc (.slice ha hs.length hc) hs.length 97 5 (hs.flatMap rgC),rowc (.slice xa (cfgs v).length xc) (cfgs v).length 24 1 ((cfgs v).flatMap nC)]) (fun i=>rs.length - i) (0) ?_ ?_ ?_ ?_
 ·exact Nat.zero_le _
 ·exact ⟨rfl,rfl,rfl,rfl,trivial⟩
 ·rfl
 rintro i hi
 show WC _ _ _ _ _ _ _ [(2,pp b2),(4,pp b4),(5,.slice xa (cfgs v).length xc),(6,.int .i64 (i:Int))] [pt b2 [.slice ra rs.length rc,.slice ha hs.length hc] 37,pt b4 [.slice none 0 0,.slice none 0 0] 37,rowc (.slice ra rs.length rc) rs.length 93 6 (((rs.take i).map (evR v xa xc)++rs.drop i).flatMap rtC),rowc (.slice ha hs.length hc) hs.length 97 5 (hs.flatMap rgC),rowc (.slice xa (cfgs v).length xc) (cfgs v).length 24 1 ((cfgs v).flatMap nC)]
 refine jN 15 ?_
 refine WC.cond rfl (fun h14=>?_) (fun h14=>?_)
 ·have hlt:i<rs.length:=by simpa using h14
  obtain ⟨r,hr⟩:∃ z,rs[i]?=some z:=⟨_,List.getElem?_eq_getElem hlt⟩
  refine WC.know (φ:=∃ g,ra=some ⟨g,0,none⟩∧rs.length=rs.length∧rs.length≤rc) (fun w hS=>rowc_addr (hS.ok (rowc (.slice ra rs.length rc) rs.length 93 6 (((rs.take i).map (evR v xa xc)++rs.drop i).flatMap rtC)) jM) (by omega)) (fun ⟨g9,hg9,_,_⟩=>?_)
  subst hg9
  refine jN 14 ?_
  refine WL.indexAddr F.sl34 rfl rfl rfl hlt ?_
  refine jN 1 ?_
  refine WL.fieldAddr F.fld93_5 rfl rfl ?_
  refine jN 1 ?_
  refine WL.storeRow1 (n:=rs.length) F.one53 rfl rfl rfl jU (by rw [Nat.zero_add];exact setN_cell (x':=evR v xa xc r) (fun _=>rfl) (map_step hr).1 (by decide) rfl) ?_
  refine jN 11 ?_
  refine WQ.chunks (C':=[pt b2 [.slice (some ⟨g9,0,none⟩) rs.length rc,.slice ha hs.length hc] 37,pt b4 [.slice none 0 0,.slice none 0 0] 37,jW g9 rs.length rc 93 6 (((rs.take (i+1)).map (evR v xa xc)++rs.drop (i+1)).flatMap rtC),rowc (.slice ha hs.length hc) hs.length 97 5 (hs.flatMap rgC),rowc (.slice xa (cfgs v).length xc) (cfgs v).length 24 1 ((cfgs v).flatMap nC)]) (fun w hS=>by rw [← (map_step (f:=evR v xa xc) hr).2];exact (jK hS)) ?_
  refine WQ.back (i+1) ?_ ?_ ?_ ?_
  ·exact hlt
  ·omega
  ·exact ⟨rfl,rfl,rfl,rfl,trivial⟩
  rfl
 have hie:i=rs.length:=by simp at h14;omega
 subst hie
 refine jN 13 ?_
 refine WC.chunks (C':=[pt b2 [.slice ra rs.length rc,.slice ha hs.length hc] 37,pt b4 [.slice none 0 0,.slice none 0 0] 37,rowc (.slice ra rs.length rc) rs.length 93 6 ((rs.map (evR v xa xc)).flatMap rtC),rowc (.slice ha hs.length hc) hs.length 97 5 (((hs.take 0).map (evG v xa xc)++hs.drop 0).flatMap rgC),rowc (.slice xa (cfgs v).length xc) (cfgs v).length 24 1 ((cfgs v).flatMap nC)]) (fun w hS=>by rw [List.take_zero,List.map_nil,List.nil_append,List.drop_zero];rw [List.take_length,List.drop_length,List.append_nil] at hS;exact (jK hS)) ?_
 refine WC.loop (α:=Nat) (fun i=>i≤hs.length) (fun i=>[(2,pp b2),(4,pp b4),(5,.slice xa (cfgs v).length xc),(7,.int .i64 (i:Int))]) (fun i=>[pt b2 [.slice ra rs.length rc,.slice ha hs.length hc] 37,pt b4 [.slice none 0 0,.slice none 0 0] 37,rowc (.slice ra rs.length rc) rs.length 93 6 ((rs.map (evR v xa xc)).flatMap rtC),rowc (.slice ha hs.length hc) hs.length 97 5 (((hs.take i).map (evG v xa xc)++hs.drop i).flatMap rgC),rowc (.slice xa (cfgs v).length xc) (cfgs v).length 24 1 ((cfgs v).flatMap nC)]) (fun i=>hs.length - i) (0) ?_ ?_ ?_ ?_
 ·exact Nat.zero_le _
 ·exact ⟨rfl,rfl,rfl,rfl,trivial⟩
 ·rfl
 rintro i hi
 show WC _ _ _ _ _ _ _ [(2,pp b2),(4,pp b4),(5,.slice xa (cfgs v).length xc),(7,.int .i64 (i:Int))] [pt b2 [.slice ra rs.length rc,.slice ha hs.length hc] 37,pt b4 [.slice none 0 0,.slice none 0 0] 37,rowc (.slice ra rs.length rc) rs.length 93 6 ((rs.map (evR v xa xc)).flatMap rtC),rowc (.slice ha hs.length hc) hs.length 97 5 (((hs.take i).map (evG v xa xc)++hs.drop i).flatMap rgC),rowc (.slice xa (cfgs v).length xc) (cfgs v).length 24 1 ((cfgs v).flatMap nC)]
 refine jN 15 ?_
 refine WC.cond rfl (fun h27=>?_) (fun h27=>?_)
 ·have hlt:i<hs.length:=by simpa using h27
  obtain ⟨r,hr⟩:∃ z,hs[i]?=some z:=⟨_,List.getElem?_eq_getElem hlt⟩
  refine WC.know (φ:=∃ g,ha=some ⟨g,0,none⟩∧hs.length=hs.length∧hs.length≤hc) (fun w hS=>rowc_addr (hS.ok (rowc (.slice ha hs.length hc) hs.length 97 5 (((hs.take i).map (evG v xa xc)++hs.drop i).flatMap rgC)) jM) (by omega)) (fun ⟨g9,hg9,_,_⟩=>?_)
  subst hg9
  refine jN 14 ?_
  refine WL.indexAddr F.sl35 rfl rfl rfl hlt ?_
  refine jN 1 ?_
  refine WL.fieldAddr F.fld97_4 rfl rfl ?_
  refine jN 1 ?_
  refine WL.storeRow1 (n:=hs.length) F.one53 rfl rfl rfl jU (by rw [Nat.zero_add];exact setN_cell (x':=evG v xa xc r) (fun _=>rfl) (map_step hr).1 (by decide) rfl) ?_
  refine jN 11 ?_
  refine WQ.chunks (C':=[pt b2 [.slice ra rs.length rc,.slice (some ⟨g9,0,none⟩) hs.length hc] 37,pt b4 [.slice none 0 0,.slice none 0 0] 37,rowc (.slice ra rs.length rc) rs.length 93 6 ((rs.map (evR v xa xc)).flatMap rtC),jW g9 hs.length hc 97 5 (((hs.take (i+1)).map (evG v xa xc)++hs.drop (i+1)).flatMap rgC),rowc (.slice xa (cfgs v).length xc) (cfgs v).length 24 1 ((cfgs v).flatMap nC)]) (fun w hS=>by rw [← (map_step (f:=evG v xa xc) hr).2];exact (jK hS)) ?_
  refine WQ.back (i+1) ?_ ?_ ?_ ?_
  ·exact hlt
  ·omega
  ·exact ⟨rfl,rfl,rfl,rfl,trivial⟩
  rfl
 have hie:i=hs.length:=by simp at h27;omega
 subst hie
 refine jN 14 ?_
 refine WQ.ret (rs:=[.cell 4 37]) rfl (.cellN F.agg37 rfl jM rfl .nil) (fun w hS=>⟨(xa,xc),rfl,?_⟩)
 rw [List.take_length,List.drop_length,List.append_nil] at hS
 exact (jK hS)
theorem setN_pre {cs cs' vs:List Value} {n:Nat} (h:SetN cs n vs cs'):∀ xs:List Value,SetN (xs++cs) (xs.length+n) vs (xs++cs')
 | []=>by rw [List.length_nil,Nat.zero_add];exact h
 | x::xs=>by
  rw [show (x::xs).length+n=(xs.length+n)+1 from by rw [List.length_cons];omega]
  exact SetN.skip (setN_pre h xs)
theorem setN_sub {α:Type} {cells:α→List Value} {sz off:Nat} {vs:List Value} (hcl:∀ x,(cells x).length=sz):∀ {l:List α} {k:Nat} {x y:α},l[k]?=some x→SetN (cells x) off vs (cells y)→SetN (l.flatMap cells) (k*sz+off) vs ((l.set k y).flatMap cells)
 | [],k,x,y,h,_=>by simp at h
 | z::l,0,x,y,h,hs=>by
  have hz:z=x:=by simpa using h
  subst hz
  rw [List.set_cons_zero,List.flatMap_cons,List.flatMap_cons,Nat.zero_mul,Nat.zero_add]
  exact SetN.append _ hs
 | z::l,k+1,x,y,h,hs=>by
  rw [List.set_cons_succ,List.flatMap_cons,List.flatMap_cons]
  have h9:=setN_pre (setN_sub hcl (l:=l) (k:=k) (by simpa using h) hs) (cells z)
  rw [hcl z] at h9
  rw [show (k+1)*sz+off=sz+(k*sz+off) from by rw [Nat.add_mul];omega]
  exact h9
theorem St_neR {w0 w:World} {O:List Nat} {C:List Chunk} {b g n c sz:Nat} {cs xs:List Value} {e e2:TypeId} (h:St w0 O (pt b cs e::jW g n c e2 sz xs::C) w):b≠g:=fun hb=>by
 have h1:=List.pairwise_cons.1 h.disj
 have h2:=h1.1 _ (List.mem_cons_self ..) b ((FpIs.pt b).2 (List.mem_singleton.2 rfl))
 exact h2 ((FpIs.rowc b).2 (by rw [hb];simp [ob,Value.ownBlock]))
theorem sins_map {α β:Type} {lt:α→α→Bool} {lt2:β→β→Bool} {f:α→β} (h:∀ x y,lt x y=lt2 (f x) (f y)) (x:α):∀ l:List α,(sins lt x l).map f=sins lt2 (f x) (l.map f)
 | []=>rfl
 | y::r=>by
  rw [List.map_cons]
  unfold sins
  rw [h x y]
  split
  ·rfl
  ·rw [List.map_cons,sins_map h x r]
theorem isort_map {α β:Type} {lt:α→α→Bool} {lt2:β→β→Bool} {f:α→β} (h:∀ x y,lt x y=lt2 (f x) (f y)) (l:List α):(isort lt l).map f=isort lt2 (l.map f):=by
 unfold isort
 have key:∀ (l acc:List α),(l.foldl (fun acc x=>sins lt x acc) acc).map f=(l.map f).foldl (fun acc x=>sins lt2 x acc) (acc.map f):=fun l=>by
  induction l with
  | nil=>intro acc;rfl
  | cons x l ih=>intro acc;rw [List.foldl_cons,ih,sins_map h,List.map_cons,List.foldl_cons]
 exact key l []
abbrev jnK {κ:Type} (x y:κ×(Cf→Bool)):κ×(Cf→Bool):=(x.1,fun c=>x.2 c||y.2 c)
theorem jok_key {κ:Type} {lt:κ→κ→Bool}:Jok (fun x y:κ×(Cf→Bool)=>lt x.1 y.1) jnK:=⟨fun _ _ _=>rfl,fun _ _ _=>rfl⟩
theorem swo_key {κ:Type} {lt:κ→κ→Bool} (h:Swo lt):Swo (fun x y:κ×(Cf→Bool)=>lt x.1 y.1):=⟨fun x y h1=>h.asym x.1 y.1 h1,fun x y z h1 h2=>h.tr x.1 y.1 z.1 h1 h2⟩
set_option maxRecDepth 1000000 in
theorem joinedK0_c_s {G:Prop} (h:G:=by
   first | refine enter Tryz.func51 rfl Tryz.ntmps51 rfl (St.init _) ?_ | refine enter Tryz.func53 rfl Tryz.ntmps53 rfl (St.init _) ?_
   refine jN 3 ?_
   refine WL.box1 rfl rfl rfl (fun b5=>?_)
   refine jN 9 ?_
   refine WL.call0 (β:=Option Addr×Nat) (res:=fun x=> .returned (.slice x.1 0 x.2)) (cs:=fun x=>[rowc (.slice x.1 0 x.2) 0 q1 q2 []]) (ψ:=fun _=>True) q3 (fun d h=>by cases h;rfl) rfl (fun w hS=>(q4 [] a c (by simp) w (fun i x hx=>by simp at hx)).mono (fun e w2 ⟨x,h1,h2⟩=>⟨x,trivial,h1,h2⟩)) (fun ⟨xa,xc⟩ _=>After_ret ?_)
   refine jN 3 ?_
   refine WL.callV (v:= .slice xa 0 xc) q5 rfl rfl (fun w hS=>q6 xa xc b5 w (hS.cell (cs:=[(.func (.func q7) [].toArray [].toArray)]) jM rfl)) ?_
   refine jN 11 ?_
   refine WL.callV (v:= .tuple #[]) q8 rfl rfl (fun w hS=>q9 xa xc (.func (.func q10) [].toArray [].toArray) w) ?_
   refine jN 20 ?_
   refine WC.chunks (C':=[]) (fun w hS=>hS.sublist (List.nil_sublist _)) ?_
   refine WC.loop (α:=Unit) (fun _=>True) (fun _=>[(7,.slice none 0 0),(20,.int .i64 0),(21,.int .i64 0)]) (fun _=>[]) (fun _=>0) (()) ?_ ?_ ?_ ?_
   ·exact trivial
   ·exact ⟨rfl,rfl,rfl,trivial⟩
   ·rfl
   rintro ⟨⟩ _
   show WC _ _ _ _ _ _ _ [(7,.slice none 0 0),(20,.int .i64 0),(21,.int .i64 0)] []
   refine jN 22 ?_
   exact WQ.ret (rs:=[.tmp 6]) rfl (.tmp rfl .nil) (fun w hS=>⟨rfl,hS⟩)):G:=h
set_option maxRecDepth 100000 in
theorem joinedT0_c (a:Option Addr) (c:Nat) (w:World):Pure Tryz.prog 51 [.slice a 0 c,(.func (.func 33) [].toArray [].toArray),(.func (.func 52) [].toArray [].toArray)] w (.slice none 0 0):=by
 let q1:Nat:=89
 let q2:Nat:=7
 have q3:= @F.fun89
 have q4:= @CloneT_c
 have q5:= @F.fun88
 have q6:= @delT0_c
 let q7:Nat:=52
 have q8:= @F.fun91
 have q9:= @sstT0_c
 let q10:Nat:=33
 exact joinedK0_c_s
set_option maxRecDepth 100000 in
theorem joinedD0_c (a:Option Addr) (c:Nat) (w:World):Pure Tryz.prog 53 [.slice a 0 c,(.func (.func 36) [].toArray [].toArray),(.func (.func 54) [].toArray [].toArray)] w (.slice none 0 0):=by
 let q1:Nat:=95
 let q2:Nat:=6
 have q3:= @F.fun93
 have q4:= @CloneD_c
 have q5:= @F.fun92
 have q6:= @delD0_c
 let q7:Nat:=54
 have q8:= @F.fun95
 have q9:= @sstD0_c
 let q10:Nat:=36
 exact joinedK0_c_s
theorem cell_nextG {w0 w w2:World} {C C2:List Chunk} {g b o:Nat} {v:Value} (hc:w0.cell? ⟨b,o,none⟩=some v) (hS:St w0 [] C w) (hg:∃ c∈C,c.fp g) (h2:St w [g] C2 w2):w2.cell? ⟨b,o,none⟩=some v:=by
 obtain ⟨c,hcC,hfp⟩:=hg
 have hge: ¬ g<w0.heap.size:=fun h=>by have h9:=(hS.bnd c hcC g hfp).2 h;simp at h9
 have hlt:b<w0.heap.size:=by
  rcases Nat.lt_or_ge b w0.heap.size with h' | h'
  ·exact h'
  ·simp [World.cell?,Array.getElem?_eq_none h'] at hc
 refine h2.oldc (hS.oldc hc (by simp)) ?_
 intro hm
 have:b=g:=by simpa using hm
 omega
theorem RdC.nextG {w0 w w2:World} {C C2:List Chunk} {g:Nat} {l:List Int} {a:Option Addr} (h:RdC w0 l a) (hS:St w0 [] C w) (hg:∃ c∈C,c.fp g) (h2:St w [g] C2 w2):RdC w2 l a:=fun i x hx=>by
 obtain ⟨b,o,e,hc⟩:=h i x hx
 exact ⟨b,o,e,cell_nextG hc hS hg h2⟩
end Go.Proofs.YtedbajbgnmaakaaGreatDoor
