/- Parts of the walk, put together by a program. By an AI agent. -/
import Derived.Test.YtedbajbgnmaakaaGreatDoorPaSourceLists4
set_option linter.unusedSimpArgs false
set_option linter.unusedVariables false
namespace Go.Proofs.YtedbajbgnmaakaaGreatDoor
open Go Go.Eng Go.Proofs Dg
theorem at_seg {α:Type} {P X Y S:List α} {q i:Nat} {y:α} (hi:i=P.length+X.length+q) (hy:Y[q]?=some y):(P++(X++(Y++S)))[i]?=some y:=by
 have hq:=(List.getElem?_eq_some_iff.1 hy).1
 subst hi
 rw [List.getElem?_append_right (by omega),List.getElem?_append_right (by omega),List.getElem?_append_left (by omega)]
 rw [← hy]
 congr 1
 omega
theorem at_seg1 {α:Type} {P X R:List α} {q i:Nat} {x:α} (hi:i=P.length+q) (hx:X[q]?=some x):(P++(X++R))[i]?=some x:=by
 have hq:=(List.getElem?_eq_some_iff.1 hx).1
 subst hi
 rw [List.getElem?_append_right (by omega),List.getElem?_append_left (by omega)]
 rw [← hx]
 congr 1
 omega
theorem drop_at {α:Type} {l:List α} {k:Nat} {x:α} (h:l[k]?=some x):l.drop k=x::l.drop (k+1):=by
 obtain ⟨hk,he⟩:=List.getElem?_eq_some_iff.1 h
 rw [← he,← List.drop_eq_getElem_cons hk]
theorem take_at {α:Type} {l:List α} {k:Nat} {x:α} (h:l[k]?=some x):l.take (k+1)=l.take k++[x]:=by
 rw [List.take_add_one,h];rfl
set_option maxRecDepth 1000000 in
theorem symK_c_s {G:Prop} (h:G:=by
   intro N
   induction N with
   | zero=>intro P X Y S a m b ha hm hb hN hx0;omega
   | succ N hrec=>
   intro P X Y S a m b ha hm hb hN hx0 hy0 hX hY hn hQx hQy w hcmp hS0
   have hnl:P.length+X.length+Y.length+S.length=n:=by rw [← hn];simp;omega
   first | refine enter Tryz.func159 rfl Tryz.ntmps159 rfl (C:=[jW g n c 89 7 ((P++(X++(Y++S))).flatMap tkC)]) hS0 ?_ | refine enter Tryz.func161 rfl Tryz.ntmps161 rfl (C:=[jW g n c 95 6 ((P++(X++(Y++S))).flatMap dgC)]) hS0 ?_
   refine jN 8 ?_
   refine WL.bin (v:= .int .i64 ((X.length:Nat):Int)) rfl rfl rfl (fun w=>run_subK (i:=a) (k:=X.length) (s:=m) (by omega) (by omega) _ _ _ w) ?_
   refine jN 4 ?_
   refine WC.cond rfl (fun h28=>?_) (fun h28=>?_)
   ·have hx1:X.length=1:=by simp at h28;omega
    obtain ⟨x,rfl⟩:=List.length_eq_one_iff.1 hx1
    have hxQ:Q x:=hQx x (by simp)
    refine jN 18 ?_
    refine WC.loop (α:=Nat×Nat) (fun z=>z.1≤z.2∧z.2≤Y.length∧(∀ k y,k<z.1→Y[k]?=some y→ltC cmp y x=true)∧(∀ k y,z.2≤k→Y[k]?=some y→ltC cmp y x=false)) (fun z=>[(0,.slice (some ⟨g,0,none⟩) n c),(1,.int .i64 (a:Int)),(2,.int .i64 (m:Int)),(3,.int .i64 (b:Int)),(4,.func (.func kc) us.toArray cap.toArray),(10,.int .i64 ((m+z.1:Nat):Int)),(11,.int .i64 ((m+z.2:Nat):Int))]) (fun _=>[jW g n c q1 q2 ((P++([x]++(Y++S))).flatMap q3)]) (fun z=>z.2 - z.1) ((0,Y.length)) ?_ ?_ ?_ ?_
    ·exact ⟨Nat.zero_le _,Nat.le_refl _,fun k y h=>by omega,fun k y h1 h2=>by (have:=(List.getElem?_eq_some_iff.1 h2).1;omega)⟩
    ·exact ⟨rfl,rfl,rfl,rfl,rfl,rfl,by (show some (Value.int .i64 (b:Int))=some (Value.int .i64 ((m+Y.length:Nat):Int));rw [show b=m+Y.length by omega]),trivial⟩
    ·rfl
    rintro ⟨s,e⟩ ⟨hse,hel,hlo,hhi⟩
    dsimp only at hse hel hlo hhi
    show WC _ _ _ _ _ _ _ [(0,.slice (some ⟨g,0,none⟩) n c),(1,.int .i64 (a:Int)),(2,.int .i64 (m:Int)),(3,.int .i64 (b:Int)),(4,.func (.func kc) us.toArray cap.toArray),(10,.int .i64 ((m+s:Nat):Int)),(11,.int .i64 ((m+e:Nat):Int))] [jW g n c q1 q2 ((P++([x]++(Y++S))).flatMap q3)]
    refine jN 11 ?_
    refine WC.cond rfl (fun h33=>?_) (fun h33=>?_)
    ·have hlt:s<e:=by simp at h33;omega
     refine jN 10 ?_
     refine WL.bin (v:= .int .i64 (((m+s)+(m+e):Nat):Int)) rfl rfl rfl (fun w=>run_addN6 (by omega) (by omega) _ _ _ w) ?_
     refine jN 1 ?_
     refine WL.convert rfl rfl (v:= .int .u64 (((m+s)+(m+e):Nat):Int)) (fun w hS=>conv_iu (by omega) w) ?_
     refine jN 1 ?_
     refine WL.bin (v:= .int .u64 ((((m+s)+(m+e)) / 2:Nat):Int)) rfl rfl rfl (fun w=>run_shr1 (by omega) _ _ _ w) ?_
     refine jN 1 ?_
     refine WL.convert rfl rfl (v:= .int .i64 ((((m+s)+(m+e)) / 2:Nat):Int)) (fun w hS=>conv_ui (by omega) w) ?_
     obtain ⟨q,hq,hq1,hq2⟩:∃ q,((m+s)+(m+e)) / 2=m+q∧s≤q∧q<e:=⟨((m+s)+(m+e)) / 2 - m,by omega,by omega,by omega⟩
     rw [hq]
     obtain ⟨y,hy⟩:∃ y,Y[q]?=some y:=⟨_,List.getElem?_eq_getElem (by omega)⟩
     have hym:=List.mem_of_getElem? hy
     refine jN 5 ?_
     refine WC.draws [([9],fun w=>∀ jj v,(q3 y)[jj]?=some v→w.cell? ⟨g,0+(m+q)*q2+jj,none⟩=some v),([9],fun w=>∀ jj v,(q3 x)[jj]?=some v→w.cell? ⟨g,0+(a)*q2+jj,none⟩=some v)] (by kernel_rfl) (fun w hS=>facts_cons ((fun jj v hv=>by rw [Nat.zero_add];exact rowc_cells (hS.ok (jW g n c q1 q2 ((P++([x]++(Y++S))).flatMap q3)) jM) (flat_at (cells:=q3) (sz:=q2) (fun _ _=>rfl) (show (P++([x]++(Y++S)))[m+q]?=some y from at_seg (by simp;omega) hy) jj _ hv))) (facts_cons ((fun jj v hv=>by rw [Nat.zero_add];exact rowc_cells (hS.ok (jW g n c q1 q2 ((P++([x]++(Y++S))).flatMap q3)) jM) (flat_at (cells:=q3) (sz:=q2) (fun _ _=>rfl) (show (P++([x]++(Y++S)))[a]?=some x from at_seg1 (q:=0) (by omega) rfl) jj _ hv))) (facts_nil))) ?_
     refine jQ [0,1,2] ?_
     refine jT 3 rfl (Yl.indexAddr q4 rfl rfl (by omega)) ?_
     refine jF 4 0 rfl rfl (Yl.loadN q5 rfl rfl) ?_
     refine jQ [5,6] ?_
     refine jT 7 rfl (Yl.indexAddr q4 rfl rfl (by omega)) ?_
     refine jF 8 1 rfl rfl (Yl.loadN q5 rfl rfl) ?_
     refine jA 9 rfl ?_
     refine WL.callFC (β:=Unit) (res:=fun _=> .int .i64 (cmp y x)) (cs:=fun _=>[]) (Cs:=[]) (O':=[]) (us:=us) (cap:=cap) hkc (fun d h=>by cases h;rfl) rfl rfl (List.Perm.refl _) (by simp) (by simp) (fun w hS _=>(hcmp _ _ hS y x (hQy _ hym) hxQ).mono (fun e w2 h=>⟨(),h⟩)) (fun _=>?_)
     refine jG ?_
     refine jQ [10] ?_
     refine jD ?_
     refine jN 1 ?_
     refine WC.cond rfl (fun h50=>?_) (fun h50=>?_)
     ·refine jN 4 ?_
      refine WL.bin (v:= .int .i64 ((m+(q+1):Nat):Int)) rfl rfl rfl (fun w=>by rw [show m+(q+1)=(m+q)+1 by omega];exact run_addN6 (n:=1) (by omega) (by decide) _ _ _ w) ?_
      refine jN 4 ?_
      refine WQ.back (q+1,e) ?_ ?_ ?_ ?_
      ·exact ⟨by show q+1≤e;omega,hel,fun k y9 h1 h2=>hw.le_lt (srt_le hw hY h2 hy (by (dsimp only at h1);omega)) h50,hhi⟩
      ·show e - (q+1)<e - s;omega
      ·exact ⟨rfl,rfl,rfl,rfl,rfl,rfl,rfl,trivial⟩
      rfl
     refine jN 7 ?_
     refine WQ.back (s,q) ?_ ?_ ?_ ?_
     ·exact ⟨hq1,by show q≤Y.length;omega,hlo,fun k y9 h1 h2=>hw.tr x y y9 h50 (srt_le hw hY hy h2 h1)⟩
     ·show q - s<e - s;omega
     ·exact ⟨rfl,rfl,rfl,rfl,rfl,rfl,rfl,trivial⟩
     rfl
    have hee:e=s:=by simp at h33;omega
    subst hee
    refine jN 15 ?_
    refine WC.chunks (C':=[jW g n c q1 q2 ((P++(Y.take 0++(x::(Y.drop 0++S)))).flatMap q3)]) (fun w hS=>by have e:P++(Y.take 0++(x::(Y.drop 0++S)))=P++([x]++(Y++S)):=(by simp);rw [e];exact hS) ?_
    refine WC.loop (α:=Nat) (fun d=>d≤e) (fun d=>[(0,.slice (some ⟨g,0,none⟩) n c),(1,.int .i64 (a:Int)),(2,.int .i64 (m:Int)),(3,.int .i64 (b:Int)),(4,.func (.func kc) us.toArray cap.toArray),(10,.int .i64 ((m+e:Nat):Int)),(13,.int .i64 ((a+d:Nat):Int))]) (fun d=>[jW g n c q1 q2 ((P++(Y.take d++(x::(Y.drop d++S)))).flatMap q3)]) (fun d=>e - d) (0) ?_ ?_ ?_ ?_
    ·exact Nat.zero_le _
    ·exact ⟨rfl,rfl,rfl,rfl,rfl,rfl,rfl,trivial⟩
    ·rfl
    rintro d hd
    show WC _ _ _ _ _ _ _ [(0,.slice (some ⟨g,0,none⟩) n c),(1,.int .i64 (a:Int)),(2,.int .i64 (m:Int)),(3,.int .i64 (b:Int)),(4,.func (.func kc) us.toArray cap.toArray),(10,.int .i64 ((m+e:Nat):Int)),(13,.int .i64 ((a+d:Nat):Int))] [jW g n c q1 q2 ((P++(Y.take d++(x::(Y.drop d++S)))).flatMap q3)]
    refine jN 8 ?_
    refine WL.bin (v:= .int .i64 (((m+e - 1):Nat):Int)) rfl rfl rfl (fun w=>run_subK (i:=1) (k:=(m+e - 1)) (s:=m+e) (by omega) (by omega) _ _ _ w) ?_
    refine jN 4 ?_
    refine WC.cond rfl (fun h58=>?_) (fun h58=>?_)
    ·have hde:d<e:=by simp at h58;omega
     obtain ⟨y,hy⟩:∃ y,Y[d]?=some y:=⟨_,List.getElem?_eq_getElem (by omega)⟩
     refine WC.chunks (C':=[jW g n c q1 q2 (((P++Y.take d)++x::([]++y::(Y.drop (d+1)++S))).flatMap q3)]) (fun w hS=>by have e:(P++Y.take d)++x::([]++y::(Y.drop (d+1)++S))=P++(Y.take d++(x::(Y.drop d++S))):=(by rw [drop_at hy];simp);rw [e];exact hS) ?_
     have e1:(((P++Y.take d)++x::([]++y::(Y.drop (d+1)++S))).set (a+d) y).set (a+d+1) x=(P++Y.take d)++y::([]++x::(Y.drop (d+1)++S)):=swp (by simp<;>omega) (by simp<;>omega)
     have e2:(((P++Y.take d)++x::([]++y::(Y.drop (d+1)++S))).set (a+d+1) x).set (a+d) y=(P++Y.take d)++y::([]++x::(Y.drop (d+1)++S)):=swp' (by simp<;>omega) (by simp<;>omega)
     refine jN 4 ?_
     refine WC.cutPE (α:=Unit) (fun _=>[(0,.slice (some ⟨g,0,none⟩) n c),(1,.int .i64 (a:Int)),(2,.int .i64 (m:Int)),(3,.int .i64 (b:Int)),(4,.func (.func kc) us.toArray cap.toArray),(10,.int .i64 ((m+e:Nat):Int)),(13,.int .i64 ((a+d:Nat):Int))]) (fun _=>[jW g n c q1 q2 (((P++Y.take d)++y::([]++x::(Y.drop (d+1)++S))).flatMap q3)]) (fun c a d v w h=>by cases d<;>exact h) (fun Q' hP hQ=>?_) (fun xE=>?_)
     ·refine WC.draws [([15,17],fun w=>∀ jj v,(q3 y)[jj]?=some v→w.cell? ⟨g,0+(a+d+1)*q2+jj,none⟩=some v),([15,17],fun w=>∀ jj v,(q3 x)[jj]?=some v→w.cell? ⟨g,0+(a+d)*q2+jj,none⟩=some v)] (by kernel_rfl) (fun w hS=>facts_cons ((fun jj v hv=>by rw [Nat.zero_add];exact rowc_cells (hS.ok (jW g n c q1 q2 (((P++Y.take d)++x::([]++y::(Y.drop (d+1)++S))).flatMap q3)) jM) (flat_at (cells:=q3) (sz:=q2) (fun _ _=>rfl) (show ((P++Y.take d)++x::([]++y::(Y.drop (d+1)++S)))[a+d+1]?=some y by rw [show (P++Y.take d)++x::([]++y::(Y.drop (d+1)++S))=((P++Y.take d)++[x])++y::(Y.drop (d+1)++S) by simp];exact at_app' (by simp<;>omega)) jj _ hv))) (facts_cons ((fun jj v hv=>by rw [Nat.zero_add];exact rowc_cells (hS.ok (jW g n c q1 q2 (((P++Y.take d)++x::([]++y::(Y.drop (d+1)++S))).flatMap q3)) jM) (flat_at (cells:=q3) (sz:=q2) (fun _ _=>rfl) (show ((P++Y.take d)++x::([]++y::(Y.drop (d+1)++S)))[a+d]?=some x from at_app' (by simp<;>omega)) jj _ hv))) (facts_nil))) ?_
      refine jQ [0,1,2,3] ?_
      refine jT 4 rfl (Yl.bin (v:= .int .i64 ((a+d+1:Nat):Int)) rfl rfl (fun w=>run_addN6 (n:=1) (by omega) (by decide) _ _ _ w)) ?_
      refine jQ [5,6] ?_
      refine jT 7 rfl (Yl.bin (v:= .int .i64 ((a+d+1:Nat):Int)) rfl rfl (fun w=>run_addN6 (n:=1) (by omega) (by decide) _ _ _ w)) ?_
      refine jT 8 rfl (Yl.indexAddr q4 rfl rfl (by omega)) ?_
      refine jF 9 0 rfl rfl (Yl.loadN q5 rfl rfl) ?_
      refine jQ [10,11] ?_
      refine jT 12 rfl (Yl.indexAddr q4 rfl rfl (by omega)) ?_
      refine jF 13 1 rfl rfl (Yl.loadN q5 rfl rfl) ?_
      refine jT 14 rfl (Yl.indexAddr q4 rfl rfl (by omega)) ?_
      refine jA 15 rfl ?_
      refine WL.storeRow (n:=n) q5 rfl rfl rfl (by first | exact qO _ | simp [Value.oneCell']) (by omega) jU (by rw [Nat.zero_add];exact setN_flat (fun _=>rfl) (by simp<;>omega)) ?_
      refine jG ?_
      refine jT 16 rfl (Yl.indexAddr q4 rfl rfl (by omega)) ?_
      refine jA 17 rfl ?_
      refine WL.storeRow (n:=n) q5 rfl rfl rfl (by first | exact qO _ | simp [Value.oneCell']) (by omega) jU (by rw [Nat.zero_add];exact setN_flat (fun _=>rfl) (by simp<;>omega)) ?_
      refine jG ?_
      refine jD ?_
      refine WQ.chunks (C':=[jW g n c q1 q2 (((P++Y.take d)++y::([]++x::(Y.drop (d+1)++S))).flatMap q3)]) (fun w hS=>by first | (have h9:=hS;rw [e1] at h9;exact h9) | (have h9:=hS;rw [e2] at h9;exact h9)) ?_
      exact WQ.byCut (hQ ()) ⟨rfl,rfl,rfl,rfl,rfl,rfl,rfl,trivial⟩
     show WQ _ _ _ _ _ _ [(0,.slice (some ⟨g,0,none⟩) n c),(1,.int .i64 (a:Int)),(2,.int .i64 (m:Int)),(3,.int .i64 (b:Int)),(4,.func (.func kc) us.toArray cap.toArray),(10,.int .i64 ((m+e:Nat):Int)),(13,.int .i64 ((a+d:Nat):Int))] [jW g n c q1 q2 (((P++Y.take d)++y::([]++x::(Y.drop (d+1)++S))).flatMap q3)]
     refine jN 10 ?_
     refine WQ.chunks (C':=[jW g n c q1 q2 ((P++(Y.take (d+1)++(x::(Y.drop (d+1)++S)))).flatMap q3)]) (fun w hS=>by have e:P++(Y.take (d+1)++(x::(Y.drop (d+1)++S)))=(P++Y.take d)++y::([]++x::(Y.drop (d+1)++S)):=(by rw [take_at hy];simp);rw [e];exact hS) ?_
     refine WQ.back (d+1) ?_ ?_ ?_ ?_
     ·exact (by omega)
     ·omega
     ·exact ⟨rfl,rfl,rfl,rfl,rfl,rfl,rfl,trivial⟩
     rfl
    have hde:d=e:=by simp at h58;omega
    subst hde
    refine jN 7 ?_
    refine WQ.ret (rs:=[]) rfl .nil (fun w hS=>?_)
    have e:P++(Y.take d++(x::(Y.drop d++S)))=P++(mrg (ltC cmp) [x] Y++S):=by
     have h9:=mrg_one_l hw (x:=x) (Y1:=Y.take d) (Y2:=Y.drop d) (fun y hy=>by obtain ⟨k,hk,hky⟩:=mem_takeI hy;exact hlo k y hk hky) (fun y hy=>hhi d y (Nat.le_refl _) (head_drop hy))
     rw [List.take_append_drop] at h9
     rw [h9];simp
    rw [e] at hS
    exact ⟨rfl,hS⟩
   have hx2:X.length≠1:=by intro e;rw [e] at h28;simp at h28
   refine jN 10 ?_
   refine WL.bin (v:= .int .i64 ((Y.length:Nat):Int)) rfl rfl rfl (fun w=>run_subK (i:=m) (k:=Y.length) (s:=b) (by omega) (by omega) _ _ _ w) ?_
   refine jN 4 ?_
   refine WC.cond rfl (fun h80=>?_) (fun h80=>?_)
   ·have hy1:Y.length=1:=by simp at h80;omega
    obtain ⟨y,rfl⟩:=List.length_eq_one_iff.1 hy1
    have hyQ:Q y:=hQy y (by simp)
    refine jN 18 ?_
    refine WC.loop (α:=Nat×Nat) (fun z=>z.1≤z.2∧z.2≤X.length∧(∀ k x,k<z.1→X[k]?=some x→ltC cmp y x=false)∧(∀ k x,z.2≤k→X[k]?=some x→ltC cmp y x=true)) (fun z=>[(0,.slice (some ⟨g,0,none⟩) n c),(1,.int .i64 (a:Int)),(2,.int .i64 (m:Int)),(3,.int .i64 (b:Int)),(4,.func (.func kc) us.toArray cap.toArray),(14,.int .i64 ((a+z.1:Nat):Int)),(15,.int .i64 ((a+z.2:Nat):Int))]) (fun _=>[jW g n c q1 q2 ((P++(X++([y]++S))).flatMap q3)]) (fun z=>z.2 - z.1) ((0,X.length)) ?_ ?_ ?_ ?_
    ·exact ⟨Nat.zero_le _,Nat.le_refl _,fun k y h=>by omega,fun k y h1 h2=>by (have:=(List.getElem?_eq_some_iff.1 h2).1;omega)⟩
    ·exact ⟨rfl,rfl,rfl,rfl,rfl,rfl,by (show some (Value.int .i64 (m:Int))=some (Value.int .i64 ((a+X.length:Nat):Int));rw [show m=a+X.length by omega]),trivial⟩
    ·rfl
    rintro ⟨s,e⟩ ⟨hse,hel,hlo,hhi⟩
    dsimp only at hse hel hlo hhi
    show WC _ _ _ _ _ _ _ [(0,.slice (some ⟨g,0,none⟩) n c),(1,.int .i64 (a:Int)),(2,.int .i64 (m:Int)),(3,.int .i64 (b:Int)),(4,.func (.func kc) us.toArray cap.toArray),(14,.int .i64 ((a+s:Nat):Int)),(15,.int .i64 ((a+e:Nat):Int))] [jW g n c q1 q2 ((P++(X++([y]++S))).flatMap q3)]
    refine jN 11 ?_
    refine WC.cond rfl (fun h85=>?_) (fun h85=>?_)
    ·have hlt:s<e:=by simp at h85;omega
     refine jN 10 ?_
     refine WL.bin (v:= .int .i64 (((a+s)+(a+e):Nat):Int)) rfl rfl rfl (fun w=>run_addN6 (by omega) (by omega) _ _ _ w) ?_
     refine jN 1 ?_
     refine WL.convert rfl rfl (v:= .int .u64 (((a+s)+(a+e):Nat):Int)) (fun w hS=>conv_iu (by omega) w) ?_
     refine jN 1 ?_
     refine WL.bin (v:= .int .u64 ((((a+s)+(a+e)) / 2:Nat):Int)) rfl rfl rfl (fun w=>run_shr1 (by omega) _ _ _ w) ?_
     refine jN 1 ?_
     refine WL.convert rfl rfl (v:= .int .i64 ((((a+s)+(a+e)) / 2:Nat):Int)) (fun w hS=>conv_ui (by omega) w) ?_
     obtain ⟨q,hq,hq1,hq2⟩:∃ q,((a+s)+(a+e)) / 2=a+q∧s≤q∧q<e:=⟨((a+s)+(a+e)) / 2 - a,by omega,by omega,by omega⟩
     rw [hq]
     obtain ⟨x,hx⟩:∃ x,X[q]?=some x:=⟨_,List.getElem?_eq_getElem (by omega)⟩
     have hxm:=List.mem_of_getElem? hx
     refine jN 5 ?_
     refine WC.draws [([9],fun w=>∀ jj v,(q3 y)[jj]?=some v→w.cell? ⟨g,0+(m)*q2+jj,none⟩=some v),([9],fun w=>∀ jj v,(q3 x)[jj]?=some v→w.cell? ⟨g,0+(a+q)*q2+jj,none⟩=some v)] (by kernel_rfl) (fun w hS=>facts_cons ((fun jj v hv=>by rw [Nat.zero_add];exact rowc_cells (hS.ok (jW g n c q1 q2 ((P++(X++([y]++S))).flatMap q3)) jM) (flat_at (cells:=q3) (sz:=q2) (fun _ _=>rfl) (show (P++(X++([y]++S)))[m]?=some y from at_seg (q:=0) (by omega) rfl) jj _ hv))) (facts_cons ((fun jj v hv=>by rw [Nat.zero_add];exact rowc_cells (hS.ok (jW g n c q1 q2 ((P++(X++([y]++S))).flatMap q3)) jM) (flat_at (cells:=q3) (sz:=q2) (fun _ _=>rfl) (show (P++(X++([y]++S)))[a+q]?=some x from at_seg1 (by omega) hx) jj _ hv))) (facts_nil))) ?_
     refine jQ [0,1,2] ?_
     refine jT 3 rfl (Yl.indexAddr q4 rfl rfl (by omega)) ?_
     refine jF 4 0 rfl rfl (Yl.loadN q5 rfl rfl) ?_
     refine jQ [5,6] ?_
     refine jT 7 rfl (Yl.indexAddr q4 rfl rfl (by omega)) ?_
     refine jF 8 1 rfl rfl (Yl.loadN q5 rfl rfl) ?_
     refine jA 9 rfl ?_
     refine WL.callFC (β:=Unit) (res:=fun _=> .int .i64 (cmp y x)) (cs:=fun _=>[]) (Cs:=[]) (O':=[]) (us:=us) (cap:=cap) hkc (fun d h=>by cases h;rfl) rfl rfl (List.Perm.refl _) (by simp) (by simp) (fun w hS _=>(hcmp _ _ hS y x hyQ (hQx _ hxm)).mono (fun e w2 h=>⟨(),h⟩)) (fun _=>?_)
     refine jG ?_
     refine jQ [10,11] ?_
     refine jD ?_
     refine jN 1 ?_
     refine WC.cond rfl (fun h103=>?_) (fun h103=>?_)
     ·have hge:ltC cmp y x=false:=by simpa using h103
      refine jN 4 ?_
      refine WL.bin (v:= .int .i64 ((a+(q+1):Nat):Int)) rfl rfl rfl (fun w=>by rw [show a+(q+1)=(a+q)+1 by omega];exact run_addN6 (n:=1) (by omega) (by decide) _ _ _ w) ?_
      refine jN 4 ?_
      refine WQ.back (q+1,e) ?_ ?_ ?_ ?_
      ·exact ⟨by show q+1≤e;omega,hel,fun k x9 h1 h2=>hw.tr x9 x y (srt_le hw hX h2 hx (by (dsimp only at h1);omega)) hge,hhi⟩
      ·show e - (q+1)<e - s;omega
      ·exact ⟨rfl,rfl,rfl,rfl,rfl,rfl,rfl,trivial⟩
      rfl
     have hge:ltC cmp y x=true:=by simpa using h103
     refine jN 7 ?_
     refine WQ.back (s,q) ?_ ?_ ?_ ?_
     ·exact ⟨hq1,by show q≤X.length;omega,hlo,fun k x9 h1 h2=>hw.lt_le hge (srt_le hw hX hx h2 h1)⟩
     ·show q - s<e - s;omega
     ·exact ⟨rfl,rfl,rfl,rfl,rfl,rfl,rfl,trivial⟩
     rfl
    have hee:e=s:=by simp at h85;omega
    subst hee
    refine jN 15 ?_
    refine WC.chunks (C':=[jW g n c q1 q2 ((P++(X.take X.length++(y::(X.drop X.length++S)))).flatMap q3)]) (fun w hS=>by have e:P++(X.take X.length++(y::(X.drop X.length++S)))=P++(X++([y]++S)):=(by simp);rw [e];exact hS) ?_
    refine WC.loop (α:=Nat) (fun d=>e≤d∧d≤X.length) (fun d=>[(0,.slice (some ⟨g,0,none⟩) n c),(1,.int .i64 (a:Int)),(2,.int .i64 (m:Int)),(3,.int .i64 (b:Int)),(4,.func (.func kc) us.toArray cap.toArray),(14,.int .i64 ((a+e:Nat):Int)),(17,.int .i64 ((a+d:Nat):Int))]) (fun d=>[jW g n c q1 q2 ((P++(X.take d++(y::(X.drop d++S)))).flatMap q3)]) (fun d=>d) (X.length) ?_ ?_ ?_ ?_
    ·exact ⟨hel,Nat.le_refl _⟩
    ·exact ⟨rfl,rfl,rfl,rfl,rfl,rfl,by (show some (Value.int .i64 (m:Int))=some (Value.int .i64 ((a+X.length:Nat):Int));rw [show m=a+X.length by omega]),trivial⟩
    ·rfl
    rintro d ⟨hd,hd2⟩
    show WC _ _ _ _ _ _ _ [(0,.slice (some ⟨g,0,none⟩) n c),(1,.int .i64 (a:Int)),(2,.int .i64 (m:Int)),(3,.int .i64 (b:Int)),(4,.func (.func kc) us.toArray cap.toArray),(14,.int .i64 ((a+e:Nat):Int)),(17,.int .i64 ((a+d:Nat):Int))] [jW g n c q1 q2 ((P++(X.take d++(y::(X.drop d++S)))).flatMap q3)]
    refine jN 11 ?_
    refine WC.cond rfl (fun h110=>?_) (fun h110=>?_)
    ·have hde:e<d:=by simp at h110;omega
     obtain ⟨d,rfl⟩:∃ k,d=k+1:=⟨d - 1,by omega⟩
     obtain ⟨x,hx⟩:∃ x,X[d]?=some x:=⟨_,List.getElem?_eq_getElem (by omega)⟩
     refine WC.chunks (C':=[jW g n c q1 q2 (((P++X.take d)++x::([]++y::(X.drop (d+1)++S))).flatMap q3)]) (fun w hS=>by have e:(P++X.take d)++x::([]++y::(X.drop (d+1)++S))=P++(X.take (d+1)++(y::(X.drop (d+1)++S))):=(by rw [take_at hx];simp);rw [e];exact hS) ?_
     have e1:(((P++X.take d)++x::([]++y::(X.drop (d+1)++S))).set (a+(d+1)) x).set (a+d) y=(P++X.take d)++y::([]++x::(X.drop (d+1)++S)):=swp' (by simp<;>omega) (by simp<;>omega)
     have e2:(((P++X.take d)++x::([]++y::(X.drop (d+1)++S))).set (a+d) y).set (a+(d+1)) x=(P++X.take d)++y::([]++x::(X.drop (d+1)++S)):=swp (by simp<;>omega) (by simp<;>omega)
     refine jN 4 ?_
     refine WC.cutPE (α:=Unit) (fun _=>[(0,.slice (some ⟨g,0,none⟩) n c),(1,.int .i64 (a:Int)),(2,.int .i64 (m:Int)),(3,.int .i64 (b:Int)),(4,.func (.func kc) us.toArray cap.toArray),(14,.int .i64 ((a+e:Nat):Int)),(17,.int .i64 ((a+(d+1):Nat):Int))]) (fun _=>[jW g n c q1 q2 (((P++X.take d)++y::([]++x::(X.drop (d+1)++S))).flatMap q3)]) (fun c a d v w h=>by cases d<;>exact h) (fun Q' hP hQ=>?_) (fun xE=>?_)
     ·refine WC.draws [([15,17],fun w=>∀ jj v,(q3 x)[jj]?=some v→w.cell? ⟨g,0+(a+d)*q2+jj,none⟩=some v),([15,17],fun w=>∀ jj v,(q3 y)[jj]?=some v→w.cell? ⟨g,0+(a+(d+1))*q2+jj,none⟩=some v)] (by kernel_rfl) (fun w hS=>facts_cons ((fun jj v hv=>by rw [Nat.zero_add];exact rowc_cells (hS.ok (jW g n c q1 q2 (((P++X.take d)++x::([]++y::(X.drop (d+1)++S))).flatMap q3)) jM) (flat_at (cells:=q3) (sz:=q2) (fun _ _=>rfl) (show ((P++X.take d)++x::([]++y::(X.drop (d+1)++S)))[a+d]?=some x from at_app' (by simp<;>omega)) jj _ hv))) (facts_cons ((fun jj v hv=>by rw [Nat.zero_add];exact rowc_cells (hS.ok (jW g n c q1 q2 (((P++X.take d)++x::([]++y::(X.drop (d+1)++S))).flatMap q3)) jM) (flat_at (cells:=q3) (sz:=q2) (fun _ _=>rfl) (show ((P++X.take d)++x::([]++y::(X.drop (d+1)++S)))[a+(d+1)]?=some y by rw [show (P++X.take d)++x::([]++y::(X.drop (d+1)++S))=((P++X.take d)++[x])++y::(X.drop (d+1)++S) by simp];exact at_app' (by simp<;>omega)) jj _ hv))) (facts_nil))) ?_
      refine jQ [0,1,2,3] ?_
      refine jT 4 rfl (Yl.bin (v:= .int .i64 ((a+d:Nat):Int)) rfl rfl (fun w=>run_subK (i:=1) (k:=a+d) (s:=a+(d+1)) (by omega) (by omega) _ _ _ w)) ?_
      refine jQ [5,6] ?_
      refine jT 7 rfl (Yl.bin (v:= .int .i64 ((a+d:Nat):Int)) rfl rfl (fun w=>run_subK (i:=1) (k:=a+d) (s:=a+(d+1)) (by omega) (by omega) _ _ _ w)) ?_
      refine jT 8 rfl (Yl.indexAddr q4 rfl rfl (by omega)) ?_
      refine jF 9 0 rfl rfl (Yl.loadN q5 rfl rfl) ?_
      refine jQ [10,11] ?_
      refine jT 12 rfl (Yl.indexAddr q4 rfl rfl (by omega)) ?_
      refine jF 13 1 rfl rfl (Yl.loadN q5 rfl rfl) ?_
      refine jT 14 rfl (Yl.indexAddr q4 rfl rfl (by omega)) ?_
      refine jA 15 rfl ?_
      refine WL.storeRow (n:=n) q5 rfl rfl rfl (by first | exact qO _ | simp [Value.oneCell']) (by omega) jU (by rw [Nat.zero_add];exact setN_flat (fun _=>rfl) (by simp<;>omega)) ?_
      refine jG ?_
      refine jT 16 rfl (Yl.indexAddr q4 rfl rfl (by omega)) ?_
      refine jA 17 rfl ?_
      refine WL.storeRow (n:=n) q5 rfl rfl rfl (by first | exact qO _ | simp [Value.oneCell']) (by omega) jU (by rw [Nat.zero_add];exact setN_flat (fun _=>rfl) (by simp<;>omega)) ?_
      refine jG ?_
      refine jD ?_
      refine WQ.chunks (C':=[jW g n c q1 q2 (((P++X.take d)++y::([]++x::(X.drop (d+1)++S))).flatMap q3)]) (fun w hS=>by first | (have h9:=hS;rw [e1] at h9;exact h9) | (have h9:=hS;rw [e2] at h9;exact h9)) ?_
      exact WQ.byCut (hQ ()) ⟨rfl,rfl,rfl,rfl,rfl,rfl,rfl,trivial⟩
     show WQ _ _ _ _ _ _ [(0,.slice (some ⟨g,0,none⟩) n c),(1,.int .i64 (a:Int)),(2,.int .i64 (m:Int)),(3,.int .i64 (b:Int)),(4,.func (.func kc) us.toArray cap.toArray),(14,.int .i64 ((a+e:Nat):Int)),(17,.int .i64 ((a+(d+1):Nat):Int))] [jW g n c q1 q2 (((P++X.take d)++y::([]++x::(X.drop (d+1)++S))).flatMap q3)]
     refine jN 6 ?_
     refine WL.bin (v:= .int .i64 ((a+d:Nat):Int)) rfl rfl rfl (fun w=>run_subK (i:=1) (k:=a+d) (s:=a+(d+1)) (by omega) (by omega) _ _ _ w) ?_
     refine jN 3 ?_
     refine WQ.chunks (C':=[jW g n c q1 q2 ((P++(X.take d++(y::(X.drop d++S)))).flatMap q3)]) (fun w hS=>by have e:P++(X.take d++(y::(X.drop d++S)))=(P++X.take d)++y::([]++x::(X.drop (d+1)++S)):=(by rw [drop_at hx];simp);rw [e];exact hS) ?_
     refine WQ.back d ?_ ?_ ?_ ?_
     ·exact ⟨by omega,by omega⟩
     ·omega
     ·exact ⟨rfl,rfl,rfl,rfl,rfl,rfl,rfl,trivial⟩
     rfl
    have hde:d=e:=by simp at h110;omega
    subst hde
    refine jN 7 ?_
    refine WQ.ret (rs:=[]) rfl .nil (fun w hS=>?_)
    have e:P++(X.take d++(y::(X.drop d++S)))=P++(mrg (ltC cmp) X [y]++S):=by
     have h9:=mrg_one_r hw (y:=y) (X1:=X.take d) (X2:=X.drop d) (fun x hx=>by obtain ⟨k,hk,hkx⟩:=mem_takeI hx;exact hlo k x hk hkx) (fun x hx=>hhi d x (Nat.le_refl _) (head_drop hx))
     rw [List.take_append_drop] at h9
     rw [h9];simp
    rw [e] at hS
    exact ⟨rfl,hS⟩
   have hy2:Y.length≠1:=by intro e;rw [e] at h80;simp at h80
   refine jN 9 ?_
   refine WL.bin (v:= .int .i64 (((a)+(b):Nat):Int)) rfl rfl rfl (fun w=>run_addN6 (by omega) (by omega) _ _ _ w) ?_
   refine jN 1 ?_
   refine WL.convert rfl rfl (v:= .int .u64 (((a)+(b):Nat):Int)) (fun w hS=>conv_iu (by omega) w) ?_
   refine jN 1 ?_
   refine WL.bin (v:= .int .u64 ((((a)+(b)) / 2:Nat):Int)) rfl rfl rfl (fun w=>run_shr1 (by omega) _ _ _ w) ?_
   refine jN 1 ?_
   refine WL.convert rfl rfl (v:= .int .i64 ((((a)+(b)) / 2:Nat):Int)) (fun w hS=>conv_ui (by omega) w) ?_
   obtain ⟨mid,hmid⟩:∃ mid,(a+b) / 2=mid:=⟨_,rfl⟩
   rw [hmid]
   refine jN 11 ?_
   refine WL.bin (v:= .int .i64 ((mid+m:Nat):Int)) rfl rfl rfl (fun w=>run_addN6 (by omega) (by omega) _ _ _ w) ?_
   refine jN 6 ?_
   obtain ⟨s0,r0,hsT,hsF⟩:∃ s0 r0:Nat,(mid<m→s0=mid+m - b∧mid=r0)∧(¬ mid<m→a=s0∧m=r0):=by
    by_cases hmm:mid<m
    ·exact ⟨mid+m - b,mid,fun _=>⟨rfl,rfl⟩,fun h=>absurd hmm h⟩
    ·exact ⟨a,m,fun h=>absurd h hmm,fun _=>⟨rfl,rfl⟩⟩
   refine jN 17 ?_
   refine WC.cutF [(0,.slice (some ⟨g,0,none⟩) n c),(1,.int .i64 (a:Int)),(2,.int .i64 (m:Int)),(3,.int .i64 (b:Int)),(4,.func (.func kc) us.toArray cap.toArray),(18,.int .i64 ((mid:Nat):Int)),(19,.int .i64 ((mid+m:Nat):Int)),(20,.int .i64 ((s0:Nat):Int)),(21,.int .i64 ((r0:Nat):Int))] (fun Q' hQ=>?_) ?_
   ·refine WC.cond rfl (fun h140=>?_) (fun h140=>?_)
    ·have hmm:mid<m:=by simp at h140;omega
     obtain ⟨hs1,hs2⟩:=hsT hmm
     subst hs1 hs2
     refine jN 7 ?_
     refine WL.bin (v:= .int .i64 (((mid+m - b):Nat):Int)) rfl rfl rfl (fun w=>run_subK (i:=b) (k:=(mid+m - b)) (s:=mid+m) (by omega) (by omega) _ _ _ w) ?_
     refine jN 10 ?_
     exact WQ.byCut hQ ⟨rfl,rfl,rfl,rfl,rfl,rfl,rfl,rfl,rfl,trivial⟩
    have hmm: ¬ mid<m:=by simp at h140;omega
    obtain ⟨hs1,hs2⟩:=hsF hmm
    subst hs1 hs2
    refine jN 14 ?_
    exact WQ.byCut hQ ⟨rfl,rfl,rfl,rfl,rfl,rfl,rfl,rfl,rfl,trivial⟩
   show WQ _ _ _ _ _ _ [(0,.slice (some ⟨g,0,none⟩) n c),(1,.int .i64 (a:Int)),(2,.int .i64 (m:Int)),(3,.int .i64 (b:Int)),(4,.func (.func kc) us.toArray cap.toArray),(18,.int .i64 ((mid:Nat):Int)),(19,.int .i64 ((mid+m:Nat):Int)),(20,.int .i64 ((s0:Nat):Int)),(21,.int .i64 ((r0:Nat):Int))] [jW g n c q1 q2 ((P++(X++(Y++S))).flatMap q3)]
   have hs0a:a≤s0∧s0≤r0∧r0≤m∧r0≤mid:=by
    by_cases hmm:mid<m
    ·have:=hsT hmm;omega
    ·have:=hsF hmm;omega
   refine jN 6 ?_
   refine WL.bin (v:= .int .i64 (((mid+m - 1):Nat):Int)) rfl rfl rfl (fun w=>run_subK (i:=1) (k:=(mid+m - 1)) (s:=mid+m) (by omega) (by omega) _ _ _ w) ?_
   refine jN 6 ?_
   refine WC.loop (α:=Nat×Nat) (fun z=>s0≤z.1∧z.1≤z.2∧z.2≤r0∧(z.1=s0∨(∃ x y,X[(z.1 - 1) - a]?=some x∧Y[mid+m - 1 - (z.1 - 1) - m]?=some y∧ltC cmp y x=false))∧(z.2=r0∨(∃ x y,X[z.2 - a]?=some x∧Y[mid+m - 1 - z.2 - m]?=some y∧ltC cmp y x=true))) (fun z=>[(0,.slice (some ⟨g,0,none⟩) n c),(1,.int .i64 (a:Int)),(2,.int .i64 (m:Int)),(3,.int .i64 (b:Int)),(4,.func (.func kc) us.toArray cap.toArray),(18,.int .i64 ((mid:Nat):Int)),(19,.int .i64 ((mid+m:Nat):Int)),(20,.int .i64 ((z.1:Nat):Int)),(21,.int .i64 ((z.2:Nat):Int)),(22,.int .i64 ((mid+m - 1:Nat):Int))]) (fun _=>[jW g n c q1 q2 ((P++(X++(Y++S))).flatMap q3)]) (fun z=>z.2 - z.1) ((s0,r0)) ?_ ?_ ?_ ?_
   ·exact ⟨Nat.le_refl _,hs0a.2.1,Nat.le_refl _,.inl rfl,.inl rfl⟩
   ·exact ⟨rfl,rfl,rfl,rfl,rfl,rfl,rfl,rfl,rfl,rfl,trivial⟩
   ·rfl
   rintro ⟨s,e⟩ ⟨hs1,hs2,hs3,hlo,hhi⟩
   dsimp only at hs1 hs2 hs3 hlo hhi
   show WC _ _ _ _ _ _ _ [(0,.slice (some ⟨g,0,none⟩) n c),(1,.int .i64 (a:Int)),(2,.int .i64 (m:Int)),(3,.int .i64 (b:Int)),(4,.func (.func kc) us.toArray cap.toArray),(18,.int .i64 ((mid:Nat):Int)),(19,.int .i64 ((mid+m:Nat):Int)),(20,.int .i64 ((s:Nat):Int)),(21,.int .i64 ((e:Nat):Int)),(22,.int .i64 ((mid+m - 1:Nat):Int))] [jW g n c q1 q2 ((P++(X++(Y++S))).flatMap q3)]
   refine jN 11 ?_
   refine WC.cond rfl (fun h151=>?_) (fun h151=>?_)
   ·have hlt:s<e:=by simp at h151;omega
    refine jN 10 ?_
    refine WL.bin (v:= .int .i64 (((s)+(e):Nat):Int)) rfl rfl rfl (fun w=>run_addN6 (by omega) (by omega) _ _ _ w) ?_
    refine jN 1 ?_
    refine WL.convert rfl rfl (v:= .int .u64 (((s)+(e):Nat):Int)) (fun w hS=>conv_iu (by omega) w) ?_
    refine jN 1 ?_
    refine WL.bin (v:= .int .u64 ((((s)+(e)) / 2:Nat):Int)) rfl rfl rfl (fun w=>run_shr1 (by omega) _ _ _ w) ?_
    refine jN 1 ?_
    refine WL.convert rfl rfl (v:= .int .i64 ((((s)+(e)) / 2:Nat):Int)) (fun w hS=>conv_ui (by omega) w) ?_
    obtain ⟨q,hq,hq1,hq2⟩:∃ q,(s+e) / 2=q∧s≤q∧q<e:=⟨(s+e) / 2,rfl,by omega,by omega⟩
    rw [hq]
    have hqm:q<mid∧q<m∧a≤q:=by omega
    have hqy:m≤mid+m - 1 - q∧mid+m - 1 - q - m<Y.length:=by
     by_cases hmm:mid<m
     ·have:=hsT hmm;omega
     ·have:=hsF hmm;omega
    obtain ⟨x,hx⟩:∃ x,X[q - a]?=some x:=⟨_,List.getElem?_eq_getElem (by omega)⟩
    obtain ⟨y,hy⟩:∃ y,Y[mid+m - 1 - q - m]?=some y:=⟨_,List.getElem?_eq_getElem hqy.2⟩
    have hxm:=List.mem_of_getElem? hx
    have hym:=List.mem_of_getElem? hy
    refine jN 5 ?_
    refine WC.draws [([11],fun w=>∀ jj v,(q3 y)[jj]?=some v→w.cell? ⟨g,0+(mid+m - 1 - q)*q2+jj,none⟩=some v),([11],fun w=>∀ jj v,(q3 x)[jj]?=some v→w.cell? ⟨g,0+(q)*q2+jj,none⟩=some v)] (by kernel_rfl) (fun w hS=>facts_cons ((fun jj v hv=>by rw [Nat.zero_add];exact rowc_cells (hS.ok (jW g n c q1 q2 ((P++(X++(Y++S))).flatMap q3)) jM) (flat_at (cells:=q3) (sz:=q2) (fun _ _=>rfl) (show (P++(X++(Y++S)))[mid+m - 1 - q]?=some y from at_seg (by omega) hy) jj _ hv))) (facts_cons ((fun jj v hv=>by rw [Nat.zero_add];exact rowc_cells (hS.ok (jW g n c q1 q2 ((P++(X++(Y++S))).flatMap q3)) jM) (flat_at (cells:=q3) (sz:=q2) (fun _ _=>rfl) (show (P++(X++(Y++S)))[q]?=some x from at_seg1 (by omega) hx) jj _ hv))) (facts_nil))) ?_
    refine jQ [0,1,2,3] ?_
    refine jT 4 rfl (Yl.bin (v:= .int .i64 (((mid+m - 1 - q):Nat):Int)) rfl rfl (fun w=>run_subK (i:=q) (k:=(mid+m - 1 - q)) (s:=mid+m - 1) (by omega) (by omega) _ _ _ w)) ?_
    refine jT 5 rfl (Yl.indexAddr q4 rfl rfl (by omega)) ?_
    refine jF 6 0 rfl rfl (Yl.loadN q5 rfl rfl) ?_
    refine jQ [7,8] ?_
    refine jT 9 rfl (Yl.indexAddr q4 rfl rfl (by omega)) ?_
    refine jF 10 1 rfl rfl (Yl.loadN q5 rfl rfl) ?_
    refine jA 11 rfl ?_
    refine WL.callFC (β:=Unit) (res:=fun _=> .int .i64 (cmp y x)) (cs:=fun _=>[]) (Cs:=[]) (O':=[]) (us:=us) (cap:=cap) hkc (fun d h=>by cases h;rfl) rfl rfl (List.Perm.refl _) (by simp) (by simp) (fun w hS _=>(hcmp _ _ hS y x (hQy _ hym) (hQx _ hxm)).mono (fun e w2 h=>⟨(),h⟩)) (fun _=>?_)
    refine jG ?_
    refine jQ [12,13] ?_
    refine jD ?_
    refine jN 1 ?_
    refine WC.cond rfl (fun h171=>?_) (fun h171=>?_)
    ·have hge:ltC cmp y x=false:=by simpa using h171
     refine jN 4 ?_
     refine WL.bin (v:= .int .i64 ((q+1:Nat):Int)) rfl rfl rfl (fun w=>run_addN6 (n:=1) (by omega) (by decide) _ _ _ w) ?_
     refine jN 4 ?_
     refine WQ.back (q+1,e) ?_ ?_ ?_ ?_
     ·exact ⟨by show s0≤q+1;omega,by show q+1≤e;omega,hs3,.inr ⟨x,y,hx,hy,hge⟩,hhi⟩
     ·show e - (q+1)<e - s;omega
     ·exact ⟨rfl,rfl,rfl,rfl,rfl,rfl,rfl,rfl,rfl,rfl,trivial⟩
     rfl
    have hge:ltC cmp y x=true:=by simpa using h171
    refine jN 7 ?_
    refine WQ.back (s,q) ?_ ?_ ?_ ?_
    ·exact ⟨hs1,hq1,by show q≤r0;omega,hlo,.inr ⟨x,y,hx,hy,hge⟩⟩
    ·show q - s<e - s;omega
    ·exact ⟨rfl,rfl,rfl,rfl,rfl,rfl,rfl,rfl,rfl,rfl,trivial⟩
    rfl
   have hee:e=s:=by simp at h151;omega
   subst hee
   refine jN 7 ?_
   obtain ⟨en,hen⟩:∃ en,en=mid+m - e:=⟨_,rfl⟩
   have hbb:m≤en∧en≤b:=by
    by_cases hmm:mid<m
    ·have:=hsT hmm;omega
    ·have:=hsF hmm;omega
   have hsp:=sym_split hw (X:=X) (Y:=Y) (s:=e - a) (e:=en - m) hX hY ?_ ?_
   rotate_left 1
   ·rcases hlo with h9 | ⟨x,y,h1,h2,h3⟩
    ·by_cases hmm:mid<m
     ·exact .inr (.inl (by have:=hsT hmm;omega))
     exact .inl (by have:=hsF hmm;omega)
    by_cases h0:e - a=0
    ·exact .inl h0
    by_cases h00:Y.length≤en - m
    ·exact .inr (.inl h00)
    exact .inr (.inr ⟨x,y,by rw [show e - a - 1=e - 1 - a by omega];exact h1,by rw [show en - m=mid+m - 1 - (e - 1) - m by omega];exact h2,h3⟩)
   ·rcases hhi with h9 | ⟨x,y,h1,h2,h3⟩
    ·by_cases hmm:mid<m
     ·exact .inl (by have:=hsT hmm;omega)
     exact .inr (.inl (by have:=hsF hmm;omega))
    by_cases h0:en - m=0
    ·exact .inl h0
    exact .inr (.inr ⟨x,y,h1,by rw [show en - m - 1=mid+m - 1 - e - m by omega];exact h2,h3⟩)
   have x1l:(X.take (e - a)).length=e - a:=by rw [List.length_take];omega
   have x2l:(X.drop (e - a)).length=m - e:=by rw [List.length_drop];omega
   have y1l:(Y.take (en - m)).length=en - m:=by rw [List.length_take];omega
   have y2l:(Y.drop (en - m)).length=b - en:=by rw [List.length_drop];omega
   have e9: ¬ (e<m∧m<en)→P++((X.take (e - a))++((Y.take (en - m))++((X.drop (e - a))++((Y.drop (en - m))++S))))=P++(X++(Y++S)):=fun hn9=>by
    have h8:(X.drop (e - a))++(Y.take (en - m))=(Y.take (en - m))++(X.drop (e - a)):=by
     by_cases hm9:e<m
     ·rw [List.eq_nil_of_length_eq_zero (l:=(Y.take (en - m))) (by omega)];simp
     ·rw [List.eq_nil_of_length_eq_zero (l:=(X.drop (e - a))) (by omega)];simp
    rw [← List.append_assoc (Y.take (en - m)) (X.drop (e - a)),← h8,List.append_assoc,← List.append_assoc (X.take (e - a)) (X.drop (e - a)),List.take_append_drop,← List.append_assoc (Y.take (en - m)) (Y.drop (en - m)),List.take_append_drop]
   have e7: ¬ (a<e∧e<mid)→P++(mrg (ltC cmp) (X.take (e - a)) (Y.take (en - m))++((X.drop (e - a))++((Y.drop (en - m))++S)))=P++((X.take (e - a))++((Y.take (en - m))++((X.drop (e - a))++((Y.drop (en - m))++S)))):=fun hn9=>by
    have h8:mrg (ltC cmp) (X.take (e - a)) (Y.take (en - m))=(X.take (e - a))++(Y.take (en - m)):=by
     by_cases hm9:a<e
     ·rw [List.eq_nil_of_length_eq_zero (l:=(Y.take (en - m))) (by omega),mrg_nil,List.append_nil]
     ·rw [List.eq_nil_of_length_eq_zero (l:=(X.take (e - a))) (by omega),nil_mrg,List.nil_append]
    rw [h8,List.append_assoc]
   have e6: ¬ (mid<en∧en<b)→P++(mrg (ltC cmp) (X.take (e - a)) (Y.take (en - m))++(mrg (ltC cmp) (X.drop (e - a)) (Y.drop (en - m))++S))=P++(mrg (ltC cmp) (X.take (e - a)) (Y.take (en - m))++((X.drop (e - a))++((Y.drop (en - m))++S))):=fun hn9=>by
    have h8:mrg (ltC cmp) (X.drop (e - a)) (Y.drop (en - m))=(X.drop (e - a))++(Y.drop (en - m)):=by
     by_cases hm9:mid<en
     ·rw [List.eq_nil_of_length_eq_zero (l:=(Y.drop (en - m))) (by omega),mrg_nil,List.append_nil]
     ·rw [List.eq_nil_of_length_eq_zero (l:=(X.drop (e - a))) (by omega),nil_mrg,List.nil_append]
    rw [h8,List.append_assoc (X.drop (e - a))]
   refine jN 5 ?_
   refine WL.bin (v:= .int .i64 ((en:Nat):Int)) rfl rfl rfl (fun w=>run_subK (i:=e) (k:=en) (s:=mid+m) (by omega) (by omega) _ _ _ w) ?_
   refine jN 6 ?_
   refine WC.cutF [(185,.bool (decide (e<m)&&decide (m<en))),(0,.slice (some ⟨g,0,none⟩) n c),(1,.int .i64 (a:Int)),(2,.int .i64 (m:Int)),(3,.int .i64 (b:Int)),(4,.func (.func kc) us.toArray cap.toArray),(18,.int .i64 ((mid:Nat):Int)),(20,.int .i64 ((e:Nat):Int)),(24,.int .i64 ((en:Nat):Int))] (fun Q' hQ=>?_) ?_
   ·refine jN 9 ?_
    refine WA.splitB (i:=181) rfl (fun hgg=>?_) (fun hgg=>?_)
    refine jN 12 ?_
    rotate_left
    refine jN 9 ?_
    rotate_left
    all_goals
     refine WQ.byCut hQ (subF_bool ?_ ⟨rfl,rfl,rfl,rfl,rfl,rfl,rfl,rfl,trivial⟩ rfl)
     first | (rw [show decide (e<m)=true from decide_eq_true (by simp at hgg;omega),Bool.true_and];exact decide_eq_decide.2 (by omega)) | (rw [show decide (e<m)=false from decide_eq_false (by simp at hgg;omega)];rfl)
   refine jN 1 ?_
   refine WC.cutQ ([(0,.slice (some ⟨g,0,none⟩) n c),(1,.int .i64 (a:Int)),(2,.int .i64 (m:Int)),(3,.int .i64 (b:Int)),(4,.func (.func kc) us.toArray cap.toArray),(18,.int .i64 ((mid:Nat):Int)),(20,.int .i64 ((e:Nat):Int)),(24,.int .i64 ((en:Nat):Int))]) ([jW g n c q1 q2 ((P++((X.take (e - a))++((Y.take (en - m))++((X.drop (e - a))++((Y.drop (en - m))++S))))).flatMap q3)]) (fun c a d v w h=>by cases d<;>exact h) (fun Q' hP hQ=>?_) ?_
   ·refine WC.cond rfl (fun h185=>?_) (fun h185=>?_)
    have hcc:e<m∧m<en:=by simpa using h185
    refine jN 1 ?_
    refine WA.chunks (C':=[jW g n c q1 q2 (((P++(X.take (e - a)))++((X.drop (e - a))++((Y.take (en - m))++((Y.drop (en - m))++S)))).flatMap q3)]) (fun w hS=>by have e9:(P++(X.take (e - a)))++((X.drop (e - a))++((Y.take (en - m))++((Y.drop (en - m))++S)))=P++(X++(Y++S)):=(by rw [List.append_assoc P,← List.append_assoc (X.take (e - a)),List.take_append_drop,← List.append_assoc (Y.take (en - m)),List.take_append_drop]);rw [e9];exact hS) ?_
    refine jN 11 ?_
    refine WL.callC (β:=Unit) (res:=fun _=> .tuple #[]) (cs:=fun _=>[jW g n c q1 q2 (((P++(X.take (e - a)))++((Y.take (en - m))++((X.drop (e - a))++((Y.drop (en - m))++S)))).flatMap q3)]) (Cs:=[jW g n c q1 q2 (((P++(X.take (e - a)))++((X.drop (e - a))++((Y.take (en - m))++((Y.drop (en - m))++S)))).flatMap q3)]) (O':=[g]) q6 (fun d h=>by cases h;rfl) rfl (List.Perm.refl _) q7 q8 (fun w hS hS2=>(q9 (P++(X.take (e - a))) (X.drop (e - a)) (Y.take (en - m)) ((Y.drop (en - m))++S) g n c (.func (.func kc) us.toArray cap.toArray) rfl e m en (by rw [List.length_append];omega) (by rw [List.length_append];omega) (by rw [List.length_append];omega) (by omega) (by omega) (by rw [← hnl];simp only [List.length_append];omega) hnc w hS2).mono (fun e w2 h=>⟨(),h⟩)) (fun _=>?_)
    rotate_left
    have hcc: ¬ (e<m∧m<en):=by simpa using h185
    rotate_left
    all_goals
     refine jN 1 ?_
     first | (refine WQ.chunks (C':=[jW g n c q1 q2 ((P++((X.take (e - a))++((Y.take (en - m))++((X.drop (e - a))++((Y.drop (en - m))++S))))).flatMap q3)]) (fun w hS=>by have e8:P++((X.take (e - a))++((Y.take (en - m))++((X.drop (e - a))++((Y.drop (en - m))++S))))=(P++(X.take (e - a)))++((Y.take (en - m))++((X.drop (e - a))++((Y.drop (en - m))++S))):=(by rw [List.append_assoc P]);rw [e8];exact hS) ?_;exact WQ.byCut hQ ⟨rfl,rfl,rfl,rfl,rfl,rfl,rfl,rfl,trivial⟩) | (refine WQ.chunks (C':=[jW g n c q1 q2 ((P++((X.take (e - a))++((Y.take (en - m))++((X.drop (e - a))++((Y.drop (en - m))++S))))).flatMap q3)]) (fun w hS=>by rw [e9 hcc];exact hS) ?_;exact WQ.byCut hQ ⟨rfl,rfl,rfl,rfl,rfl,rfl,rfl,rfl,trivial⟩)
   show WQ _ _ _ _ _ _ [(0,.slice (some ⟨g,0,none⟩) n c),(1,.int .i64 (a:Int)),(2,.int .i64 (m:Int)),(3,.int .i64 (b:Int)),(4,.func (.func kc) us.toArray cap.toArray),(18,.int .i64 ((mid:Nat):Int)),(20,.int .i64 ((e:Nat):Int)),(24,.int .i64 ((en:Nat):Int))] [jW g n c q1 q2 ((P++((X.take (e - a))++((Y.take (en - m))++((X.drop (e - a))++((Y.drop (en - m))++S))))).flatMap q3)]
   refine jN 3 ?_
   refine WC.cutF [(199,.bool (decide (a<e)&&decide (e<mid))),(0,.slice (some ⟨g,0,none⟩) n c),(1,.int .i64 (a:Int)),(2,.int .i64 (m:Int)),(3,.int .i64 (b:Int)),(4,.func (.func kc) us.toArray cap.toArray),(18,.int .i64 ((mid:Nat):Int)),(20,.int .i64 ((e:Nat):Int)),(24,.int .i64 ((en:Nat):Int))] (fun Q' hQ=>?_) ?_
   ·refine jN 9 ?_
    refine WA.splitB (i:=195) rfl (fun hgg=>?_) (fun hgg=>?_)
    refine jN 12 ?_
    rotate_left
    refine jN 9 ?_
    rotate_left
    all_goals
     refine WQ.byCut hQ (subF_bool ?_ ⟨rfl,rfl,rfl,rfl,rfl,rfl,rfl,rfl,trivial⟩ rfl)
     first | (rw [show decide (a<e)=true from decide_eq_true (by simp at hgg;omega),Bool.true_and];exact decide_eq_decide.2 (by omega)) | (rw [show decide (a<e)=false from decide_eq_false (by simp at hgg;omega)];rfl)
   refine jN 1 ?_
   refine WC.cutQ ([(0,.slice (some ⟨g,0,none⟩) n c),(1,.int .i64 (a:Int)),(2,.int .i64 (m:Int)),(3,.int .i64 (b:Int)),(4,.func (.func kc) us.toArray cap.toArray),(18,.int .i64 ((mid:Nat):Int)),(20,.int .i64 ((e:Nat):Int)),(24,.int .i64 ((en:Nat):Int))]) ([jW g n c q1 q2 ((P++(mrg (ltC cmp) (X.take (e - a)) (Y.take (en - m))++((X.drop (e - a))++((Y.drop (en - m))++S)))).flatMap q3)]) (fun c a d v w h=>by cases d<;>exact h) (fun Q' hP hQ=>?_) ?_
   ·refine WC.cond rfl (fun h199=>?_) (fun h199=>?_)
    have hcd:a<e∧e<mid:=by simpa using h199
    refine jN 12 ?_
    refine WL.callC (β:=Unit) (res:=fun _=> .tuple #[]) (cs:=fun _=>[jW g n c q1 q2 ((P++(mrg (ltC cmp) (X.take (e - a)) (Y.take (en - m))++((X.drop (e - a))++((Y.drop (en - m))++S)))).flatMap q3)]) (Cs:=[jW g n c q1 q2 ((P++((X.take (e - a))++((Y.take (en - m))++((X.drop (e - a))++((Y.drop (en - m))++S))))).flatMap q3)]) (O':=[g]) q10 (fun d h=>by cases h;rfl) rfl (List.Perm.refl _) q7 q8 (fun w hS hS2=>(hrec (P) (X.take (e - a)) (Y.take (en - m)) ((X.drop (e - a))++((Y.drop (en - m))++S)) a e mid (by first | omega | (simp only [List.length_append,mrg_len];omega)) (by first | omega | (simp only [List.length_append,mrg_len];omega)) (by first | omega | (simp only [List.length_append,mrg_len];omega)) (by omega) (by omega) (by omega) (hX.sublist (List.take_sublist _ _)) (hY.sublist (List.take_sublist _ _)) (by simp only [List.length_append,mrg_len];omega) (fun x hx=>hQx x (List.mem_of_mem_take hx)) (fun y hy=>hQy y (List.mem_of_mem_take hy)) w (hcmp.next hS) hS2).mono (fun e w2 h=>⟨(),h⟩)) (fun _=>?_)
    rotate_left
    have hcd: ¬ (a<e∧e<mid):=by simpa using h199
    rotate_left
    all_goals
     refine jN 1 ?_
     first | (exact WQ.byCut hQ ⟨rfl,rfl,rfl,rfl,rfl,rfl,rfl,rfl,trivial⟩) | (refine WQ.chunks (C':=[jW g n c q1 q2 ((P++(mrg (ltC cmp) (X.take (e - a)) (Y.take (en - m))++((X.drop (e - a))++((Y.drop (en - m))++S)))).flatMap q3)]) (fun w hS=>by rw [e7 hcd];exact hS) ?_;exact WQ.byCut hQ ⟨rfl,rfl,rfl,rfl,rfl,rfl,rfl,rfl,trivial⟩)
   show WQ _ _ _ _ _ _ [(0,.slice (some ⟨g,0,none⟩) n c),(1,.int .i64 (a:Int)),(2,.int .i64 (m:Int)),(3,.int .i64 (b:Int)),(4,.func (.func kc) us.toArray cap.toArray),(18,.int .i64 ((mid:Nat):Int)),(20,.int .i64 ((e:Nat):Int)),(24,.int .i64 ((en:Nat):Int))] [jW g n c q1 q2 ((P++(mrg (ltC cmp) (X.take (e - a)) (Y.take (en - m))++((X.drop (e - a))++((Y.drop (en - m))++S)))).flatMap q3)]
   refine jN 2 ?_
   refine WC.cutF [(213,.bool (decide (mid<en)&&decide (en<b))),(0,.slice (some ⟨g,0,none⟩) n c),(1,.int .i64 (a:Int)),(2,.int .i64 (m:Int)),(3,.int .i64 (b:Int)),(4,.func (.func kc) us.toArray cap.toArray),(18,.int .i64 ((mid:Nat):Int)),(20,.int .i64 ((e:Nat):Int)),(24,.int .i64 ((en:Nat):Int))] (fun Q' hQ=>?_) ?_
   ·refine jN 9 ?_
    refine WA.splitB (i:=209) rfl (fun hgg=>?_) (fun hgg=>?_)
    refine jN 12 ?_
    rotate_left
    refine jN 9 ?_
    rotate_left
    all_goals
     refine WQ.byCut hQ (subF_bool ?_ ⟨rfl,rfl,rfl,rfl,rfl,rfl,rfl,rfl,trivial⟩ rfl)
     first | (rw [show decide (mid<en)=true from decide_eq_true (by simp at hgg;omega),Bool.true_and];exact decide_eq_decide.2 (by omega)) | (rw [show decide (mid<en)=false from decide_eq_false (by simp at hgg;omega)];rfl)
   refine jN 1 ?_
   refine WC.cond rfl (fun h213=>?_) (fun h213=>?_)
   ·have hce:mid<en∧en<b:=by simpa using h213
    refine jN 1 ?_
    refine WA.chunks (C':=[jW g n c q1 q2 (((P++mrg (ltC cmp) (X.take (e - a)) (Y.take (en - m)))++((X.drop (e - a))++((Y.drop (en - m))++S))).flatMap q3)]) (fun w hS=>by have e8:(P++mrg (ltC cmp) (X.take (e - a)) (Y.take (en - m)))++((X.drop (e - a))++((Y.drop (en - m))++S))=P++(mrg (ltC cmp) (X.take (e - a)) (Y.take (en - m))++((X.drop (e - a))++((Y.drop (en - m))++S))):=(by rw [List.append_assoc P]);rw [e8];exact hS) ?_
    refine jN 11 ?_
    refine WL.callC (β:=Unit) (res:=fun _=> .tuple #[]) (cs:=fun _=>[jW g n c q1 q2 (((P++mrg (ltC cmp) (X.take (e - a)) (Y.take (en - m)))++(mrg (ltC cmp) (X.drop (e - a)) (Y.drop (en - m))++S)).flatMap q3)]) (Cs:=[jW g n c q1 q2 (((P++mrg (ltC cmp) (X.take (e - a)) (Y.take (en - m)))++((X.drop (e - a))++((Y.drop (en - m))++S))).flatMap q3)]) (O':=[g]) q10 (fun d h=>by cases h;rfl) rfl (List.Perm.refl _) q7 q8 (fun w hS hS2=>(hrec (P++mrg (ltC cmp) (X.take (e - a)) (Y.take (en - m))) (X.drop (e - a)) (Y.drop (en - m)) (S) mid en b (by first | omega | (simp only [List.length_append,mrg_len];omega)) (by first | omega | (simp only [List.length_append,mrg_len];omega)) (by first | omega | (simp only [List.length_append,mrg_len];omega)) (by omega) (by omega) (by omega) (hX.sublist (List.drop_sublist _ _)) (hY.sublist (List.drop_sublist _ _)) (by simp only [List.length_append,mrg_len];omega) (fun x hx=>hQx x (List.mem_of_mem_drop hx)) (fun y hy=>hQy y (List.mem_of_mem_drop hy)) w (hcmp.next hS) hS2).mono (fun e w2 h=>⟨(),h⟩)) (fun _=>?_)
    refine jN 1 ?_
    refine WQ.fin (rs:=[]) rfl .nil (fun w hS=>?_)
    have e5:P++(mrg (ltC cmp) (X.take (e - a)) (Y.take (en - m))++(mrg (ltC cmp) (X.drop (e - a)) (Y.drop (en - m))++S))=P++(mrg (ltC cmp) X Y++S):=by rw [hsp,List.append_assoc]
    rw [show (P++mrg (ltC cmp) (X.take (e - a)) (Y.take (en - m)))++(mrg (ltC cmp) (X.drop (e - a)) (Y.drop (en - m))++S)=P++(mrg (ltC cmp) (X.take (e - a)) (Y.take (en - m))++(mrg (ltC cmp) (X.drop (e - a)) (Y.drop (en - m))++S)) by rw [List.append_assoc P],e5] at hS
    exact ⟨rfl,hS⟩
   have hce: ¬ (mid<en∧en<b):=by simpa using h213
   refine jN 1 ?_
   refine WQ.fin (rs:=[]) rfl .nil (fun w hS=>?_)
   have e5:P++(mrg (ltC cmp) (X.take (e - a)) (Y.take (en - m))++(mrg (ltC cmp) (X.drop (e - a)) (Y.drop (en - m))++S))=P++(mrg (ltC cmp) X Y++S):=by rw [hsp,List.append_assoc]
   rw [← e6 hce,e5] at hS
   exact ⟨rfl,hS⟩):G:=h
set_option maxRecDepth 100000 in
set_option maxHeartbeats 4000000 in
theorem symT_c (g n c kc:Nat) (us cap:List Value) (Q:TkV→Prop) (cmp:TkV→TkV→Int) (hw:Swo (ltC cmp)) (hkc:funB Tryz.prog kc=some true) (hnc:n≤1000000):∀ (N:Nat) (P X Y S:List TkV) (a m b:Nat) (ha:a=P.length) (hm:m=P.length+X.length) (hb:b=P.length+X.length+Y.length) (hN:X.length+Y.length≤N) (hx0:0<X.length) (hy0:0<Y.length) (hX:Srt (ltC cmp) X) (hY:Srt (ltC cmp) Y) (hn:(P++(X++(Y++S))).length=n) (hQx:∀ x∈X,Q x) (hQy:∀ y∈Y,Q y) (w:World) (hcmp:CmpOk kc us cap tkC Q cmp w g) (hS0:St w [g] [jW g n c 89 7 ((P++(X++(Y++S))).flatMap tkC)] w),
  Calls Tryz.prog 159 [.slice (some ⟨g,0,none⟩) n c,.int .i64 (a:Int),.int .i64 (m:Int),.int .i64 (b:Int),.func (.func kc) us.toArray cap.toArray].toArray w fun e w'=>e= .returned (.tuple #[])∧St w [g] [jW g n c 89 7 ((P++(mrg (ltC cmp) X Y++S)).flatMap tkC)] w':=by
 let q1:Nat:=89
 let q2:Nat:=7
 let q3:=tkC
 have q4:= @F.sl30
 have q5:= @F.agg89
 have q6:= @F.fun189
 have q7:= @row_O1T
 have q8:= @row_O2T
 have q9:= @rotT_c
 have q10:= @F.fun159
 have qO:∀ x,∀ u∈tkC x,u.oneCell'=true:=fun x=>jO
 exact symK_c_s
end Go.Proofs.YtedbajbgnmaakaaGreatDoor
