/- Parts of the walk, put together by a program. By an AI agent. -/
import Derived.Test.YtedbajbgnmaakaaGreatDoorPaSourceLists5
set_option linter.unusedSimpArgs false
set_option linter.unusedVariables false
namespace Go.Proofs.YtedbajbgnmaakaaGreatDoor
open Go Go.Eng Go.Proofs Dg
theorem run_mul2 {n:Nat} (hn:n<1000000000000000000) (t:TypeId) (x y:Operand) (w:World):
  (do eqGuard .mul t x y (.int .i64 2) (.int .i64 (n:Int));binOp .mul t (.int .i64 2) (.int .i64 (n:Int)):Sem Value).run Tryz.prog w= .ok (.int .i64 ((2*n:Nat):Int)) w:=by
 have h2:IntKind.i64.wrap (2*(n:Int))=2*(n:Int):=by
  unfold IntKind.wrap
  simp [IntKind.signed,IntKind.bits]
  omega
 simp [eqGuard,binOp,Op.intArith,h2]
theorem run_mul2' {n:Nat} (hn:n<1000000000000000000) (t:TypeId) (x y:Operand) (w:World):
  (do eqGuard .mul t x y (.int .i64 (n:Int)) (.int .i64 2);binOp .mul t (.int .i64 (n:Int)) (.int .i64 2):Sem Value).run Tryz.prog w= .ok (.int .i64 ((2*n:Nat):Int)) w:=by
 have h2:IntKind.i64.wrap ((n:Int)*2)=2*(n:Int):=by
  unfold IntKind.wrap
  simp [IntKind.signed,IntKind.bits]
  omega
 simp [eqGuard,binOp,Op.intArith,h2]
set_option maxRecDepth 1000000 in
theorem stbK_c_s {G:Prop} (h:G:=by
   have hl9:=hll
   first | refine enter Tryz.func122 rfl Tryz.ntmps122 rfl (C:=[jW g n c 89 7 ((l).flatMap tkC)]) hS0 ?_ | refine enter Tryz.func124 rfl Tryz.ntmps124 rfl (C:=[jW g n c 95 6 ((l).flatMap dgC)]) hS0 ?_
   refine jN 18 ?_
   refine WC.chunks (C':=[jW g n c q1 q2 ((([]:List _)++l.drop 0).flatMap q3)]) (fun w hS=>by have e:([]:List _)++l.drop 0=l:=(by simp);rw [e];exact hS) ?_
   refine WC.loop (α:=List _) (fun D=>D.length≤n∧blk (ltC cmp) 20 l=D++blk (ltC cmp) 20 (l.drop D.length)) (fun D=>[(0,.slice (some ⟨g,0,none⟩) n c),(1,.int .i64 (n:Int)),(2,.func (.func kc) us.toArray cap.toArray),(6,.int .i64 ((20:Nat):Int)),(7,.int .i64 ((D.length:Nat):Int)),(8,.int .i64 ((D.length+20:Nat):Int))]) (fun D=>[jW g n c q1 q2 ((D++l.drop D.length).flatMap q3)]) (fun D=>n - D.length) ([]) ?_ ?_ ?_ ?_
   ·exact ⟨Nat.zero_le _,rfl⟩
   ·exact ⟨rfl,rfl,rfl,rfl,rfl,rfl,trivial⟩
   ·rfl
   rintro D ⟨hD,hB⟩
   show WC _ _ _ _ _ _ _ [(0,.slice (some ⟨g,0,none⟩) n c),(1,.int .i64 (n:Int)),(2,.func (.func kc) us.toArray cap.toArray),(6,.int .i64 ((20:Nat):Int)),(7,.int .i64 ((D.length:Nat):Int)),(8,.int .i64 ((D.length+20:Nat):Int))] [jW g n c q1 q2 ((D++l.drop D.length).flatMap q3)]
   refine jN 11 ?_
   refine WC.cond rfl (fun h13=>?_) (fun h13=>?_)
   ·have hlt:D.length+20≤n:=by simp at h13;omega
    refine jN 5 ?_
    refine WA.chunks (C':=[jW g n c q1 q2 ((D++(((l.drop D.length).take 20)++((l.drop D.length).drop 20))).flatMap q3)]) (fun w hS=>by have e:D++(((l.drop D.length).take 20)++((l.drop D.length).drop 20))=D++l.drop D.length:=(by rw [List.take_append_drop]);rw [e];exact hS) ?_
    refine jN 9 ?_
    refine WL.callC (β:=Unit) (res:=fun _=> .tuple #[]) (cs:=fun _=>[jW g n c q1 q2 ((D++(isort (ltC cmp) ((l.drop D.length).take 20)++((l.drop D.length).drop 20))).flatMap q3)]) (Cs:=[jW g n c q1 q2 ((D++(((l.drop D.length).take 20)++((l.drop D.length).drop 20))).flatMap q3)]) (O':=[g]) q4 (fun d h=>by cases h;rfl) rfl (List.Perm.refl _) q5 q6 (fun w hS hS2=>(q7 D ((l.drop D.length).take 20) ((l.drop D.length).drop 20) g n c kc us cap Q cmp hw hkc D.length (D.length+20) (by omega) (by first | omega | (simp only [List.length_take,List.length_drop];omega)) (by first | (rw [← hll];simp;omega) | (simp;omega)) hnc (fun x hx=>hQx x (List.mem_of_mem_drop (List.mem_of_mem_take hx))) w (hcmp.next hS) hS2).mono (fun e w2 h=>⟨(),h⟩)) (fun _=>?_)
    refine jN 16 ?_
    refine WL.bin (v:= .int .i64 (((D.length+20)+20:Nat):Int)) rfl rfl rfl (fun w=>run_addN6 (by omega) (by omega) _ _ _ w) ?_
    refine jN 4 ?_
    have hXl:(isort (ltC cmp) ((l.drop D.length).take 20)).length=20:=by rw [isort_len,List.length_take,List.length_drop];omega
    have hDl:(D++isort (ltC cmp) ((l.drop D.length).take 20)).length=D.length+20:=by rw [List.length_append,hXl]
    refine WQ.back (D++isort (ltC cmp) ((l.drop D.length).take 20)) ?_ ?_ ?_ ?_
    ·exact ⟨by omega,by rw [hDl,hB,blk_step (l:=l.drop D.length) (by rw [List.length_drop];omega) (by decide),List.drop_drop,List.append_assoc]⟩
    ·omega
    ·rw [hDl];exact ⟨rfl,rfl,rfl,rfl,rfl,rfl,trivial⟩
    simp only [hDl,List.append_assoc,List.drop_drop];rfl
   have hlt:n<D.length+20:=by simp at h13;omega
   refine jN 7 ?_
   refine WA.chunks (C':=[jW g n c q1 q2 ((D++(l.drop D.length++[])).flatMap q3)]) (fun w hS=>by have e:D++(l.drop D.length++[])=D++l.drop D.length:=(by rw [List.append_nil]);rw [e];exact hS) ?_
   refine jN 9 ?_
   refine WL.callC (β:=Unit) (res:=fun _=> .tuple #[]) (cs:=fun _=>[jW g n c q1 q2 ((D++(isort (ltC cmp) (l.drop D.length)++[])).flatMap q3)]) (Cs:=[jW g n c q1 q2 ((D++(l.drop D.length++[])).flatMap q3)]) (O':=[g]) q4 (fun d h=>by cases h;rfl) rfl (List.Perm.refl _) q5 q6 (fun w hS hS2=>(q7 D (l.drop D.length) [] g n c kc us cap Q cmp hw hkc D.length n (by omega) (by first | omega | (simp only [List.length_take,List.length_drop];omega)) (by first | (rw [← hll];simp;omega) | (simp;omega)) hnc (fun x hx=>hQx x (List.mem_of_mem_drop hx)) w (hcmp.next hS) hS2).mono (fun e w2 h=>⟨(),h⟩)) (fun _=>?_)
   refine jN 3 ?_
   refine WC.chunks (C':=[jW g n c q1 q2 ((blk (ltC cmp) 20 l).flatMap q3)]) (fun w hS=>by have e:blk (ltC cmp) 20 l=D++(isort (ltC cmp) (l.drop D.length)++[]):=(by rw [hB,blk_small (l:=l.drop D.length) (by rw [List.length_drop];omega),List.append_nil]);rw [e];exact hS) ?_
   refine WC.loop (α:=Nat) (fun bs=>20≤bs∧bs≤2*n+20) (fun bs=>[(0,.slice (some ⟨g,0,none⟩) n c),(1,.int .i64 (n:Int)),(2,.func (.func kc) us.toArray cap.toArray),(6,.int .i64 ((bs:Nat):Int))]) (fun bs=>[jW g n c q1 q2 ((blk (ltC cmp) bs l).flatMap q3)]) (fun bs=>n - bs) (20) ?_ ?_ ?_ ?_
   ·exact ⟨Nat.le_refl _,by omega⟩
   ·exact ⟨rfl,rfl,rfl,rfl,trivial⟩
   ·rfl
   rintro bs ⟨hbs,hbs2⟩
   show WC _ _ _ _ _ _ _ [(0,.slice (some ⟨g,0,none⟩) n c),(1,.int .i64 (n:Int)),(2,.func (.func kc) us.toArray cap.toArray),(6,.int .i64 ((bs:Nat):Int))] [jW g n c q1 q2 ((blk (ltC cmp) bs l).flatMap q3)]
   refine jN 11 ?_
   refine WC.cond rfl (fun h30=>?_) (fun h30=>?_)
   ·have hbn:bs<n:=by simp at h30;omega
    refine jN 8 ?_
    refine WL.bin (v:= .int .i64 ((2*bs:Nat):Int)) rfl rfl rfl (fun w=>run_mul2 (by omega) _ _ _ w) ?_
    refine jN 8 ?_
    refine WC.chunks (C':=[jW g n c q1 q2 ((([]:List _)++blk (ltC cmp) bs (l.drop 0)).flatMap q3)]) (fun w hS=>by have e:([]:List _)++blk (ltC cmp) bs (l.drop 0)=blk (ltC cmp) bs l:=(by simp);rw [e];exact hS) ?_
    refine WC.loop (α:=List _) (fun D=>D.length≤n∧blk (ltC cmp) (2*bs) l=D++blk (ltC cmp) (2*bs) (l.drop D.length)) (fun D=>[(0,.slice (some ⟨g,0,none⟩) n c),(1,.int .i64 (n:Int)),(2,.func (.func kc) us.toArray cap.toArray),(6,.int .i64 ((bs:Nat):Int)),(7,.int .i64 ((D.length:Nat):Int)),(8,.int .i64 ((D.length+2*bs:Nat):Int))]) (fun D=>[jW g n c q1 q2 ((D++blk (ltC cmp) bs (l.drop D.length)).flatMap q3)]) (fun D=>n - D.length) ([]) ?_ ?_ ?_ ?_
    ·exact ⟨Nat.zero_le _,rfl⟩
    ·exact ⟨rfl,rfl,rfl,rfl,rfl,by (show some (Value.int .i64 ((2*bs:Nat):Int))=some (Value.int .i64 ((0+2*bs:Nat):Int));rw [Nat.zero_add]),trivial⟩
    ·rfl
    rintro D ⟨hD,hB⟩
    show WC _ _ _ _ _ _ _ [(0,.slice (some ⟨g,0,none⟩) n c),(1,.int .i64 (n:Int)),(2,.func (.func kc) us.toArray cap.toArray),(6,.int .i64 ((bs:Nat):Int)),(7,.int .i64 ((D.length:Nat):Int)),(8,.int .i64 ((D.length+2*bs:Nat):Int))] [jW g n c q1 q2 ((D++blk (ltC cmp) bs (l.drop D.length)).flatMap q3)]
    have hrl:(l.drop D.length).length=n - D.length:=by rw [List.length_drop,hll]
    refine jN 11 ?_
    refine WC.cond rfl (fun h35=>?_) (fun h35=>?_)
    ·have hlt:D.length+2*bs≤n:=by simp at h35;omega
     refine jN 5 ?_
     have hx1:(isort (ltC cmp) ((l.drop D.length).take bs)).length=bs:=by rw [isort_len,List.length_take,hrl];omega
     have hy1:(isort (ltC cmp) (((l.drop D.length).drop bs).take bs)).length=bs:=by rw [isort_len,List.length_take,List.length_drop,hrl];omega
     refine WA.chunks (C':=[jW g n c q1 q2 ((D++((isort (ltC cmp) ((l.drop D.length).take bs))++((isort (ltC cmp) (((l.drop D.length).drop bs).take bs))++(blk (ltC cmp) bs (((l.drop D.length).drop bs).drop bs))))).flatMap q3)]) (fun w hS=>by have e:D++((isort (ltC cmp) ((l.drop D.length).take bs))++((isort (ltC cmp) (((l.drop D.length).drop bs).take bs))++(blk (ltC cmp) bs (((l.drop D.length).drop bs).drop bs))))=D++blk (ltC cmp) bs (l.drop D.length):=(by rw [blk_step (l:=(l.drop D.length)) (by omega) (by omega),blk_step (l:=(l.drop D.length).drop bs) (by rw [List.length_drop];omega) (by omega)]);rw [e];exact hS) ?_
     refine jN 9 ?_
     refine WL.bin (v:= .int .i64 ((D.length+bs:Nat):Int)) rfl rfl rfl (fun w=>run_addN6 (by omega) (by omega) _ _ _ w) ?_
     refine jN 5 ?_
     refine WL.callC (β:=Unit) (res:=fun _=> .tuple #[]) (cs:=fun _=>[jW g n c q1 q2 ((D++(mrg (ltC cmp) (isort (ltC cmp) ((l.drop D.length).take bs)) (isort (ltC cmp) (((l.drop D.length).drop bs).take bs))++(blk (ltC cmp) bs (((l.drop D.length).drop bs).drop bs)))).flatMap q3)]) (Cs:=[jW g n c q1 q2 ((D++((isort (ltC cmp) ((l.drop D.length).take bs))++((isort (ltC cmp) (((l.drop D.length).drop bs).take bs))++(blk (ltC cmp) bs (((l.drop D.length).drop bs).drop bs))))).flatMap q3)]) (O':=[g]) q8 (fun d h=>by cases h;rfl) rfl (List.Perm.refl _) q5 q6 (fun w hS hS2=>(q9 g n c kc us cap Q cmp hw hkc hnc n D (isort (ltC cmp) ((l.drop D.length).take bs)) (isort (ltC cmp) (((l.drop D.length).drop bs).take bs)) (blk (ltC cmp) bs (((l.drop D.length).drop bs).drop bs)) D.length (D.length+bs) (D.length+2*bs) rfl (by omega) (by omega) (by omega) (by omega) (by omega) (isort_srt hw _) (isort_srt hw _) (by simp only [List.length_append,List.length_nil,blk_len,List.length_drop,hx1,hy1];omega) (fun x hx=>hQx x (List.mem_of_mem_drop (List.mem_of_mem_take (isort_mem.1 hx)))) (fun x hx=>hQx x (List.mem_of_mem_drop (List.mem_of_mem_drop (List.mem_of_mem_take (isort_mem.1 hx))))) w (hcmp.next hS) hS2).mono (fun e w2 h=>⟨(),h⟩)) (fun _=>?_)
     refine jN 16 ?_
     refine WL.bin (v:= .int .i64 ((2*bs:Nat):Int)) rfl rfl rfl (fun w=>run_mul2 (by omega) _ _ _ w) ?_
     refine jN 1 ?_
     refine WL.bin (v:= .int .i64 (((D.length+2*bs)+(2*bs):Nat):Int)) rfl rfl rfl (fun w=>run_addN6 (by omega) (by omega) _ _ _ w) ?_
     refine jN 4 ?_
     have hDl:(D++mrg (ltC cmp) (isort (ltC cmp) ((l.drop D.length).take bs)) (isort (ltC cmp) (((l.drop D.length).drop bs).take bs))).length=D.length+2*bs:=by rw [List.length_append,mrg_len,hx1,hy1];omega
     have hdd:l.drop (D.length+2*bs)=((l.drop D.length).drop bs).drop bs:=by rw [List.drop_drop,List.drop_drop];congr 1;omega
     refine WQ.back (D++mrg (ltC cmp) (isort (ltC cmp) ((l.drop D.length).take bs)) (isort (ltC cmp) (((l.drop D.length).drop bs).take bs))) ?_ ?_ ?_ ?_
     ·exact ⟨by omega,by rw [hDl,hB,blk_two hw (l:=(l.drop D.length)) (by omega) (by omega),List.append_assoc,show ((l.drop D.length)).drop (2*bs)=l.drop (D.length+2*bs) from List.drop_drop]⟩
     ·omega
     ·rw [hDl];exact ⟨rfl,rfl,rfl,rfl,rfl,rfl,trivial⟩
     simp only [hDl,List.append_assoc,hdd];rfl
    have hlt:n<D.length+2*bs:=by simp at h35;omega
    refine jN 13 ?_
    refine WL.bin (v:= .int .i64 ((D.length+bs:Nat):Int)) rfl rfl rfl (fun w=>run_addN6 (by omega) (by omega) _ _ _ w) ?_
    refine jN 14 ?_
    refine WC.cond rfl (fun h54=>?_) (fun h54=>?_)
    have hmn:D.length+bs<n:=by simp at h54;omega
    refine jN 1 ?_
    have hx1:(isort (ltC cmp) ((l.drop D.length).take bs)).length=bs:=by rw [isort_len,List.length_take,hrl];omega
    have hy1:(isort (ltC cmp) ((l.drop D.length).drop bs)).length=n - D.length - bs:=by rw [isort_len,List.length_drop,hrl]
    refine WA.chunks (C':=[jW g n c q1 q2 ((D++((isort (ltC cmp) ((l.drop D.length).take bs))++((isort (ltC cmp) ((l.drop D.length).drop bs))++[]))).flatMap q3)]) (fun w hS=>by have e:D++((isort (ltC cmp) ((l.drop D.length).take bs))++((isort (ltC cmp) ((l.drop D.length).drop bs))++[]))=D++blk (ltC cmp) bs (l.drop D.length):=(by rw [blk_step (l:=(l.drop D.length)) (by omega) (by omega),blk_small (l:=(l.drop D.length).drop bs) (by rw [List.length_drop];omega),List.append_nil]);rw [e];exact hS) ?_
    refine jN 11 ?_
    refine WL.callC (β:=Unit) (res:=fun _=> .tuple #[]) (cs:=fun _=>[jW g n c q1 q2 ((D++(mrg (ltC cmp) (isort (ltC cmp) ((l.drop D.length).take bs)) (isort (ltC cmp) ((l.drop D.length).drop bs))++[])).flatMap q3)]) (Cs:=[jW g n c q1 q2 ((D++((isort (ltC cmp) ((l.drop D.length).take bs))++((isort (ltC cmp) ((l.drop D.length).drop bs))++[]))).flatMap q3)]) (O':=[g]) q8 (fun d h=>by cases h;rfl) rfl (List.Perm.refl _) q5 q6 (fun w hS hS2=>(q9 g n c kc us cap Q cmp hw hkc hnc n D (isort (ltC cmp) ((l.drop D.length).take bs)) (isort (ltC cmp) ((l.drop D.length).drop bs)) [] D.length (D.length+bs) n rfl (by omega) (by omega) (by omega) (by omega) (by omega) (isort_srt hw _) (isort_srt hw _) (by simp only [List.length_append,List.length_nil,blk_len,List.length_drop,hx1,hy1];omega) (fun x hx=>hQx x (List.mem_of_mem_drop (List.mem_of_mem_take (isort_mem.1 hx)))) (fun x hx=>hQx x (List.mem_of_mem_drop (List.mem_of_mem_drop (isort_mem.1 hx)))) w (hcmp.next hS) hS2).mono (fun e w2 h=>⟨(),h⟩)) (fun _=>?_)
    refine jN 6 ?_
    refine WL.bin (v:= .int .i64 ((2*bs:Nat):Int)) rfl rfl rfl (fun w=>run_mul2' (by omega) _ _ _ w) ?_
    refine jN 4 ?_
    refine WQ.chunks (C':=[jW g n c q1 q2 ((blk (ltC cmp) (2*bs) l).flatMap q3)]) (fun w hS=>by have e:blk (ltC cmp) (2*bs) l=D++(mrg (ltC cmp) (isort (ltC cmp) ((l.drop D.length).take bs)) (isort (ltC cmp) ((l.drop D.length).drop bs))++[]):=(by rw [hB,blk_last hw (l:=(l.drop D.length)) (by omega),List.append_nil]);rw [e];exact hS) ?_
    rotate_left
    have hmn:n≤D.length+bs:=by simp at h54;omega
    refine jN 6 ?_
    refine WL.bin (v:= .int .i64 ((2*bs:Nat):Int)) rfl rfl rfl (fun w=>run_mul2' (by omega) _ _ _ w) ?_
    refine jN 4 ?_
    refine WQ.chunks (C':=[jW g n c q1 q2 ((blk (ltC cmp) (2*bs) l).flatMap q3)]) (fun w hS=>by have e:blk (ltC cmp) (2*bs) l=D++blk (ltC cmp) bs (l.drop D.length):=(by rw [hB,blk_small (l:=(l.drop D.length)) (bs:=bs) (by omega),blk_small (l:=(l.drop D.length)) (bs:=2*bs) (by omega)]);rw [e];exact hS) ?_
    rotate_left
    all_goals
     refine WQ.back (2*bs) ?_ ?_ ?_ ?_
     ·exact ⟨by omega,by omega⟩
     ·omega
     ·exact ⟨rfl,rfl,rfl,rfl,trivial⟩
     rfl
   have hbn:n≤bs:=by simp at h30;omega
   refine jN 4 ?_
   refine WQ.fin (rs:=[]) rfl .nil (fun w hS=>?_)
   rw [blk_small (by omega)] at hS
   exact ⟨rfl,hS⟩):G:=h
set_option maxRecDepth 100000 in
set_option maxHeartbeats 4000000 in
theorem stbT_c (l:List TkV) (g n c kc:Nat) (us cap:List Value) (Q:TkV→Prop) (cmp:TkV→TkV→Int) (hw:Swo (ltC cmp)) (hkc:funB Tryz.prog kc=some true) (hll:l.length=n) (hnc:n≤1000000) (hQx:∀ x∈l,Q x) (w:World) (hcmp:CmpOk kc us cap tkC Q cmp w g) (hS0:St w [g] [jW g n c 89 7 ((l).flatMap tkC)] w):Calls Tryz.prog 122 [.slice (some ⟨g,0,none⟩) n c,.int .i64 (n:Int),.func (.func kc) us.toArray cap.toArray].toArray w fun e w'=>e= .returned (.tuple #[])∧St w [g] [jW g n c 89 7 ((isort (ltC cmp) l).flatMap tkC)] w':=by
 let q1:Nat:=89
 let q2:Nat:=7
 let q3:=tkC
 have q4:= @F.fun158
 have q5:= @row_O1T
 have q6:= @row_O2T
 have q7:= @insT_c
 have q8:= @F.fun159
 have q9:= @symT_c
 have qO:∀ x,∀ u∈tkC x,u.oneCell'=true:=fun x=>jO
 exact stbK_c_s
theorem sstT_c (l:List TkV) (g n c kc:Nat) (us cap:List Value) (Q:TkV→Prop) (cmp:TkV→TkV→Int) (hw:Swo (ltC cmp)) (hkc:funB Tryz.prog kc=some true) (hll:l.length=n) (hnc:n≤1000000) (hQx:∀ x∈l,Q x) (w:World) (hcmp:CmpOk kc us cap tkC Q cmp w g) (hS0:St w [g] [jW g n c 89 7 ((l).flatMap tkC)] w):
  Calls Tryz.prog 91 [.slice (some ⟨g,0,none⟩) n c,.func (.func kc) us.toArray cap.toArray].toArray w fun e w'=>e= .returned (.tuple #[])∧St w [g] [jW g n c 89 7 ((isort (ltC cmp) l).flatMap tkC)] w':=by
 refine enter Tryz.func91 rfl Tryz.ntmps91 rfl (C:=[jW g n c 89 7 ((l).flatMap tkC)]) hS0 ?_
 refine jN 10 ?_
 refine WL.callC (β:=Unit) (res:=fun _=> .tuple #[]) (cs:=fun _=>[jW g n c 89 7 ((isort (ltC cmp) l).flatMap tkC)]) (Cs:=[jW g n c 89 7 ((l).flatMap tkC)]) (O':=[g]) F.fun122 (fun d h=>by cases h;rfl) rfl (List.Perm.refl _) row_O1T row_O2T (fun w hS hS2=>(stbT_c l g n c kc us cap Q cmp hw hkc hll hnc hQx w (hcmp.next hS) hS2).mono (fun e w2 h=>⟨(),h⟩)) (fun _=>?_)
 refine jN 1 ?_
 refine WQ.fin (rs:=[]) rfl .nil (fun w hS=>?_)
 exact ⟨rfl,hS⟩
end Go.Proofs.YtedbajbgnmaakaaGreatDoor
