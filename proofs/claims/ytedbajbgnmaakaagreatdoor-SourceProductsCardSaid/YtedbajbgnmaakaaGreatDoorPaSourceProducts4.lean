/- Parts of the walk, put together by a program. By an AI agent. -/
import Derived.Test.YtedbajbgnmaakaaGreatDoorPaSourceProducts3
import Derived.Calls
import Derived.Deep.Draws
import Derived.Shelf.GgSortFunc.InsertionK
import Derived.Shelf.SlSortCmp.WholeK
import Derived.Shelf.SlSortCmp.NoneTotal
import Derived.Test.YtedbajbgnmaakaaGreatDoorProg
set_option linter.unusedSimpArgs false
set_option linter.unusedVariables false
namespace Go.Proofs.YtedbajbgnmaakaaGreatDoor
open Go Go.Eng Go.Proofs Dg
set_option maxRecDepth 100000 in
set_option maxHeartbeats 4000000 in
theorem stbP_c (l:List PrV) (g n c kc:Nat) (us cap:List Value) (Q:PrV→Prop) (cmp:PrV→PrV→Int) (hw:Swo (ltC cmp)) (hkc:funB Tryz.prog kc=some true) (hll:l.length=n) (hnc:n≤1000000) (hQx:∀ x∈l,Q x) (w:World) (hcmp:CmpOk kc us cap prC Q cmp w g) (hS0:St w [g] [jW g n c 67 3 ((l).flatMap prC)] w):
  Calls Tryz.prog 126 [.slice (some ⟨g,0,none⟩) n c,.int .i64 (n:Int),.func (.func kc) us.toArray cap.toArray].toArray w fun e w'=>e= .returned (.tuple #[])∧St w [g] [jW g n c 67 3 ((isort (ltC cmp) l).flatMap prC)] w':=by
 have hl9:=hll
 refine enter Tryz.func126 rfl Tryz.ntmps126 rfl (C:=[jW g n c 67 3 ((l).flatMap prC)]) hS0 ?_
 refine jN 18 ?_
 refine WC.chunks (C':=[jW g n c 67 3 ((([]:List PrV)++l.drop 0).flatMap prC)]) (fun w hS=>by have e:([]:List PrV)++l.drop 0=l:=(by simp);rw [e];exact hS) ?_
 refine WC.loop (α:=List PrV) (fun D=>D.length≤n∧blk (ltC cmp) 20 l=D++blk (ltC cmp) 20 (l.drop D.length)) (fun D=>[(0,.slice (some ⟨g,0,none⟩) n c),(1,.int .i64 (n:Int)),(2,.func (.func kc) us.toArray cap.toArray),(6,.int .i64 ((20:Nat):Int)),(7,.int .i64 ((D.length:Nat):Int)),(8,.int .i64 ((D.length+20:Nat):Int))]) (fun D=>[jW g n c 67 3 ((D++l.drop D.length).flatMap prC)]) (fun D=>n - D.length) ([]) ?_ ?_ ?_ ?_
 ·exact ⟨Nat.zero_le _,rfl⟩
 ·exact ⟨rfl,rfl,rfl,rfl,rfl,rfl,trivial⟩
 ·rfl
 rintro D ⟨hD,hB⟩
 show WC _ _ _ _ _ _ _ [(0,.slice (some ⟨g,0,none⟩) n c),(1,.int .i64 (n:Int)),(2,.func (.func kc) us.toArray cap.toArray),(6,.int .i64 ((20:Nat):Int)),(7,.int .i64 ((D.length:Nat):Int)),(8,.int .i64 ((D.length+20:Nat):Int))] [jW g n c 67 3 ((D++l.drop D.length).flatMap prC)]
 refine jN 11 ?_
 refine WC.cond rfl (fun h13=>?_) (fun h13=>?_)
 ·have hlt:D.length+20≤n:=by simp at h13;omega
  refine jN 5 ?_
  refine WA.chunks (C':=[jW g n c 67 3 ((D++(((l.drop D.length).take 20)++((l.drop D.length).drop 20))).flatMap prC)]) (fun w hS=>by have e:D++(((l.drop D.length).take 20)++((l.drop D.length).drop 20))=D++l.drop D.length:=(by rw [List.take_append_drop]);rw [e];exact hS) ?_
  refine jN 9 ?_
  refine WL.callC (β:=Unit) (res:=fun _=> .tuple #[]) (cs:=fun _=>[jW g n c 67 3 ((D++(isort (ltC cmp) ((l.drop D.length).take 20)++((l.drop D.length).drop 20))).flatMap prC)]) (Cs:=[jW g n c 67 3 ((D++(((l.drop D.length).take 20)++((l.drop D.length).drop 20))).flatMap prC)]) (O':=[g]) F.fun127 (fun d h=>by cases h;rfl) rfl (List.Perm.refl _) row_O1P row_O2P (fun w hS hS2=>(insP_c D ((l.drop D.length).take 20) ((l.drop D.length).drop 20) g n c kc us cap Q cmp hw hkc D.length (D.length+20) (by omega) (by first | omega | (simp only [List.length_take,List.length_drop];omega)) (by first | (rw [← hll];simp;omega) | (simp;omega)) hnc (fun x hx=>hQx x (List.mem_of_mem_drop (List.mem_of_mem_take hx))) w (hcmp.next hS) hS2).mono (fun e w2 h=>⟨(),h⟩)) (fun _=>?_)
  refine jN 16 ?_
  refine WL.bin (v:= .int .i64 (((D.length+20)+20:Nat):Int)) rfl rfl rfl (fun w=>run_addN6 (by omega) (by omega) _ _ _ w) ?_
  refine jN 4 ?_
  have hXl:(isort (ltC cmp) ((l.drop D.length).take 20)).length=20:=by rw [isort_len,List.length_take,List.length_drop];omega
  have hDl:(D++isort (ltC cmp) ((l.drop D.length).take 20)).length=D.length+20:=by rw [List.length_append,hXl]
  refine WQ.back (D++isort (ltC cmp) ((l.drop D.length).take 20)) ?_ ?_ ?_ ?_
  ·exact ⟨by omega,by rw [hDl,hB,blk_step (l:=l.drop D.length) (by rw [List.length_drop];omega) (by decide),List.drop_drop,List.append_assoc]⟩
  ·omega
  ·rw [hDl];exact ⟨rfl,rfl,rfl,rfl,rfl,rfl,trivial⟩
  simp only [hDl,List.append_assoc,List.drop_drop];rfl
 have hlt:n<D.length+20:=by simp at h13;omega
 refine jN 7 ?_
 refine WA.chunks (C':=[jW g n c 67 3 ((D++(l.drop D.length++[])).flatMap prC)]) (fun w hS=>by have e:D++(l.drop D.length++[])=D++l.drop D.length:=(by rw [List.append_nil]);rw [e];exact hS) ?_
 refine jN 9 ?_
 refine WL.callC (β:=Unit) (res:=fun _=> .tuple #[]) (cs:=fun _=>[jW g n c 67 3 ((D++(isort (ltC cmp) (l.drop D.length)++[])).flatMap prC)]) (Cs:=[jW g n c 67 3 ((D++(l.drop D.length++[])).flatMap prC)]) (O':=[g]) F.fun127 (fun d h=>by cases h;rfl) rfl (List.Perm.refl _) row_O1P row_O2P (fun w hS hS2=>(insP_c D (l.drop D.length) [] g n c kc us cap Q cmp hw hkc D.length n (by omega) (by first | omega | (simp only [List.length_take,List.length_drop];omega)) (by first | (rw [← hll];simp;omega) | (simp;omega)) hnc (fun x hx=>hQx x (List.mem_of_mem_drop hx)) w (hcmp.next hS) hS2).mono (fun e w2 h=>⟨(),h⟩)) (fun _=>?_)
 refine jN 3 ?_
 refine WC.chunks (C':=[jW g n c 67 3 ((blk (ltC cmp) 20 l).flatMap prC)]) (fun w hS=>by have e:blk (ltC cmp) 20 l=D++(isort (ltC cmp) (l.drop D.length)++[]):=(by rw [hB,blk_small (l:=l.drop D.length) (by rw [List.length_drop];omega),List.append_nil]);rw [e];exact hS) ?_
 refine WC.loop (α:=Nat) (fun bs=>20≤bs∧bs≤2*n+20) (fun bs=>[(0,.slice (some ⟨g,0,none⟩) n c),(1,.int .i64 (n:Int)),(2,.func (.func kc) us.toArray cap.toArray),(6,.int .i64 ((bs:Nat):Int))]) (fun bs=>[jW g n c 67 3 ((blk (ltC cmp) bs l).flatMap prC)]) (fun bs=>n - bs) (20) ?_ ?_ ?_ ?_
 ·exact ⟨Nat.le_refl _,by omega⟩
 ·exact ⟨rfl,rfl,rfl,rfl,trivial⟩
 ·rfl
 rintro bs ⟨hbs,hbs2⟩
 show WC _ _ _ _ _ _ _ [(0,.slice (some ⟨g,0,none⟩) n c),(1,.int .i64 (n:Int)),(2,.func (.func kc) us.toArray cap.toArray),(6,.int .i64 ((bs:Nat):Int))] [jW g n c 67 3 ((blk (ltC cmp) bs l).flatMap prC)]
 refine jN 11 ?_
 refine WC.cond rfl (fun h30=>?_) (fun h30=>?_)
 ·have hbn:bs<n:=by simp at h30;omega
  refine jN 8 ?_
  refine WL.bin (v:= .int .i64 ((2*bs:Nat):Int)) rfl rfl rfl (fun w=>run_mul2 (by omega) _ _ _ w) ?_
  refine jN 8 ?_
  refine WC.chunks (C':=[jW g n c 67 3 ((([]:List PrV)++blk (ltC cmp) bs (l.drop 0)).flatMap prC)]) (fun w hS=>by have e:([]:List PrV)++blk (ltC cmp) bs (l.drop 0)=blk (ltC cmp) bs l:=(by simp);rw [e];exact hS) ?_
  refine WC.loop (α:=List PrV) (fun D=>D.length≤n∧blk (ltC cmp) (2*bs) l=D++blk (ltC cmp) (2*bs) (l.drop D.length)) (fun D=>[(0,.slice (some ⟨g,0,none⟩) n c),(1,.int .i64 (n:Int)),(2,.func (.func kc) us.toArray cap.toArray),(6,.int .i64 ((bs:Nat):Int)),(7,.int .i64 ((D.length:Nat):Int)),(8,.int .i64 ((D.length+2*bs:Nat):Int))]) (fun D=>[jW g n c 67 3 ((D++blk (ltC cmp) bs (l.drop D.length)).flatMap prC)]) (fun D=>n - D.length) ([]) ?_ ?_ ?_ ?_
  ·exact ⟨Nat.zero_le _,rfl⟩
  ·exact ⟨rfl,rfl,rfl,rfl,rfl,by (show some (Value.int .i64 ((2*bs:Nat):Int))=some (Value.int .i64 ((0+2*bs:Nat):Int));rw [Nat.zero_add]),trivial⟩
  ·rfl
  rintro D ⟨hD,hB⟩
  show WC _ _ _ _ _ _ _ [(0,.slice (some ⟨g,0,none⟩) n c),(1,.int .i64 (n:Int)),(2,.func (.func kc) us.toArray cap.toArray),(6,.int .i64 ((bs:Nat):Int)),(7,.int .i64 ((D.length:Nat):Int)),(8,.int .i64 ((D.length+2*bs:Nat):Int))] [jW g n c 67 3 ((D++blk (ltC cmp) bs (l.drop D.length)).flatMap prC)]
  have hrl:(l.drop D.length).length=n - D.length:=by rw [List.length_drop,hll]
  refine jN 11 ?_
  refine WC.cond rfl (fun h35=>?_) (fun h35=>?_)
  ·have hlt:D.length+2*bs≤n:=by simp at h35;omega
   refine jN 5 ?_
   have hx1:(isort (ltC cmp) ((l.drop D.length).take bs)).length=bs:=by rw [isort_len,List.length_take,hrl];omega
   have hy1:(isort (ltC cmp) (((l.drop D.length).drop bs).take bs)).length=bs:=by rw [isort_len,List.length_take,List.length_drop,hrl];omega
   refine WA.chunks (C':=[jW g n c 67 3 ((D++((isort (ltC cmp) ((l.drop D.length).take bs))++((isort (ltC cmp) (((l.drop D.length).drop bs).take bs))++(blk (ltC cmp) bs (((l.drop D.length).drop bs).drop bs))))).flatMap prC)]) (fun w hS=>by have e:D++((isort (ltC cmp) ((l.drop D.length).take bs))++((isort (ltC cmp) (((l.drop D.length).drop bs).take bs))++(blk (ltC cmp) bs (((l.drop D.length).drop bs).drop bs))))=D++blk (ltC cmp) bs (l.drop D.length):=(by rw [blk_step (l:=(l.drop D.length)) (by omega) (by omega),blk_step (l:=(l.drop D.length).drop bs) (by rw [List.length_drop];omega) (by omega)]);rw [e];exact hS) ?_
   refine jN 9 ?_
   refine WL.bin (v:= .int .i64 ((D.length+bs:Nat):Int)) rfl rfl rfl (fun w=>run_addN6 (by omega) (by omega) _ _ _ w) ?_
   refine jN 5 ?_
   refine WL.callC (β:=Unit) (res:=fun _=> .tuple #[]) (cs:=fun _=>[jW g n c 67 3 ((D++(mrg (ltC cmp) (isort (ltC cmp) ((l.drop D.length).take bs)) (isort (ltC cmp) (((l.drop D.length).drop bs).take bs))++(blk (ltC cmp) bs (((l.drop D.length).drop bs).drop bs)))).flatMap prC)]) (Cs:=[jW g n c 67 3 ((D++((isort (ltC cmp) ((l.drop D.length).take bs))++((isort (ltC cmp) (((l.drop D.length).drop bs).take bs))++(blk (ltC cmp) bs (((l.drop D.length).drop bs).drop bs))))).flatMap prC)]) (O':=[g]) F.fun162 (fun d h=>by cases h;rfl) rfl (List.Perm.refl _) row_O1P row_O2P (fun w hS hS2=>(symP_c g n c kc us cap Q cmp hw hkc hnc n D (isort (ltC cmp) ((l.drop D.length).take bs)) (isort (ltC cmp) (((l.drop D.length).drop bs).take bs)) (blk (ltC cmp) bs (((l.drop D.length).drop bs).drop bs)) D.length (D.length+bs) (D.length+2*bs) rfl (by omega) (by omega) (by omega) (by omega) (by omega) (isort_srt hw _) (isort_srt hw _) (by simp only [List.length_append,List.length_nil,blk_len,List.length_drop,hx1,hy1];omega) (fun x hx=>hQx x (List.mem_of_mem_drop (List.mem_of_mem_take (isort_mem.1 hx)))) (fun x hx=>hQx x (List.mem_of_mem_drop (List.mem_of_mem_drop (List.mem_of_mem_take (isort_mem.1 hx))))) w (hcmp.next hS) hS2).mono (fun e w2 h=>⟨(),h⟩)) (fun _=>?_)
   refine jN 16 ?_
   refine WL.bin (v:= .int .i64 ((2*bs:Nat):Int)) rfl rfl rfl (fun w=>run_mul2 (by omega) _ _ _ w) ?_
   refine jN 1 ?_
   refine WL.bin (v:= .int .i64 (((D.length+2*bs)+(2*bs):Nat):Int)) rfl rfl rfl (fun w=>run_addN6 (by omega) (by omega) _ _ _ w) ?_
   refine jN 4 ?_
   have hDl:(D++mrg (ltC cmp) (isort (ltC cmp) ((l.drop D.length).take bs)) (isort (ltC cmp) (((l.drop D.length).drop bs).take bs))).length=D.length+2*bs:=by rw [List.length_append,mrg_len,hx1,hy1];omega
   have hdd:l.drop (D.length+2*bs)=((l.drop D.length).drop bs).drop bs:=by rw [List.drop_drop,List.drop_drop];congr 1;omega
   refine WQ.back (D++mrg (ltC cmp) (isort (ltC cmp) ((l.drop D.length).take bs)) (isort (ltC cmp) (((l.drop D.length).drop bs).take bs))) ?_ ?_ ?_ ?_
   ·exact ⟨by omega,by rw [hDl,hB,blk_two hw (l:=(l.drop D.length)) (by omega) (by omega),List.append_assoc,show ((l.drop D.length)).drop (2*bs)=l.drop (D.length+2*bs) from List.drop_drop]⟩
   ·omega
   ·rw [hDl];exact ⟨rfl,rfl,rfl,rfl,rfl,rfl,trivial⟩
   simp only [hDl,List.append_assoc,hdd];rfl
  have hlt:n<D.length+2*bs:=by simp at h35;omega
  refine jN 13 ?_
  refine WL.bin (v:= .int .i64 ((D.length+bs:Nat):Int)) rfl rfl rfl (fun w=>run_addN6 (by omega) (by omega) _ _ _ w) ?_
  refine jN 14 ?_
  refine WC.cond rfl (fun h54=>?_) (fun h54=>?_)
  have hmn:D.length+bs<n:=by simp at h54;omega
  refine jN 1 ?_
  have hx1:(isort (ltC cmp) ((l.drop D.length).take bs)).length=bs:=by rw [isort_len,List.length_take,hrl];omega
  have hy1:(isort (ltC cmp) ((l.drop D.length).drop bs)).length=n - D.length - bs:=by rw [isort_len,List.length_drop,hrl]
  refine WA.chunks (C':=[jW g n c 67 3 ((D++((isort (ltC cmp) ((l.drop D.length).take bs))++((isort (ltC cmp) ((l.drop D.length).drop bs))++[]))).flatMap prC)]) (fun w hS=>by have e:D++((isort (ltC cmp) ((l.drop D.length).take bs))++((isort (ltC cmp) ((l.drop D.length).drop bs))++[]))=D++blk (ltC cmp) bs (l.drop D.length):=(by rw [blk_step (l:=(l.drop D.length)) (by omega) (by omega),blk_small (l:=(l.drop D.length).drop bs) (by rw [List.length_drop];omega),List.append_nil]);rw [e];exact hS) ?_
  refine jN 11 ?_
  refine WL.callC (β:=Unit) (res:=fun _=> .tuple #[]) (cs:=fun _=>[jW g n c 67 3 ((D++(mrg (ltC cmp) (isort (ltC cmp) ((l.drop D.length).take bs)) (isort (ltC cmp) ((l.drop D.length).drop bs))++[])).flatMap prC)]) (Cs:=[jW g n c 67 3 ((D++((isort (ltC cmp) ((l.drop D.length).take bs))++((isort (ltC cmp) ((l.drop D.length).drop bs))++[]))).flatMap prC)]) (O':=[g]) F.fun162 (fun d h=>by cases h;rfl) rfl (List.Perm.refl _) row_O1P row_O2P (fun w hS hS2=>(symP_c g n c kc us cap Q cmp hw hkc hnc n D (isort (ltC cmp) ((l.drop D.length).take bs)) (isort (ltC cmp) ((l.drop D.length).drop bs)) [] D.length (D.length+bs) n rfl (by omega) (by omega) (by omega) (by omega) (by omega) (isort_srt hw _) (isort_srt hw _) (by simp only [List.length_append,List.length_nil,blk_len,List.length_drop,hx1,hy1];omega) (fun x hx=>hQx x (List.mem_of_mem_drop (List.mem_of_mem_take (isort_mem.1 hx)))) (fun x hx=>hQx x (List.mem_of_mem_drop (List.mem_of_mem_drop (isort_mem.1 hx)))) w (hcmp.next hS) hS2).mono (fun e w2 h=>⟨(),h⟩)) (fun _=>?_)
  refine jN 6 ?_
  refine WL.bin (v:= .int .i64 ((2*bs:Nat):Int)) rfl rfl rfl (fun w=>run_mul2' (by omega) _ _ _ w) ?_
  refine jN 4 ?_
  refine WQ.chunks (C':=[jW g n c 67 3 ((blk (ltC cmp) (2*bs) l).flatMap prC)]) (fun w hS=>by have e:blk (ltC cmp) (2*bs) l=D++(mrg (ltC cmp) (isort (ltC cmp) ((l.drop D.length).take bs)) (isort (ltC cmp) ((l.drop D.length).drop bs))++[]):=(by rw [hB,blk_last hw (l:=(l.drop D.length)) (by omega),List.append_nil]);rw [e];exact hS) ?_
  rotate_left
  have hmn:n≤D.length+bs:=by simp at h54;omega
  refine jN 6 ?_
  refine WL.bin (v:= .int .i64 ((2*bs:Nat):Int)) rfl rfl rfl (fun w=>run_mul2' (by omega) _ _ _ w) ?_
  refine jN 4 ?_
  refine WQ.chunks (C':=[jW g n c 67 3 ((blk (ltC cmp) (2*bs) l).flatMap prC)]) (fun w hS=>by have e:blk (ltC cmp) (2*bs) l=D++blk (ltC cmp) bs (l.drop D.length):=(by rw [hB,blk_small (l:=(l.drop D.length)) (bs:=bs) (by omega),blk_small (l:=(l.drop D.length)) (bs:=2*bs) (by omega)]);rw [e];exact hS) ?_
  rotate_left
  all_goals
   refine WQ.back (2*bs) ?_ ?_ ?_ ?_
   ·exact ⟨by omega,by omega⟩
   ·omega
   ·exact ⟨rfl,rfl,rfl,rfl,trivial⟩
   rfl
 have hbn:n≤bs:=by simp at h30;omega
 refine jN 4 ?_
 refine WQ.fin (rs:=[]) rfl .nil (fun w hS=>?_)
 rw [blk_small (by omega)] at hS
 exact ⟨rfl,hS⟩
theorem sstP_c (l:List PrV) (g n c kc:Nat) (us cap:List Value) (Q:PrV→Prop) (cmp:PrV→PrV→Int) (hw:Swo (ltC cmp)) (hkc:funB Tryz.prog kc=some true) (hll:l.length=n) (hnc:n≤1000000) (hQx:∀ x∈l,Q x) (w:World) (hcmp:CmpOk kc us cap prC Q cmp w g) (hS0:St w [g] [jW g n c 67 3 ((l).flatMap prC)] w):
  Calls Tryz.prog 101 [.slice (some ⟨g,0,none⟩) n c,.func (.func kc) us.toArray cap.toArray].toArray w fun e w'=>e= .returned (.tuple #[])∧St w [g] [jW g n c 67 3 ((isort (ltC cmp) l).flatMap prC)] w':=by
 refine enter Tryz.func101 rfl Tryz.ntmps101 rfl (C:=[jW g n c 67 3 ((l).flatMap prC)]) hS0 ?_
 refine jN 10 ?_
 refine WL.callC (β:=Unit) (res:=fun _=> .tuple #[]) (cs:=fun _=>[jW g n c 67 3 ((isort (ltC cmp) l).flatMap prC)]) (Cs:=[jW g n c 67 3 ((l).flatMap prC)]) (O':=[g]) F.fun126 (fun d h=>by cases h;rfl) rfl (List.Perm.refl _) row_O1P row_O2P (fun w hS hS2=>(stbP_c l g n c kc us cap Q cmp hw hkc hll hnc hQx w (hcmp.next hS) hS2).mono (fun e w2 h=>⟨(),h⟩)) (fun _=>?_)
 refine jN 1 ?_
 refine WQ.fin (rs:=[]) rfl .nil (fun w hS=>?_)
 exact ⟨rfl,hS⟩
abbrev kvP (t:PrV):WdV×(Cf→Bool):=(t.x,t.d.ev)
structure JoPV where
 i:Nat
 o:List PrV
 a:Option Addr
 c:Nat
 F:List Nat
 ds:List DV
structure JoPG (l o:List PrV) (ds:List DV):Prop where
 d:∀ t∈o,t.d.ok 0∧((t.d,t.da,t.dc)∈ds∨∃ s∈l,((t.d,t.da,t.dc):DV)=(s.d,s.da,s.dc))
 x:∀ t∈o,∃ s∈l,t.x=s.x
theorem JoPG.snoc {l o:List PrV} {ds:List DV} {x:PrV} (h:JoPG l o ds) (hx:x∈l) (ho:x.d.ok 0):JoPG l (o++[x]) ds:=by
 refine ⟨fun t ht=>?_,fun t ht=>?_⟩
 ·rcases List.mem_append.1 ht with ht | ht
  ·exact h.d t ht
  rw [List.mem_singleton.1 ht];exact ⟨ho,.inr ⟨x,hx,rfl⟩⟩
 rcases List.mem_append.1 ht with ht | ht
 ·exact h.x t ht
 rw [List.mem_singleton.1 ht];exact ⟨x,hx,rfl⟩
theorem JoPG.join {l P:List PrV} {ds:List DV} {y:PrV} (h:JoPG l (P++[y]) ds) {z:DV} (hz:z.1.ok 0):JoPG l (P++[⟨y.x,z.1,z.2.1,z.2.2⟩]) (ds++[z]):=by
 refine ⟨fun t ht=>?_,fun t ht=>?_⟩
 ·rcases List.mem_append.1 ht with ht | ht
  ·obtain ⟨h1,h2⟩:=h.d t (List.mem_append_left _ ht)
   exact ⟨h1,h2.imp (List.mem_append_left _) id⟩
  rw [List.mem_singleton.1 ht];exact ⟨hz,.inl (List.mem_append_right _ (by simp))⟩
 rcases List.mem_append.1 ht with ht | ht
 ·exact h.x t (List.mem_append_left _ ht)
 rw [List.mem_singleton.1 ht];exact h.x y (by simp)
set_option maxRecDepth 100000 in
set_option maxHeartbeats 1000000 in
theorem joinedP1_c (l:List PrV) (a:Option Addr) (c:Nat) (hpos:0<l.length) (hl:l.length≤10000) (w:World) (hr:PsR w l a):
  Calls Tryz.prog 63 [.slice a l.length c,(.func (.func 64) [].toArray [].toArray),(.func (.func 66) [].toArray [].toArray)].toArray w fun e w'=>∃ m:JoPV,m.o.map kvP=joiN (ltC cmpW) (l.map kvP)∧JoPG l m.o m.ds∧e= .returned (.slice m.a m.o.length m.c)∧St w [] [rowc (.slice m.a m.o.length m.c) m.o.length 67 3 (m.o.flatMap prC),dsC m.F m.ds] w':=by
 refine enter Tryz.func63 rfl Tryz.ntmps63 rfl (St.init _) ?_
 refine jN 3 ?_
 refine WL.box1 rfl rfl rfl (fun b5=>?_)
 refine jN 9 ?_
 refine WL.call0 (β:=Option Addr×Nat) (res:=fun x=> .returned (.slice x.1 l.length x.2)) (cs:=fun x=>[rowc (.slice x.1 l.length x.2) l.length 67 3 (l.flatMap prC)]) (ψ:=fun _=>True) F.fun99 (fun d h=>by cases h;rfl) rfl (fun w hS=>(CloneP_c l a c (by omega) w (hr.r.next hS)).mono (fun e w2 ⟨x,h1,h2⟩=>⟨x,trivial,h1,h2⟩)) (fun ⟨xa,xc⟩ _=>After_ret ?_)
 refine WA.know (φ:=∃ g,xa=some ⟨g,0,none⟩∧b5≠g) (fun w hS=>by obtain ⟨g,hg,_,_⟩:=rowc_addr (hS.ok _ (List.mem_cons_self ..)) hpos;subst hg;exact ⟨g,rfl,St_neR (hS.perm (List.Perm.swap ..))⟩) (fun hkn=>?_)
 obtain ⟨g,hg,hbg⟩:=hkn
 subst hg
 refine jN 3 ?_
 refine WL.callC (β:=Unit) (res:=fun _=> .slice (some ⟨g,0,none⟩) (keepE emP l).length xc) (cs:=fun _=>[jW g (keepE emP l).length xc 67 3 ((keepE emP l).flatMap prC)]) (Cs:=[jW g (l).length xc 67 3 ((l).flatMap prC)]) (O':=[g]) F.fun98 (fun d h=>by cases h;rfl) rfl (List.Perm.refl _) row_O1P row_O2P (fun w hS hS2=>(delP_c l g xc b5 (by omega) hbg w (hS.cell (cs:=[(.func (.func 66) [].toArray [].toArray)]) jM rfl) hS2).mono (fun e w2 h=>⟨(),h⟩)) (fun _=>?_)
 refine jN 11 ?_
 refine WL.callC (β:=Unit) (res:=fun _=> .tuple #[]) (cs:=fun _=>[jW g (keepE emP l).length xc 67 3 ((isort (ltC fun x y:PrV=>cmpW x.x y.x) (keepE emP l)).flatMap prC)]) (Cs:=[jW g (keepE emP l).length xc 67 3 ((keepE emP l).flatMap prC)]) (O':=[g]) F.fun101 (fun d h=>by cases h;rfl) rfl (List.Perm.refl _) row_O1P row_O2P (fun w hS hS2=>(sstP_c (keepE emP l) g (keepE emP l).length xc 64 [] [] (fun x=>x∈l) (fun x y=>cmpW x.x y.x) ⟨fun x y h=>cmpW_3.swo.asym x.x y.x h,fun x y z h1 h2=>cmpW_3.swo.tr x.x y.x z.x h1 h2⟩ F.fun64 rfl (Nat.le_trans (List.length_filter_le _ _) (by omega)) (fun x hx=>(List.mem_filter.1 hx).1) w (fun C2 w2 h2 x y hx hy=>cmpPro_c x y w2) hS2).mono (fun e w2 h=>⟨(),h⟩)) (fun _=>?_)
 refine jN 6 ?_
 obtain ⟨S,hS9⟩:∃ S,S=isort (ltC fun x y:PrV=>cmpW x.x y.x) (keepE emP l):=⟨_,rfl⟩
 obtain ⟨n,hn9⟩:∃ n,n=(keepE emP l).length:=⟨_,rfl⟩
 have hSl:S.length=n:=by rw [hS9,isort_len,hn9]
 have hSm:∀ x∈S,x∈l:=fun x hx=>by rw [hS9] at hx;exact (List.mem_filter.1 (isort_mem.1 hx)).1
 have hnl:n≤l.length:=by rw [hn9];exact List.length_filter_le _ _
 rw [← hS9,← hn9]
 refine jN 14 ?_
 refine WC.chunks (C':=[pt b5 [(.func (.func 66) [].toArray [].toArray)] 133,jW g n xc 67 3 (S.flatMap prC),rowc (.slice none 0 0) 0 67 3 [],dsC [] []]) (fun w hS=>(jK (St.rowNil (St.dsNil hS) 67 3))) ?_
 refine WC.loop (α:=JoPV) (fun m=>m.i≤n∧m.o.map kvP=((S.take m.i).map kvP).foldl (jstep (fun a b:WdV×(Cf→Bool)=>ltC cmpW a.1 b.1) jnK) []∧JoPG l m.o m.ds) (fun m=>[(1,(.func (.func 64) [].toArray [].toArray)),(5,pp b5),(7,.slice m.a (m.o).length m.c),(19,.slice (some ⟨g,0,none⟩) n xc),(20,.int .i64 (n:Int)),(21,.int .i64 (m.i:Int))]) (fun m=>[pt b5 [(.func (.func 66) [].toArray [].toArray)] 133,jW g n xc 67 3 (S.flatMap prC),rowc (.slice m.a (m.o).length m.c) (m.o).length 67 3 ((m.o).flatMap prC),dsC m.F m.ds]) (fun m=>n - m.i) (⟨0,[],none,0,[],[]⟩) ?_ ?_ ?_ ?_
 ·exact ⟨Nat.zero_le _,rfl,⟨by simp,by simp⟩⟩
 ·exact ⟨rfl,rfl,rfl,rfl,rfl,rfl,trivial⟩
 ·rfl
 rintro ⟨i,o,a,c,Fp,ds⟩ ⟨hi,ho,hJ⟩
 dsimp only at hi ho hJ
 show WC _ _ _ _ _ _ _ [(1,(.func (.func 64) [].toArray [].toArray)),(5,pp b5),(7,.slice a (o).length c),(19,.slice (some ⟨g,0,none⟩) n xc),(20,.int .i64 (n:Int)),(21,.int .i64 (i:Int))] [pt b5 [(.func (.func 66) [].toArray [].toArray)] 133,jW g n xc 67 3 (S.flatMap prC),rowc (.slice a (o).length c) (o).length 67 3 ((o).flatMap prC),dsC Fp ds]
 have hol:o.length≤i:=by have h9:=congrArg List.length ho;rw [List.length_map] at h9;rw [h9];refine Nat.le_trans (jst_len _ _) ?_;rw [List.length_nil,List.length_map,List.length_take];omega
 refine jN 7 ?_
 refine WC.cond rfl (fun h22=>?_) (fun h22=>?_)
 ·have hlt:i<n:=by simpa using h22
  obtain ⟨x,hx⟩:∃ y,S[i]?=some y:=⟨_,List.getElem?_eq_getElem (by omega)⟩
  have hxm:=List.mem_of_getElem? hx
  have rdY:∀ {w2:World} {C:List Chunk} (hS:St w [] C w2) {F:List Nat} {ds:List DV} {t:PrV},((t.d,t.da,t.dc)∈ds∨∃ s∈l,((t.d,t.da,t.dc):DV)=(s.d,s.da,s.dc))→dsC F ds∈C→RdD w2 t.d t.da:=by
   intro w2 C hS F ds t ht hm
   rcases ht with ht | ⟨s9,hs9,e9⟩
   ·exact dsC_rd (hS.ok _ hm) ht
   ·simp only [Prod.mk.injEq] at e9
    rw [e9.1,e9.2.1]
    exact (hr.d s9 hs9).next0 hS
  refine jN 7 ?_
  refine WL.indexAddr F.sl62 rfl rfl rfl hlt ?_
  refine jN 1 ?_
  refine WL.loadN F.agg67 rfl rfl (vs:=prC x) rfl (fun w hS jj v hv=>by rw [Nat.zero_add];exact rowc_cells (hS.ok (jW g n xc 67 3 (S.flatMap prC)) jM) (flat_at (cells:=prC) (sz:=3) (fun _ _=>rfl) hx jj _ hv)) ?_
  refine jN 1 ?_
  refine WL.alloc F.zero67 rfl (fun b9=>?_)
  refine jN 1 ?_
  refine WL.storeN F.agg67 rfl rfl rfl (prC_one x) jU (by repeat constructor) ?_
  refine jN 4 ?_
  rcases List.eq_nil_or_concat o with rfl | ⟨P,y,hP9⟩
  ·refine jN 12 ?_
   refine WC.draws [] (by kernel_rfl) (fun w hS=>facts_nil) ?_
   refine jQ [0,1,2] ?_
   refine fun hcl=>WA.splitB (i:=30) rfl (fun g30=>?_) (fun g30=>?_)
   ·refine (show WD _ _ _ _ _ _ _ _ _ _ _ _ from ?_) hcl
    exfalso;simp at g30
   refine (show WD _ _ _ _ _ _ _ _ _ _ _ _ from ?_) hcl
   refine jQ [3,4,5,6,7,8,9,10,11] ?_
   refine jD ?_
   refine jN 10 ?_
   refine WL.buildSlice F.sl62 F.ez62 rfl rfl rfl rfl jB rfl (fun b57=>?_)
   refine jN 1 ?_
   refine WL.appendE (news:=prC x) F.el62 rfl rfl rfl jR (fun w hS jj u hu9=>by rw [Nat.zero_add];exact hS.cell (cs:=prC x) jM hu9) rfl (prC_one x) (Nat.le_trans (m:=20000) (by omega) (by decide)) (by omega) (fun a9 c9=>?_)
   refine jN 11 ?_
   refine WQ.chunks (C':=[pt b5 [(.func (.func 66) [].toArray [].toArray)] 133,jW g n xc 67 3 (S.flatMap prC),rowc (.slice a9 ((([]:List PrV)).length+1) c9) ((([]:List PrV)).length+1) 67 3 ((([]:List PrV)).flatMap prC++prC x),dsC Fp ds]) (fun w hS=>(jK hS)) ?_
   refine WQ.back (⟨i+1,([]:List PrV)++[x],a9,c9,Fp,ds⟩:JoPV) ?_ ?_ ?_ ?_
   ·exact ⟨hlt,by (show (([]:List PrV)++[x]).map kvP=((S.take (i+1)).map kvP).foldl _ []);rw [List.map_take] at ho ⊢;rw [fold_snoc (map_snoc6 hx),← ho];rfl,hJ.snoc (hSm x hxm) (hr.d x (hSm x hxm)).1⟩
   ·show n - (i+1)<n - i;omega
   ·simp only [List.length_append,List.length_cons,List.length_nil];exact ⟨rfl,rfl,rfl,rfl,rfl,rfl,trivial⟩
   simp only [List.length_append,List.length_cons,List.length_nil,List.flatMap_append,List.flatMap_cons,List.flatMap_nil,List.append_nil]<;>rfl
  rw [List.concat_eq_append] at hP9
  subst hP9
  have hyl:=hJ.x y (by simp)
  have hPl:(P++[y]).length=P.length+1:=by simp
  refine WC.know (φ:=∃ g,a=some ⟨g,0,none⟩∧(P++[y]).length=(P++[y]).length∧(P++[y]).length≤c) (fun w hS=>rowc_addr (hS.ok (rowc (.slice a (P++[y]).length c) (P++[y]).length 67 3 ((P++[y]).flatMap prC)) jM) (by omega)) (fun ⟨g2,hg2,_,_⟩=>?_)
  subst hg2
  refine jN 6 ?_
  refine WL.bin (v:= .int .i64 ((P.length:Nat):Int)) rfl rfl rfl (fun w=>run_subK (i:=1) (k:=P.length) (s:=(P++[y]).length) (by omega) (by omega) _ _ _ w) ?_
  refine jN 5 ?_
  refine WC.drawsL (by kernel_rfl) (FactsOk.cons (ds:=[9]) (LoadOk.by (Y:=fun w=>∀ jj v,(prC y)[jj]?=some v→w.cell? ⟨g2,0+P.length*3+jj,none⟩=some v) (fun w hS=>(fun jj v hv=>by rw [Nat.zero_add];exact rowc_cells (hS.ok (jW g2 (P++[y]).length c 67 3 ((P++[y]).flatMap prC)) jM) (flat_at (cells:=prC) (sz:=3) (fun _ _=>rfl) (show (P++[y])[P.length]?=some y by simp) jj _ hv)))) (FactsOk.cons (ds:=[9]) (LoadOk.whole (t:=9) rfl jM) (FactsOk.nil))) ?_
  refine jQ [0,1,2] ?_
  refine fun hcl=>WA.splitB (i:=30) rfl (fun g30=>?_) (fun g30=>?_)
  ·refine (show WD _ _ _ _ _ _ _ _ _ _ _ _ from ?_) hcl
   refine jQ [3,4,5] ?_
   refine WD.takeG (i:=6) rfl rfl rfl rfl rfl rfl (by decide+kernel) (by decide+kernel) (by decide+kernel) (fun _ _ _ h=>h) (by kernel_rfl) need_none (Yl.indexAddr F.sl62 rfl rfl (by omega)) ?_
   refine WD.takeG (i:=7) rfl rfl rfl rfl rfl rfl (by decide+kernel) (by decide+kernel) (by decide+kernel) (fun _ _ _ h=>h) (by kernel_rfl) (need_at2 0 rfl (by decide+kernel)) (Yl.loadN F.agg67 rfl rfl) ?_
   refine WD.takeG (i:=8) rfl rfl rfl rfl rfl rfl (by decide+kernel) (by decide+kernel) (by decide+kernel) (fun _ _ _ h=>h) (by kernel_rfl) (need_at2 1 rfl (by decide+kernel)) (Yl.loadN F.agg67 rfl rfl) ?_
   refine jA 9 rfl ?_
   refine WL.guardT rfl rfl rfl ?_
   refine WL.callFC (β:=Unit) (res:=fun _=> .int .i64 (cmpW y.x x.x)) (cs:=fun _=>[]) (Cs:=[]) (O':=[]) (us:=[]) (cap:=[]) F.fun64 (fun d h=>by cases h;rfl) rfl rfl (List.Perm.refl _) (by simp) (by simp) (fun w hS _=>(cmpPro_c y x w).mono (fun e w2 h=>⟨(),by simpa using h⟩)) (fun _=>?_)
   refine jG ?_
   refine jQ [10,11] ?_
   refine jD ?_
   refine jN 1 ?_
   refine WC.cond rfl (fun h39=>?_) (fun h39=>?_)
   ·have h39:cmpW y.x x.x=0:=by simpa using h39
    refine jN 1 ?_
    refine WC.drawsL (by kernel_rfl) (FactsOk.cons (ds:=[4]) (LoadOk.one (t:=5) (off:=0) rfl jM rfl) (FactsOk.nil)) ?_
    refine jF 0 0 rfl rfl (Yl.load1 F.one133 rfl) ?_
    refine jQ [1,2] ?_
    refine jT 3 rfl (Yl.indexAddr F.sl62 rfl rfl (by omega)) ?_
    refine jA 4 rfl ?_
    refine WL.callFC (β:=Unit) (res:=fun _=> .pointer (some ⟨g2,0+P.length*3+1,none⟩)) (cs:=fun _=>[]) (Cs:=[]) (O':=[]) (us:=[]) (cap:=[]) F.fun66 (fun d h=>by cases h;rfl) rfl rfl (List.Perm.refl _) (by simp) (by simp) (fun w hS _=>(Mg3_c g2 (0+P.length*3) w).mono (fun e w2 h=>⟨(),by simpa using h⟩)) (fun _=>?_)
    refine jG ?_
    refine jQ [5] ?_
    refine jD ?_
    refine jN 2 ?_
    refine WC.drawsL (by kernel_rfl) (FactsOk.cons (ds:=[8,10]) (LoadOk.by (Y:=fun w=>∀ jj v,([.slice y.da (canon y.d).1.length y.dc,.int .i64 ((canon y.d).2:Int)]:List Value)[jj]?=some v→w.cell? ⟨g2,0+P.length*3+1+jj,none⟩=some v) (fun w hS=>(fun jj v hv=>by rw [Nat.zero_add,Nat.add_assoc];exact rowc_cells (hS.ok (jW g2 (P++[y]).length c 67 3 ((P++[y]).flatMap prC)) jM) (flat_at (cells:=prC) (sz:=3) (fun _ _=>rfl) (show (P++[y])[P.length]?=some y by simp) (1+jj) _ (by rw [Nat.add_comm];exact hv))))) (FactsOk.cons (ds:=[5,8,10]) (LoadOk.one (t:=5) (off:=0) rfl jM rfl) (FactsOk.cons (ds:=[8,10]) (LoadOk.by (Y:=fun w=>∀ jj v,([.slice x.da (canon x.d).1.length x.dc,.int .i64 ((canon x.d).2:Int)]:List Value)[jj]?=some v→w.cell? ⟨b9,1+jj,none⟩=some v) (fun w hS=>(fun jj v hv=>by rw [Nat.add_comm];exact hS.cell (cs:=prC x) jM (off:=jj+1) hv))) (FactsOk.nil)))) ?_
    refine jQ [0,1,2] ?_
    refine jF 3 0 rfl rfl (Yl.loadN F.agg50 rfl rfl) ?_
    refine jF 4 1 rfl rfl (Yl.load1 F.one133 rfl) ?_
    refine jA 5 rfl ?_
    refine WL.callFC (β:=Unit) (res:=fun _=> .pointer (some ⟨b9,0+1,none⟩)) (cs:=fun _=>[]) (Cs:=[]) (O':=[]) (us:=[]) (cap:=[]) F.fun66 (fun d h=>by cases h;rfl) rfl rfl (List.Perm.refl _) (by simp) (by simp) (fun w hS _=>(Mg3_c b9 0 w).mono (fun e w2 h=>⟨(),by simpa using h⟩)) (fun _=>?_)
    refine WD.on (closed_of (by decide+kernel)) (fun w hS=>Sx.keep ((fun jj v hv=>by rw [Nat.zero_add,Nat.add_assoc];exact rowc_cells (hS.ok (jW g2 (P++[y]).length c 67 3 ((P++[y]).flatMap prC)) jM) (flat_at (cells:=prC) (sz:=3) (fun _ _=>rfl) (show (P++[y])[P.length]?=some y by simp) (1+jj) _ (by rw [Nat.add_comm];exact hv)))) (Sx.gone rfl (Sx.keep ((fun jj v hv=>by rw [Nat.add_comm];exact hS.cell (cs:=prC x) jM (off:=jj+1) hv)) (Sx.none)))) ?_
    refine jQ [6] ?_
    refine jF 7 2 rfl rfl (Yl.loadN F.agg50 rfl rfl) ?_
    refine jA 8 rfl ?_
    refine WL.call0 (β:=DRes (fun cf=>y.d.ev cf||x.d.ev cf)) (res:=fun z=> .returned z.v) (cs:=fun z=>[z.ch]) (ψ:=fun _=>True) F.fun45 (fun d h=>by cases h;rfl) rfl (fun w hS=>(Or_c y.d x.d y.da x.da y.dc x.dc w (rdY hS (hJ.d y (by simp)).2 (F:=Fp) (ds:=ds) jM) ((hr.d x (hSm x hxm)).next0 hS)).mono (fun e w2 ⟨x,h1,h2⟩=>⟨x,trivial,h1,h2⟩)) (fun z _=>After_ret ?_)
    refine jG ?_
    refine jQ [9] ?_
    refine jA 10 rfl ?_
    refine WL.storeRow (n:=(P++[y]).length) (xs':=((P++[y]).set P.length (⟨y.x,z.1.1,z.1.2.1,z.1.2.2⟩:PrV)).flatMap prC) F.agg50 rfl rfl rfl jO (by omega) jU (by rw [Nat.zero_add];exact setN_sub (cells:=prC) (sz:=3) (fun _=>rfl) (show (P++[y])[P.length]?=some y by simp) (by repeat constructor)) ?_
    refine jG ?_
    refine jD ?_
    refine jN 11 ?_
    refine WQ.chunksE (C':=fun F9=>[pt b5 [(.func (.func 66) [].toArray [].toArray)] 133,jW g n xc 67 3 (S.flatMap prC),jW g2 (P++[y]).length c 67 3 (((P++[y]).set P.length (⟨y.x,z.1.1,z.1.2.1,z.1.2.2⟩:PrV)).flatMap prC),dsC F9 (ds++[(z.1.1,z.1.2.1,z.1.2.2)])]) (fun w hS=>?_) (fun F9=>?_)
    ·obtain ⟨F9,hF9⟩:=St.dsSnoc z.2.1 ((St.pick (St.pick hS (c:=z.ch) jR) (c:=dsC Fp ds) jR))
     exact ⟨F9,(jK hF9)⟩
    have hset:(P++[y]).set P.length (⟨y.x,z.1.1,z.1.2.1,z.1.2.2⟩:PrV)=P++[(⟨y.x,z.1.1,z.1.2.1,z.1.2.2⟩:PrV)]:=set_snoc
    have hsl:(P++[(⟨y.x,z.1.1,z.1.2.1,z.1.2.2⟩:PrV)]).length=(P++[y]).length:=by simp
    refine WQ.back (⟨i+1,P++[(⟨y.x,z.1.1,z.1.2.1,z.1.2.2⟩:PrV)],some ⟨g2,0,none⟩,c,F9,ds++[(z.1.1,z.1.2.1,z.1.2.2)]⟩:JoPV) ?_ ?_ ?_ ?_
    ·exact ⟨hlt,by (show (P++[(⟨y.x,z.1.1,z.1.2.1,z.1.2.2⟩:PrV)]).map kvP=((S.take (i+1)).map kvP).foldl _ []);rw [List.map_take] at ho ⊢;rw [fold_snoc (map_snoc6 hx),← ho,List.map_append,List.map_append,List.map_singleton,List.map_singleton,jstep_T (by rw [eqv_zero (cmpW_3.on (fun a:WdV×(Cf→Bool)=>a.1))];exact decide_eq_true h39)];congr 2;exact Prod.ext rfl (funext z.2.2),hJ.join (z:=(z.1.1,z.1.2.1,z.1.2.2)) z.2.1⟩
    ·show n - (i+1)<n - i;omega
    ·dsimp only;rw [hsl];exact ⟨rfl,rfl,rfl,rfl,rfl,rfl,trivial⟩
    dsimp only;rw [hsl,hset]
   have h39: ¬ cmpW y.x x.x=0:=by simpa using h39
   refine jN 8 ?_
   refine WL.buildSlice F.sl62 F.ez62 rfl rfl rfl rfl jB rfl (fun b57=>?_)
   refine jN 1 ?_
   refine WL.appendE (news:=prC x) F.el62 rfl rfl rfl jR (fun w hS jj u hu9=>by rw [Nat.zero_add];exact hS.cell (cs:=prC x) jM hu9) rfl (prC_one x) (Nat.le_trans (m:=20000) (by omega) (by decide)) (by omega) (fun a9 c9=>?_)
   refine jN 11 ?_
   refine WQ.chunks (C':=[pt b5 [(.func (.func 66) [].toArray [].toArray)] 133,jW g n xc 67 3 (S.flatMap prC),rowc (.slice a9 (((P++[y])).length+1) c9) (((P++[y])).length+1) 67 3 (((P++[y])).flatMap prC++prC x),dsC Fp ds]) (fun w hS=>(jK hS)) ?_
   refine WQ.back (⟨i+1,(P++[y])++[x],a9,c9,Fp,ds⟩:JoPV) ?_ ?_ ?_ ?_
   ·exact ⟨hlt,by (show ((P++[y])++[x]).map kvP=((S.take (i+1)).map kvP).foldl _ []);rw [List.map_take] at ho ⊢;rw [fold_snoc (map_snoc6 hx),← ho,List.map_append,List.map_append,List.map_singleton,List.map_singleton,jstep_F (by rw [eqv_zero (cmpW_3.on (fun a:WdV×(Cf→Bool)=>a.1))];exact decide_eq_false h39)],hJ.snoc (hSm x hxm) (hr.d x (hSm x hxm)).1⟩
   ·show n - (i+1)<n - i;omega
   ·simp only [List.length_append,List.length_cons,List.length_nil];exact ⟨rfl,rfl,rfl,rfl,rfl,rfl,trivial⟩
   simp only [List.length_append,List.length_cons,List.length_nil,List.flatMap_append,List.flatMap_cons,List.flatMap_nil,List.append_nil]<;>rfl
  refine (show WD _ _ _ _ _ _ _ _ _ _ _ _ from ?_) hcl
  exfalso;simp at g30<;>omega
 have hie:i=n:=by simp at h22;omega
 subst hie
 refine jN 14 ?_
 refine WQ.ret (rs:=[.tmp 6]) rfl (.tmp rfl .nil) (fun w hS=>⟨⟨0,o,a,c,Fp,ds⟩,?_,hJ,rfl,(jK hS)⟩)
 show o.map kvP=joiN (ltC cmpW) (l.map kvP)
 rw [ho,← hSl,List.take_length]
 unfold joiN
 rw [jadj_fold]
 congr 1
 rw [hS9,isort_map (lt2:=(fun a b:WdV×(Cf→Bool)=>ltC cmpW a.1 b.1)) (f:=kvP) (fun _ _=>rfl),List.filter_map]
 congr 2
 refine List.filter_congr fun t ht=>?_
 show (!((canon t.d).2==0))=neF t.d.ev
 rw [neF_of (hr.d t ht).1]
theorem joinedP_c (l:List PrV) (a:Option Addr) (c:Nat) (hl:l.length≤10000) (w:World) (hr:PsR w l a):
  Calls Tryz.prog 63 [.slice a l.length c,(.func (.func 64) [].toArray [].toArray),(.func (.func 66) [].toArray [].toArray)].toArray w fun e w'=>∃ m:JoPV,m.o.map kvP=joiN (ltC cmpW) (l.map kvP)∧JoPG l m.o m.ds∧e= .returned (.slice m.a m.o.length m.c)∧St w [] [rowc (.slice m.a m.o.length m.c) m.o.length 67 3 (m.o.flatMap prC),dsC m.F m.ds] w':=by
 cases l with
 | cons x r=>exact joinedP1_c (x::r) a c (by simp) hl w hr
 | nil=>exact (joinedP0_c a c w).mono fun e w2 ⟨h1,h2⟩=>⟨⟨0,[],none,0,[],[]⟩,rfl,⟨by simp,by simp⟩,h1,St.rowNil (St.dsNil h2) 67 3⟩
def nxW (x:List UInt8) (k:ClK):ClK:=(if k.2 then (k.1++[32])++x else x,true)
def clS (x:List UInt8) (b:Bool) (k:ClK):ClK:=if b then nxW x k else k
def clsN (A:List TkV) (c:Cf) (n:Nat):ClK:=(A.take n).foldl (fun k t=>clS t.x.t (t.d.ev c) k) ([],false)
theorem clsN_succ {A:List TkV} {c:Cf} {i:Nat} {x:TkV} (h:A[i]?=some x):clsN A c (i+1)=clS x.x.t (x.d.ev c) (clsN A c i):=by
 unfold clsN
 rw [List.take_add_one,h,Option.toList_some,List.foldl_append]
 rfl
theorem clsN_congr {A:List TkV} {c c':Cf} (h:∀ t∈A,t.d.ev c=t.d.ev c') (n:Nat):clsN A c n=clsN A c' n:=by
 unfold clsN
 have key:∀ (l:List TkV) (k:ClK),(∀ t∈l,t.d.ev c=t.d.ev c')→l.foldl (fun k t=>clS t.x.t (t.d.ev c) k) k=l.foldl (fun k t=>clS t.x.t (t.d.ev c') k) k:=by
  intro l
  induction l with
  | nil=>intro k _;rfl
  | cons t l ih=>intro k hl;rw [List.foldl_cons,List.foldl_cons,hl t (List.mem_cons_self ..)];exact ih _ fun s hs=>hl s (List.mem_cons_of_mem _ hs)
 exact key _ _ fun t ht=>h t (List.mem_of_mem_take ht)
theorem clsN_len {A:List TkV} {B:Nat} (hA:∀ t∈A,t.x.t.length≤B) (c:Cf):∀ n,(clsN A c n).1.length≤n*(B+1)
 | 0=>Nat.zero_le _
 | n+1=>by
  have ih:=clsN_len hA c n
  rw [Nat.succ_mul]
  cases h:A[n]? with
  | none=>
   have e:clsN A c (n+1)=clsN A c n:=by unfold clsN;rw [List.take_add_one,h];simp
   rw [e];exact Nat.le_trans ih (Nat.le_add_right _ _)
  | some x=>
   rw [clsN_succ h]
   have hx:=hA x (List.mem_of_getElem? h)
   generalize n*(B+1)=m at ih ⊢
   unfold clS nxW
   split
   ·simp only
    split
    ·simp only [List.length_append,List.length_cons,List.length_nil];omega
    ·omega
   ·omega
def Stand (A:List TkV) (W:Cf→Bool) (cs:List Cf):Prop:=∀ c,∃ c'∈cs,W c=W c'∧∀ t∈A,t.d.ev c=t.d.ev c'
structure ClI (A:List TkV) (W:Cf→Bool) (cs:List Cf) (i:Nat) (R:ClR):Prop where
 e:∀ q c,clE R q c=(W c&&decide (clsN A c i=q))
 k:∀ q,R q≠none→∃ c∈cs,clsN A c i=q
structure ClJ (A:List TkV) (cs:List Cf) (i:Nat) (x:TkV) (R:ClR) (done:List ClK) (R2:ClR):Prop where
 e:∀ q c,clE R2 q c=done.any fun k=>clE R k c&&decide (clS x.x.t (x.d.ev c) k=q)
 k:∀ q,R2 q≠none→∃ c∈cs,clsN A c (i+1)=q
theorem clE_none (q:ClK) (c:Cf):clE (fun _=>none) q c=false:=rfl
section
variable {A : List TkV} {W : Cf → Bool} {cs : List Cf} {i : Nat} {R R2 R3 R4 : ClR} {done : List ClK} {x : TkV} {k : ClK} {v : DV}
theorem ClI.start (hcs:cs≠[]) (wt:BT) (wa:Option Addr) (wc:Nat):ClI A wt.ev cs 0 (clU (fun _=>none) ([],false) (wt,wa,wc)):=by
 refine ⟨fun q c=>?_,fun q hq=>?_⟩
 ·rw [clU_ev (fun _=>none) ([],false) (wt,wa,wc) wt (fun cf=>by rw [clE_none];rfl) q c,clE_none,Bool.false_or,Bool.and_comm]
  congr 1
  exact decide_eq_decide.2 eq_comm
 obtain ⟨c,l,rfl⟩:=List.exists_cons_of_ne_nil hcs
 refine ⟨c,List.mem_cons_self ..,?_⟩
 cases hv:clU (fun _=>none) ([],false) (wt,wa,wc) q with
 | none=>exact absurd hv hq
 | some u=>
  rcases clU_or _ _ _ q u hv with ⟨_,h⟩ | ⟨h,_⟩
  ·cases h
  ·rw [h];rfl
theorem ClJ.start :ClJ A cs i x R [] (fun _=>none):=⟨fun q c=>rfl,fun q hq=>absurd rfl hq⟩
theorem ClJ.step (hcs:Stand A W cs) (hI:ClI A W cs i R) (hx:A[i]?=some x) (h:ClJ A cs i x R done R2) (hk:R k=some v)
  (h3:∀ p c,clE R3 p c=(clE R2 p c||(decide (p=nxW x.x.t k)&&(v.1.ev c&&x.d.ev c)))) (n3:∀ p,R3 p≠none→R2 p≠none∨(p=nxW x.x.t k∧∃ c,(v.1.ev c&&x.d.ev c)=true))
  (h4:∀ p c,clE R4 p c=(clE R3 p c||(decide (p=k)&&(v.1.ev c&& !x.d.ev c)))) (n4:∀ p,R4 p≠none→R3 p≠none∨(p=k∧∃ c,(v.1.ev c&& !x.d.ev c)=true)):ClJ A cs i x R (done++[k]) R4:=by
 have hxm:=List.mem_of_getElem? hx
 have hkv:∀ c,clE R k c=v.1.ev c:=fun c=>by unfold clE;rw [hk]
 have own:∀ c,v.1.ev c=true→∀ b,x.d.ev c=b→∃ c'∈cs,clsN A c' (i+1)=clS x.x.t b k:=by
  intro c hc b hb
  have h1:=hI.e k c
  rw [hkv,hc] at h1
  have h2:=(Bool.and_eq_true _ _▸h1.symm:(W c&&decide (clsN A c i=k))=true)
  rw [Bool.and_eq_true,decide_eq_true_eq] at h2
  obtain ⟨c',hc',_,ht⟩:=hcs c
  refine ⟨c',hc',?_⟩
  rw [← clsN_congr ht,clsN_succ hx,h2.2,hb]
 refine ⟨fun q c=>?_,fun q hq=>?_⟩
 ·rw [h4,h3,h.e,List.any_append]
  simp only [List.any_cons,List.any_nil,Bool.or_false,hkv]
  rw [Bool.or_assoc]
  congr 1
  cases hv:v.1.ev c
  ·simp
  cases hb:x.d.ev c
  ·simp only [clS,Bool.false_eq_true,if_false]
   simp [eq_comm]
  simp only [clS,if_true]
  simp [eq_comm]
 rcases n4 q hq with h5 | ⟨rfl,c,hc⟩
 ·rcases n3 q h5 with h6 | ⟨rfl,c,hc⟩
  ·exact h.k q h6
  rw [Bool.and_eq_true] at hc
  exact own c hc.1 true hc.2
 rw [Bool.and_eq_true,Bool.not_eq_true'] at hc
 exact own c hc.1 false hc.2
theorem ClJ.fin (hI:ClI A W cs i R) (hx:A[i]?=some x) (h:ClJ A cs i x R done R2) (hall:∀ k v,R k=some v→k∈done):ClI A W cs (i+1) R2:=by
 refine ⟨fun q c=>?_,h.k⟩
 rw [h.e,Bool.eq_iff_iff,List.any_eq_true,Bool.and_eq_true,decide_eq_true_eq,clsN_succ hx]
 constructor
 ·rintro ⟨k,_,hk⟩
  rw [Bool.and_eq_true,decide_eq_true_eq,hI.e,Bool.and_eq_true,decide_eq_true_eq] at hk
  obtain ⟨⟨h1,h2⟩,h3⟩:=hk
  exact ⟨h1,by rw [h2];exact h3⟩
 rintro ⟨h1,h2⟩
 have he:clE R (clsN A c i) c=true:=by rw [hI.e,h1,decide_eq_true rfl];rfl
 refine ⟨clsN A c i,?_,by rw [he,decide_eq_true h2];rfl⟩
 cases hv:R (clsN A c i) with
 | none=>unfold clE at he;rw [hv] at he;cases he
 | some v=>exact hall _ v hv
theorem ClI.len {B:Nat} (hA:∀ t∈A,t.x.t.length≤B) (h:ClI A W cs i R) (hk:R k=some v):k.1.length≤i*(B+1):=by
 obtain ⟨c,_,rfl⟩:=h.k k (by rw [hk];exact Option.some_ne_none _)
 exact clsN_len hA c i
theorem nodup_len {α:Type} [DecidableEq α]:∀ {l m:List α},l.Nodup→(∀ a∈l,a∈m)→l.length≤m.length
 | [],m,_,_=>Nat.zero_le _
 | a::l,m,hn,hs=>by
  have hn':=List.nodup_cons.1 hn
  have ha:=hs a (List.mem_cons_self ..)
  have h1:=nodup_len (l:=l) (m:=m.erase a) hn'.2 fun b hb=>(List.mem_erase_of_ne (fun e=>hn'.1 (by rw [← e];exact hb))).2 (hs b (List.mem_cons_of_mem _ hb))
  rw [List.length_erase_of_mem ha] at h1
  have:=List.length_pos_of_mem ha
  rw [List.length_cons]
  omega
theorem ClI.few (h:ClI A W cs i R) (hn:done.Nodup) (hd:∀ k∈done,∃ v,R k=some v):done.length≤cs.length:=by
 have h1:=nodup_len (m:=cs.map fun c=>clsN A c i) hn fun k hk=>by
  obtain ⟨v,hv⟩:=hd k hk
  obtain ⟨c,hc,e⟩:=h.k k (by rw [hv];exact Option.some_ne_none _)
  exact List.mem_map.2 ⟨c,hc,e⟩
 rwa [List.length_map] at h1
end
theorem _root_.Go.Eng.SeenI.len {κ:Type} [DecidableEq κ] {es:Array MapEntry} {kvs:List (κ×Value)} {seen:Array Nat} {done:List κ} (h:SeenI es kvs seen done):done.length≤kvs.length:=by
 have:=nodup_len h.nd h.sub
 rwa [List.length_map] at this
open Go Go.Eng Go.Proofs Dg
theorem pt_ne_mpg {w0 w:World} {O:List Nat} {C:List Chunk} {b bm:Nat} {cs:List Value} {e:TypeId} {κ:Type} [DecidableEq κ] {enc:κ→Value} {f:κ→Option Value} (hS:St w0 O C w) (h1:pt b cs e∈C) (h2:mpg enc bm f∈C):b∉[bm]:=fun hb=>by
 have hb:b=bm:=by simpa using hb
 subst hb
 obtain ⟨es,cl,_,h3,_⟩:=hS.ok _ h2
 have h4:w.heap[b]?=some (.cells cs.toArray e (0,0)):=hS.ok _ h1
 rw [h3] at h4
 cases h4
abbrev OnC (R:ClR) (k:ClK) (t:BT):Type:={x:ClR×List Nat×List DV // (∀ p v,x.1 p=some v→R p=some v∨(v∈x.2.2∧p=k∧((canon t).2==0)=false))∧(∀ v∈x.2.2,v.1.ok 0)∧(∀ p cf,clE x.1 p cf=(clE R p cf||(decide (p=k)&&t.ev cf)))}
abbrev OnQ (R:ClR) (ds:List DV) (k:ClK) (f:Cf→Bool):Type:={x:ClR×List Nat×List DV // (∀ p v,x.1 p=some v→R p=some v∨(v∈x.2.2∧p=k∧∃ c,f c=true))∧(∀ v∈ds,v∈x.2.2)∧(∀ p cf,clE x.1 p cf=(clE R p cf||(decide (p=k)&&f cf)))}
def OnC.q {R:ClR} {k:ClK} {t:BT} (x:OnC R k t) (ht:t.ok 0) {f:Cf→Bool} (hf:∀ c,t.ev c=f c) (F:List Nat) (ds:List DV):OnQ R ds k f:=
 ⟨(x.1.1,F++x.1.2.1,ds++x.1.2.2),fun p v hp=>(x.2.1 p v hp).imp id (fun ⟨h1,h2,h3⟩=>⟨List.mem_append_right _ h1,h2,by
  refine Classical.byContradiction fun hn=>?_
  rw [(emptyT ht).2 fun c=>by rw [hf];exact Bool.eq_false_iff.2 fun e=>hn ⟨c,e⟩] at h3
  cases h3⟩),fun v hv=>List.mem_append_left _ hv,fun p cf=>by rw [x.2.2.2 p cf,hf]⟩
def ClP (Z:DV→Prop) (R:ClR) (ds:List DV):Prop:=∀ p v,R p=some v→v∈ds∨Z v
theorem ClP.on {Z:DV→Prop} {R:ClR} {ds:List DV} {k:ClK} {f:Cf→Bool} (h:ClP Z R ds) (x:OnQ R ds k f):ClP Z x.1.1 x.1.2.2:=fun p v hp=>by
 rcases x.2.1 p v hp with h1 | h1
 ·exact (h p v h1).imp (x.2.2.1 v) id
 ·exact .inl h1.1
theorem ClP.up {Z:DV→Prop} {R:ClR} {ds es:List DV} (h:ClP Z R ds) (hs:∀ v∈ds,v∈es):ClP Z R es:=fun p v hp=>(h p v hp).imp (hs v) id
theorem OnQ.n {R:ClR} {ds:List DV} {k:ClK} {f:Cf→Bool} (x:OnQ R ds k f) (p:ClK) (h:x.1.1 p≠none):R p≠none∨(p=k∧∃ c,f c=true):=by
 cases hv:x.1.1 p with
 | none=>exact absurd hv h
 | some v=>exact (x.2.1 p v hv).imp (fun e=>by rw [e];exact Option.some_ne_none _) (fun e=>e.2)
theorem cl_O1 {bm:Nat} {R:ClR}:∀ c∈[clM bm R],∀ k,c.fp k→k∈[bm]:=by
 intro c hc k hk
 rw [List.mem_singleton.1 hc] at hk
 exact List.mem_singleton.2 hk
theorem cl_O2 {bm:Nat} {R:ClR}:∀ k∈[bm],∃ c∈[clM bm R],c.fp k:=fun k hk=>⟨_,List.mem_singleton.2 rfl,List.mem_singleton.1 hk⟩
theorem clF_some {R:ClR} {k:ClK} {u:Value} (h:clF R k=some u):∃ v,R k=some v∧u=dvv v:=by
 unfold clF at h
 cases hv:R k with
 | none=>rw [hv] at h;cases h
 | some v=>rw [hv] at h;injection h with h;exact ⟨v,rfl,h.symm⟩
structure ClG where
 i:Nat
 bm:Nat
 R:ClR
 F:List Nat
 ds:List DV
structure ClH where
 seen:Array Nat
 done:List ClK
 R:ClR
 F:List Nat
 ds:List DV
structure ClO where
 seen:Array Nat
 done:List ClK
 o:List PrV
 a:Option Addr
 c:Nat
abbrev mkPr (R:ClR) (k:ClK):PrV:=⟨k.1,((R k).getD dvZ).1,((R k).getD dvZ).2.1,((R k).getD dvZ).2.2⟩
theorem mkPr_rd {w w2:World} {Z:DV→Prop} (hZ:∀ v,Z v→RdD w v.1 v.2.1) {R:ClR} {F:List Nat} {ds:List DV} {C:List Chunk} {done:List ClK} {o:List PrV} (hP:ClP Z R ds) (hS:St w [] C w2) (hm:dsC F ds∈C) (hd:∀ k∈done,∃ v,R k=some v) (ho:o=done.map (mkPr R)):∀ t∈o,RdD w2 t.d t.da:=fun t ht=>by
 rw [ho] at ht
 obtain ⟨k,hk,rfl⟩:=List.mem_map.1 ht
 obtain ⟨v,hv⟩:=hd k hk
 show RdD w2 ((R k).getD dvZ).1 ((R k).getD dvZ).2.1
 rw [hv]
 exact plR ((hP k v hv).imp id (hZ v)) hS hm
structure PrG (A:List TkV) (W:Cf→Bool) (cs:List Cf) (R:ClR) (done:List ClK) (o:List PrV):Prop where
 I:ClI A W cs A.length R
 nd:done.Nodup
 all:∀ k v,R k=some v→k∈done
 has:∀ k∈done,∃ v,R k=some v
 j:∃ m:JoPV,m.o=o∧m.o.map kvP=joiN (ltC cmpW) ((done.map (mkPr R)).map kvP)∧JoPG (done.map (mkPr R)) m.o m.ds
end Go.Proofs.YtedbajbgnmaakaaGreatDoor
namespace Go.Drw
open Go
def wdR {α:Type}:Result α→Nat
 | .ok _ w=>w.drawn
 | .halt _ w=>w.drawn
theorem viewStore_drawn {p:Program} {w w':World} {at_:Addr} {u:TypeId} {k:Addr} {v:Value} {b:Bool} {l:List Addr} (h:w.viewStore p at_ u k v b= .ok (w',l)):w'.drawn=w.drawn:=by
 unfold World.viewStore at h
 simp only [bind,Except.bind,pure,Except.pure,throw,throwThe,MonadExceptOf.throw] at h
 repeat' split at h
 all_goals first | (cases h;done) | (cases h;rfl) | (injection h with h;injection h with h1 h2;subst h1;rfl)
theorem farStore_drawn {p:Program} {w w':World} {a:Addr} {v:Value} {b:Bool} {l:List Addr} (h:w.farStore p a v b= .ok (w',l)):w'.drawn=w.drawn:=by
 unfold World.farStore at h
 split at h
 ·split at h
  ·rename_i hv
   cases h
   exact viewStore_drawn hv
  cases h
 cases h
theorem freeze_drawn (w:World) (a:Addr) (n:Nat):(w.freeze a n).drawn=w.drawn:=by
 unfold World.freeze
 split<;>rfl
theorem ask_drawn {α:Type}:∀ (x:Ask α) (w:World),w.drawn≤(w.ask x).2.drawn:=by
 intro x
 induction x with
 | done a=>intro w;exact Nat.le_refl _
 | ask what range k ih=>
  intro w
  unfold World.ask
  simp only
  split
  ·exact ih _ w
  ·exact Nat.le_trans (Nat.le_succ _) (ih _ {w with drawn:=w.drawn+1})
theorem sys_drawn (w:World) (c:Sys):w.drawn≤(w.sys c).2.drawn:=by
 unfold World.sys
 have h:=ask_drawn (Kernel.perform c w.os) w
 split
 ·exact Nat.le_refl _
 rename_i hx
 rw [hx] at h
 exact h
theorem run_mono {α:Type} {p:Program}:∀ (s:Sem α) (w:World),w.drawn≤wdR (s.run p w):=by
 intro s
 induction s with
 | pure a=>intro w;exact Nat.le_refl _
 | load m a k ih=>
  intro w
  unfold Sem.run
  split
  ·exact ih _ w
  ·split
   ·exact ih _ w
   ·exact Nat.le_refl _
 | store m a v k ih=>
  intro w
  have key:w.drawn≤wdR (match w.cell? a with
   | some _ => if w.frozen? a then Result.halt (.unsupported (.unsafePointer "a write to bytes that a string shares")) w else k.run p (w.setCell a v)
   | none=>match w.farStore p a v (m== .atomic) with
    | .ok (w,_)=>k.run p w
    | .error h=> .halt h w):=by
   split
   ·split
    ·exact Nat.le_refl _
    ·exact ih (w.setCell a v)
   ·split
    ·rename_i hf
     rw [← farStore_drawn hf];exact ih _
    ·exact Nat.le_refl _
  cases v<;>first | exact key | exact Nat.le_refl _
 | new o k ih=>intro w;unfold Sem.run;exact ih _ {w with heap:=w.heap.push o}
 | shape r k ih=>intro w;unfold Sem.run;exact ih _ _
 | freeze a n k ih=>intro w;unfold Sem.run;rw [← freeze_drawn w a n];exact ih _
 | frozen a k ih=>intro w;unfold Sem.run;exact ih _ _
 | getObj r k ih=>intro w;unfold Sem.run;split<;>first | exact Nat.le_refl _ | exact ih _ _
 | setObj r o k ih=>intro w;unfold Sem.run;split<;>first | exact Nat.le_refl _ | exact ih {w with heap:=w.heap.setIfInBounds r o}
 | choose q k ih=>
  intro w
  unfold Sem.run
  split
  ·exact ih _ w
  ·exact Nat.le_trans (Nat.le_succ _) (ih _ {w with drawn:=w.drawn+1})
 | sys c k ih=>intro w;unfold Sem.run;exact Nat.le_trans (sys_drawn w c) (ih _ _)
 | program k ih=>intro w;unfold Sem.run;exact ih _ _
 | mark m k ih=>intro w;unfold Sem.run;exact ih _
 | halt h=>intro w;exact Nat.le_refl _
end Go.Drw
namespace Go.Drw
open Go
theorem runT_fst {α:Type} {p:Program}:∀ (s:Sem α) (w:World) (es:Array Event),(s.runT p w es).1=s.run p w:=by
  intro s
  induction s with
  | pure a=>intro w es;rfl
  | load m a k ih=>
    intro w es
    unfold Sem.runT Sem.run
    split
    · exact ih _ w _
    · split
      · exact ih _ w _
      · rfl
  | store m a v k ih=>
    intro w es
    cases v<;>first
      | rfl
      | (simp only [Sem.runT,Sem.run]
         split
         · split
           · rfl
           · exact ih _ _
         · split
           · exact ih _ _
           · rfl)
  | new o k ih=>intro w es;unfold Sem.runT Sem.run;exact ih _ _ _
  | shape r k ih=>intro w es;unfold Sem.runT Sem.run;exact ih _ _ _
  | freeze a n k ih=>intro w es;unfold Sem.runT Sem.run;exact ih _ _
  | frozen a k ih=>intro w es;unfold Sem.runT Sem.run;exact ih _ _ _
  | getObj r k ih=>intro w es;unfold Sem.runT Sem.run;split<;>first | rfl | exact ih _ _ _
  | setObj r o k ih=>intro w es;unfold Sem.runT Sem.run;split<;>first | rfl | exact ih _ _
  | choose q k ih=>
    intro w es
    unfold Sem.runT Sem.run
    split
    · exact ih _ _ _
    · exact ih _ _ _
  | sys c k ih=>intro w es;unfold Sem.runT Sem.run;exact ih _ _ _
  | program k ih=>intro w es;unfold Sem.runT Sem.run;exact ih _ _ _
  | mark m k ih=>intro w es;unfold Sem.runT Sem.run;exact ih _ _
  | halt h=>intro w es;rfl
section
variable {α : Type} {p : Program} {s : Sem α} {w w' : World} {v : α} {x : Halt} {es es' : Array Event} {n : Nat}
theorem runOk (h:n≤w.drawn) (e:s.run p w= .ok v w'):n≤w'.drawn:=by
  have:=run_mono (p:=p) s w
  rw [e] at this
  exact Nat.le_trans h this
theorem runHalt (h:n≤w.drawn) (e:s.run p w= .halt x w'):n≤w'.drawn:=by
  have:=run_mono (p:=p) s w
  rw [e] at this
  exact Nat.le_trans h this
theorem runTOk (h:n≤w.drawn) (e:s.runT p w es=(.ok v w',es')):n≤w'.drawn:=runOk h (by rw [← runT_fst s w es,e])
theorem runTHalt (h:n≤w.drawn) (e:s.runT p w es=(.halt x w',es')):n≤w'.drawn:=runHalt h (by rw [← runT_fst s w es,e])
end
def GOk (n:Nat):GStep→Prop
  | .go _ w _=>n≤w.drawn
  | .comm _ _ _ _ w _=>n≤w.drawn
  | .spawn _ _ w _=>n≤w.drawn
  | .count _ w _=>n≤w.drawn
  | .timer _ _ w _=>n≤w.drawn
  | .alone _ _ w _=>n≤w.drawn
  | .newcoro _ _ _ w _=>n≤w.drawn
  | .coroswitch _ _ _ w _=>n≤w.drawn
  | .collect _ w _=>n≤w.drawn
  | .watch _ w _=>n≤w.drawn
  | .ended _ _ _=>True
theorem after_ok {n:Nat} {es:Array Event} {g:GStep} (h:GOk n g):GOk n (g.after es):=by cases g<;>exact h
section
variable {p : Program} {main : Bool} {fr : Frame} {callers : List Frame} {dying : Option Dying} {w : World} {n : Nat}
theorem doReturn_ok {v:Value} (h:n≤w.drawn):GOk n (doReturn p main fr callers dying v w):=by
  unfold doReturn
  repeat' split
  all_goals first | exact h | trivial
theorem endFatal_ok {m:String} (h:n≤w.drawn):GOk n (endFatal p fr callers dying m w):=by
  unfold endFatal
  simp only
  split
  ·exact runOk h (by assumption)
  ·trivial
  trivial
theorem ite_ok {c:Prop} [Decidable c] {a b:GStep} (ha:GOk n a) (hb:GOk n b):GOk n (if c then a else b):=by split<;>assumption
theorem callDeferred_ok {d:Deferred} (h:n≤w.drawn):GOk n (callDeferred p fr callers dying d w):=by
  unfold callDeferred
  refine ite_ok True.intro ?_
  obtain ⟨r,es,hx⟩:∃ r es,(invoke d.target d.args).runT p w #[]=(r,es):=⟨_,_,rfl⟩
  rw [hx]
  refine after_ok ?_
  cases r with
  | ok v w1=>
    have h1:=runTOk h hx
    cases v<;>first | exact h1 | exact True.intro | (rename_i u;cases u<;>first | exact h1 | exact True.intro) | (rename_i b u;cases b<;>first | exact h1 | exact True.intro) | (dsimp only [tryRecover];split<;>first | exact h1 | exact True.intro) | (split<;>first | exact h1 | exact True.intro)
  | halt x w1=>
    have h1:=runTHalt h hx
    cases x<;>first | exact h1 | exact True.intro | exact endFatal_ok h1
theorem endPrinting_ok {v:Value} (h:n≤w.drawn):GOk n (endPrinting p fr v w):=by
  unfold endPrinting
  dsimp only
  split
  ·exact h
  exact True.intro
theorem unwind_ok (h:n≤w.drawn):GOk n (unwind p main fr callers dying w):=by
  unfold unwind
  split
  ·rename_i block _ ds _
   obtain ⟨r,es,hx⟩:∃ r es,(Instr.takeDeferred block).runT p w #[]=(r,es):=⟨_,_,rfl⟩
   rw [hx]
   refine after_ok ?_
   cases r with
   | ok v w1=>exact runTOk h hx
   | halt x w1=>exact True.intro
  ·exact callDeferred_ok h
  split
  ·exact True.intro
  ·refine ite_ok True.intro ?_
   split
   ·exact h
   split
   ·refine ite_ok h ?_
    split
    ·exact runOk h (by assumption)
    ·exact True.intro
    exact True.intro
   split
   ·exact endPrinting_ok h
   exact True.intro
  split
  ·exact doReturn_ok h
  rename_i fn _
  obtain ⟨r,es,hx⟩:∃ r es,(results fn fr.tmps).runT p w #[]=(r,es):=⟨_,_,rfl⟩
  rw [hx]
  refine after_ok ?_
  cases r with
  | ok v w1=>exact doReturn_ok (runTOk h hx)
  | halt x w1=>cases x<;>exact True.intro
theorem endWith_ok {fd:Nat} {t:ByteArray} {o:Outcome}:GOk n (endWith w fd t o):=by
  unfold endWith
  dsimp only
  split
  ·exact ite_ok True.intro True.intro
  ·exact True.intro
  exact True.intro
theorem writeOn_ok {d:Dying} {f:Fatal} (h:n≤w.drawn):GOk n (writeOn p fr d f w):=by
  unfold writeOn
  dsimp only
  split
  ·exact True.intro
  split
  ·exact runTOk h (by assumption)
  ·exact runTHalt h (by assumption)
  ·exact True.intro
  exact True.intro
theorem die_ok {d:Dying} (h:n≤w.drawn):GOk n (die p fr d w):=by
  unfold die
  split
  ·exact writeOn_ok h
  split
  ·exact ite_ok h endWith_ok
  dsimp only
  split
  ·exact h
  ·split
   ·exact runOk h (by assumption)
   exact True.intro
  ·rename_i t recv name _
   obtain ⟨r,es,hx⟩:∃ r es,(invoke (.fn (.method name) #[]) #[.iface t recv]).runT p w #[]=(r,es):=⟨_,_,rfl⟩
   rw [hx]
   refine after_ok ?_
   cases r with
   | ok v w1=>
     have h1:=runTOk h hx
     cases v<;>first | exact h1 | exact True.intro | (rename_i u;cases u<;>first | exact h1 | exact True.intro) | (rename_i b u;cases b<;>first | exact h1 | exact True.intro) | (dsimp only [tryRecover];split<;>first | exact h1 | exact True.intro) | (split<;>first | exact h1 | exact True.intro)
   | halt x w1=>
     have h1:=runTHalt h hx
     cases x<;>first | exact h1 | exact True.intro | exact endPrinting_ok h1
  exact True.intro
theorem early_ok {g:Nat} (h:n≤w.drawn):GOk n (early p fr callers dying g w):=by
  unfold early
  dsimp only
  have ny:∀ w1:World,n≤w1.drawn→GOk n (match w1.heap[g]? with
    | some (.pending c elem)=> .go {frame:=fr,callers,status:= .running,dying} {w1 with heap:=w1.heap.setIfInBounds g (.cells c elem)}
    | _ => .ended (.stuck "early: the variable does not wait" (fr.pos p)) w1) := fun w1 h1 => by
    split
    · exact h1
    · exact True.intro
  refine ite_ok (ny w h) ?_
  split
  ·exact True.intro
  refine ite_ok (ny w h) (ite_ok (ny w h) ?_)
  split
  ·exact True.intro
  ·exact h
  ·exact True.intro
  ·exact ny w h
  refine ite_ok h (ite_ok (ny w h) ?_)
  split
  ·exact ny _ (runOk h (by assumption))
  ·exact runOk h (by assumption)
  exact True.intro
end
end Go.Drw
namespace Go.Drw
open Go
section
variable {p : Program} {main : Bool} {fr : Frame} {callers : List Frame} {dying : Option Dying} {w : World} {n : Nat}
theorem apply_ok {s:Sem Next} {listen:Bool} (h:n≤w.drawn):GOk n (stepG.apply p listen fr callers dying s w):=by
 unfold stepG.apply
 dsimp only
 obtain ⟨r,es,hx,hr⟩:∃ r es,(if listen then s.runT p w #[] else (s.run p w,#[]))=(r,es)∧s.run p w=r:=by
  cases listen
  ·exact ⟨_,_,rfl,rfl⟩
  ·exact ⟨_,_,rfl,(runT_fst s w #[]).symm⟩
 rw [hx]
 dsimp only
 refine after_ok ?_
 cases r with
 | ok v w1=>
  have h1:=runOk h hr
  cases v<;>first | exact h1 | exact True.intro | (dsimp only;split<;>first | exact h1 | exact True.intro) | (dsimp only;refine ite_ok ?_ ?_<;>exact h1)
 | halt x w1=>
  have h1:=runHalt h hr
  cases x<;>first | exact h1 | exact True.intro | exact endFatal_ok h1 | (rename_i u;cases u<;>first | exact True.intro | exact early_ok h1)
theorem oper_ok {listen:Bool} (h:n≤w.drawn):GOk n (stepG.oper p listen fr callers dying w):=by
 unfold stepG.oper
 split
 ·exact True.intro
 split
 ·exact apply_ok h
 exact apply_ok h
theorem exec_ok {listen:Bool} (h:n≤w.drawn):GOk n (stepG.exec p main listen fr callers dying w):=by
 unfold stepG.exec
 dsimp only
 have leave:∀ (c:Prop) (hc:Decidable c) (jump:Option Code),GOk n (match fr.roundOf with
   | none => @ite GStep c hc (GStep.go { frame := { fr with mode := .returning }, callers, status := .running, dying } w) (.ended (.stuck "exit, goto: no such block or label" (fr.pos p)) w)
   | some l=>
    GStep.after (seen p fr.fn ((Instr.endRound l jump).runT p w #[]).2) (match ((Instr.endRound l jump).runT p w #[]).1 with
    | .ok v w=>doReturn p main fr callers dying v w
    | .halt _ w => .ended (.stuck "range over a function: no such loop" (fr.pos p)) w)) := fun c hc jump => by
  split
  ·split
   ·exact h
   ·exact True.intro
  ·rename_i l _
   obtain ⟨r,es,hx⟩:∃ r es,(Instr.endRound l jump).runT p w #[]=(r,es):=⟨_,_,rfl⟩
   rw [hx]
   dsimp only
   refine after_ok ?_
   cases r with
   | ok v w1=>exact doReturn_ok (runTOk h hx)
   | halt x w1=>exact True.intro
 split
 all_goals first
  | exact h
  | exact True.intro
  | exact leave _ _ _
  | exact apply_ok h
  | skip
 ·split
  ·exact h
  exact True.intro
 ·cases hx:exitTo _ _ with
  | none=>exact leave _ _ _
  | some t=>exact h
 ·cases hx:gotoIn _ _ with
  | none=>exact leave _ _ _
  | some t=>exact h
 ·rename_i f params assign body k _
  obtain ⟨r,es,hx⟩:∃ r es,(Instr.enterLoop fr.fn fr.tmps params assign body fr.roundOf).runT p w #[]=(r,es):=⟨_,_,rfl⟩
  rw [hx]
  dsimp only
  refine after_ok ?_
  cases r with
  | ok v w1=>exact apply_ok (runTOk h hx)
  | halt x w1=>exact True.intro
 ·rename_i l k _
  obtain ⟨r,es,hx⟩:∃ r es,(Instr.endLoop l).runT p w #[]=(r,es):=⟨_,_,rfl⟩
  rw [hx]
  dsimp only
  refine after_ok ?_
  cases r with
  | ok v w1=>exact runTOk h hx
  | halt x w1=>
   have h1:=runTHalt h hx
   cases x<;>first | exact h1 | exact True.intro
 ·rename_i row args _ _
  cases hx:Extern.next row with
  | none=>exact True.intro
  | some e=>exact apply_ok h
 ·rename_i id ops draw k _
  refine ite_ok h ?_
  split
  ·exact runOk h (by assumption)
  exact True.intro
 exact ite_ok (oper_ok h) h
theorem stepG_ok {g:Goroutine} {listen:Bool} (h:n≤w.drawn):GOk n (stepG p main g w listen):=by
 unfold stepG
 dsimp only
 split
 ·exact die_ok h
 ·exact exec_ok h
 exact unwind_ok h
end
end Go.Drw
namespace Go.Drw
open Go
def MOk (n:Nat):Stepped→Prop
 | .next m=>n≤m.world.drawn
 | .ended _ _=>True
section
variable {p : Program} {n : Nat}
theorem mite_ok {c:Prop} [Decidable c] {a b:Stepped} (ha:MOk n a) (hb:MOk n b):MOk n (if c then a else b):=by split<;>assumption
theorem mite1_ok {β:Type} {c:Prop} [Decidable c] {a b:Stepped×β} (ha:MOk n a.1) (hb:MOk n b.1):MOk n (if c then a else b).1:=by split<;>assumption
theorem waitingAt_ok {rest:Rest} {cases:Array CommCase} {w w':World} (h:n≤w.drawn) (e:waitingAt rest cases w=some w'):n≤w'.drawn:=by
 unfold waitingAt at e
 split at e
 ·split at e
  ·cases e;exact h
  cases e
 cases e;exact h
theorem communicate_ok {rest:Rest} {gs:Array Goroutine} {i:Nat} {g:Goroutine} {cases:Array CommCase} {blocking:Bool} {shape:CommShape} {w:World} (h:n≤w.drawn):MOk n (communicate p rest gs i g cases blocking shape w).1:=by
 unfold communicate
 dsimp only
 refine mite1_ok True.intro (mite1_ok (mite1_ok ?_ h) ?_)
 ·split
  ·exact waitingAt_ok h (by assumption)
  exact True.intro
 split
 ·exact True.intro
 have h1:=runOk h (by assumption)
 split
 ·split
  ·rename_i hr;exact runHalt h1 hr
  exact True.intro
 ·exact h1
 ·exact h1
 ·split
  ·exact h1
  split
  ·rename_i hr;have h2:=runOk h1 hr;exact h2
  exact True.intro
 ·exact h1
 ·exact h1
 exact True.intro
theorem look_ok {gs:Array Goroutine} {rest:Rest} {w:World} (h:n≤w.drawn):MOk n (look p gs rest w):=by
 unfold look
 split
 ·dsimp only
  refine mite_ok True.intro ?_
  split
  ·exact True.intro
  split
  ·rename_i hr;have h2:=runOk h hr;exact h2
  ·exact True.intro
  exact True.intro
 exact True.intro
theorem drain_ok {w:World} {c:Nat} (h:n≤w.drawn):n≤(drain w c).2.drawn:=by
 unfold drain
 split<;>exact h
theorem retime_ok {m:Machine} {k:Nat} {t:Timer} {a b:Nat} (h:n≤m.world.drawn):n≤(retime m k t a b).2.world.drawn:=by
 unfold retime
 dsimp only
 split
 ·exact drain_ok h
 exact h
theorem named_ok {m m':Machine} {var:Addr} {f:Nat→Timer→Value×Machine} {v:Value} (hf:∀ k t,n≤(f k t).2.world.drawn) (e:timerOp.named m var f= .ok (v,m')):n≤m'.world.drawn:=by
 unfold timerOp.named at e
 split at e
 ·injection e with e
  rename_i k _
  have:=hf k (m.rest.timers.getD k default)
  rw [e] at this
  exact this
 cases e
theorem timerOp_ok {m m':Machine} {op:TimerOp} {v:Value} (h:n≤m.world.drawn) (e:timerOp m op= .ok (v,m')):n≤m'.world.drawn:=by
 unfold timerOp at e
 split at e
 ·split at e
  ·cases e;exact h
  split at e
  ·split at e
   ·cases e
   cases e;exact h
  cases e
 ·exact named_ok (fun k t=>retime_ok h) e
 ·split at e
  ·rename_i m1 ho
   refine named_ok (fun k t=>retime_ok ?_) e
   unfold timerOp.opened at ho
   split at ho
   ·split at ho
    ·cases ho;exact h
    cases ho
   cases ho;exact h
  cases e
 cases e;exact h
theorem serve_ok {m:Machine} {k:Nat} (h:n≤m.world.drawn):MOk n (serve p m k):=by
 unfold serve
 split
 ·exact True.intro
 ·exact h
 dsimp only
 split
 ·exact True.intro
 exact h
theorem runM_ok {m:Machine} {i:Nat} {listen:Bool} (h:n≤m.world.drawn):MOk n (Go.runT p m i listen).1:=by
 unfold Go.runT
 dsimp only
 have hg:=stepG_ok (p:=p) (main:=i==0) (g:=(m.gs.swapAt! i {(default:Goroutine) with status:= .finished}).1) (listen:=listen) h
 generalize stepG p (i==0) (m.gs.swapAt! i {(default:Goroutine) with status:= .finished}).1 m.world listen=s at hg
 cases s with
 | go g w es=>exact hg
 | comm g cs b sh w es=>exact communicate_ok hg
 | spawn g c w es=>exact hg
 | count g w es=>exact mite_ok True.intro hg
 | timer g op w es=>
  dsimp only
  split
  ·rename_i hr;have hg9:n≤w.drawn:=hg;have h8:=timerOp_ok (m:={world:=w,gs:=_,rest:=m.rest}) hg9 hr;exact h8
  ·exact hg
  ·exact True.intro
  ·exact True.intro
 | alone g on w es=>exact hg
 | newcoro g c d w es=>exact hg
 | coroswitch g c ex w es=>
  dsimp only
  split
  ·exact hg
  ·exact hg
  ·exact True.intro
 | collect g w es=>exact look_ok hg
 | watch g w es=>exact hg
 | ended o w es=>exact True.intro
def VOk (n:Nat):Move→Prop
 | .goroutine m _=>n≤m.world.drawn
 | .machine s _=>MOk n s
theorem vite_ok {c:Prop} [Decidable c] {a b:Move} (ha:VOk n a) (hb:VOk n b):VOk n (if c then a else b):=by split<;>assumption
theorem pick_ok {rs:List Nat} {m:Machine} (h:n≤m.world.drawn):VOk n (match (choose (.sched rs.length)).run p m.world with
   | .halt _ w => .machine (.ended (.stuck "sched" "") w)
   | .ok k world=>
    if rs.length≤1 then .goroutine {m with world} (rs.getD k 0) else
    match (choose (.extern "sched.slice" 65536)).run p world with
    | .halt _ w => .machine (.ended (.stuck "sched.slice" "") w)
    | .ok n world=> .goroutine {m with world,rest:={m.rest with slice:=if n=0 then none else some (rs.getD k 0,n)}} (rs.getD k 0)):=by
 split
 ·exact True.intro
 have h1:=runOk h (by assumption)
 refine vite_ok h1 ?_
 split
 ·exact True.intro
 rename_i hr;exact runOk h1 hr
theorem askOn_ok {m:Machine} (h:n≤m.world.drawn):VOk n (askOn p m):=by
 unfold askOn
 dsimp only
 split
 ·exact True.intro
 have h1:=runOk h (by assumption)
 refine vite_ok (serve_ok h1) ?_
 split
 ·split
  ·exact h1
  refine vite_ok h1 ?_
  split
  ·exact True.intro
  exact True.intro
 split
 ·exact pick_ok (m:={m with world:=_}) h1
 split
 ·exact True.intro
 ·rename_i hr;have h2:=runOk h1 hr;exact pick_ok (m:={m with world:=_}) h2
 ·rename_i hr;have h2:=runOk h1 hr;exact h2
 rename_i hr;have h2:=runOk h1 hr;exact pick_ok (m:=({m with world:=_}:Machine).advanceTo _) h2
theorem ask_ok {m:Machine} (h:n≤m.world.drawn):VOk n (ask p m):=by
 unfold ask
 split
 ·split
  ·exact True.intro
  ·have h1:=runOk h (by assumption)
   have hl:=look_ok (p:=p) (gs:=m.gs) (rest:=m.rest) h1
   split
   ·rename_i e;rw [e] at hl;exact askOn_ok hl
   exact hl
  exact askOn_ok (runOk h (by assumption))
 exact askOn_ok h
theorem move_ok {m:Machine} (h:n≤m.world.drawn):VOk n (move p m):=by
 unfold move
 split
 ·exact vite_ok h True.intro
 split
 ·exact vite_ok h (ask_ok h)
 exact ask_ok h
theorem step_ok {m:Machine} (h:n≤m.world.drawn):MOk n (step p m):=by
 unfold step stepT
 have hv:=move_ok (p:=p) h
 split
 ·rename_i e;rw [e] at hv;exact runM_ok hv
 rename_i e;rw [e] at hv;exact hv
theorem runN_ok :∀ (k:Nat) {m:Machine},n≤m.world.drawn→MOk n (runN p k m)
 | 0,m,h=>h
 | k+1,m,h=>by
  unfold runN
  have hs:=step_ok (p:=p) h
  split
  ·rename_i e;rw [e] at hs;exact runN_ok k hs
  ·exact hs
theorem Steps_drawn {m m':Machine} (h:Steps p m m'):m.world.drawn≤m'.world.drawn:=by
 obtain ⟨k,hk⟩:=h
 have:=runN_ok (p:=p) (n:=m.world.drawn) k (Nat.le_refl _)
 rw [hk] at this
 exact this
end
theorem Calls.drawn {P:Program} {f:FuncId} {args:Array Value} {w:World} {R:Ending→World→Prop} (h:Calls P f args w R) (hR:∀ e w',R e w'→e≠ .outgrown):Calls P f args w fun e w'=>R e w'∧w.drawn≤w'.drawn:=fun cs=>by
 obtain ⟨e,w',fr,h1,h2,h3,h4⟩:=h cs
 refine ⟨e,w',fr,⟨h1,?_⟩,h2,h3,h4⟩
 cases e with
 | outgrown=>exact absurd rfl (hR _ _ h1)
 | returned v=>exact Steps_drawn h2
 | panicked c=>exact Steps_drawn h2
end Go.Drw
namespace Go.Eng
open Go Go.RowKit
theorem grow_of {W w:World} {C:List Chunk} (h:St W [] C w) (hd:W.drawn≤w.drawn):∃ q os,w=Go.Sort.grow (W.drewN q) os:=by
 refine ⟨w.drawn - W.drawn,w.heap.extract W.heap.size w.heap.size,?_⟩
 have hh:w.heap=W.heap++w.heap.extract W.heap.size w.heap.size:=by
  refine Array.ext_getElem? fun k=>?_
  by_cases hk:k<W.heap.size
  ·rw [Array.getElem?_append_left hk]
   exact h.old k hk (by simp)
  ·rw [Array.getElem?_append_right (by omega),Array.getElem?_extract]
   split
   ·congr 1;omega
   ·rw [Array.getElem?_eq_none];omega
 have h1:=h.os
 have h2:=h.tape
 have h3:=h.output
 obtain ⟨heap,tape,drawn,os,output⟩:=w
 obtain ⟨heap0,tape0,drawn0,os0,output0⟩:=W
 simp only at h1 h2 h3 hh hd
 subst h1;subst h2;subst h3
 unfold Go.Sort.grow World.drewN
 simp only
 rw [← hh,show drawn0+(drawn - drawn0)=drawn by omega]
section
variable {α : Type} {enc : α → List Value} {k : Nat}
theorem flat_get (hk:∀ x,(enc x).length=k):∀ (l:List α) (i j:Nat) (x:α),l[i]?=some x→j<k→(l.flatMap enc)[i*k+j]?=(enc x)[j]?
 | [],i,j,x,h,_=>by simp at h
 | y::l,0,j,x,h,hj=>by
  simp at h;subst h
  rw [List.flatMap_cons,Nat.zero_mul,Nat.zero_add,List.getElem?_append_left (by rw [hk];exact hj)]
 | y::l,i+1,j,x,h,hj=>by
  rw [List.flatMap_cons,List.getElem?_append_right (by rw [hk,Nat.succ_mul];omega),hk,show (i+1)*k+j - k=i*k+j by rw [Nat.succ_mul];omega]
  exact flat_get hk l i j x (by simpa using h) hj
theorem flat_length (hk:∀ x,(enc x).length=k):∀ l:List α,(l.flatMap enc).length=l.length*k
 | []=>by simp
 | y::l=>by rw [List.flatMap_cons,List.length_append,hk,flat_length hk l,List.length_cons,Nat.succ_mul];omega
end
section
variable {α : Type} [Inhabited α] {enc : α → List Value} {k : Nat}
theorem flatK_list (hk:∀ x,(enc x).length=k) (d:Array α):(Go.Sort.flatK enc k d).toList=d.toList.flatMap enc:=by
 refine List.ext_getElem? fun t=>?_
 by_cases ht:t<d.size*k
 ·have k0:0<k:=by
   rcases Nat.eq_zero_or_pos k with h | h
   ·subst h;simp at ht
   ·exact h
  have hi:t / k<d.size:=Nat.div_lt_of_lt_mul (by rw [Nat.mul_comm];exact ht)
  have hj:t % k<k:=Nat.mod_lt _ k0
  have e:=flat_get hk d.toList (t / k) (t % k) d[t / k]! (by rw [getElem!_pos d _ hi];simp [hi]) hj
  rw [show t / k*k+t % k=t by rw [Nat.mul_comm];exact Nat.div_add_mod t k] at e
  rw [e]
  have h1:=Go.Sort.get_flatK enc k d t ht
  have hs:t<(Go.Sort.flatK enc k d).size:=by rw [Go.Sort.size_flatK];exact ht
  rw [getElem!_pos (Go.Sort.flatK enc k d) t hs] at h1
  rw [Array.getElem?_toList,Array.getElem?_eq_getElem hs,h1,List.getElem?_eq_getElem (by rw [hk];exact hj),getElem!_pos (enc d[t / k]!) _ (by rw [hk];exact hj)]
 rw [List.getElem?_eq_none (by simp;omega),List.getElem?_eq_none (by rw [flat_length hk];simp;omega)]
theorem holdsK_row {w:World} {g n c:Nat} {e:TypeId} (hk:∀ x,(enc x).length=k) {d:Array α} (hn:d.size=n) (h:(jW g n c e k (d.toList.flatMap enc)).ok w):Go.Sort.HoldsK enc k w g 0 d:=by
 intro j hj
 rw [Go.Sort.size_flatK] at hj
 obtain ⟨hlen,hr⟩:=(show w.ownsRow 0 e k (.slice (some ⟨g,0,none⟩) n c) n (d.toList.flatMap enc) from h)
 rcases hr with ⟨h1,_⟩ | ⟨g',cap',cur,h1,_,hh,hnc,hcm,hcs,htk⟩
 ·cases h1
 cases h1
 have hj':j<(d.toList.flatMap enc).length:=by rw [flat_length hk];simpa using hj
 have hcj:cur[j]?=some (Go.Sort.flatK enc k d)[j]! :=by
  have h2:cur.toList[j]?=(d.toList.flatMap enc)[j]?:=by
   rw [← htk,List.getElem?_take,if_pos (by rw [← hn];exact hj)]
  rw [← Array.getElem?_toList,h2,← flatK_list hk,Array.getElem?_toList,Array.getElem?_eq_getElem (by rw [Go.Sort.size_flatK];exact hj),getElem!_pos]
 constructor
 ·simp [World.cell?,hh,hcj]
 simp [World.frozen?,hh]
theorem row_lt {w:World} {g n c:Nat} {e:TypeId} {xs:List Value} (h:(jW g n c e k xs).ok w):g<w.heap.size:=by
 obtain ⟨_,hr⟩:=(show w.ownsRow 0 e k (.slice (some ⟨g,0,none⟩) n c) n xs from h)
 rcases hr with ⟨h1,_⟩ | ⟨g',cap',cur,h1,_,hh,_⟩
 ·cases h1
 cases h1;exact lt_of_heap hh
theorem heap_sortW {w:World} {g m:Nat} {d:Array α} {os:Array Obj} (j:Nat) (hj:j<w.heap.size):(Go.Proofs.sortWorldK enc k w g 0 m d os).heap[j]?=if g=j then w.heap[j]?.map (Go.Sort.onCells (Go.Sort.putCells id 0 (Go.Sort.flatK enc k d))) else w.heap[j]?:=by
 show ((w.heap.modify g (Go.Sort.onCells (Go.Sort.putCells id 0 (Go.Sort.flatK enc k d))))++os)[j]?=_
 rw [Array.getElem?_append_left (by simpa using hj),Array.getElem?_modify]
theorem cell_sortW {w:World} {g m b o:Nat} {v:Value} {d:Array α} {os:Array Obj} (h:w.cell? ⟨b,o,none⟩=some v) (hb:b≠g):(Go.Proofs.sortWorldK enc k w g 0 m d os).cell? ⟨b,o,none⟩=some v:=by
 rw [← h]
 refine World.cell?_of_block ?_
 rw [heap_sortW b (World.block_lt_of_cell? w _ h),if_neg (Ne.symm hb)]
theorem St.sortW {w:World} {g n c m:Nat} {e:TypeId} {d d':Array α} {os:Array Obj} (hk:∀ x,(enc x).length=k) (hd':d'.size=n)
  (h:St w [g] [jW g n c e k (d.toList.flatMap enc)] w):St w [g] [jW g n c e k (d'.toList.flatMap enc)] (Go.Proofs.sortWorldK enc k w g 0 m d' os):=by
 have hown:=h.ok _ (List.mem_singleton.2 rfl)
 have hlt:=row_lt hown
 have hsz:w.heap.size≤(Go.Proofs.sortWorldK enc k w g 0 m d' os).heap.size:=by
  show w.heap.size≤((w.heap.modify g _)++os).size
  simp
 refine ⟨rfl,rfl,rfl,hsz,fun j hj hn=>?_,fun x hx=>?_,fun x hx j hj=>?_,List.pairwise_singleton _ _⟩
 ·rw [heap_sortW j hj,if_neg (fun e=>hn (by simp [e]))]
 ·rw [List.mem_singleton.1 hx]
  show (Go.Proofs.sortWorldK enc k w g 0 m d' os).ownsRow 0 e k (.slice (some ⟨g,0,none⟩) n c) n (d'.toList.flatMap enc)
  obtain ⟨hlen,hr⟩:=(show w.ownsRow 0 e k (.slice (some ⟨g,0,none⟩) n c) n (d.toList.flatMap enc) from hown)
  rcases hr with ⟨h1,_⟩ | ⟨g',cap',cur,h1,hb,hh,hnc,hcm,hcs,htk⟩
  ·cases h1
  cases h1
  refine ⟨by rw [flat_length hk];simp [hd'],.inr ⟨g,c,Go.Sort.putCells id 0 (Go.Sort.flatK enc k d') cur,rfl,Nat.zero_le _,?_,hnc,hcm,by rw [← hcs];simp [Go.Sort.putCells],?_⟩⟩
  ·rw [heap_sortW g hlt,if_pos rfl,hh];rfl
  have hle:n*k≤cur.size:=by rw [hcs];exact Nat.mul_le_mul_right _ hnc
  refine List.ext_getElem? fun j=>?_
  rw [List.getElem?_take,← flatK_list hk d',Array.getElem?_toList,Array.getElem?_toList]
  by_cases hj:j<n*k
  ·rw [if_pos hj,Go.Sort.putCells,Array.getElem?_mapIdx,Array.getElem?_eq_getElem (show j<cur.size by omega),Option.map_some,if_pos ⟨Nat.zero_le _,by rw [Go.Sort.size_flatK,hd'];omega⟩,Nat.sub_zero,Array.getElem?_eq_getElem (show j<(Go.Sort.flatK enc k d').size by rw [Go.Sort.size_flatK,hd'];exact hj),getElem!_pos]
   rfl
  rw [if_neg hj,Array.getElem?_eq_none (by rw [Go.Sort.size_flatK,hd'];omega)]
 rw [List.mem_singleton.1 hx] at hj
 have e1:some g=some j:=hj
 cases e1
 exact ⟨Nat.lt_of_lt_of_le hlt hsz,fun _=>List.mem_singleton.2 rfl⟩
end
end Go.Eng
namespace Go.Proofs.YtedbajbgnmaakaaGreatDoor
open Go Go.Eng Go.Proofs Dg
structure Fold4G (σ τ:Type) where
 i:Nat
 out:List τ
 ad:Option Addr
 ac:Nat
 s:σ
section
variable {τ : Type} (f1 f2 f3 f4 : τ → Value)
abbrev e4 (x:τ):List Value:=[f1 x,f2 x,f3 x,f4 x]
def e4s (l:List τ):List Value:=l.flatMap (e4 f1 f2 f3 f4)
variable {f1 f2 f3 f4}
theorem e4s_append (l m:List τ):e4s f1 f2 f3 f4 (l++m)=e4s f1 f2 f3 f4 l++e4s f1 f2 f3 f4 m:=by simp [e4s]
theorem e4s_one (x:τ):e4s f1 f2 f3 f4 [x]=e4 f1 f2 f3 f4 x:=by simp [e4s]
theorem e4s_at :∀ {l:List τ} {k:Nat} {x:τ},l[k]?=some x→∀ j u,(e4 f1 f2 f3 f4 x)[j]?=some u→(e4s f1 f2 f3 f4 l)[k*4+j]?=some u
 | [],k,x,h,_,_,_=>by simp at h
 | y::l,0,x,h,j,u,hj=>by
  simp only [List.getElem?_cons_zero,Option.some.injEq] at h
  subst h
  have hjl:=(List.getElem?_eq_some_iff.1 hj).1
  show (e4 f1 f2 f3 f4 y++e4s f1 f2 f3 f4 l)[0*4+j]?=_
  rw [Nat.zero_mul,Nat.zero_add,List.getElem?_append_left hjl]
  exact hj
 | y::l,k+1,x,h,j,u,hj=>by
  simp only [List.getElem?_cons_succ] at h
  have ih:=e4s_at h j u hj
  show (e4 f1 f2 f3 f4 y++e4s f1 f2 f3 f4 l)[(k+1)*4+j]?=_
  rw [List.getElem?_append_right (by simp;omega)]
  simp only [List.length_cons,List.length_nil]
  rw [show (k+1)*4+j - (0+1+1+1+1)=k*4+j by omega]
  exact ih
end
theorem FoldC_c {σ τ:Type} (f1 f2 f3 f4:τ→Value) (ho:∀ x,∀ u∈e4 f1 f2 f3 f4 x,u.oneCell'=true) (ch:σ→Chunk) (Fs:σ→List Nat) (hF:∀ s,FpIs (ch s) (Fs s)) (fj:Nat) (hg:funB Tryz.prog fj=some true) (us cap:List Value) (l:List Dec) (a:Option Addr) (c root:Nat) (e0 e1:τ) (I:List τ→σ→Prop)
  (hll:l.length≤16777216) (hkid:∀ k x,l[k]?=some x→x.2.1<k+2∧x.2.2<k+2) (hroot:root<l.length+2) (s0:σ) (h0:I [e0,e1] s0) (w:World)
  (hj:∀ (out:List τ) (s:σ) (x:Dec) (z1 z2:τ) (w1:World),l[out.length - 2]?=some x→I out s→out[x.2.1]?=some z1→out[x.2.2]?=some z2→St w (Fs s0) [] w1→St w1 (Fs s) [ch s] w1→
   Calls Tryz.prog fj (us++[Value.int .i64 (x.1:Int),.agg (e4 f1 f2 f3 f4 z1).toArray,.agg (e4 f1 f2 f3 f4 z2).toArray]++cap).toArray w1 fun e w'=>∃ y:{y:σ×τ // I (out++[y.2]) y.1},e= .returned (.agg (e4 f1 f2 f3 f4 y.1.2).toArray)∧St w1 (Fs s) [ch y.1.1] w')
  (hrd:RdDecO w l a (Fs s0)) (hS0:St w (Fs s0) [ch s0] w):
  Calls Tryz.prog 137 [.agg [.slice a l.length c,.int .i64 (root:Int)].toArray,.agg (e4 f1 f2 f3 f4 e0).toArray,.agg (e4 f1 f2 f3 f4 e1).toArray,Value.func (.func fj) us.toArray cap.toArray].toArray w fun e w'=>
   ∃ y:{y:List τ×σ×τ // I y.1 y.2.1∧y.1.length=l.length+2∧y.1[root]?=some y.2.2},e= .returned (.agg (e4 f1 f2 f3 f4 y.1.2.2).toArray)∧St w (Fs s0) [ch y.1.2.1] w':=by
 refine enter Tryz.func137 rfl Tryz.ntmps137 rfl (C:=[ch s0]) hS0 ?_
 refine jN 3 ?_
 refine WL.boxN rfl rfl (fun b4=>?_)
 refine jN 1 ?_
 refine WL.boxN rfl rfl (fun b5=>?_)
 refine jN 1 ?_
 refine WL.boxN rfl rfl (fun b6=>?_)
 refine jN 1 ?_
 refine WL.alloc F.zero185 rfl (fun b8=>?_)
 refine jN 9 ?_
 refine WL.buildSlice F.sl279 F.ez279 rfl rfl rfl rfl jB rfl (fun b14=>?_)
 refine jN 18 ?_
 refine WC.chunks (C':=[ch s0,jW b14 2 2 185 4 (e4s f1 f2 f3 f4 [e0,e1]),pt b4 [.slice a l.length c,.int .i64 (root:Int)] 50,pt b8 [.int .i64 0,.int .i64 0,.int .u32 0,.bool false] 185]) (fun w hS=>?_) ?_
 ·have hS1:=St.rowOf (n:=2) (sz:=4) (cs:=e4s f1 f2 f3 f4 [e0,e1]) (hS.pick (c:=pt b14 [f1 e0,f2 e0,f3 e0,f4 e0,f1 e1,f2 e1,f3 e1,f4 e1] 185) jR) rfl (by decide)
  exact (jK hS1)
 refine WC.loop (α:=Fold4G σ τ) (fun g=>g.i≤l.length∧g.out.length=g.i+2∧I g.out g.s) (fun g=>[(3,Value.func (.func fj) us.toArray cap.toArray),(4,pp b4),(8,pp b8),(9,.slice g.ad (g.i+2) g.ac),(16,.slice a l.length c),(17,.int .i64 (l.length:Int)),(18,.int .i64 (g.i:Int))]) (fun g=>[ch g.s,rowc (.slice g.ad (g.i+2) g.ac) (g.i+2) 185 4 (e4s f1 f2 f3 f4 g.out),pt b4 [.slice a l.length c,.int .i64 (root:Int)] 50,pt b8 [.int .i64 0,.int .i64 0,.int .u32 0,.bool false] 185]) (fun g=>l.length - g.i) (⟨0,[e0,e1],some ⟨b14,0,none⟩,2,s0⟩) ?_ ?_ ?_ ?_
 ·exact ⟨Nat.zero_le _,rfl,h0⟩
 ·exact ⟨rfl,rfl,rfl,rfl,rfl,rfl,rfl,trivial⟩
 ·rfl
 rintro ⟨i,out,ad,ac,s⟩ ⟨hi,hol,hI⟩
 dsimp only at hi hol hI
 show WC _ _ _ _ _ _ _ [(3,Value.func (.func fj) us.toArray cap.toArray),(4,pp b4),(8,pp b8),(9,.slice ad (i+2) ac),(16,.slice a l.length c),(17,.int .i64 (l.length:Int)),(18,.int .i64 (i:Int))] [ch s,rowc (.slice ad (i+2) ac) (i+2) 185 4 (e4s f1 f2 f3 f4 out),pt b4 [.slice a l.length c,.int .i64 (root:Int)] 50,pt b8 [.int .i64 0,.int .i64 0,.int .u32 0,.bool false] 185]
 refine jN 7 ?_
 refine WC.cond rfl (fun h19=>?_) (fun h19=>?_)
 ·have hlt:i<l.length:=by simpa using h19
  obtain ⟨x,hx⟩:∃ x,l[i]?=some x:=⟨_,List.getElem?_eq_getElem hlt⟩
  obtain ⟨k1,k2⟩:=hkid i x hx
  obtain ⟨bl,off,rfl,hbl,hcx⟩:=hrd.at hx
  obtain ⟨z1,hz1⟩:∃ z,out[x.2.1]?=some z:=⟨_,List.getElem?_eq_getElem (by omega)⟩
  obtain ⟨z2,hz2⟩:∃ z,out[x.2.2]?=some z:=⟨_,List.getElem?_eq_getElem (by omega)⟩
  refine jN 7 ?_
  refine WL.indexAddr F.sl48 rfl rfl rfl hlt ?_
  refine jN 1 ?_
  refine WL.loadN F.agg155 rfl rfl (vs:=[Value.int .i64 (x.1:Int),.int .i64 (x.2.1:Int),.int .i64 (x.2.2:Int)]) rfl (fun w hS j v hv=>hS.oldc (hcx j v hv) hbl) ?_
  refine jN 1 ?_
  refine WL.alloc F.zero155 rfl (fun b11=>?_)
  refine jN 4 ?_
  refine WC.know (φ:=∃ g2,ad=some ⟨g2,0,none⟩∧i+2=i+2∧i+2≤ac) (fun w hS=>rowc_addr (hS.ok (rowc (.slice ad (i+2) ac) (i+2) 185 4 (e4s f1 f2 f3 f4 out)) jM) (by omega)) (fun ⟨g2,hg2,_,_⟩=>?_)
  subst hg2
  refine WC.drawsL (by kernel_rfl) (FactsOk.cons (ds:=[14,15,16]) (LoadOk.one (t:=11) (off:=0) rfl jM rfl) (FactsOk.cons (ds:=[14,15,16]) (LoadOk.one (t:=11) (off:=1) rfl jM rfl) (FactsOk.cons (ds:=[14,15,16]) (LoadOk.by (Y:=fun w=>∀ j v,(e4 f1 f2 f3 f4 z1)[j]?=some v→w.cell? ⟨g2,0+x.2.1*4+j,none⟩=some v) (fun w hS=>fun j v hv=>(by rw [Nat.zero_add];exact rowc_cells (hS.ok (jW g2 (i+2) ac 185 4 (e4s f1 f2 f3 f4 out)) jM) (e4s_at hz1 j v hv)))) (FactsOk.cons (ds:=[14,15,16]) (LoadOk.one (t:=11) (off:=2) rfl jM rfl) (FactsOk.cons (ds:=[14,15,16]) (LoadOk.by (Y:=fun w=>∀ j v,(e4 f1 f2 f3 f4 z2)[j]?=some v→w.cell? ⟨g2,0+x.2.2*4+j,none⟩=some v) (fun w hS=>fun j v hv=>(by rw [Nat.zero_add];exact rowc_cells (hS.ok (jW g2 (i+2) ac 185 4 (e4s f1 f2 f3 f4 out)) jM) (e4s_at hz2 j v hv)))) (FactsOk.nil)))))) ?_
  refine jQ [0,1] ?_
  refine jT 2 rfl (Yl.fieldAddr0 F.fld155_0 rfl) ?_
  refine jF 3 0 rfl rfl (Yl.load1 F.one3 rfl) ?_
  refine jQ [4] ?_
  refine jT 5 rfl (Yl.fieldAddr0 F.fld155_1 rfl) ?_
  refine jF 6 1 rfl rfl (Yl.load1 F.one3 rfl) ?_
  refine jT 7 rfl (Yl.indexAddr F.sl279 rfl rfl (by omega)) ?_
  refine jF 8 2 rfl rfl (Yl.loadN F.agg185 rfl rfl) ?_
  refine jQ [9] ?_
  refine jT 10 rfl (Yl.fieldAddr0 F.fld155_2 rfl) ?_
  refine jF 11 3 rfl rfl (Yl.load1 F.one3 rfl) ?_
  refine jT 12 rfl (Yl.indexAddr F.sl279 rfl rfl (by omega)) ?_
  refine jF 13 4 rfl rfl (Yl.loadN F.agg185 rfl rfl) ?_
  refine jA 14 rfl ?_
  refine WL.callFC (β:={y:σ×τ // I (out++[y.2]) y.1}) (us:=us) (cap:=cap) (res:=fun y=> .agg (e4 f1 f2 f3 f4 y.1.2).toArray) (cs:=fun y=>[ch y.1.1]) (Cs:=[ch s]) (C1:=[pt b11 [Value.int .i64 (x.1:Int),.int .i64 (x.2.1:Int),.int .i64 (x.2.2:Int)] 155,jW g2 (i+2) ac 185 4 (e4s f1 f2 f3 f4 out),pt b4 [.slice (some ⟨bl,off,none⟩) l.length c,.int .i64 (root:Int)] 50,pt b8 [.int .i64 0,.int .i64 0,.int .u32 0,.bool false] 185]) (O':=Fs s) hg (fun d h=>by cases h;rfl) rfl rfl ?_ (fun c hc k hk=>(by rw [List.mem_singleton.1 hc] at hk;exact (hF s k).1 hk)) (fun k hk=>⟨_,List.mem_singleton.2 rfl,(hF s k).2 hk⟩) (fun w hS hS2=>hj out s x z1 z2 w (by rw [hol];simpa using hx) hI hz1 hz2 (hS.sublist (List.nil_sublist _)) hS2) (fun y36=>?_)
  ·exact ((List.Perm.swap _ _ _).trans (List.Perm.refl _))
  refine jG ?_
  refine jA 15 rfl ?_
  refine WL.buildSlice F.sl279 F.ez279 rfl rfl rfl rfl jB rfl (fun b37=>?_)
  refine jG ?_
  refine jA 16 rfl ?_
  refine WL.appendE (news:=(e4 f1 f2 f3 f4 y36.1.2)) F.el279 rfl rfl rfl jR (fun w hS jj u hu=>by rw [Nat.zero_add];exact hS.cell (cs:=(e4 f1 f2 f3 f4 y36.1.2)) jM hu) rfl (ho _) (Nat.le_trans (m:=33554432) (by omega) (by decide)) (by omega) (fun ad2 ac2=>?_)
  refine jG ?_
  refine jQ [17] ?_
  refine jD ?_
  refine jN 8 ?_
  refine WQ.chunks (C':=[ch y36.1.1,rowc (.slice ad2 (i+1+2) ac2) (i+1+2) 185 4 (e4s f1 f2 f3 f4 (out++[y36.1.2])),pt b4 [.slice (some ⟨bl,off,none⟩) l.length c,.int .i64 (root:Int)] 50,pt b8 [.int .i64 0,.int .i64 0,.int .u32 0,.bool false] 185]) (fun w hS=>?_) ?_
  ·rw [e4s_append,e4s_one]
   exact (jK hS)
  refine WQ.back (⟨i+1,out++[y36.1.2],ad2,ac2,y36.1.1⟩) ?_ ?_ ?_ ?_
  ·exact ⟨by show i+1≤_;omega,by simp [hol],y36.2⟩
  ·(show l.length - (i+1)<l.length - i;omega)
  ·exact ⟨rfl,rfl,rfl,rfl,rfl,rfl,rfl,trivial⟩
  rfl
 have hie:i=l.length:=by simp at h19;omega
 subst hie
 obtain ⟨z,hz⟩:∃ z,out[root]?=some z:=⟨_,List.getElem?_eq_getElem (by omega)⟩
 refine jN 7 ?_
 refine WA.know (φ:=∃ g2,ad=some ⟨g2,0,none⟩∧l.length+2=l.length+2∧l.length+2≤ac) (fun w hS=>rowc_addr (hS.ok (rowc (.slice ad (l.length+2) ac) (l.length+2) 185 4 (e4s f1 f2 f3 f4 out)) jM) (by omega)) (fun ⟨g2,hg2,_,_⟩=>?_)
 subst hg2
 refine jN 7 ?_
 refine WL.indexAddr F.sl279 rfl rfl rfl (by omega) ?_
 refine jN 1 ?_
 refine WL.loadN F.agg185 rfl rfl (vs:=(e4 f1 f2 f3 f4 z)) rfl (fun w hS j v hv=>by rw [Nat.zero_add];exact rowc_cells (hS.ok (jW g2 (l.length+2) ac 185 4 (e4s f1 f2 f3 f4 out)) jM) (e4s_at hz j v hv)) ?_
 refine jN 1 ?_
 refine WL.storeN (cs':=(e4 f1 f2 f3 f4 z)) F.agg185 rfl rfl rfl (ho _) jU (by repeat constructor) ?_
 refine jN 3 ?_
 refine WQ.ret (rs:=[.cell 8 185]) rfl (.cellN F.agg185 rfl jM rfl .nil) (fun w hS=>⟨⟨(out,s,z),hI,hol,hz⟩,rfl,(jK hS)⟩)
open Go Go.Eng Go.Proofs Dg
theorem or_pow_tb (a k j:Nat):(a|||2 ^ k).testBit j=(a.testBit j||decide (j=k)):=by
 rw [Nat.testBit_or,Nat.testBit_two_pow]
 congr 1
 rw [Bool.eq_iff_iff];simp;omega
def pickB (a b:Nat×Bool):Nat×Bool:=if (!a.2||(b.2&&decide (b.1<a.1)))=true then b else a
def bestT :BT→Nat×Bool
 | .lf b=>(0,b)
 | .nd v lo hi=>pickB (bestT lo) ((bestT hi).1|||2 ^ v,(bestT hi).2)
structure BestOk (m:Nat) (t:BT) (x:Nat×Bool):Prop where
 dvd:2 ^ m ∣ x.1
 lt:x.1<2 ^ 24
 yes:x.2=true→t.ev (cfg x.1)=true∧∀ M,t.ev (cfg M)=true→x.1≤M
 no:x.2=false→∀ cf,t.ev cf=false
theorem low_false {m c j:Nat} (h:2 ^ m ∣ c) (hj:j<m):c.testBit j=false:=by
 obtain ⟨q,rfl⟩:=h
 rw [Nat.testBit_two_pow_mul]
 simp;omega
theorem or_add {v c:Nat} (h:2 ^ (v+1) ∣ c):c|||2 ^ v=c+2 ^ v:=by
 obtain ⟨q,rfl⟩:=h
 exact (Nat.two_pow_add_eq_or_of_lt (Nat.pow_lt_pow_right (by decide) (Nat.lt_succ_self v)) q).symm
theorem best_ok :∀ {t:BT} {m:Nat},t.ok m→m≤24→BestOk m t (bestT t)
 | .lf b,m,_,_=>by
  refine ⟨⟨0,by simp [bestT]⟩,by simp [bestT],fun h=>⟨h,fun M _=>Nat.zero_le _⟩,fun h cf=>h⟩
 | .nd v lo hi,m,h,hm=>by
  obtain ⟨h1,h2,h3,h4,h5⟩:=h
  have a:=best_ok h4 (by omega)
  have b:=best_ok h5 (by omega)
  have hdv:2 ^ m ∣ 2 ^ (v+1):=Nat.pow_dvd_pow 2 (by omega)
  have hor:=or_add b.dvd
  have hb0:(bestT lo).1.testBit v=false:=low_false a.dvd (Nat.lt_succ_self v)
  have hb1:((bestT hi).1|||2 ^ v).testBit v=true:=by rw [or_pow_tb];simp
  have elo:(BT.nd v lo hi).ev (cfg (bestT lo).1)=lo.ev (cfg (bestT lo).1):=by
   simp only [BT.ev]
   rw [show cfg (bestT lo).1 v=false from hb0];rfl
  have ehi:(BT.nd v lo hi).ev (cfg ((bestT hi).1|||2 ^ v))=hi.ev (cfg (bestT hi).1):=by
   simp only [BT.ev]
   rw [show cfg ((bestT hi).1|||2 ^ v) v=true from hb1]
   refine BT.ev_above h5 fun i hi' _=>?_
   show ((bestT hi).1|||2 ^ v).testBit i=(bestT hi).1.testBit i
   rw [or_pow_tb]
   simp;omega
  have mlo:(bestT lo).2=true→∀ M,M.testBit v=false→(BT.nd v lo hi).ev (cfg M)=true→(bestT lo).1≤M:=fun hy M hM he=>by
   refine (a.yes hy).2 M ?_
   simp only [BT.ev] at he
   rw [show cfg M v=false from hM] at he
   exact he
  have mhi:(bestT hi).2=true→∀ M,M.testBit v=true→(BT.nd v lo hi).ev (cfg M)=true→((bestT hi).1|||2 ^ v)≤M:=fun hy M hM he=>by
   simp only [BT.ev] at he
   rw [show cfg M v=true from hM] at he
   have e1:hi.ev (cfg (2 ^ (v+1)*(M / 2 ^ (v+1))))=true:=by
    rw [← he]
    refine BT.ev_above h5 fun i hi' _=>?_
    show (2 ^ (v+1)*(M / 2 ^ (v+1))).testBit i=M.testBit i
    rw [Nat.testBit_two_pow_mul,Nat.testBit_div_two_pow]
    simp [show v+1≤i from hi']
   have e2:=(b.yes hy).2 _ e1
   rw [hor]
   have e3:M % 2 ^ (v+1)=M % 2 ^ v+2 ^ v*(M / 2 ^ v % 2):=Nat.mod_pow_succ
   rw [Nat.testBit_eq_decide_div_mod_eq,decide_eq_true_eq] at hM
   rw [hM] at e3
   have e4:=Nat.div_add_mod M (2 ^ (v+1))
   omega
  have nlo:(bestT lo).2=false→∀ M,M.testBit v=false→(BT.nd v lo hi).ev (cfg M)=false:=fun hn M hM=>by
   simp only [BT.ev]
   rw [show cfg M v=false from hM]
   exact a.no hn _
  have nhi:(bestT hi).2=false→∀ M,M.testBit v=true→(BT.nd v lo hi).ev (cfg M)=false:=fun hn M hM=>by
   simp only [BT.ev]
   rw [show cfg M v=true from hM]
   exact b.no hn _
  have hlt2:(bestT hi).1|||2 ^ v<2 ^ 24:=Nat.or_lt_two_pow b.lt (Nat.pow_lt_pow_right (by decide) h2)
  have hd2:2 ^ m ∣ (bestT hi).1|||2 ^ v:=by
   rw [hor]
   exact Nat.dvd_add (Nat.dvd_trans hdv b.dvd) (Nat.pow_dvd_pow 2 h1)
  have hd1:=Nat.dvd_trans hdv a.dvd
  show BestOk m _ (pickB (bestT lo) ((bestT hi).1|||2 ^ v,(bestT hi).2))
  unfold pickB
  cases q1:(bestT lo).2<;>cases q2:(bestT hi).2
  ·refine ⟨hd2,hlt2,fun hy=>?_,fun _ cf=>?_⟩
   ·simp at hy
   ·simp only [BT.ev,a.no q1,b.no q2];cases cf v<;>rfl
  ·refine ⟨hd2,hlt2,fun hy=>⟨?_,fun M hM=>?_⟩,fun hn=>?_⟩
   ·show (BT.nd v lo hi).ev (cfg ((bestT hi).1|||2 ^ v))=true
    rw [ehi];exact (b.yes q2).1
   ·cases hv:M.testBit v with
    | true=>exact mhi q2 M hv hM
    | false=>rw [nlo q1 M hv] at hM;cases hM
   ·simp at hn
  ·refine ⟨hd1,a.lt,fun hy=>⟨?_,fun M hM=>?_⟩,fun hn=>?_⟩
   ·show (BT.nd v lo hi).ev (cfg (bestT lo).1)=true
    rw [elo];exact (a.yes q1).1
   ·cases hv:M.testBit v with
    | false=>exact mlo q1 M hv hM
    | true=>rw [nhi q2 M hv] at hM;cases hM
   ·exact absurd hn (by simp [q1])
  ·simp only [Bool.not_true,Bool.false_or,Bool.true_and,decide_eq_true_eq]
   split
   ·rename_i hlt
    refine ⟨hd2,hlt2,fun hy=>⟨?_,fun M hM=>?_⟩,fun hn=>?_⟩
    ·show (BT.nd v lo hi).ev (cfg ((bestT hi).1|||2 ^ v))=true
     rw [ehi];exact (b.yes q2).1
    ·show (bestT hi).1|||2 ^ v≤M
     cases hv:M.testBit v with
     | true=>exact mhi q2 M hv hM
     | false=>have:=mlo q1 M hv hM;omega
    ·simp at hn
   ·rename_i hlt
    refine ⟨hd1,a.lt,fun hy=>⟨?_,fun M hM=>?_⟩,fun hn=>?_⟩
    ·show (BT.nd v lo hi).ev (cfg (bestT lo).1)=true
     rw [elo];exact (a.yes q1).1
    ·show (bestT lo).1≤M
     cases hv:M.testBit v with
     | false=>exact mlo q1 M hv hM
     | true=>have:=mhi q2 M hv hM;omega
    ·exact absurd hn (by simp [q1])
def leastT (t:BT):Nat×Bool:=if (bestT t).2=true then (bestT t) else (0,false)
def subT (s:BT):BT→Prop
 | .lf b=>s= .lf b
 | .nd v lo hi=>s= .nd v lo hi∨subT s lo∨subT s hi
theorem visitT_sub :∀ (t:BT) (out:List Dec) (p:Nat),p<(visitT t out).1.length+2→p<out.length+2∨subT (trs (visitT t out).1 p) t
 | .lf b,out,p,h=> .inl h
 | .nd v lo hi,out,p,h=>by
  unfold visitT at h ⊢
  cases hl:Dg.look out (BT.nd v lo hi) with
  | some q=>rw [hl] at h;exact .inl h
  | none=>
   rw [hl] at h
   simp only [List.length_append,List.length_cons,List.length_nil] at h ⊢
   by_cases hp:p=(visitT hi (visitT lo out).1).1.length+2
   ·right
    subst hp
    obtain ⟨a1,a2⟩:=visitT_at lo out
    obtain ⟨b1,b2⟩:=visitT_at hi (visitT lo out).1
    obtain ⟨r,hr⟩:=visitT_pre hi (visitT lo out).1
    rw [trs_snoc_new,b2]
    have:trs (visitT hi (visitT lo out).1).1 (visitT lo out).2=lo:=by rw [hr,trs_append a1,a2]
    simp only [this]
    exact .inl rfl
   ·have hp':p<(visitT hi (visitT lo out).1).1.length+2:=by omega
    rw [trs_snoc_old hp']
    rcases visitT_sub hi (visitT lo out).1 p hp' with h2 | h2
    ·rcases visitT_sub lo out p h2 with h3 | h3
     ·exact .inl h3
     ·obtain ⟨r,hr⟩:=visitT_pre hi (visitT lo out).1
      rw [hr,trs_append h2]
      exact .inr (.inr (.inl h3))
    ·exact .inr (.inr (.inr h2))
theorem canon_sub {t:BT} {k:Nat} (hk:k<(canon t).1.length):subT (trs (canon t).1 (k+2)) t:=by
 rcases visitT_sub t [] (k+2) (by have:(visitT t []).1.length=(canon t).1.length:=rfl;omega) with h | h
 ·exfalso
  have e:([]:List Dec).length=0:=rfl
  omega
 exact h
theorem subT_ok :∀ {t s:BT} {m:Nat},t.ok m→subT s t→s.ok m
 | .lf b,s,m,h,hs=>by rw [show s= .lf b from hs];trivial
 | .nd v lo hi,s,m,h,hs=>by
  rcases hs with rfl | hs | hs
  ·exact h
  ·exact BT.ok_mono (subT_ok h.2.2.2.1 hs) (Nat.le_succ_of_le h.1)
  ·exact BT.ok_mono (subT_ok h.2.2.2.2 hs) (Nat.le_succ_of_le h.1)
theorem rd_none {w:World} {l:List Dec} {a:Option Addr} (h:RdDec w l a):RdDecO w l a []:=fun j u hu=>by
 obtain ⟨b,off,e1,e2⟩:=h j u hu
 exact ⟨b,off,e1,e2,by simp⟩
theorem nan32_c (a:Int) (w:World):Pure Tryz.prog 106 [.int .u32 a] w (.bool false):=by
 refine enter Tryz.func106 rfl Tryz.ntmps106 rfl (St.init _) ?_
 refine jN 19 ?_
 exact WQ.ret (rs:=[.tmp 2]) rfl (.tmp rfl .nil) (fun w hS=>⟨by simp [tup],hS⟩)
theorem nan64_c (a:Int) (w:World):Pure Tryz.prog 193 [.int .i64 a] w (.bool false):=by
 refine enter Tryz.func193 rfl Tryz.ntmps193 rfl (St.init _) ?_
 refine jN 19 ?_
 exact WQ.ret (rs:=[.tmp 2]) rfl (.tmp rfl .nil) (fun w hS=>⟨by simp [tup],hS⟩)
theorem cmp32_c (a b:Int) (w:World):Pure Tryz.prog 70 [.int .u32 a,.int .u32 b] w (.int .i64 (cmpI a b)):=by
 refine enter Tryz.func70 rfl Tryz.ntmps70 rfl (St.init _) ?_
 refine jN 11 ?_
 refine WL.callV F.fun106 rfl rfl (fun w hS=>nan32_c a w) ?_
 refine jN 9 ?_
 refine WL.callV F.fun106 rfl rfl (fun w hS=>nan32_c b w) ?_
 refine jN 35 ?_
 refine WC.cond rfl (fun h16=>?_) (fun h16=>?_)
 ·have hr:cmpI a b= -1:=if_pos (by simpa using h16)
  refine jN 8 ?_
  exact WQ.ret (rs:=[.tmp 4]) rfl (.tmp rfl .nil) (fun w hS=>⟨by rw [hr];rfl,hS⟩)
 have h1: ¬ a<b:=by simpa using h16
 refine jN 13 ?_
 refine WC.cond rfl (fun h19=>?_) (fun h19=>?_)
 have hr:cmpI a b=1:=by (unfold cmpI;rw [if_neg h1,if_pos (by simpa using h19)])
 refine jN 8 ?_
 rotate_left
 have hr:cmpI a b=0:=by (unfold cmpI;rw [if_neg h1,if_neg (by simpa using h19)])
 refine jN 9 ?_
 rotate_left
 all_goals
  exact WQ.ret (rs:=[.tmp 4]) rfl (.tmp rfl .nil) (fun w hS=>⟨by rw [hr];rfl,hS⟩)
theorem cmp64_c (a b:Int) (w:World):Pure Tryz.prog 168 [.int .i64 a,.int .i64 b] w (.int .i64 (cmpI a b)):=by
 refine enter Tryz.func168 rfl Tryz.ntmps168 rfl (St.init _) ?_
 refine jN 11 ?_
 refine WL.callV F.fun193 rfl rfl (fun w hS=>nan64_c a w) ?_
 refine jN 9 ?_
 refine WL.callV F.fun193 rfl rfl (fun w hS=>nan64_c b w) ?_
 refine jN 35 ?_
 refine WC.cond rfl (fun h16=>?_) (fun h16=>?_)
 ·have hr:cmpI a b= -1:=if_pos (by simpa using h16)
  refine jN 8 ?_
  exact WQ.ret (rs:=[.tmp 4]) rfl (.tmp rfl .nil) (fun w hS=>⟨by rw [hr];rfl,hS⟩)
 have h1: ¬ a<b:=by simpa using h16
 refine jN 13 ?_
 refine WC.cond rfl (fun h19=>?_) (fun h19=>?_)
 have hr:cmpI a b=1:=by (unfold cmpI;rw [if_neg h1,if_pos (by simpa using h19)])
 refine jN 8 ?_
 rotate_left
 have hr:cmpI a b=0:=by (unfold cmpI;rw [if_neg h1,if_neg (by simpa using h19)])
 refine jN 9 ?_
 rotate_left
 all_goals
  exact WQ.ret (rs:=[.tmp 4]) rfl (.tmp rfl .nil) (fun w hS=>⟨by rw [hr];rfl,hS⟩)
theorem cmpOr_c (xs:List Int) (a:Option Addr) (c:Nat) (hll:xs.length≤1000) (w:World) (hr:RdC w xs a):Pure Tryz.prog 78 [.slice a xs.length c] w (.int .i64 ((xs.find? (fun x=>x != 0)).getD 0)):=by
 refine enter Tryz.func78 rfl Tryz.ntmps78 rfl (St.init _) ?_
 refine jN 24 ?_
 refine WC.loop (α:=Nat) (fun i=>i≤xs.length∧∀ x∈xs.take i,x=0) (fun i=>[(3,.int .i64 0),(6,.slice a xs.length c),(7,.int .i64 (xs.length:Int)),(8,.int .i64 (i:Int))]) (fun _=>[]) (fun i=>xs.length - i) (0) ?_ ?_ ?_ ?_
 ·exact ⟨Nat.zero_le _,by simp⟩
 ·exact ⟨rfl,rfl,rfl,rfl,trivial⟩
 ·rfl
 rintro i ⟨hi,hz⟩
 refine jN 7 ?_
 refine WC.cond rfl (fun h9=>?_) (fun h9=>?_)
 ·have hlt:i<xs.length:=by simpa using h9
  obtain ⟨x,hx⟩:∃ y,xs[i]?=some y:=⟨_,List.getElem?_eq_getElem hlt⟩
  obtain ⟨b,off,rfl,hcell⟩:=hr i x hx
  refine jN 7 ?_
  refine WL.indexAddr (i:=i) F.sl73 rfl rfl rfl hlt ?_
  refine jN 1 ?_
  refine WL.load1 F.one3 rfl rfl (v:= .int .i64 x) (fun w hS=>by rw [Nat.mul_one];exact hS.oldc hcell (by simp)) ?_
  refine jN 14 ?_
  refine WC.cond rfl (fun h14=>?_) (fun h14=>?_)
  ·have hx0:(x != 0)=true:=by simpa using h14
   have hf:xs.find? (fun x=>x != 0)=some x:=by
    have e:xs.drop i=x::xs.drop (i+1):=by rw [List.drop_eq_getElem_cons hlt,(List.getElem?_eq_some_iff.1 hx).2]
    rw [← List.take_append_drop i xs,e,List.find?_append,List.find?_eq_none.2 (fun y hy=>by simpa using hz y hy),List.find?_cons,hx0];rfl
   refine jN 14 ?_
   exact WQ.ret (rs:=[.tmp 2]) rfl (.tmp rfl .nil) (fun w hS=>⟨by rw [hf];rfl,hS⟩)
  refine jN 9 ?_
  refine WQ.back (i+1) ?_ ?_ ?_ ?_
  ·exact ⟨by omega,fun y hy=>by rw [List.take_add_one,hx] at hy;rcases List.mem_append.1 hy with h | h;exact hz y h;rw [List.mem_singleton.1 h];simpa using h14⟩
  ·omega
  ·exact ⟨rfl,rfl,rfl,rfl,trivial⟩
  rfl
 have hie:i=xs.length:=by simp at h9;omega
 subst hie
 rw [List.take_length] at hz
 have hf:xs.find? (fun x=>x != 0)=none:=List.find?_eq_none.2 fun y hy=>by simpa using hz y hy
 refine jN 14 ?_
 exact WQ.ret (rs:=[.tmp 2]) rfl (.tmp rfl .nil) (fun w hS=>⟨by rw [hf];rfl,hS⟩)
theorem arT2 :ArT Tryz.prog 188 2 2 1 [.int .i64 0,.int .i64 0]:=⟨by kernel_rfl,by kernel_rfl,by kernel_rfl⟩
abbrev ChV :=Nat×Nat×Bool
abbrev chv (z:ChV):List Value:=[.int .i64 (z.1:Int),.int .i64 0,.int .u32 (z.2.1:Int),.bool z.2.2]
def RdW0 (w:World) (bw:Nat):Prop:=∀ k,k<48→w.cell? ⟨bw,k,none⟩=some (.int .i64 0)
theorem RdW0.next {w0 w:World} {C:List Chunk} {bw:Nat} (h:RdW0 w0 bw) (hS:St w0 [] C w):RdW0 w bw:=fun k hk=>hS.oldc (h k hk) (by simp)
def stepV (z:ChV) (f:Nat) (b:Bool):ChV:=(f,bif b then z.2.1|||2 ^ f else z.2.1,z.2.2)
theorem step_c (bw:Nat) (z:ChV) (hc:z.2.1<4294967296) (f:Nat) (hf:f<24) (b:Bool) (w:World) (hw0:RdW0 w bw):
  Pure Tryz.prog 140 [pp bw,.agg (chv z).toArray,.int .i64 (f:Int),.bool b] w (.agg (chv (stepV z f b)).toArray):=by
 refine enter Tryz.func140 rfl Tryz.ntmps140 rfl (St.init _) ?_
 refine jN 3 ?_
 refine WL.boxN rfl rfl (fun b5=>?_)
 refine jN 1 ?_
 refine WL.alloc F.zero185 rfl (fun b8=>?_)
 refine jN 19 ?_
 refine WC.cond rfl (fun h11=>?_) (fun h11=>?_)
 subst h11
 refine jN 1 ?_
 refine WC.drawsL (by kernel_rfl) (FactsOk.cons (ds:=[10]) (LoadOk.one (t:=5) (off:=1) rfl jM rfl) (FactsOk.cons (ds:=[10]) (LoadOk.by (Y:=fun w=>w.cell? ⟨bw,0+f*2+1*1,none⟩=some (.int .i64 0)) (fun w hS=>by rw [show 0+f*2+1*1=f*2+1 by omega];exact hS.oldc (hw0 (f*2+1) (by omega)) (by simp))) (FactsOk.nil))) ?_
 refine jT 0 rfl (Yl.fieldAddr0 F.fld185_1 rfl) ?_
 refine jF 1 0 rfl rfl (Yl.load1 F.one2 rfl) ?_
 refine jQ [2,3,4] ?_
 refine jT 5 rfl (Yl.indexAddrA F.arT190 rfl rfl hf) ?_
 refine jT 6 rfl (Yl.indexAddrA (i:=1) arT2 rfl rfl (by decide)) ?_
 refine jF 7 1 rfl rfl (Yl.load1 F.one2 rfl) ?_
 refine jT 8 rfl (Yl.add rfl rfl ⟨by omega,by omega⟩) ?_
 refine jT 9 rfl (Yl.fieldAddr0 F.fld185_1 rfl) ?_
 refine jA 10 rfl ?_
 refine WL.store1 F.one2 rfl rfl rfl jU jS ?_
 refine jG ?_
 refine jD ?_
 refine jN 1 ?_
 refine WC.drawsL (by kernel_rfl) (FactsOk.cons (ds:=[6]) (LoadOk.one (t:=5) (off:=2) rfl jM rfl) (FactsOk.nil)) ?_
 refine jT 0 rfl (Yl.fieldAddr0 F.fld185_2 rfl) ?_
 refine jF 1 0 rfl rfl (Yl.load1 F.one24 rfl) ?_
 refine jQ [2] ?_
 refine jT 3 rfl (Yl.bin rfl rfl (fun w=>run_shl1 (by omega) _ _ _ w)) ?_
 refine jT 4 rfl (Yl.bin rfl rfl (fun w=>run_or hc (Nat.pow_lt_pow_right (by decide) (show f<32 by omega)) _ _ _ w)) ?_
 refine jT 5 rfl (Yl.fieldAddr0 F.fld185_2 rfl) ?_
 refine jA 6 rfl ?_
 refine WL.store1 F.one24 rfl rfl rfl jU jS ?_
 rotate_left
 subst h11
 refine WC.drawsL (by kernel_rfl) (FactsOk.cons (ds:=[10]) (LoadOk.one (t:=5) (off:=1) rfl jM rfl) (FactsOk.cons (ds:=[10]) (LoadOk.by (Y:=fun w=>w.cell? ⟨bw,0+f*2+0*1,none⟩=some (.int .i64 0)) (fun w hS=>by rw [show 0+f*2+0*1=f*2+0 by omega];exact hS.oldc (hw0 (f*2+0) (by omega)) (by simp))) (FactsOk.nil))) ?_
 refine jT 0 rfl (Yl.fieldAddr0 F.fld185_1 rfl) ?_
 refine jF 1 0 rfl rfl (Yl.load1 F.one2 rfl) ?_
 refine jQ [2,3,4] ?_
 refine jT 5 rfl (Yl.indexAddrA F.arT190 rfl rfl hf) ?_
 refine jT 6 rfl (Yl.indexAddrA (i:=0) arT2 rfl rfl (by decide)) ?_
 refine jF 7 1 rfl rfl (Yl.load1 F.one2 rfl) ?_
 refine jT 8 rfl (Yl.add rfl rfl ⟨by omega,by omega⟩) ?_
 refine jT 9 rfl (Yl.fieldAddr0 F.fld185_1 rfl) ?_
 refine jA 10 rfl ?_
 refine WL.store1 F.one2 rfl rfl rfl jU jS ?_
 rotate_left
 all_goals
  refine jG ?_
  refine jD ?_
  refine jN 10 ?_
  exact WQ.ret (rs:=[.cell 8 185]) rfl (.cellN F.agg185 rfl jM rfl .nil) (fun w hS=>⟨rfl,hS.sublist (List.nil_sublist _)⟩)
def pickV (x y:ChV):ChV:=if (!x.2.2||(y.2.2&&decide (y.2.1<x.2.1)))=true then y else x
def topT :BT→Nat
 | .lf _=>24
 | .nd v _ _=>v
def chT (t:BT):ChV:=(topT t,bestT t)
def joinC (v:Nat) (x y:ChV):ChV:=pickV (v,x.2.1,x.2.2) (v,y.2.1|||2 ^ v,y.2.2)
theorem chT_nd (v:Nat) (lo hi:BT):chT (.nd v lo hi)=joinC v (chT lo) (chT hi):=by
 show (v,pickB (bestT lo) ((bestT hi).1|||2 ^ v,(bestT hi).2))=_
 unfold joinC pickV pickB chT
 dsimp only
 split<;>rfl
theorem topT_ge {t:BT} {m:Nat} (h:t.ok m) (hm:m≤24):m≤topT t∧topT t≤24:=by
 cases t with
 | lf b=>exact ⟨hm,Nat.le_refl _⟩
 | nd v lo hi=>exact ⟨h.1,Nat.le_of_lt h.2.1⟩
theorem cmp_iff (a b:Nat):decide ((([(0:Int),cmpI (b:Int) (a:Int)].find? (fun x=>x != 0)).getD 0)<0)=decide (b<a):=by
 unfold cmpI
 by_cases h1:(b:Int)<a
 ·rw [if_pos h1];have:b<a:=by omega
  simp [this]
 rw [if_neg h1]
 by_cases h2:(a:Int)<b
 ·rw [if_pos h2];have: ¬ b<a:=by omega
  simp [this]
 rw [if_neg h2];have: ¬ b<a:=by omega
 simp [this]
theorem RdC.pt {w:World} {b:Nat} {xs:List Int} {e:TypeId} (h:(pt b (xs.map (Value.int .i64)) e).ok w):RdC w xs (some ⟨b,0,none⟩):=fun j x hx=>⟨b,0,rfl,by
 rw [Nat.zero_add]
 have h':w.heap[b]?=some (.cells (xs.map (Value.int .i64)).toArray e (0,0)):=h
 simp [World.cell?,h',hx]⟩
theorem down_c (bw:Nat) (z:ChV) (hc:z.2.1<4294967296) (hz:z.1≤24) (lev:Nat) (li:Int) (hli:li=(lev:Int)) (hl:lev≤z.1) (w:World) (hw0:RdW0 w bw):
  Pure Tryz.prog 141 [pp bw,.agg (chv z).toArray,.int .i64 li] w (.agg (chv (lev,z.2)).toArray):=by
 subst hli
 refine enter Tryz.func141 rfl Tryz.ntmps141 rfl (St.init _) ?_
 refine jN 3 ?_
 refine WL.boxN rfl rfl (fun b4=>?_)
 refine jN 1 ?_
 refine WL.alloc F.zero185 rfl (fun b6=>?_)
 refine jN 16 ?_
 refine WC.chunks (C':=[pt b4 (chv ((z.1,z.2))) 185,pt b6 [.int .i64 0,.int .i64 0,.int .u32 0,.bool false] 185]) (fun w hS=>(jK hS)) ?_
 refine WC.loop (α:=Nat) (fun k=>lev≤k∧k≤z.1) (fun k=>[(0,pp bw),(2,.int .i64 (lev:Int)),(4,pp b4),(6,pp b6),(7,.int .i64 ((k:Int) - 1))]) (fun k=>[pt b4 (chv ((k,z.2))) 185,pt b6 [.int .i64 0,.int .i64 0,.int .u32 0,.bool false] 185]) (fun k=>k) (z.1) ?_ ?_ ?_ ?_
 ·exact ⟨hl,Nat.le_refl _⟩
 ·exact ⟨rfl,rfl,rfl,rfl,rfl,trivial⟩
 ·rfl
 rintro k ⟨hk1,hk2⟩
 refine jN 11 ?_
 refine WC.cond rfl (fun h13=>?_) (fun h13=>?_)
 ·have hlt:lev<k:=by simp at h13;omega
  obtain ⟨f,rfl⟩:∃ f,k=f+1:=⟨k - 1,by omega⟩
  have hf:f<24:=by omega
  refine WC.say 7 (.int .i64 (f:Int)) (by show some (Value.int .i64 (((f+1:Nat):Int) - 1))=_;rw [show ((f+1:Nat):Int) - 1=(f:Int) by omega]) ?_
  refine jN 4 ?_
  refine WC.drawsL (by kernel_rfl) (FactsOk.cons (ds:=[16,17]) (LoadOk.whole (t:=4) rfl jM) (FactsOk.cons (ds:=[16,17]) (LoadOk.by (Y:=fun w=>w.cell? ⟨bw,0+f*2+1*1,none⟩=some (.int .i64 0)) (fun w hS=>by rw [show 0+f*2+1*1=f*2+1 by omega];exact hS.oldc (hw0 (f*2+1) (by omega)) (by simp))) (FactsOk.cons (ds:=[16,17]) (LoadOk.by (Y:=fun w=>w.cell? ⟨bw,0+f*2+0*1,none⟩=some (.int .i64 0)) (fun w hS=>by rw [show 0+f*2+0*1=f*2+0 by omega];exact hS.oldc (hw0 (f*2+0) (by omega)) (by simp))) (FactsOk.nil)))) ?_
  refine jQ [0] ?_
  refine jF 1 0 rfl rfl (Yl.loadN F.agg185 rfl rfl) ?_
  refine jQ [2,3,4,5] ?_
  refine jT 6 rfl (Yl.indexAddrA F.arT190 rfl rfl hf) ?_
  refine jT 7 rfl (Yl.indexAddrA (i:=1) arT2 rfl rfl (by decide)) ?_
  refine jF 8 1 rfl rfl (Yl.load1 F.one2 rfl) ?_
  refine jQ [9,10,11] ?_
  refine jT 12 rfl (Yl.indexAddrA F.arT190 rfl rfl hf) ?_
  refine jT 13 rfl (Yl.indexAddrA (i:=0) arT2 rfl rfl (by decide)) ?_
  refine jF 14 2 rfl rfl (Yl.load1 F.one2 rfl) ?_
  refine jT 15 rfl (Yl.bin (v:= .bool false) rfl rfl (fun w=>by kernel_rfl)) ?_
  refine jA 16 rfl ?_
  refine WL.callV F.fun140 rfl rfl (fun w hS=>step_c bw (f+1,z.2) hc f hf false w (hw0.next hS)) ?_
  refine jG ?_
  refine jA 17 rfl ?_
  refine WL.storeN (cs':=chv (f,z.2)) F.agg185 rfl rfl rfl jO jU (by repeat constructor) ?_
  refine jG ?_
  refine jD ?_
  refine jN 10 ?_
  refine WQ.chunks (C':=[pt b4 (chv ((f,z.2))) 185,pt b6 [.int .i64 0,.int .i64 0,.int .u32 0,.bool false] 185]) (fun w hS=>(jK hS)) ?_
  refine WQ.back (f) ?_ ?_ ?_ ?_
  ·exact ⟨by omega,by omega⟩
  ·omega
  ·exact ⟨rfl,rfl,rfl,rfl,rfl,trivial⟩
  rfl
 have hke:k=lev:=by simp at h13;omega
 subst hke
 refine jN 10 ?_
 refine WL.storeN (cs':=chv (k,z.2)) F.agg185 rfl rfl rfl jO jU (by repeat constructor) ?_
 refine jN 3 ?_
 exact WQ.ret (rs:=[.cell 6 185]) rfl (.cellN F.agg185 rfl jM rfl .nil) (fun w hS=>⟨rfl,hS.sublist (List.nil_sublist _)⟩)
theorem better_c (x y:ChV) (w:World):
  Pure Tryz.prog 139 [.agg (chv x).toArray,.agg (chv y).toArray] w (.agg (chv (pickV x y)).toArray):=by
 refine enter Tryz.func139 rfl Tryz.ntmps139 rfl (St.init _) ?_
 refine jN 3 ?_
 refine WL.boxN rfl rfl (fun b2=>?_)
 refine jN 1 ?_
 refine WL.boxN rfl rfl (fun b3=>?_)
 refine jN 1 ?_
 refine WL.alloc F.zero185 rfl (fun b4=>?_)
 refine jN 4 ?_
 refine WC.drawsL (by kernel_rfl) (FactsOk.cons (ds:=[]) (LoadOk.one (t:=2) (off:=3) rfl jM rfl) (FactsOk.cons (ds:=[]) (LoadOk.one (t:=3) (off:=3) rfl jM rfl) (FactsOk.cons (ds:=[]) (LoadOk.one (t:=3) (off:=1) rfl jM rfl) (FactsOk.cons (ds:=[]) (LoadOk.one (t:=2) (off:=1) rfl jM rfl) (FactsOk.cons (ds:=[]) (LoadOk.one (t:=3) (off:=2) rfl jM rfl) (FactsOk.cons (ds:=[]) (LoadOk.one (t:=2) (off:=2) rfl jM rfl) (FactsOk.nil))))))) ?_
 refine jT 0 rfl (Yl.fieldAddr0 F.fld185_3 rfl) ?_
 refine jF 1 0 rfl rfl (Yl.load1 F.one4 rfl) ?_
 refine jQ [2,3] ?_
 refine fun hcl=>WA.splitB (i:=8) rfl (fun g8=>?_) (fun g8=>?_)
 ·refine (show WD _ _ _ _ _ _ _ _ _ _ _ _ from ?_) hcl
  have hp:pickV x y=y:=if_pos (by rw [g8];rfl)
  refine jQ [4,5,6,7,8,9,10,11,12,13,14,15,16,17,18,19,20,21] ?_
  refine jD ?_
  refine jN 12 ?_
  exact WQ.ret (rs:=[.cell 4 185]) rfl (.cellN F.agg185 rfl jM rfl .nil) (fun w hS=>⟨by rw [hp];rfl,hS.sublist (List.nil_sublist _)⟩)
 refine (show WD _ _ _ _ _ _ _ _ _ _ _ _ from ?_) hcl
 refine WD.takeG (i:=4) rfl rfl rfl rfl rfl rfl (by decide+kernel) (by decide+kernel) (by decide+kernel) (fun _ _ _ h=>h) (by kernel_rfl) need_none (Yl.fieldAddr0 F.fld185_3 rfl) ?_
 refine WD.takeG (i:=5) rfl rfl rfl rfl rfl rfl (by decide+kernel) (by decide+kernel) (by decide+kernel) (fun _ _ _ h=>h) (by kernel_rfl) (need_at2 1 rfl (by decide+kernel)) (Yl.load1 F.one4 rfl) ?_
 refine jQ [6] ?_
 refine fun hcl=>WA.splitB (i:=11) rfl (fun g11=>?_) (fun g11=>?_)
 ·refine (show WD _ _ _ _ _ _ _ _ _ _ _ _ from ?_) hcl
  refine WD.takeG (i:=7) rfl rfl rfl rfl rfl rfl (by decide+kernel) (by decide+kernel) (by decide+kernel) (fun _ _ _ h=>h) (by kernel_rfl) need_none (Yl.fieldAddr0 F.fld185_1 rfl) ?_
  refine WD.takeG (i:=8) rfl rfl rfl rfl rfl rfl (by decide+kernel) (by decide+kernel) (by decide+kernel) (fun _ _ _ h=>h) (by kernel_rfl) (need_at2 2 rfl (by decide+kernel)) (Yl.load1 F.one2 rfl) ?_
  refine WD.takeG (i:=9) rfl rfl rfl rfl rfl rfl (by decide+kernel) (by decide+kernel) (by decide+kernel) (fun _ _ _ h=>h) (by kernel_rfl) need_none (Yl.fieldAddr0 F.fld185_1 rfl) ?_
  refine WD.takeG (i:=10) rfl rfl rfl rfl rfl rfl (by decide+kernel) (by decide+kernel) (by decide+kernel) (fun _ _ _ h=>h) (by kernel_rfl) (need_at2 3 rfl (by decide+kernel)) (Yl.load1 F.one2 rfl) ?_
  refine WD.takeG (i:=12) rfl rfl rfl rfl rfl rfl (by decide+kernel) (by decide+kernel) (by decide+kernel) (fun _ _ _ h=>h) (by kernel_rfl) need_none (Yl.fieldAddr0 F.fld185_2 rfl) ?_
  refine WD.takeG (i:=13) rfl rfl rfl rfl rfl rfl (by decide+kernel) (by decide+kernel) (by decide+kernel) (fun _ _ _ h=>h) (by kernel_rfl) (need_at2 4 rfl (by decide+kernel)) (Yl.load1 F.one24 rfl) ?_
  refine WD.takeG (i:=14) rfl rfl rfl rfl rfl rfl (by decide+kernel) (by decide+kernel) (by decide+kernel) (fun _ _ _ h=>h) (by kernel_rfl) need_none (Yl.fieldAddr0 F.fld185_2 rfl) ?_
  refine WD.takeG (i:=15) rfl rfl rfl rfl rfl rfl (by decide+kernel) (by decide+kernel) (by decide+kernel) (fun _ _ _ h=>h) (by kernel_rfl) (need_at2 5 rfl (by decide+kernel)) (Yl.load1 F.one24 rfl) ?_
  refine jA 11 rfl ?_
  refine WL.guardT rfl rfl rfl ?_
  refine WL.callV F.fun168 rfl rfl (fun w hS=>cmp64_c 0 0 w) ?_
  refine WD.on (closed_of (by decide+kernel)) (fun w hS=>Sx.keep (hS.cell jM rfl) (Sx.keep (hS.cell jM rfl) (Sx.keep (hS.cell jM rfl) (Sx.keep (hS.cell jM rfl) (Sx.keep (hS.cell jM rfl) (Sx.keep (hS.cell jM rfl) (Sx.none))))))) ?_
  refine jA 16 rfl ?_
  refine WL.guardT rfl rfl rfl ?_
  refine WL.callV F.fun70 rfl rfl (fun w hS=>cmp32_c (y.2.1:Int) (x.2.1:Int) w) ?_
  refine WD.on (closed_of (by decide+kernel)) (fun w hS=>Sx.keep (hS.cell jM rfl) (Sx.keep (hS.cell jM rfl) (Sx.keep (hS.cell jM rfl) (Sx.keep (hS.cell jM rfl) (Sx.keep (hS.cell jM rfl) (Sx.keep (hS.cell jM rfl) (Sx.none))))))) ?_
  refine jA 17 rfl ?_
  refine WL.guardT rfl rfl rfl ?_
  refine WL.buildSlice F.sl73 F.ez73 rfl rfl rfl rfl jB rfl (fun b22=>?_)
  refine WD.on (closed_of (by decide+kernel)) (fun w hS=>Sx.keep (hS.cell jM rfl) (Sx.keep (hS.cell jM rfl) (Sx.keep (hS.cell jM rfl) (Sx.keep (hS.cell jM rfl) (Sx.keep (hS.cell jM rfl) (Sx.keep (hS.cell jM rfl) (Sx.none))))))) ?_
  refine jA 18 rfl ?_
  refine WL.guardT rfl rfl rfl ?_
  refine WL.callV F.fun78 rfl rfl (fun w hS=>cmpOr_c [0,cmpI (y.2.1:Int) (x.2.1:Int)] (some ⟨b22,0,none⟩) 2 (by simp) w (RdC.pt (hS.ok (pt b22 ([0,cmpI (y.2.1:Int) (x.2.1:Int)].map (Value.int .i64)) 3) jM))) ?_
  refine WD.on (closed_of (by decide+kernel)) (fun w hS=>Sx.keep (hS.cell jM rfl) (Sx.keep (hS.cell jM rfl) (Sx.keep (hS.cell jM rfl) (Sx.keep (hS.cell jM rfl) (Sx.keep (hS.cell jM rfl) (Sx.keep (hS.cell jM rfl) (Sx.none))))))) ?_
  refine jQ [19,20,21] ?_
  refine jD ?_
  refine jN 1 ?_
  refine WC.cond rfl (fun h26=>?_) (fun h26=>?_)
  rw [cmp_iff] at h26
  have hp:pickV x y=y:=if_pos (by rw [g8,g11,h26];rfl)
  refine jN 10 ?_
  rotate_left
  rw [cmp_iff] at h26
  have hp:pickV x y=x:=if_neg (by rw [g8,g11,h26];simp)
  refine jN 11 ?_
  rotate_left
  all_goals
   exact WQ.ret (rs:=[.cell 4 185]) rfl (.cellN F.agg185 rfl jM rfl .nil) (fun w hS=>⟨by rw [hp];rfl,hS.sublist (List.nil_sublist _)⟩)
 refine (show WD _ _ _ _ _ _ _ _ _ _ _ _ from ?_) hcl
 have hp:pickV x y=x:=if_neg (by rw [g8,g11];simp)
 refine jQ [7,8,9,10,11,12,13,14,15,16,17,18,19,20,21] ?_
 refine jD ?_
 refine jN 13 ?_
 exact WQ.ret (rs:=[.cell 4 185]) rfl (.cellN F.agg185 rfl jM rfl .nil) (fun w hS=>⟨by rw [hp];rfl,hS.sublist (List.nil_sublist _)⟩)
theorem bestj_c (bw bc:Nat) (v:Nat) (hv:v<24) (x y:ChV) (hx:v+1≤x.1∧x.1≤24) (hy:v+1≤y.1∧y.1≤24) (hxc:x.2.1<4294967296) (hyc:y.2.1<4294967296) (w:World) (hcap:w.cell? ⟨bc,0,none⟩=some (pp bw)) (hw0:RdW0 w bw):
  Pure Tryz.prog 138 [.int .i64 (v:Int),.agg (chv x).toArray,.agg (chv y).toArray,pp bc] w (.agg (chv (joinC v x y)).toArray):=by
 refine enter Tryz.func138 rfl Tryz.ntmps138 rfl (St.init _) ?_
 refine jN 3 ?_
 refine WL.boxN rfl rfl (fun b5=>?_)
 refine jN 1 ?_
 refine WL.boxN rfl rfl (fun b6=>?_)
 refine jN 1 ?_
 refine WL.alloc F.zero185 rfl (fun b7=>?_)
 refine jN 3 ?_
 refine WC.drawsL (by kernel_rfl) (FactsOk.cons (ds:=[7,13,15,16,17]) (LoadOk.by (Y:=fun w=>w.cell? ⟨bc,0,none⟩=some (pp bw)) (fun w hS=>hS.oldc hcap (by simp))) (FactsOk.cons (ds:=[5,7,13,15,16,17]) (LoadOk.by (Y:=fun w=>w.cell? ⟨bc,0,none⟩=some (pp bw)) (fun w hS=>hS.oldc hcap (by simp))) (FactsOk.cons (ds:=[5,7,13,15,16,17]) (LoadOk.whole (t:=5) rfl jM) (FactsOk.cons (ds:=[15,16,17]) (LoadOk.by (Y:=fun w=>w.cell? ⟨bc,0,none⟩=some (pp bw)) (fun w hS=>hS.oldc hcap (by simp))) (FactsOk.cons (ds:=[13,15,16,17]) (LoadOk.by (Y:=fun w=>w.cell? ⟨bc,0,none⟩=some (pp bw)) (fun w hS=>hS.oldc hcap (by simp))) (FactsOk.cons (ds:=[13,15,16,17]) (LoadOk.whole (t:=6) rfl jM) (FactsOk.nil))))))) ?_
 refine jF 0 0 rfl rfl (Yl.load1 F.one187 rfl) ?_
 refine jF 1 1 rfl rfl (Yl.load1 F.one187 rfl) ?_
 refine jF 2 2 rfl rfl (Yl.loadN F.agg185 rfl rfl) ?_
 refine jQ [3] ?_
 refine jT 4 rfl (Yl.add rfl rfl ⟨by omega,by omega⟩) ?_
 refine jQ [6] ?_
 refine jF 8 3 rfl rfl (Yl.load1 F.one187 rfl) ?_
 refine jF 9 4 rfl rfl (Yl.load1 F.one187 rfl) ?_
 refine jF 10 5 rfl rfl (Yl.loadN F.agg185 rfl rfl) ?_
 refine jQ [11] ?_
 refine jT 12 rfl (Yl.add rfl rfl ⟨by omega,by omega⟩) ?_
 refine jQ [14] ?_
 refine jA 5 rfl ?_
 refine WL.callV F.fun141 rfl rfl (fun w hS=>down_c bw x hxc hx.2 (v+1) _ (by omega) hx.1 w (hw0.next hS)) ?_
 refine WD.on (closed_of (by decide+kernel)) (fun w hS=>Sx.keep (hS.oldc hcap (by simp)) (Sx.gone rfl (Sx.gone rfl (Sx.keep (hS.oldc hcap (by simp)) (Sx.keep (hS.oldc hcap (by simp)) (Sx.keep ((fun j v hv=>by rw [Nat.zero_add];exact hS.cell jM hv)) (Sx.none))))))) ?_
 refine jA 7 rfl ?_
 refine WL.callV F.fun140 rfl rfl (fun w hS=>step_c bw (v+1,x.2) hxc v hv false w (hw0.next hS)) ?_
 refine WD.on (closed_of (by decide+kernel)) (fun w hS=>Sx.gone rfl (Sx.gone rfl (Sx.gone rfl (Sx.keep (hS.oldc hcap (by simp)) (Sx.keep (hS.oldc hcap (by simp)) (Sx.keep ((fun j v hv=>by rw [Nat.zero_add];exact hS.cell jM hv)) (Sx.none))))))) ?_
 refine jA 13 rfl ?_
 refine WL.callV F.fun141 rfl rfl (fun w hS=>down_c bw y hyc hy.2 (v+1) _ (by omega) hy.1 w (hw0.next hS)) ?_
 refine WD.on (closed_of (by decide+kernel)) (fun w hS=>Sx.gone rfl (Sx.gone rfl (Sx.gone rfl (Sx.keep (hS.oldc hcap (by simp)) (Sx.gone rfl (Sx.gone rfl (Sx.none))))))) ?_
 refine jA 15 rfl ?_
 refine WL.callV F.fun140 rfl rfl (fun w hS=>step_c bw (v+1,y.2) hyc v hv true w (hw0.next hS)) ?_
 refine jG ?_
 refine jA 16 rfl ?_
 refine WL.callV F.fun139 rfl rfl (fun w hS=>better_c (stepV (v+1,x.2) v false) (stepV (v+1,y.2) v true) w) ?_
 refine jG ?_
 refine jA 17 rfl ?_
 refine WL.storeN (cs':=chv (joinC v x y)) F.agg185 rfl rfl rfl jO jU (by repeat constructor) ?_
 refine jG ?_
 refine jD ?_
 refine jN 2 ?_
 exact WQ.ret (rs:=[.cell 7 185]) rfl (.cellN F.agg185 rfl jM rfl .nil) (fun w hS=>⟨rfl,hS.sublist (List.nil_sublist _)⟩)
structure FC (la:List Dec) (out:List ChV):Prop where
 at':∀ k z,out[k]?=some z→z=chT (trs la k)
 two:2≤out.length
theorem FC.nil (la:List Dec):FC la [(24,0,false),(24,0,true)]:=⟨fun k z hz=>by
 rcases k with _ | _ | k
 ·simp at hz;rw [(trs_zero la).1,← hz];rfl
 ·simp at hz;rw [(trs_zero la).2,← hz];rfl
 ·simp at hz,by simp⟩
theorem FC.step {la:List Dec} (hla:Mk la) {out:List ChV} (h:FC la out) {x:Dec} (hx:la[out.length - 2]?=some x) {z1 z2:ChV} (h1:out[x.2.1]?=some z1) (h2:out[x.2.2]?=some z2):FC la (out++[joinC x.1 z1 z2]):=⟨fun k z hz=>by
 by_cases hk:k<out.length
 ·rw [List.getElem?_append_left hk] at hz;exact h.at' k z hz
 ·have hlt:=(List.getElem?_eq_some_iff.1 hz).1
  rw [List.length_append,List.length_singleton] at hlt
  have e:k=out.length:=by omega
  subst e
  simp at hz
  have ht:=hla.at hx
  have h2':=h.two
  rw [show out.length - 2+2=out.length by omega] at ht
  rw [ht,chT_nd,← hz,h.at' _ _ h1,h.at' _ _ h2],by have:=h.two;simp;omega⟩
theorem ch_join (t:BT) (ht:t.ok 0) (bw bc:Nat) (wb:World) (hcap:wb.cell? ⟨bc,0,none⟩=some (pp bw)) (hw0:RdW0 wb bw) (out:List ChV) (s:Unit) (x:Dec) (z1 z2:ChV) (w:World) (hx:(canon t).1[out.length - 2]?=some x) (hI:FC (canon t).1 out) (h1:out[x.2.1]?=some z1) (h2:out[x.2.2]?=some z2) (hS0:St wb [] [] w) (hS:St w [] [rowc (.slice none 0 0) 0 73 1 []] w):
  Calls Tryz.prog 138 ([]++[Value.int .i64 (x.1:Int),.agg (e4 (fun z:ChV=>Value.int .i64 (z.1:Int)) (fun _=>Value.int .i64 0) (fun z=>Value.int .u32 (z.2.1:Int)) (fun z=>Value.bool z.2.2) z1).toArray,.agg (e4 (fun z:ChV=>Value.int .i64 (z.1:Int)) (fun _=>Value.int .i64 0) (fun z=>Value.int .u32 (z.2.1:Int)) (fun z=>Value.bool z.2.2) z2).toArray]++[pp bc]).toArray w fun e w'=>∃ y:{y:Unit×ChV // FC (canon t).1 (out++[y.2])},e= .returned (.agg (e4 (fun z:ChV=>Value.int .i64 (z.1:Int)) (fun _=>Value.int .i64 0) (fun z=>Value.int .u32 (z.2.1:Int)) (fun z=>Value.bool z.2.2) y.1.2).toArray)∧St w [] [rowc (.slice none 0 0) 0 73 1 []] w':=by
 have hmk:=canon_mk ht
 have e1:=hI.at' _ _ h1
 have e2:=hI.at' _ _ h2
 have hk:=(List.getElem?_eq_some_iff.1 hx).1
 have hnd:=hmk.at hx
 have hok:=subT_ok ht (canon_sub (t:=t) hk)
 rw [hnd] at hok
 obtain ⟨_,k1,_,k2,k3⟩:=hok
 have b1:=best_ok k2 (by omega)
 have b2:=best_ok k3 (by omega)
 have l1:z1.2.1<4294967296:=by rw [e1];exact Nat.lt_of_lt_of_le b1.lt (by decide)
 have l2:z2.2.1<4294967296:=by rw [e2];exact Nat.lt_of_lt_of_le b2.lt (by decide)
 have t1:x.1+1≤z1.1∧z1.1≤24:=by rw [e1];exact topT_ge k2 (by omega)
 have t2:x.1+1≤z2.1∧z2.1≤24:=by rw [e2];exact topT_ge k3 (by omega)
 refine (bestj_c bw bc x.1 k1 z1 z2 t1 t2 l1 l2 w (hS0.oldc hcap (by simp)) (hw0.next hS0)).mono ?_
 rintro e w' ⟨he,hS'⟩
 exact ⟨⟨((),_),hI.step hmk hx h1 h2⟩,he,hS'.rowNil _ _⟩
set_option maxRecDepth 100000 in
theorem best_c (t:BT) (a:Option Addr) (c bw:Nat) (w:World) (ht:RdD w t a) (hw0:RdW0 w bw):
  Pure Tryz.prog 105 [dval t a c,pp bw] w (.agg (chv (0,leastT t)).toArray):=by
 have hmk:=canon_mk ht.1
 have hcl:=canon_len ht.1
 refine enter Tryz.func105 rfl Tryz.ntmps105 rfl (St.init _) ?_
 refine jN 3 ?_
 refine WL.boxN rfl rfl (fun b2=>?_)
 refine jN 1 ?_
 refine WL.box1 rfl rfl rfl (fun b3=>?_)
 refine jN 1 ?_
 refine WL.alloc F.zero185 rfl (fun b4=>?_)
 refine jN 7 ?_
 refine WL.alloc F.zero185 rfl (fun b5=>?_)
 refine jN 6 ?_
 refine WA.chunks (fun w hS=>(hS.rowNil 73 1)) ?_
 refine jN 9 ?_
 refine WL.callC (β:={y:List ChV×Unit×ChV // FC (canon t).1 y.1∧y.1.length=(canon t).1.length+2∧y.1[(canon t).2]?=some y.2.2}) (res:=fun y=> .agg (e4 (fun z:ChV=>Value.int .i64 (z.1:Int)) (fun _=>Value.int .i64 0) (fun z=>Value.int .u32 (z.2.1:Int)) (fun z=>Value.bool z.2.2) y.1.2.2).toArray) (cs:=fun y=>[rowc (.slice none 0 0) 0 73 1 []]) (Cs:=[rowc (.slice none 0 0) 0 73 1 []]) (C1:=[pt b5 [.int .i64 24,.int .i64 0,.int .u32 0,.bool true] 185,pt b4 [.int .i64 0,.int .i64 0,.int .u32 0,.bool false] 185,pt b3 [pp bw] 187,pt b2 [.slice a (canon t).1.length c,.int .i64 ((canon t).2:Int)] 50]) (O':=[]) F.fun137 (fun d h=>by cases h;rfl) rfl (List.Perm.refl _) (fun c hc k hk=>(by rw [List.mem_singleton.1 hc] at hk;cases hk)) (by simp) (fun w hS hS2=>FoldC_c (σ:=Unit) (τ:=ChV) (fun z:ChV=>Value.int .i64 (z.1:Int)) (fun _=>Value.int .i64 0) (fun z=>Value.int .u32 (z.2.1:Int)) (fun z=>Value.bool z.2.2) (by intro x u hu;simp only [e4,List.mem_cons,List.not_mem_nil,or_false] at hu;rcases hu with rfl | rfl | rfl | rfl<;>rfl) (fun _=>rowc (.slice none 0 0) 0 73 1 []) (fun _=>[]) (fun _=>FpIs.rowc) 138 F.fun138 [] [pp b3] (canon t).1 a c (canon t).2 (24,0,false) (24,0,true) (fun out _=>FC (canon t).1 out) (Nat.le_of_lt hcl) (fun k x hx=>⟨(hmk.kid k x hx).2.1,(hmk.kid k x hx).2.2.1⟩) (canon_at t).1 () (FC.nil _) w (fun out s x z1 z2 w1 hx hI h1 h2 hS0 hS1=>ch_join t ht.1 bw b3 w (hS.cell (cs:=[pp bw]) jM rfl) (hw0.next hS) out s x z1 z2 w1 hx hI h1 h2 hS0 hS1) (rd_none (ht.next0 hS).2) hS2) (fun ⟨⟨out,s,z⟩,hI,hol,hz⟩=>?_)
 dsimp only at hI hol hz
 have hzt:z=chT t:=by rw [hI.at' _ _ hz,(canon_at t).2]
 subst hzt
 have hbo:=best_ok ht.1 (by decide)
 have hlt:(bestT t).1<4294967296:=Nat.lt_of_lt_of_le hbo.lt (by decide)
 show WA _ _ _ _ _ ((12,.agg (chv (chT t)).toArray)::_) _
 refine jN 1 ?_
 refine WL.alloc F.zero185 rfl (fun b6=>?_)
 refine jN 1 ?_
 refine WL.storeN (cs':=chv (chT t)) F.agg185 rfl rfl rfl jO jU (by repeat constructor) ?_
 refine jN 13 ?_
 refine WC.cond rfl (fun h15=>?_) (fun h15=>?_)
 have hb0:(bestT t).2=false:=by simpa [chT] using h15
 have hls:leastT t=(0,false):=by unfold leastT;rw [hb0];rfl
 refine jN 10 ?_
 rotate_left
 have hb1:(bestT t).2=true:=by simpa [chT] using h15
 have hls:leastT t=bestT t:=by unfold leastT;rw [hb1];rfl
 refine jN 9 ?_
 refine WL.callV F.fun141 rfl rfl (fun w hS=>down_c bw (chT t) hlt (topT_ge ht.1 (by decide)).2 0 _ rfl (Nat.zero_le _) w (hw0.next hS)) ?_
 refine jN 1 ?_
 refine WL.storeN (cs':=chv (0,bestT t)) F.agg185 rfl rfl rfl jO jU (by repeat constructor) ?_
 refine jN 3 ?_
 rotate_left
 all_goals
  exact WQ.ret (rs:=[.cell 4 185]) rfl (.cellN F.agg185 rfl jM rfl .nil) (fun w hS=>⟨by rw [hls];rfl,hS.sublist (List.nil_sublist _)⟩)
set_option maxRecDepth 100000 in
theorem Least_c (t:BT) (a:Option Addr) (c:Nat) (w:World) (ht:RdD w t a):
  Pure Tryz.prog 69 [dval t a c] w (.tuple #[.int .u32 ((leastT t).1:Int),.bool (leastT t).2]):=by
 refine enter Tryz.func69 rfl Tryz.ntmps69 rfl (St.init _) ?_
 refine jN 3 ?_
 refine WL.boxN rfl rfl (fun b1=>?_)
 refine jN 11 ?_
 refine WL.buildA (cs:=(List.replicate 48 (Value.int .i64 0))) F.arT190 rfl .nil rfl ?_
 refine jN 1 ?_
 refine WL.boxN rfl rfl (fun b7=>?_)
 refine jN 1 ?_
 refine WL.callV F.fun105 rfl rfl (fun w hS=>best_c t a c b7 w (ht.next0 hS) (fun k hk=>hS.cell (cs:=(List.replicate 48 (Value.int .i64 0))) jM (by rw [List.getElem?_replicate,if_pos hk]))) ?_
 refine jN 1 ?_
 refine WL.alloc F.zero185 rfl (fun b4=>?_)
 refine jN 1 ?_
 refine WL.storeN (cs':=chv (0,leastT t)) F.agg185 rfl rfl rfl jO jU (by repeat constructor) ?_
 refine jN 3 ?_
 refine WC.drawsL (by kernel_rfl) (FactsOk.cons (ds:=[]) (LoadOk.one (t:=4) (off:=2) rfl jM rfl) (FactsOk.cons (ds:=[]) (LoadOk.one (t:=4) (off:=3) rfl jM rfl) (FactsOk.nil))) ?_
 refine jT 0 rfl (Yl.fieldAddr0 F.fld185_2 rfl) ?_
 refine jF 1 0 rfl rfl (Yl.load1 F.one24 rfl) ?_
 refine jT 2 rfl (Yl.fieldAddr0 F.fld185_3 rfl) ?_
 refine jF 3 1 rfl rfl (Yl.load1 F.one4 rfl) ?_
 refine jQ [4,5] ?_
 refine jD ?_
 refine jN 2 ?_
 exact WQ.ret (rs:=[.tmp 2,.tmp 3]) rfl (.tmp rfl (.tmp rfl .nil)) (fun w hS=>⟨rfl,hS.sublist (List.nil_sublist _)⟩)
theorem less4_c (x y:PrV) (w:World) (hx:RdD w x.d x.da) (hy:RdD w y.d y.da):
  Pure Tryz.prog 68 [.agg (prC x).toArray,.agg (prC y).toArray] w (.int .i64 (cmpI ((leastT x.d).1:Int) ((leastT y.d).1:Int))):=by
 refine enter Tryz.func68 rfl Tryz.ntmps68 rfl (St.init _) ?_
 refine jN 3 ?_
 refine WL.boxN rfl rfl (fun b2=>?_)
 refine jN 1 ?_
 refine WL.boxN rfl rfl (fun b3=>?_)
 refine jN 9 ?_
 refine WL.loadN F.agg50 rfl rfl (vs:=[.slice x.da (canon x.d).1.length x.dc,.int .i64 ((canon x.d).2:Int)]) rfl (fun w hS jj u9 hv=>(by rw [Nat.add_comm];exact hS.cell (cs:=prC x) jM (off:=jj+1) hv)) ?_
 refine jN 1 ?_
 refine WL.callV F.fun69 rfl rfl (fun w hS=>Least_c x.d x.da x.dc w (hx.next0 hS)) ?_
 refine jN 17 ?_
 refine WL.loadN F.agg50 rfl rfl (vs:=[.slice y.da (canon y.d).1.length y.dc,.int .i64 ((canon y.d).2:Int)]) rfl (fun w hS jj u9 hv=>(by rw [Nat.add_comm];exact hS.cell (cs:=prC y) jM (off:=jj+1) hv)) ?_
 refine jN 1 ?_
 refine WL.callV F.fun69 rfl rfl (fun w hS=>Least_c y.d y.da y.dc w (hy.next0 hS)) ?_
 refine jN 19 ?_
 refine WL.callV F.fun70 rfl rfl (fun w hS=>cmp32_c ((leastT x.d).1:Int) ((leastT y.d).1:Int) w) ?_
 refine jN 5 ?_
 exact WQ.ret (rs:=[.tmp 4]) rfl (.tmp rfl .nil) (fun w hS=>⟨rfl,hS.sublist (List.nil_sublist _)⟩)
end Go.Proofs.YtedbajbgnmaakaaGreatDoor
namespace Go.Proofs
open Go.Shelf
def Tryz.sortPro_ren :Go.Shelf.Ren:=⟨fun | 6=>67 | 15=>104 | 14=>103 | 28=>135 | 29=>136 | 20=>127 | 21=>128 | 22=>129 | 23=>130 | 24=>131 | 25=>132 | 26=>133 | 27=>134 | 46=>163 | 47=>164 | 48=>165 | 49=>166 | 50=>167 | 57=>192 | n=>n,fun | 22=>62 | 24=>67 | 25=>131 | 3=>3 | 39=>183 | 0=>0 | 53=>24 | 55=>237 | 4=>4 | 46=>230 | 45=>229 | 50=>210 | 5=>5 | 9=>9 | 66=>273 | 70=>277 | 76=>308 | 77=>309 | n=>n,fun | n=>n⟩
theorem Tryz.sortPro :Go.Proofs.SlLaysF0.n6 Tryz.prog Tryz.sortPro_ren:={
 mixed:=by kernel_rfl
 f6:=⟨Tryz.f67.name,by decide,Tryz.func67.trans (congrArg some (by kernel_rfl))⟩
 f14:=⟨Tryz.f103.name,by decide,Tryz.func103.trans (congrArg some (by kernel_rfl))⟩
 f15:=Tryz.func104.trans (congrArg some (by kernel_rfl))
 f20:=⟨Tryz.f127.name,by decide,Tryz.func127.trans (congrArg some (by kernel_rfl))⟩
 f21:=⟨Tryz.f128.name,by decide,Tryz.func128.trans (congrArg some (by kernel_rfl))⟩
 f22:=⟨Tryz.f129.name,by decide,Tryz.func129.trans (congrArg some (by kernel_rfl))⟩
 f23:=⟨Tryz.f130.name,by decide,Tryz.func130.trans (congrArg some (by kernel_rfl))⟩
 f24:=⟨Tryz.f131.name,by decide,Tryz.func131.trans (congrArg some (by kernel_rfl))⟩
 f25:=⟨Tryz.f132.name,by decide,Tryz.func132.trans (congrArg some (by kernel_rfl))⟩
 f26:=⟨Tryz.f133.name,by decide,Tryz.func133.trans (congrArg some (by kernel_rfl))⟩
 f27:=⟨Tryz.f134.name,by decide,Tryz.func134.trans (congrArg some (by kernel_rfl))⟩
 f28:=Tryz.func135.trans (congrArg some (by kernel_rfl))
 f29:=Tryz.func136.trans (congrArg some (by kernel_rfl))
 f46:=⟨Tryz.f163.name,by decide,Tryz.func163.trans (congrArg some (by kernel_rfl))⟩
 f47:=Tryz.func164.trans (congrArg some (by kernel_rfl))
 f48:=Tryz.func165.trans (congrArg some (by kernel_rfl))
 f49:=⟨Tryz.f166.name,by decide,Tryz.func166.trans (congrArg some (by kernel_rfl))⟩
 f50:=⟨Tryz.f167.name,by decide,Tryz.func167.trans (congrArg some (by kernel_rfl))⟩
 f57:=⟨Tryz.f192.name,by decide,Tryz.func192.trans (congrArg some (by kernel_rfl))⟩
 t0:=Tryz.underlying0
 a0:=Tryz.isAgg0
 z0:=Tryz.sizeOf0
 v0:=Tryz.zeroValue0
 t3:=Tryz.underlying3
 a3:=Tryz.isAgg3
 z3:=Tryz.sizeOf3
 v3:=Tryz.zeroValue3
 t4:=Tryz.underlying4
 a4:=Tryz.isAgg4
 z4:=Tryz.sizeOf4
 v4:=Tryz.zeroValue4
 t5:=Tryz.underlying5
 a5:=Tryz.isAgg5
 z5:=Tryz.sizeOf5
 v5:=Tryz.zeroValue5
 t9:=Tryz.underlying9
 a9:=Tryz.isAgg9
 z9:=Tryz.sizeOf9
 v9:=Tryz.zeroValue9
 t22:=Tryz.underlying62
 a22:=Tryz.isAgg62
 z22:=Tryz.sizeOf62
 v22:=Tryz.zeroValue62
 t25:=Tryz.underlying131
 a25:=Tryz.isAgg131
 z25:=Tryz.sizeOf131
 v25:=Tryz.zeroValue131
 t39:=Tryz.underlying183
 a39:=Tryz.isAgg183
 z39:=Tryz.sizeOf183
 v39:=Tryz.zeroValue183
 t45:=Tryz.underlying229
 a45:=Tryz.isAgg229
 z45:=Tryz.sizeOf229
 v45:=Tryz.zeroValue229
 t46:=Tryz.underlying230
 a46:=Tryz.isAgg230
 z46:=Tryz.sizeOf230
 v46:=Tryz.zeroValue230
 t50:=Tryz.underlying210
 a50:=Tryz.isAgg210
 z50:=Tryz.sizeOf210
 v50:=Tryz.zeroValue210
 t53:=Tryz.underlying24
 a53:=Tryz.isAgg24
 z53:=Tryz.sizeOf24
 v53:=Tryz.zeroValue24
 t55:=Tryz.underlying237
 a55:=Tryz.isAgg237
 z55:=Tryz.sizeOf237
 v55:=Tryz.zeroValue237
 t66:=Tryz.underlying273
 a66:=Tryz.isAgg273
 z66:=Tryz.sizeOf273
 v66:=Tryz.zeroValue273
 t70:=Tryz.underlying277
 a70:=Tryz.isAgg277
 z70:=Tryz.sizeOf277
 v70:=Tryz.zeroValue277
 t76:=Tryz.underlying308
 a76:=Tryz.isAgg308
 z76:=Tryz.sizeOf308
 v76:=Tryz.zeroValue308
 t77:=Tryz.underlying309
 a77:=Tryz.isAgg309
 z77:=Tryz.sizeOf309
 v77:=Tryz.zeroValue309}
end Go.Proofs
namespace Go.Proofs.YtedbajbgnmaakaaGreatDoor
open Go Go.Eng Go.Proofs Dg
def RdX (w:World) (g:Nat) (t:BT) (a:Option Addr):Prop:=t.ok 0∧∀ (j:Nat) (u:Value),(decs (canon t).1)[j]?=some u→∃ b off,a=some ⟨b,off,none⟩∧w.cell? ⟨b,off+j,none⟩=some u∧b≠g
theorem RdX.sortW {α:Type} [Inhabited α] {enc:α→List Value} {k m:Nat} {d:Array α} {os:Array Obj} {w:World} {g:Nat} {t:BT} {a:Option Addr} (h:RdX w g t a):RdD (Go.Proofs.sortWorldK enc k w g 0 m d os) t a:=⟨h.1,fun j u hu=>by
 obtain ⟨b,off,e,hc,hb⟩:=h.2 j u hu
 exact ⟨b,off,e,cell_sortW hc hb⟩⟩
theorem RdD.rdX {w0 w:World} {C:List Chunk} {g:Nat} {t:BT} {a:Option Addr} (h:RdD w0 t a) (hS:St w0 [] C w) (hg:∃ c∈C,c.fp g):RdX w g t a:=⟨h.1,fun j u hu=>by
 obtain ⟨b,off,e,hc⟩:=h.2 j u hu
 obtain ⟨c,hcC,hfp⟩:=hg
 have hge: ¬ g<w0.heap.size:=fun h=>by have h9:=(hS.bnd c hcC g hfp).2 h;simp at h9
 refine ⟨b,off,e,hS.oldc hc (by simp),fun hbg=>?_⟩
 have hlt:=World.block_lt_of_cell? w0 _ hc
 subst hbg
 exact hge hlt⟩
theorem ds_rdX {w0 w:World} {O:List Nat} {C:List Chunk} {c:Chunk} {F:List Nat} {ds:List DV} {g:Nat} {x:DV} (hS:St w0 O (c::dsC F ds::C) w) (hg:c.fp g) (hx:x∈ds):RdX w g x.1 x.2.1:=by
 have hok:=hS.ok (dsC F ds) (List.mem_cons_of_mem _ (List.mem_cons_self ..))
 refine ⟨(hok x hx).1,fun j u hu=>?_⟩
 obtain ⟨b,off,e1,e2,e3⟩:=(hok x hx).2 j u hu
 refine ⟨b,off,e1,e2,fun hbg=>?_⟩
 subst hbg
 exact (List.pairwise_cons.1 hS.disj).1 (dsC F ds) (List.mem_cons_self ..) b hg e3
theorem pro_rdX {w0 w:World} {Z:DV→Prop} (hZ:∀ v,Z v→RdD w0 v.1 v.2.1) {C:List Chunk} {c:Chunk} {R:ClR} {F G:List Nat} {ds es:List DV} {g:Nat} {done:List ClK} {o mo:List PrV} (hP:ClP Z R ds) (hd:∀ k∈done,∃ v,R k=some v) (ho:o=done.map (mkPr R)) (hj:JoPG o mo es)
  (hS:St w0 [] (c::dsC G es::dsC F ds::C) w) (hg:c.fp g):∀ t∈mo,RdX w g t.d t.da:=fun t ht=>by
 have hS2:St w0 [] (c::dsC F ds::dsC G es::C) w:=hS.perm (List.Perm.cons _ (List.Perm.swap _ _ _))
 have hgc:∃ x∈(c::dsC G es::dsC F ds::C),x.fp g:=⟨c,List.mem_cons_self ..,hg⟩
 rcases (hj.d t ht).2 with h | ⟨s,hs,e⟩
 ·exact ds_rdX hS hg h
 ·rw [ho] at hs
  obtain ⟨k,hk,rfl⟩:=List.mem_map.1 hs
  obtain ⟨v,hv⟩:=hd k hk
  have e1:t.d=v.1:=by have:=congrArg (fun z:DV=>z.1) e;simpa [mkPr,hv] using this
  have e2:t.da=v.2.1:=by have:=congrArg (fun z:DV=>z.2.1) e;simpa [mkPr,hv] using this
  rw [e1,e2]
  rcases hP k v hv with h | h
  ·exact ds_rdX hS2 hg h
  ·exact (hZ v h).rdX hS hgc
abbrev PrX (w:World) (g:Nat):Type:={t:PrV // RdX w g t.d t.da}
abbrev prE {w:World} {g:Nat} (t:PrX w g):List Value:=prC t.1
abbrev prF {w:World} {g:Nat} (x y:PrX w g):Int:=cmpI ((leastT x.1.d).1:Int) ((leastT y.1.d).1:Int)
theorem prF_lt {w:World} {g:Nat} (x y:PrX w g):Go.Proofs.ltOf prF x y=decide ((leastT x.1.d).1<(leastT y.1.d).1):=by
 unfold Go.Proofs.ltOf prF cmpI
 by_cases h1:((leastT x.1.d).1:Int)<(leastT y.1.d).1
 ·rw [if_pos h1];have:(leastT x.1.d).1<(leastT y.1.d).1:=by omega
  simp [this]
 rw [if_neg h1];have: ¬ (leastT x.1.d).1<(leastT y.1.d).1:=by omega
 split<;>simp [this]
theorem prF_swo {w:World} {g:Nat}:Go.Sort.SWO (Go.Proofs.ltOf (prF (w:=w) (g:=g))):=by
 refine ⟨fun x=>?_,fun x y z h1 h2=>?_,fun x y z h1 h2=>?_⟩
 ·rw [prF_lt];simp
 ·rw [prF_lt] at*;simp at*;omega
 rw [prF_lt] at*;simp at*;omega
theorem sortP_c (l:List PrV) (hl:l≠[]) (hl2:l.length≤1000) (g c:Nat) (w:World) (hr:∀ t∈l,RdX w g t.d t.da) (hS:St w [g] [jW g l.length c 67 3 (l.flatMap prC)] w):
  Calls Tryz.prog 67 [.slice (some ⟨g,0,none⟩) l.length c,.func (.func 68) [].toArray [].toArray].toArray w fun e w'=>∃ S:{S:List PrV // S.Perm l∧S.Pairwise fun a b=>(leastT a.d).1≤(leastT b.d).1},e= .returned (.tuple #[])∧St w [g] [jW g l.length c 67 3 (S.1.flatMap prC)] w':=by
 obtain ⟨x0,l',hx0⟩:=List.exists_cons_of_ne_nil hl
 letI:Inhabited (PrX w g):=⟨⟨x0,hr x0 (by rw [hx0];exact List.mem_cons_self ..)⟩⟩
 obtain ⟨d,hd⟩:∃ d:Array (PrX w g),d.toList.map Subtype.val=l:=⟨(l.pmap Subtype.mk hr).toArray,by simp [List.map_pmap]⟩
 have hsz:d.size=l.length:=by rw [← hd];simp
 have hfl:∀ d:Array (PrX w g),d.toList.flatMap prE=(d.toList.map Subtype.val).flatMap prC:=fun d=>by rw [List.flatMap_map]
 have hS':St w [g] [jW g l.length c 67 3 (d.toList.flatMap prE)] w:=by rw [hfl,hd];exact hS
 have hcmp:Go.Proofs.CmpLays Tryz.prog 68 #[] (prE (w:=w) (g:=g)) 3 prF g 0 d.size w:=fun m os dk _ x y=>by
  refine (Go.Drw.Calls.drawn (less4_c x.1 y.1 _ x.2.sortW y.2.sortW) (fun e w' h=>by rw [h.1];exact fun h=>by cases h)).mono fun e w' ⟨⟨h1,h2⟩,h3⟩=>⟨h1,?_⟩
  obtain ⟨q,os',hw⟩:=grow_of h2 h3
  exact ⟨q,os',hw⟩
 have hown:=hS'.ok _ (List.mem_singleton.2 rfl)
 have hcon:=Go.Proofs.AnyQ.slices_SortFunc Tryz.sortPro 3 (fun w=>by kernel_rfl) (fun w=>by kernel_rfl) (prE (w:=w) (g:=g)) (fun x=>rfl) (fun x v hv=>prC_one x.1 v hv) prF prF_swo 68 #[] g 0 c d w (Go.Proofs.enters_of Tryz.func68 (by kernel_rfl) rfl) hcmp (holdsK_row (enc:=prE (w:=w) (g:=g)) (k:=3) (fun _=>rfl) hsz hown) (row_lt hown) (by omega)
 rw [hsz] at hcon
 refine hcon.mono fun e w' ⟨he,d',n,os,hp,hs,hw⟩=>?_
 have hp1:d'.toList.Perm d.toList:=by
  have h9:=hp.2.2
  have e9:d'.size=l.length:=hp.1.trans hsz
  rw [← e9] at h9
  rw [Array.extract_size] at h9
  rw [e9,← hsz,Array.extract_size] at h9
  exact h9
 have hsz':d'.size=l.length:=hp.1.trans hsz
 refine ⟨⟨d'.toList.map Subtype.val,by rw [← hd];exact hp1.map _,?_⟩,he,?_⟩
 ·refine List.pairwise_map.2 (List.pairwise_iff_getElem.2 fun i j hi hj hij=>?_)
  have h9:=hs i j (Nat.zero_le _) hij (by rw [← hsz'];simpa using hj)
  rw [prF_lt,getElem!_pos d' j (by simpa using hj),getElem!_pos d' i (by simpa using hi)] at h9
  simp at h9
  simpa using h9
 rw [hw,← hfl]
 exact St.sortW (fun _=>rfl) hsz' hS'
abbrev atD (ms:List MdV) (i:Nat):List DgV:=(ms.take i).flatMap fun m=>m.gs
theorem joiN_len {κ:Type} {lt:κ→κ→Bool} {l:List (κ×(Cf→Bool))}:(joiN lt l).length≤l.length:=by
 unfold joiN
 rw [jadj_fold]
 refine Nat.le_trans (jst_len _ _) ?_
 rw [List.length_nil,isort_len,Nat.zero_add]
 exact List.length_filter_le _ _
structure PrY where
 e:Nat
 S:List PrV
 a:Option Addr
 c:Nat
 F:List Nat
 ds:List DV
abbrev pyR (y:PrY):Chunk:=rowc (.slice y.a y.S.length y.c) y.S.length 67 3 (y.S.flatMap prC)
def PrQ (Z:DV→Prop) (A:List TkV) (W:Cf→Bool) (cs:List Cf) (most:Int) (y:PrY):Prop:=
 ((most<0∧y.e=3∧y.S=[])∨(0≤most∧∃ R done o,PrG A W cs R done o∧((most<o.length∧y.e=5∧y.S=[])∨(¬ most<o.length∧y.e=0∧y.S.Perm o∧y.S.Pairwise fun a b=>(leastT a.d).1≤(leastT b.d).1))))∧∀ t∈y.S,(t.d,t.da,t.dc)∈y.ds∨Z (t.d,t.da,t.dc)
theorem pro_in {Z:DV→Prop} {R:ClR} {ds es:List DV} {done:List ClK} {o mo:List PrV} (hP:ClP Z R ds) (hd:∀ k∈done,∃ v,R k=some v) (ho:o=done.map (mkPr R)) (hj:JoPG o mo es):∀ t∈mo,(t.d,t.da,t.dc)∈ds++es∨Z (t.d,t.da,t.dc):=fun t ht=>by
 rcases (hj.d t ht).2 with h | ⟨s,hs,e⟩
 ·exact .inl (List.mem_append_right _ h)
 ·rw [ho] at hs
  obtain ⟨k,hk,rfl⟩:=List.mem_map.1 hs
  obtain ⟨v,hv⟩:=hd k hk
  have e1:((t.d,t.da,t.dc):DV)=v:=by rw [e];simp [mkPr,hv]
  rcases hP k v hv with h | h
  ·exact .inl (List.mem_append_left _ (by rw [e1];exact h))
  ·exact .inr (by rw [e1];exact h)
theorem sortP0_c (a:Option Addr) (n c:Nat) (hn:n=0) (fv:Value) (w:World):Pure Tryz.prog 67 [.slice a n c,fv] w (.tuple #[]):=by
 subst hn
 exact (Go.Proofs.AnyF.slices_SortFunc_none Tryz.sortPro a c fv w).mono fun e w2 ⟨h1,h2⟩=>⟨h1,by rw [h2];exact St.init _⟩
set_option maxRecDepth 100000 in
theorem Products_c (A:List TkV) (hAl:A.length≤1000) (hAt:∀ t∈A,t.x.t.length≤1000000) (ta:Option Addr) (tc:Nat) (gv:Value) (hgv:gv.oneCell'=true) (wt:BT) (wa:Option Addr) (wc:Nat) (most:Int) (cs:List Cf) (hcs0:cs≠[]) (hcl:cs.length≤1000) (hst:Stand A wt.ev cs) (w:World) (hA:TsR w A ta) (Z:DV→Prop) (hZ:∀ v,Z v→RdD w v.1 v.2.1) (hZ0:Z (wt,wa,wc)):
  Calls Tryz.prog 20 [.agg [.slice ta A.length tc,gv].toArray,dval wt wa wc,.int .i64 most].toArray w fun e w'=>∃ y:PrY,PrQ Z A wt.ev cs most y∧e= .returned (.tuple #[.slice y.a y.S.length y.c,.int .i64 (y.e:Int)])∧St w [] [pyR y,dsC y.F y.ds] w':=by
 refine enter Tryz.func20 rfl Tryz.ntmps20 rfl (St.init _) ?_
 refine jN 3 ?_
 refine WL.boxN rfl rfl (fun b3=>?_)
 refine jN 1 ?_
 refine WL.boxN rfl rfl (fun b4=>?_)
 refine jN 15 ?_
 refine WC.cond rfl (fun h20=>?_) (fun h20=>?_)
 ·have hmo:most<0:=by simpa using h20
  refine jN 10 ?_
  exact WQ.ret (rs:=[.tmp 6,.tmp 7]) rfl (.tmp rfl (.tmp rfl .nil)) (fun w hS=>⟨(⟨3,[],none,0,[],[]⟩:PrY),⟨.inl ⟨hmo,rfl,rfl⟩,fun t ht=>(by cases ht)⟩,rfl,((St.dsNil (hS.sublist (List.nil_sublist _))).rowNil 67 3)⟩)
 have hmo:0≤most:=by simp at h20;omega
 refine jN 5 ?_
 refine WL.makeMapG encSB rfl (fun bm=>?_)
 refine jN 5 ?_
 refine WL.insertG (f:=fun _:ClK=>none) ([],false) undCl keyCl rfl rfl rfl rfl jU ?_
 refine jN 20 ?_
 refine WC.chunks (C':=[clM bm (clU (fun _=>none) ([],false) (wt,wa,wc)),dsC [] []]) (fun w hS=>?_) ?_
 ·have h9:=((St.pick (St.pick (St.dsNil hS) (c:=dsC [] []) jR) (c:=mpg encSB bm (fun q=>if q=([],false) then some (dval wt wa wc) else none)) jR)).sublist (C':=[mpg encSB bm (fun q=>if q=([],false) then some (dval wt wa wc) else none),dsC [] []]) (List.Sublist.cons_cons _ (List.Sublist.cons_cons _ (List.nil_sublist _)))
  rw [show (fun q:ClK=>if q=([],false) then some (dval wt wa wc) else none)=clF (clU (fun _=>none) ([],false) (wt,wa,wc)) from clU_map (fun _=>none) ([],false) (wt,wa,wc)] at h9
  exact h9
 refine WC.loop (α:=ClG) (fun g=>g.i≤A.length∧ClI A wt.ev cs g.i g.R∧ClP Z g.R g.ds) (fun g=>[(2,.int .i64 most),(8,.map (some g.bm)),(26,.slice ta A.length tc),(27,.int .i64 (A.length:Int)),(28,.int .i64 (g.i:Int))]) (fun g=>[clM g.bm g.R,dsC g.F g.ds]) (fun g=>A.length - g.i) (⟨0,bm,(clU (fun _=>none) ([],false) (wt,wa,wc)),[],[]⟩) ?_ ?_ ?_ ?_
 ·exact ⟨Nat.zero_le _,ClI.start hcs0 wt wa wc,fun p v hp=>by rcases clU_or (fun _=>none) ([],false) (wt,wa,wc) p v hp with ⟨_,h⟩ | ⟨_,h⟩;cases h;rw [h];exact .inr hZ0⟩
 ·exact ⟨rfl,rfl,rfl,rfl,rfl,trivial⟩
 ·rfl
 rintro ⟨i,bm,R,Fp,ds⟩ ⟨hi,hI,hP⟩
 dsimp only at hi hI hP
 show WC _ _ _ _ _ _ _ [(2,.int .i64 most),(8,.map (some bm)),(26,.slice ta A.length tc),(27,.int .i64 (A.length:Int)),(28,.int .i64 (i:Int))] [clM bm R,dsC Fp ds]
 refine jN 7 ?_
 refine WC.cond rfl (fun h29=>?_) (fun h29=>?_)
 ·have hlt:i<A.length:=by simpa using h29
  obtain ⟨x,hx⟩:∃ y,A[i]?=some y:=⟨_,List.getElem?_eq_getElem hlt⟩
  have hxm:=List.mem_of_getElem? hx
  have hxt:=hAt x hxm
  obtain ⟨bA,oA,hta,hcx⟩:=hA.r i x hx
  subst hta
  refine jN 7 ?_
  refine WL.indexAddr F.sl30 rfl rfl rfl hlt ?_
  refine jN 1 ?_
  refine WL.loadN F.agg89 rfl rfl (vs:=tkC x) rfl (fun w hS jj v hv=>hS.oldc (hcx jj v hv) (by simp)) ?_
  refine jN 1 ?_
  refine WL.alloc F.zero89 rfl (fun b10=>?_)
  refine jN 7 ?_
  refine WL.makeMapG encSB rfl (fun bn=>?_)
  refine jN 1 ?_
  refine WL.alloc F.zero127 rfl (fun b11=>?_)
  refine jN 15 ?_
  refine WA.chunksE (α:={y:Array MapEntry×Nat×List (ClK×Value) // MapE encSB (clF R) y.1 y.2.1 y.2.2}) (C':=fun y=>[mpe bm y.1.1 y.1.2.1,pt b10 (tkC x) 89,pt b11 [.map (some bn)] 127,mpg encSB bn (fun _=>none),dsC Fp ds]) (fun w hS=>?_) (fun ⟨(es,clock,kvs),hM⟩=>?_)
  ·obtain ⟨y,hy⟩:=St.mpgOpen ((St.pick hS (c:=clM bm R) jR))
   exact ⟨y,(jK hy)⟩
  dsimp only at hM
  refine jN 3 ?_
  refine WL.rangeM undCl rfl rfl jM (fun it=>?_)
  refine jN 3 ?_
  refine WC.chunks (C':=[mpe bm es clock,ite_ it bm clock #[],pt b10 (tkC x) 89,pt b11 [.map (some bn)] 127,clM bn (fun _=>none),dsC Fp ds]) (fun w hS=>(jK hS)) ?_
  refine WC.loop (α:=ClH) (fun g=>SeenI es kvs g.seen g.done∧ClJ A cs i x R g.done g.R∧ClP Z g.R g.ds∧ClP Z R g.ds) (fun g=>[(2,.int .i64 most),(8,.map (some bm)),(10,pp b10),(11,pp b11),(12,.func (.func 60) [].toArray [pp b11].toArray),(26,.slice (some ⟨bA,oA,none⟩) A.length tc),(27,.int .i64 (A.length:Int)),(28,.int .i64 (i:Int)),(35,pp it)]) (fun g=>[mpe bm es clock,ite_ it bm clock g.seen,pt b10 (tkC x) 89,pt b11 [.map (some bn)] 127,clM bn g.R,dsC g.F g.ds]) (fun g=>kvs.length - g.done.length) (⟨#[],[],fun _=>none,Fp,ds⟩) ?_ ?_ ?_ ?_
  ·exact ⟨SeenI.nil,ClJ.start,(fun p v hp=>by cases (show (none:Option DV)=some v from hp)),hP⟩
  ·exact ⟨rfl,rfl,rfl,rfl,rfl,rfl,rfl,rfl,rfl,trivial⟩
  ·rfl
  rintro ⟨seen,done,R2,F2,ds2⟩ ⟨hSI,hJ,hP2,hPo⟩
  dsimp only at hSI hJ hP2 hPo
  show WC _ _ _ _ _ _ _ [(2,.int .i64 most),(8,.map (some bm)),(10,pp b10),(11,pp b11),(12,.func (.func 60) [].toArray [pp b11].toArray),(26,.slice (some ⟨bA,oA,none⟩) A.length tc),(27,.int .i64 (A.length:Int)),(28,.int .i64 (i:Int)),(35,pp it)] [mpe bm es clock,ite_ it bm clock seen,pt b10 (tkC x) 89,pt b11 [.map (some bn)] 127,clM bn R2,dsC F2 ds2]
  refine jN 1 ?_
  rcases Nat.eq_zero_or_pos (leftOf es seen).size with hz | hz
  ·have hall:∀ k v,R k=some v→k∈done:=fun k v hk=>hSI.all hM hz (show clF R k=some (dvv v) by unfold clF;rw [hk];rfl)
   refine jN 2 ?_
   refine WL.nextM (fun e he=>hM.i.past e he) rfl rfl jM (C':=fun s=>[mpe bm es clock,ite_ it bm clock (seen.push s),pt b10 (tkC x) 89,pt b11 [.map (some bn)] 127,clM bn R2,dsC F2 ds2]) (fun s=>jU) (fun _=>?_) (fun e9 he9=>(by exfalso;have h9:=List.length_pos_of_mem he9;simp at h9;omega))
   refine jN 25 ?_
   refine WQ.chunks (C':=[clM bn R2,dsC F2 ds2]) (fun w hS=>(jK hS)) ?_
   refine WQ.back (⟨i+1,bn,R2,F2,ds2⟩:ClG) ?_ ?_ ?_ ?_
   ·exact ⟨by show i+1≤_;omega,hJ.fin hI hx hall,hP2⟩
   ·show A.length - (i+1)<A.length - i;omega
   ·exact ⟨rfl,rfl,rfl,rfl,rfl,trivial⟩
   rfl
  refine jN 2 ?_
  refine WL.nextM (fun e he=>hM.i.past e he) rfl rfl jM (C':=fun s=>[mpe bm es clock,ite_ it bm clock (seen.push s),pt b10 (tkC x) 89,pt b11 [.map (some bn)] 127,clM bn R2,dsC F2 ds2]) (fun s=>jU) (fun _=>by exfalso;omega) (fun e9 he9=>?_)
  obtain ⟨heM,k,hek,hfk,hkd,hsn⟩:=hSI.step hM he9
  obtain ⟨v,hRk,hve⟩:=clF_some hfk
  rw [hek,hve]
  have hkl:done.length+1≤kvs.length:=by have h9:=hsn.len;simpa using h9
  have hk1:k.1.length≤i*(1000000+1):=hI.len hAt hRk
  refine jN 12 ?_
  refine WL.entryM hM.i.born heM rfl rfl jM jM ?_
  rw [hek,hve]
  refine jN 5 ?_
  refine WL.alloc F.zero126 rfl (fun b13=>?_)
  refine jN 1 ?_
  refine WL.alloc F.zero50 rfl (fun b14=>?_)
  refine jN 13 ?_
  refine WL.addS rfl rfl rfl (by first | omega | (simp only [List.length_append,List.length_cons,List.length_nil];omega)) ?_
  refine jN 5 ?_
  refine WL.addS rfl rfl rfl (by first | omega | (simp only [List.length_append,List.length_cons,List.length_nil];omega)) ?_
  refine jN 3 ?_
  refine WL.alloc F.zero126 rfl (fun b15=>?_)
  refine jN 15 ?_
  refine WC.cutQ ([(2,.int .i64 most),(8,.map (some bm)),(10,pp b10),(11,pp b11),(12,.func (.func 60) [].toArray [pp b11].toArray),(13,pp b13),(14,pp b14),(15,pp b15),(26,.slice (some ⟨bA,oA,none⟩) A.length tc),(27,.int .i64 (A.length:Int)),(28,.int .i64 (i:Int)),(35,pp it)]) ([mpe bm es clock,ite_ it bm clock (seen.push e9.born),pt b10 (tkC x) 89,pt b11 [.map (some bn)] 127,clM bn R2,dsC F2 ds2,pt b13 [.string (str k.1),.bool k.2] 126,pt b14 (dvc v) 50,pt b15 [.string (str (nxW x.x.t k).1),.bool true] 126]) (fun c a d v w h=>by cases d<;>exact h) (fun Q' hP hQ=>?_) ?_
  ·refine WC.cond rfl (fun h50=>?_) (fun h50=>?_)
   have hk2:k.2=false:=by simpa using h50
   have e50:(nxW x.x.t k).1=x.x.t:=by unfold nxW;rw [hk2];rfl
   refine jN 10 ?_
   rotate_left
   have hk2:k.2=true:=by simpa using h50
   have e50:(nxW x.x.t k).1=(k.1++[32])++x.x.t:=by unfold nxW;rw [hk2];rfl
   refine jN 1 ?_
   rotate_left
   all_goals
    refine WQ.chunks (C':=[mpe bm es clock,ite_ it bm clock (seen.push e9.born),pt b10 (tkC x) 89,pt b11 [.map (some bn)] 127,clM bn R2,dsC F2 ds2,pt b13 [.string (str k.1),.bool k.2] 126,pt b14 (dvc v) 50,pt b15 [.string (str (nxW x.x.t k).1),.bool true] 126]) (fun w hS=>?_) (WQ.byCut hQ ⟨rfl,rfl,rfl,rfl,rfl,rfl,rfl,rfl,rfl,rfl,rfl,rfl,trivial⟩)
    rw [e50]
    first | exact (jK hS) | exact (jK hS)
  refine jN 2 ?_
  refine WC.cutPE (α:=OnQ R2 ds2 (nxW x.x.t k) (fun cf=>v.1.ev cf&&x.d.ev cf)) (fun z=>[(2,.int .i64 most),(8,.map (some bm)),(10,pp b10),(11,pp b11),(12,.func (.func 60) [].toArray [pp b11].toArray),(13,pp b13),(14,pp b14),(26,.slice (some ⟨bA,oA,none⟩) A.length tc),(27,.int .i64 (A.length:Int)),(28,.int .i64 (i:Int)),(35,pp it)]) (fun z=>[mpe bm es clock,ite_ it bm clock (seen.push e9.born),pt b10 (tkC x) 89,pt b11 [.map (some bn)] 127,clM bn z.1.1,dsC z.1.2.1 z.1.2.2,pt b13 [.string (str k.1),.bool k.2] 126,pt b14 (dvc v) 50]) (fun c a d v w h=>by cases d<;>exact h) (fun Q' hP hQ=>?_) (fun xE=>?_)
  ·refine WC.draws [([6],fun w=>∀ jj u9,([.string (str (nxW x.x.t k).1),.bool true]:List Value)[jj]?=some u9→w.cell? ⟨b15,0+jj,none⟩=some u9),([5,6],fun w=>∀ jj u9,(dvc v:List Value)[jj]?=some u9→w.cell? ⟨b14,0+jj,none⟩=some u9),([5,6],fun w=>∀ j v,([.slice x.da (canon x.d).1.length x.dc,.int .i64 ((canon x.d).2:Int)]:List Value)[j]?=some v→w.cell? ⟨b10,5+j,none⟩=some v)] (by kernel_rfl) (fun w hS=>facts_cons ((fun jj u9 hv=>by rw [Nat.zero_add];exact hS.cell (cs:=[.string (str (nxW x.x.t k).1),.bool true]) jM hv)) (facts_cons ((fun jj u9 hv=>by rw [Nat.zero_add];exact hS.cell (cs:=dvc v) jM hv)) (facts_cons ((fun j v hv=>by rw [Nat.add_comm];exact hS.cell (cs:=tkC x) jM (off:=j+5) hv)) (facts_nil)))) ?_
   refine jQ [0] ?_
   refine jF 1 0 rfl rfl (Yl.loadN F.agg126 rfl rfl) ?_
   refine jF 2 1 rfl rfl (Yl.loadN F.agg50 rfl rfl) ?_
   refine jT 3 rfl (Yl.fieldAddr0 F.fld89_5 rfl) ?_
   refine jF 4 2 rfl rfl (Yl.loadN F.agg50 rfl rfl) ?_
   refine jA 5 rfl ?_
   refine WL.call0 (β:=DRes (fun cf=>v.1.ev cf&&x.d.ev cf)) (res:=fun z=> .returned z.v) (cs:=fun z=>[z.ch]) (ψ:=fun _=>True) F.fun43 (fun d h=>by cases h;rfl) rfl (fun w hS=>(And_c v.1 x.d v.2.1 x.da v.2.2 x.dc w (plR ((hPo k v hRk).imp id (hZ v)) hS (F:=F2) (ds:=ds2) jM) ((hA.d x hxm).next0 hS)).mono (fun e w2 ⟨x,h1,h2⟩=>⟨x,trivial,h1,h2⟩)) (fun za _=>After_ret ?_)
   refine WD.on (closed_of (by decide+kernel)) (fun w hS=>Sx.keep ((fun jj u9 hv=>by rw [Nat.zero_add];exact hS.cell (cs:=[.string (str (nxW x.x.t k).1),.bool true]) jM hv)) (Sx.gone rfl (Sx.gone rfl (Sx.none)))) ?_
   refine jA 6 rfl ?_
   refine WL.callFC (β:=OnC R2 (nxW x.x.t k) za.1.1) (res:=fun _=> .tuple #[]) (cs:=fun y=>[clM bn y.1.1,dsC y.1.2.1 y.1.2.2]) (Cs:=[clM bn R2]) (O':=[bn]) (us:=[]) (cap:=[pp b11]) F.fun60 (fun d h=>by cases h;rfl) rfl rfl (Rem.perm (c:=clM bn R2) jR) cl_O1 cl_O2 (fun w hS hS2=>(addPro_c (nxW x.x.t k) za.1.1 za.1.2.1 za.1.2.2 b11 bn R2 w (hS.cell (cs:=[.map (some bn)]) jM rfl) (pt_ne_mpg hS (cs:=[.map (some bn)]) (e:=127) jM (f:=clF R2) jM) (za.rd hS jM) (fun p v hp=>plR ((hP2 p v hp).imp id (hZ v)) hS (F:=F2) (ds:=ds2) jM) hS2).mono (fun e w2 ⟨y,h1,h2,h3,h4,h5⟩=>⟨⟨y,h1,h2,h3⟩,h4,h5⟩)) (fun xo=>?_)
   refine jG ?_
   refine jD ?_
   refine WQ.chunks (C':=[mpe bm es clock,ite_ it bm clock (seen.push e9.born),pt b10 (tkC x) 89,pt b11 [.map (some bn)] 127,clM bn xo.1.1,dsC (F2++xo.1.2.1) (ds2++xo.1.2.2),pt b13 [.string (str k.1),.bool k.2] 126,pt b14 (dvc v) 50]) (fun w hS=>by have h9:=St.dsApp ((St.pick (St.pick hS (c:=dsC xo.1.2.1 xo.1.2.2) jR) (c:=dsC F2 ds2) jR));exact (jK h9)) ?_
   exact WQ.byCut (hQ (xo.q za.2.1 za.2.2 F2 ds2)) ⟨rfl,rfl,rfl,rfl,rfl,rfl,rfl,rfl,rfl,rfl,rfl,trivial⟩
  obtain ⟨⟨R3,F3,ds3⟩,hr3,hs3,he3⟩:=xE
  have hP3:ClP Z R3 ds3:=hP2.on ⟨(R3,F3,ds3),hr3,hs3,he3⟩
  have hP3o:ClP Z R ds3:=hPo.up hs3
  have hn3:=OnQ.n ⟨(R3,F3,ds3),hr3,hs3,he3⟩
  dsimp only at hr3 hs3 he3 hn3
  show WQ _ _ _ _ _ _ [(2,.int .i64 most),(8,.map (some bm)),(10,pp b10),(11,pp b11),(12,.func (.func 60) [].toArray [pp b11].toArray),(13,pp b13),(14,pp b14),(26,.slice (some ⟨bA,oA,none⟩) A.length tc),(27,.int .i64 (A.length:Int)),(28,.int .i64 (i:Int)),(35,pp it)] [mpe bm es clock,ite_ it bm clock (seen.push e9.born),pt b10 (tkC x) 89,pt b11 [.map (some bn)] 127,clM bn R3,dsC F3 ds3,pt b13 [.string (str k.1),.bool k.2] 126,pt b14 (dvc v) 50]
  refine jN 1 ?_
  refine WC.draws [([7],fun w=>∀ jj u9,([.string (str k.1),.bool k.2]:List Value)[jj]?=some u9→w.cell? ⟨b13,0+jj,none⟩=some u9),([6,7],fun w=>∀ jj u9,(dvc v:List Value)[jj]?=some u9→w.cell? ⟨b14,0+jj,none⟩=some u9),([5,6,7],fun w=>∀ j v,([.slice x.da (canon x.d).1.length x.dc,.int .i64 ((canon x.d).2:Int)]:List Value)[j]?=some v→w.cell? ⟨b10,5+j,none⟩=some v)] (by kernel_rfl) (fun w hS=>facts_cons ((fun jj u9 hv=>by rw [Nat.zero_add];exact hS.cell (cs:=[.string (str k.1),.bool k.2]) jM hv)) (facts_cons ((fun jj u9 hv=>by rw [Nat.zero_add];exact hS.cell (cs:=dvc v) jM hv)) (facts_cons ((fun j v hv=>by rw [Nat.add_comm];exact hS.cell (cs:=tkC x) jM (off:=j+5) hv)) (facts_nil)))) ?_
  refine jQ [0] ?_
  refine jF 1 0 rfl rfl (Yl.loadN F.agg126 rfl rfl) ?_
  refine jF 2 1 rfl rfl (Yl.loadN F.agg50 rfl rfl) ?_
  refine jT 3 rfl (Yl.fieldAddr0 F.fld89_5 rfl) ?_
  refine jF 4 2 rfl rfl (Yl.loadN F.agg50 rfl rfl) ?_
  refine jA 5 rfl ?_
  refine WL.call0 (β:=DRes (fun cf=> !x.d.ev cf)) (res:=fun z=> .returned z.v) (cs:=fun z=>[z.ch]) (ψ:=fun _=>True) F.fun62 (fun d h=>by cases h;rfl) rfl (fun w hS=>(Not_c x.d x.da x.dc w ((hA.d x hxm).next0 hS)).mono (fun e w2 ⟨x,h1,h2⟩=>⟨x,trivial,h1,h2⟩)) (fun zn _=>After_ret ?_)
  refine WD.on (closed_of (by decide+kernel)) (fun w hS=>Sx.keep ((fun jj u9 hv=>by rw [Nat.zero_add];exact hS.cell (cs:=[.string (str k.1),.bool k.2]) jM hv)) (Sx.keep ((fun jj u9 hv=>by rw [Nat.zero_add];exact hS.cell (cs:=dvc v) jM hv)) (Sx.gone rfl (Sx.none)))) ?_
  refine jA 6 rfl ?_
  refine WL.call0 (β:=DRes (fun cf=>v.1.ev cf&&zn.1.1.ev cf)) (res:=fun z=> .returned z.v) (cs:=fun z=>[z.ch]) (ψ:=fun _=>True) F.fun43 (fun d h=>by cases h;rfl) rfl (fun w hS=>(And_c v.1 zn.1.1 v.2.1 zn.1.2.1 v.2.2 zn.1.2.2 w (plR ((hP3o k v hRk).imp id (hZ v)) hS (F:=F3) (ds:=ds3) jM) (zn.rd hS jM)).mono (fun e w2 ⟨x,h1,h2⟩=>⟨x,trivial,h1,h2⟩)) (fun za _=>After_ret ?_)
  refine WD.on (closed_of (by decide+kernel)) (fun w hS=>Sx.keep ((fun jj u9 hv=>by rw [Nat.zero_add];exact hS.cell (cs:=[.string (str k.1),.bool k.2]) jM hv)) (Sx.gone rfl (Sx.gone rfl (Sx.none)))) ?_
  refine jA 7 rfl ?_
  refine WL.callFC (β:=OnC R3 (k) za.1.1) (res:=fun _=> .tuple #[]) (cs:=fun y=>[clM bn y.1.1,dsC y.1.2.1 y.1.2.2]) (Cs:=[clM bn R3]) (O':=[bn]) (us:=[]) (cap:=[pp b11]) F.fun60 (fun d h=>by cases h;rfl) rfl rfl (Rem.perm (c:=clM bn R3) jR) cl_O1 cl_O2 (fun w hS hS2=>(addPro_c (k) za.1.1 za.1.2.1 za.1.2.2 b11 bn R3 w (hS.cell (cs:=[.map (some bn)]) jM rfl) (pt_ne_mpg hS (cs:=[.map (some bn)]) (e:=127) jM (f:=clF R3) jM) (za.rd hS jM) (fun p v hp=>plR ((hP3 p v hp).imp id (hZ v)) hS (F:=F3) (ds:=ds3) jM) hS2).mono (fun e w2 ⟨y,h1,h2,h3,h4,h5⟩=>⟨⟨y,h1,h2,h3⟩,h4,h5⟩)) (fun xo=>?_)
  refine jG ?_
  refine jD ?_
  refine jN 1 ?_
  have hq:∃ y:OnQ R3 ds3 k (fun cf=>v.1.ev cf&& !x.d.ev cf),y.1=(xo.1.1,F3++xo.1.2.1,ds3++xo.1.2.2):=⟨xo.q za.2.1 (fun cf=>by have h1:=za.2.2 cf;have h2:=zn.2.2 cf;dsimp only at h1 h2 ⊢;rw [h1,h2]) F3 ds3,rfl⟩
  refine WQ.chunks (C':=[mpe bm es clock,ite_ it bm clock (seen.push e9.born),pt b10 (tkC x) 89,pt b11 [.map (some bn)] 127,clM bn xo.1.1,dsC (F3++xo.1.2.1) (ds3++xo.1.2.2)]) (fun w hS=>by have h9:=St.dsApp ((St.pick (St.pick hS (c:=dsC xo.1.2.1 xo.1.2.2) jR) (c:=dsC F3 ds3) jR));exact (jK h9)) ?_
  obtain ⟨y4,hy4⟩:=hq
  have hP4:=hP3.on y4
  have hPo4:=hP3o.up y4.2.2.1
  have he4:=y4.2.2.2
  have hn4:=y4.n
  rw [hy4] at hP4 hPo4 he4 hn4
  refine WQ.back (⟨(seen.push e9.born),done++[k],xo.1.1,F3++xo.1.2.1,ds3++xo.1.2.2⟩:ClH) ?_ ?_ ?_ ?_
  ·exact ⟨hsn,hJ.step hst hI hx hRk he3 hn3 he4 hn4,hP4,hPo4⟩
  ·show kvs.length - (done++[k]).length<kvs.length - done.length;rw [List.length_append];simp only [List.length_cons,List.length_nil];omega
  ·exact ⟨rfl,rfl,rfl,rfl,rfl,rfl,rfl,rfl,rfl,trivial⟩
  rfl
 have hie:i=A.length:=by simp at h29;omega
 subst hie
 refine jN 14 ?_
 refine WA.chunksE (α:={y:Array MapEntry×Nat×List (ClK×Value) // MapE encSB (clF R) y.1 y.2.1 y.2.2}) (C':=fun y=>[mpe bm y.1.1 y.1.2.1,dsC Fp ds]) (fun w hS=>?_) (fun ⟨(es,clock,kvs),hM⟩=>?_)
 ·obtain ⟨y,hy⟩:=St.mpgOpen ((St.pick hS (c:=clM bm R) jR))
  exact ⟨y,(jK hy)⟩
 dsimp only at hM
 refine jN 3 ?_
 refine WL.rangeM undCl rfl rfl jM (fun it=>?_)
 refine jN 3 ?_
 refine WC.chunks (C':=[mpe bm es clock,ite_ it bm clock #[],rowc (.slice none 0 0) 0 67 3 [],dsC Fp ds]) (fun w hS=>(jK (St.rowNil hS 67 3))) ?_
 refine WC.loop (α:=ClO) (fun g=>SeenI es kvs g.seen g.done∧g.o=g.done.map (mkPr R)) (fun g=>[(2,.int .i64 most),(16,.slice g.a (g.o).length g.c),(72,pp it)]) (fun g=>[mpe bm es clock,ite_ it bm clock g.seen,rowc (.slice g.a (g.o).length g.c) (g.o).length 67 3 ((g.o).flatMap prC),dsC Fp ds]) (fun g=>kvs.length - g.done.length) (⟨#[],[],[],none,0⟩) ?_ ?_ ?_ ?_
 ·exact ⟨SeenI.nil,rfl⟩
 ·exact ⟨rfl,rfl,rfl,trivial⟩
 ·rfl
 rintro ⟨seen,done,o,a,c⟩ ⟨hSI,ho⟩
 dsimp only at hSI ho
 show WC _ _ _ _ _ _ _ [(2,.int .i64 most),(16,.slice a (o).length c),(72,pp it)] [mpe bm es clock,ite_ it bm clock seen,rowc (.slice a (o).length c) (o).length 67 3 ((o).flatMap prC),dsC Fp ds]
 have hdv:∀ k∈done,∃ v,R k=some v:=fun k hk=>by obtain ⟨u,hu⟩:=hSI.has hM hk;obtain ⟨v,h1,_⟩:=clF_some hu;exact ⟨v,h1⟩
 have hol:o.length≤1000:=by rw [ho,List.length_map];exact Nat.le_trans (hI.few hSI.nd hdv) hcl
 refine jN 1 ?_
 rcases Nat.eq_zero_or_pos (leftOf es seen).size with hz | hz
 ·have hall:∀ k v,R k=some v→k∈done:=fun k v hk=>hSI.all hM hz (show clF R k=some (dvv v) by unfold clF;rw [hk];rfl)
  refine jN 2 ?_
  refine WL.nextM (fun e he=>hM.i.past e he) rfl rfl jM (C':=fun s=>[mpe bm es clock,ite_ it bm clock (seen.push s),rowc (.slice a (o).length c) (o).length 67 3 ((o).flatMap prC),dsC Fp ds]) (fun s=>jU) (fun _=>?_) (fun e9 he9=>(by exfalso;have h9:=List.length_pos_of_mem he9;simp at h9;omega))
  refine jN 16 ?_
  refine WL.call0 (β:=JoPV) (res:=fun m=> .returned (.slice m.a m.o.length m.c)) (cs:=fun m=>[rowc (.slice m.a m.o.length m.c) m.o.length 67 3 (m.o.flatMap prC),dsC m.F m.ds]) (ψ:=fun m=>m.o.map kvP=joiN (ltC cmpW) (o.map kvP)∧JoPG o m.o m.ds) F.fun63 (fun d h=>by cases h;rfl) rfl (fun w2 hS=>(joinedP_c o a c (by omega) w2 ⟨RdSl.of_row (cells:=prC) (fun _ _=>rfl) (fun h=>h) (Nat.le_refl _) (hS.ok (rowc (.slice a (o).length c) (o).length 67 3 ((o).flatMap prC)) jM),mkPr_rd hZ hP hS jM hdv ho⟩).mono (fun e w3 ⟨x,q1,q2,q3,q4⟩=>⟨x,⟨q1,q2⟩,q3,q4⟩)) (fun ⟨mi,mo,ma,mc,mF,mds⟩ hm=>After_ret ?_)
  show WA _ _ _ _ _ ((86,.slice ma mo.length mc)::_) ((rowc (.slice ma mo.length mc) mo.length 67 3 (mo.flatMap prC))::(dsC mF mds)::_)
  dsimp only at hm
  have hPG:PrG A wt.ev cs R done mo:=⟨hI,hSI.nd,hall,hdv,⟨⟨mi,mo,ma,mc,mF,mds⟩,rfl,by rw [ho] at hm;exact hm⟩⟩
  have hin:∀ t∈mo,(t.d,t.da,t.dc)∈ds++mds∨Z (t.d,t.da,t.dc):=pro_in hP hdv ho hm.2
  have hmol:mo.length≤1000:=by have h9:=congrArg List.length hm.1;rw [List.length_map] at h9;rw [h9];exact Nat.le_trans joiN_len (by rw [List.length_map];exact hol)
  refine jN 17 ?_
  refine WC.cond rfl (fun h90=>?_) (fun h90=>?_)
  ·have hml:most<mo.length:=by simpa using h90
   refine jN 10 ?_
   exact WQ.ret (rs:=[.tmp 6,.tmp 7]) rfl (.tmp rfl (.tmp rfl .nil)) (fun w hS=>⟨(⟨5,[],none,0,[],[]⟩:PrY),⟨.inr ⟨hmo,R,done,mo,hPG,.inl ⟨hml,rfl,rfl⟩⟩,fun t ht=>(by cases ht)⟩,rfl,((St.dsNil (hS.sublist (List.nil_sublist _))).rowNil 67 3)⟩)
  have hml: ¬ most<mo.length:=by simpa using h90
  refine jN 3 ?_
  by_cases hmo0:mo=[]
  ·refine jN 4 ?_
   refine WL.call0 (β:=Unit) (res:=fun _=> .returned (.tuple #[])) (cs:=fun _=>[]) (ψ:=fun _=>True) F.fun67 (fun d h=>by cases h;rfl) rfl (fun w hS=>(sortP0_c ma mo.length mc (by rw [hmo0];rfl) (.func (.func 68) #[] #[]) w).mono (fun e w2 ⟨h1,h2⟩=>⟨(),trivial,h1,h2⟩)) (fun _ _=>After_ret ?_)
   refine jN 13 ?_
   exact WQ.ret (rs:=[.tmp 6,.tmp 7]) rfl (.tmp rfl (.tmp rfl .nil)) (fun w hS=>⟨(⟨0,mo,ma,mc,Fp++mF,ds++mds⟩:PrY),⟨.inr ⟨hmo,R,done,mo,hPG,.inr ⟨hml,rfl,List.Perm.refl _,(by rw [hmo0];exact List.Pairwise.nil)⟩⟩,hin⟩,rfl,(by have h9:=St.dsApp ((St.pick (St.pick hS (c:=dsC mF mds) jR) (c:=dsC Fp ds) jR));exact (jK h9))⟩)
  refine WC.know (φ:=∃ g,ma=some ⟨g,0,none⟩∧mo.length=mo.length∧mo.length≤mc) (fun w hS=>rowc_addr (hS.ok (rowc (.slice ma mo.length mc) mo.length 67 3 (mo.flatMap prC)) jM) (List.length_pos_iff.2 hmo0)) (fun ⟨g9,hg9,_,_⟩=>?_)
  subst hg9
  refine jN 4 ?_
  refine WL.callC (β:={S:List PrV // S.Perm mo∧S.Pairwise fun a b=>(leastT a.d).1≤(leastT b.d).1}) (res:=fun _=> .tuple #[]) (cs:=fun S=>[jW g9 mo.length mc 67 3 (S.1.flatMap prC)]) (Cs:=[jW g9 mo.length mc 67 3 (mo.flatMap prC)]) (O':=[g9]) F.fun67 (fun d h=>by cases h;rfl) rfl (Rem.perm (c:=jW g9 mo.length mc 67 3 (mo.flatMap prC)) jR) row_O1P row_O2P (fun w hS hS2=>(sortP_c mo hmo0 hmol g9 mc w (pro_rdX hZ hP hdv ho hm.2 ((St.pick (St.pick (St.pick hS (c:=dsC Fp ds) jR) (c:=dsC mF mds) jR) (c:=jW g9 mo.length mc 67 3 (mo.flatMap prC)) jR)) rfl) hS2).mono (fun e w2 ⟨S,h1,h2⟩=>⟨S,h1,h2⟩)) (fun S=>?_)
  refine jN 13 ?_
  exact WQ.ret (rs:=[.tmp 6,.tmp 7]) rfl (.tmp rfl (.tmp rfl .nil)) (fun w hS=>⟨(⟨0,S.1,some ⟨g9,0,none⟩,mc,Fp++mF,ds++mds⟩:PrY),⟨.inr ⟨hmo,R,done,mo,hPG,.inr ⟨hml,rfl,S.2.1,S.2.2⟩⟩,fun t ht=>hin t (S.2.1.mem_iff.1 ht)⟩,(by show _=Ending.returned (.tuple #[.slice (some ⟨g9,0,none⟩) S.1.length mc,_]);rw [S.2.1.length_eq];rfl),(by show St _ _ [jW g9 S.1.length mc 67 3 (S.1.flatMap prC),_] _;rw [S.2.1.length_eq];have h9:=St.dsApp ((St.pick (St.pick hS (c:=dsC mF mds) jR) (c:=dsC Fp ds) jR));exact (jK h9))⟩)
 refine jN 2 ?_
 refine WL.nextM (fun e he=>hM.i.past e he) rfl rfl jM (C':=fun s=>[mpe bm es clock,ite_ it bm clock (seen.push s),rowc (.slice a (o).length c) (o).length 67 3 ((o).flatMap prC),dsC Fp ds]) (fun s=>jU) (fun _=>by exfalso;omega) (fun e9 he9=>?_)
 obtain ⟨heM,k,hek,hfk,hkd,hsn⟩:=hSI.step hM he9
 obtain ⟨v,hRk,hve⟩:=clF_some hfk
 rw [hek,hve]
 have hkl:done.length+1≤kvs.length:=by have h9:=hsn.len;simpa using h9
 refine jN 12 ?_
 refine WL.entryM hM.i.born heM rfl rfl jM jM ?_
 rw [hek,hve]
 refine jN 5 ?_
 refine WL.alloc F.zero126 rfl (fun b17=>?_)
 refine jN 1 ?_
 refine WL.alloc F.zero50 rfl (fun b18=>?_)
 refine jN 14 ?_
 refine WL.loadN F.agg50 rfl rfl (vs:=dvc v) rfl (fun w hS jj u9 hv=>by rw [Nat.zero_add];exact hS.cell (cs:=dvc v) jM hv) ?_
 refine jN 3 ?_
 refine WL.buildSlice F.sl62 F.ez62 rfl rfl rfl rfl jB rfl (fun b83=>?_)
 refine jN 1 ?_
 refine WL.appendE (news:=prC (⟨k.1,v.1,v.2.1,v.2.2⟩:PrV)) F.el62 rfl rfl rfl jR (fun w hS jj u9 hu9=>by rw [Nat.zero_add];exact hS.cell (cs:=prC (⟨k.1,v.1,v.2.1,v.2.2⟩:PrV)) jM hu9) rfl (prC_one (⟨k.1,v.1,v.2.1,v.2.2⟩:PrV)) (Nat.le_trans (m:=20000) (by omega) (by decide)) (by omega) (fun a9 c9=>?_)
 refine jN 4 ?_
 refine WQ.chunks (C':=[mpe bm es clock,ite_ it bm clock (seen.push e9.born),rowc (.slice a9 (o.length+1) c9) (o.length+1) 67 3 (o.flatMap prC++prC (⟨k.1,v.1,v.2.1,v.2.2⟩:PrV)),dsC Fp ds]) (fun w hS=>(jK hS)) ?_
 have hmk:mkPr R k=(⟨k.1,v.1,v.2.1,v.2.2⟩:PrV):=by unfold mkPr;rw [hRk];rfl
 refine WQ.back (⟨(seen.push e9.born),done++[k],o++[(⟨k.1,v.1,v.2.1,v.2.2⟩:PrV)],a9,c9⟩:ClO) ?_ ?_ ?_ ?_
 ·exact ⟨hsn,by (show o++[(⟨k.1,v.1,v.2.1,v.2.2⟩:PrV)]=(done++[k]).map (mkPr R));rw [List.map_append,← ho,List.map_singleton,hmk]⟩
 ·show kvs.length - (done++[k]).length<kvs.length - done.length;rw [List.length_append];simp only [List.length_cons,List.length_nil];omega
 ·simp only [List.length_append,List.length_cons,List.length_nil];exact ⟨rfl,rfl,rfl,trivial⟩
 simp only [List.length_append,List.length_cons,List.length_nil,List.flatMap_append,List.flatMap_cons,List.flatMap_nil,List.append_nil]<;>rfl
def wdR (rs:List RtV):List UInt8×Bool:=rs.foldl (fun k r=>(if k.2 then (k.1++[32])++r.x.t else r.x.t,true)) ([],false)
theorem wdR_succ {rs:List RtV} {i:Nat} {r:RtV} (h:rs[i]?=some r):wdR (rs.take (i+1))=(if (wdR (rs.take i)).2 then ((wdR (rs.take i)).1++[32])++r.x.t else r.x.t,true):=by
 unfold wdR
 rw [List.take_add_one,h,Option.toList_some,List.foldl_append]
 rfl
theorem wdR_any {rs:List RtV} {i:Nat} (h:i≤rs.length):(wdR (rs.take i)).2=decide (0<i):=by
 cases i with
 | zero=>rfl
 | succ i=>
  rw [wdR_succ (List.getElem?_eq_getElem (by omega))]
  simp
theorem wdR_len {rs:List RtV} {B:Nat} (hB:∀ t∈rs,t.x.t.length≤B):∀ i,(wdR (rs.take i)).1.length≤i*(B+1)
 | 0=>Nat.zero_le _
 | i+1=>by
  have ih:=wdR_len hB i
  rw [Nat.succ_mul]
  cases h:rs[i]? with
  | none=>
   have e:rs.take (i+1)=rs.take i:=by rw [List.take_add_one,h];simp
   rw [e];exact Nat.le_trans ih (Nat.le_add_right _ _)
  | some r=>
   rw [wdR_succ h]
   have hx:=hB r (List.mem_of_getElem? h)
   generalize i*(B+1)=m at ih ⊢
   simp only
   split
   ·simp only [List.length_append,List.length_cons,List.length_nil];omega
   ·omega
set_option maxRecDepth 100000 in
theorem rWords_c (rs:List RtV) (hl:rs.length≤1000) (ra:Option Addr) (rc:Nat) (w:World) (hr:RdSl rtC 6 w rs ra) (hB:∀ t∈rs,t.x.t.length≤1000000):
  Pure Tryz.prog 58 [.slice ra rs.length rc] w (.string (str (wdR rs).1)):=by
 refine enter Tryz.func58 rfl Tryz.ntmps58 rfl (St.init _) ?_
 refine jN 20 ?_
 refine WC.loop (α:=Nat) (fun i=>i≤rs.length) (fun i=>[(0,.slice ra rs.length rc),(3,.string (str (wdR (rs.take i)).1)),(4,.int .i64 (i:Int))]) (fun _=>[]) (fun i=>rs.length - i) (0) ?_ ?_ ?_ ?_
 ·exact Nat.zero_le _
 ·exact ⟨rfl,rfl,rfl,trivial⟩
 ·rfl
 rintro i hi
 show WC _ _ _ _ _ _ _ [(0,.slice ra rs.length rc),(3,.string (str (wdR (rs.take i)).1)),(4,.int .i64 (i:Int))] []
 have hwl:=wdR_len hB i
 have hwa:=wdR_any hi
 have hi1:i*(1000000+1)≤1000*1000001:=Nat.mul_le_mul (by omega) (Nat.le_refl _)
 refine jN 13 ?_
 refine WC.cond rfl (fun h8=>?_) (fun h8=>?_)
 ·have hlt:i<rs.length:=by simpa using h8
  obtain ⟨r,hr9⟩:∃ z,rs[i]?=some z:=⟨_,List.getElem?_eq_getElem hlt⟩
  have hrm:=List.mem_of_getElem? hr9
  have hrt:=hB r hrm
  obtain ⟨b,o,rfl,hcx⟩:=hr i r hr9
  refine jN 13 ?_
  refine WC.cond rfl (fun h12=>?_) (fun h12=>?_)
  ·have hip:0<i:=by simpa using h12
   have hs:=wdR_succ hr9
   rw [hwa,decide_eq_true hip,if_pos rfl] at hs
   refine jN 4 ?_
   refine WL.addS rfl rfl rfl (by first | omega | (simp only [List.length_append,List.length_cons,List.length_nil];omega)) ?_
   refine jN 12 ?_
   refine WL.indexAddr F.sl34 rfl rfl rfl hlt ?_
   refine jN 1 ?_
   refine WL.fieldAddr F.fld93_1 rfl rfl ?_
   refine jN 1 ?_
   refine WL.load1 F.one9 rfl rfl (v:= .string (str r.x.t)) (fun w hS=>hS.oldc (hcx 1 _ rfl) (by simp)) ?_
   refine jN 1 ?_
   refine WL.addS rfl rfl rfl (by first | omega | (simp only [List.length_append,List.length_cons,List.length_nil];omega)) ?_
   refine jN 13 ?_
   refine WQ.back (i+1:Nat) ?_ ?_ ?_ ?_
   ·exact hlt
   ·show rs.length - (i+1)<rs.length - i;omega
   ·rw [hs];exact ⟨rfl,rfl,rfl,trivial⟩
   rfl
  have hip: ¬ 0<i:=by simpa using h12
  have hs:=wdR_succ hr9
  rw [hwa,decide_eq_false hip,if_neg (by decide)] at hs
  have h0:i=0:=by omega
  refine jN 10 ?_
  refine WL.indexAddr F.sl34 rfl rfl rfl hlt ?_
  refine jN 1 ?_
  refine WL.fieldAddr F.fld93_1 rfl rfl ?_
  refine jN 1 ?_
  refine WL.load1 F.one9 rfl rfl (v:= .string (str r.x.t)) (fun w hS=>hS.oldc (hcx 1 _ rfl) (by simp)) ?_
  refine jN 1 ?_
  refine WL.addS rfl rfl rfl (by first | omega | (simp only [List.length_append,List.length_cons,List.length_nil];omega)) ?_
  refine jN 13 ?_
  refine WQ.back (i+1:Nat) ?_ ?_ ?_ ?_
  ·exact hlt
  ·show rs.length - (i+1)<rs.length - i;omega
  ·rw [hs,h0];exact ⟨rfl,rfl,rfl,trivial⟩
  rfl
 have hie:i=rs.length:=by simp at h8;omega
 subst hie
 rw [List.take_length]
 refine jN 14 ?_
 exact WQ.ret (rs:=[.tmp 2]) rfl (.tmp rfl .nil) (fun w hS=>⟨rfl,hS⟩)
end Go.Proofs.YtedbajbgnmaakaaGreatDoor
namespace Go.X
open Go Go.Eng
inductive Tq (β:Type) where
 | lf
 | nd (l:Tq β) (v:Option β) (r:Tq β)
namespace Tq
variable {β : Type}
noncomputable def bitsF (f:Nat):Nat→List Bool:=Nat.rec (fun _=>[]) (fun _ ih k=>Bool.rec (Nat.beq (Nat.mod k 2) 0::ih (Nat.div k 2)) [] (Nat.beq k 0)) f
noncomputable def bits (k:Nat):List Bool:=bitsF k k
theorem beq0 (k:Nat):Nat.beq k 0=decide (k=0):=by cases k<;>rfl
theorem bitsF_succ (f k:Nat):bitsF (f+1) k=if k=0 then [] else decide (k % 2=0)::bitsF f (k / 2):=by
 show @Bool.rec (fun _=>List Bool) (Nat.beq (k % 2) 0::bitsF f (k / 2)) [] (Nat.beq k 0)=_
 rw [beq0 k,beq0 (k % 2)]
 by_cases h:k=0
 ·subst h;rfl
 rw [decide_eq_false h,if_neg h]
theorem bitsF_eq :∀ (f g k:Nat),k≤f→k≤g→bitsF f k=bitsF g k
 | 0,0,k,_,_=>rfl
 | 0,g+1,k,h,_=>by
  have:k=0:=Nat.le_zero.1 h
  subst this;rw [bitsF_succ,if_pos rfl];rfl
 | f+1,0,k,_,h=>by
  have:k=0:=Nat.le_zero.1 h
  subst this;rw [bitsF_succ,if_pos rfl];rfl
 | f+1,g+1,k,h1,h2=>by
  rw [bitsF_succ,bitsF_succ]
  by_cases h:k=0
  ·rw [if_pos h,if_pos h]
  ·rw [if_neg h,if_neg h,bitsF_eq f g (k / 2) (by omega) (by omega)]
theorem bits_pos {k:Nat} (h:k≠0):bits k=decide (k % 2=0)::bits (k / 2):=by
 obtain ⟨f,rfl⟩:∃ f,k=f+1:=⟨k - 1,by omega⟩
 show bitsF (f+1) (f+1)=_
 rw [bitsF_succ,if_neg h,bitsF_eq f ((f+1) / 2) _ (by omega) (Nat.le_refl _)]
 rfl
noncomputable def getB (t:Tq β):List Bool→Option β:=Tq.rec (fun _=>none) (fun _ v _ gl gr p=>List.rec v (fun b r _=>Bool.rec (gr r) (gl r) b) p) t
noncomputable def get (t:Tq β) (k:Nat):Option β:=getB t (bits k)
noncomputable def oneB (x:β) (p:List Bool):Tq β:=List.rec (.nd .lf (some x) .lf) (fun b _ ih=>Bool.rec (.nd .lf none ih) (.nd ih none .lf) b) p
noncomputable def one (f:Nat) (x:β) (k:Nat):Tq β:=oneB x (bits k)
noncomputable def setB (t:Tq β) (x:β):List Bool→Tq β:=Tq.rec (fun p=>oneB x p) (fun l v r sl sr p=>List.rec (.nd l (some x) r) (fun b q _=>Bool.rec (.nd l v (sr q)) (.nd (sl q) v r) b) p) t
noncomputable def set (t:Tq β) (x:β) (k:Nat):Tq β:=setB t x (bits k)
theorem get_lf (k:Nat):(Tq.lf:Tq β).get k=none:=rfl
theorem get_nd (l r:Tq β) (v:Option β) (k:Nat):(Tq.nd l v r).get k=if k=0 then v else if k % 2=0 then l.get (k / 2) else r.get (k / 2):=by
 unfold get
 by_cases h:k=0
 ·subst h;rfl
 rw [if_neg h,bits_pos h]
 by_cases h2:k % 2=0
 ·rw [decide_eq_true h2,if_pos h2];rfl
 rw [decide_eq_false h2,if_neg h2];rfl
theorem set_lf (x:β) (k:Nat):(Tq.lf:Tq β).set x k=one 40 x k:=rfl
theorem one_zero (f:Nat) (x:β):one f x 0= .nd .lf (some x) .lf:=rfl
theorem one_succ (f:Nat) (x:β) (k:Nat):one (f+1) x k=if k=0 then .nd .lf (some x) .lf else if k % 2=0 then .nd (one f x (k / 2)) none .lf else .nd .lf none (one f x (k / 2)):=by
 unfold one
 by_cases h:k=0
 ·subst h;rfl
 rw [if_neg h,bits_pos h]
 by_cases h2:k % 2=0
 ·rw [decide_eq_true h2,if_pos h2];rfl
 rw [decide_eq_false h2,if_neg h2];rfl
theorem set_nd (l r:Tq β) (v:Option β) (x:β) (k:Nat):(Tq.nd l v r).set x k=if k=0 then .nd l (some x) r else if k % 2=0 then .nd (l.set x (k / 2)) v r else .nd l v (r.set x (k / 2)):=by
 unfold set
 by_cases h:k=0
 ·subst h;rfl
 rw [if_neg h,bits_pos h]
 by_cases h2:k % 2=0
 ·rw [decide_eq_true h2,if_pos h2];rfl
 rw [decide_eq_false h2,if_neg h2];rfl
theorem get_one :∀ (f:Nat) (x:β) (k j:Nat),k<2 ^ f→(one f x k).get j=if j=k then some x else none
 | 0,x,k,j,h=>by
  have:k=0:=by simpa using h
  subst this
  rw [one_zero,get_nd];simp only [get_lf]
  by_cases hj:j=0<;>simp [hj]
 | f+1,x,k,j,h=>by
  rw [one_succ]
  rw [Nat.pow_succ] at h
  have ih:=get_one f x (k / 2)
  by_cases hk:k=0
  ·subst hk
   rw [if_pos rfl,get_nd];simp only [get_lf]
   split<;>simp_all
  ·rw [if_neg hk]
   by_cases h2:k % 2=0
   ·rw [if_pos h2,get_nd,ih (j / 2) (by omega)];simp only [get_lf]
    by_cases hj:j=0
    ·subst hj;rw [if_pos rfl,if_neg (Ne.symm hk)]
    ·rw [if_neg hj]
     by_cases hj2:j % 2=0
     ·rw [if_pos hj2]
      by_cases he:j=k
      ·subst he;rw [if_pos rfl,if_pos rfl]
      ·rw [if_neg he,if_neg (by omega)]
     ·rw [if_neg hj2,if_neg (by intro e;subst e;exact hj2 h2)]
   ·rw [if_neg h2,get_nd,ih (j / 2) (by omega)];simp only [get_lf]
    by_cases hj:j=0
    ·subst hj;rw [if_pos rfl,if_neg (Ne.symm hk)]
    ·rw [if_neg hj]
     by_cases hj2:j % 2=0
     ·rw [if_pos hj2,if_neg (by intro e;subst e;exact h2 hj2)]
     ·rw [if_neg hj2]
      by_cases he:j=k
      ·subst he;rw [if_pos rfl,if_pos rfl]
      ·rw [if_neg he,if_neg (by omega)]
theorem get_set :∀ (t:Tq β) (x:β) (k j:Nat),k<2 ^ 40→(t.set x k).get j=if j=k then some x else t.get j
 | .lf,x,k,j,h=>by rw [set_lf,get_one 40 x k j h];rfl
 | .nd l v r,x,k,j,h=>by
  rw [set_nd,get_nd]
  have il:=get_set l x (k / 2)
  have ir:=get_set r x (k / 2)
  by_cases hk:k=0
  ·subst hk
   rw [if_pos rfl,get_nd]
   by_cases hj:j=0
   ·subst hj;rw [if_pos rfl,if_pos rfl]
   ·rw [if_neg hj,if_neg hj,if_neg hj]
  ·rw [if_neg hk]
   by_cases h2:k % 2=0
   ·rw [if_pos h2,get_nd,il (j / 2) (by omega)]
    by_cases hj:j=0
    ·subst hj;rw [if_pos rfl,if_neg (Ne.symm hk),if_pos rfl]
    ·rw [if_neg hj,if_neg hj]
     by_cases hj2:j % 2=0
     ·rw [if_pos hj2,if_pos hj2]
      by_cases he:j=k
      ·subst he;rw [if_pos rfl,if_pos rfl]
      ·rw [if_neg he,if_neg (by omega)]
     ·rw [if_neg hj2,if_neg hj2,if_neg (by intro e;subst e;exact hj2 h2)]
   ·rw [if_neg h2,get_nd,ir (j / 2) (by omega)]
    by_cases hj:j=0
    ·subst hj;rw [if_pos rfl,if_neg (Ne.symm hk),if_pos rfl]
    ·rw [if_neg hj,if_neg hj]
     by_cases hj2:j % 2=0
     ·rw [if_pos hj2,if_pos hj2,if_neg (by intro e;subst e;exact h2 hj2)]
     ·rw [if_neg hj2,if_neg hj2]
      by_cases he:j=k
      ·subst he;rw [if_pos rfl,if_pos rfl]
      ·rw [if_neg he,if_neg (by omega)]
end Tq
inductive D8 where
 | d0 | d1 | d2 | d3 | d4 | d5 | d6 | d7
structure P8 (α:Type) where
 (a0 a1 a2 a3 a4 a5 a6 a7:α)
def up0 {α:Type} (U:α→α) (t:P8 α):P8 α:=⟨U t.a0,t.a1,t.a2,t.a3,t.a4,t.a5,t.a6,t.a7⟩
def up1 {α:Type} (U:α→α) (t:P8 α):P8 α:=⟨t.a0,U t.a1,t.a2,t.a3,t.a4,t.a5,t.a6,t.a7⟩
def up2 {α:Type} (U:α→α) (t:P8 α):P8 α:=⟨t.a0,t.a1,U t.a2,t.a3,t.a4,t.a5,t.a6,t.a7⟩
def up3 {α:Type} (U:α→α) (t:P8 α):P8 α:=⟨t.a0,t.a1,t.a2,U t.a3,t.a4,t.a5,t.a6,t.a7⟩
def up4 {α:Type} (U:α→α) (t:P8 α):P8 α:=⟨t.a0,t.a1,t.a2,t.a3,U t.a4,t.a5,t.a6,t.a7⟩
def up5 {α:Type} (U:α→α) (t:P8 α):P8 α:=⟨t.a0,t.a1,t.a2,t.a3,t.a4,U t.a5,t.a6,t.a7⟩
def up6 {α:Type} (U:α→α) (t:P8 α):P8 α:=⟨t.a0,t.a1,t.a2,t.a3,t.a4,t.a5,U t.a6,t.a7⟩
def up7 {α:Type} (U:α→α) (t:P8 α):P8 α:=⟨t.a0,t.a1,t.a2,t.a3,t.a4,t.a5,t.a6,U t.a7⟩
def toN :D8→Nat
 | .d0=>0
 | .d1=>1
 | .d2=>2
 | .d3=>3
 | .d4=>4
 | .d5=>5
 | .d6=>6
 | .d7=>7
noncomputable def toD (n:Nat):D8:= @Bool.rec (fun _=>D8)
 (@Bool.rec (fun _=>D8) (@Bool.rec (fun _=>D8) .d7 .d6 (Nat.ble n 6)) (@Bool.rec (fun _=>D8) .d5 .d4 (Nat.ble n 4)) (Nat.ble n 5))
 (@Bool.rec (fun _=>D8) (@Bool.rec (fun _=>D8) .d3 .d2 (Nat.ble n 2)) (@Bool.rec (fun _=>D8) .d1 .d0 (Nat.ble n 0)) (Nat.ble n 1)) (Nat.ble n 3)
theorem toN_toD :∀ {n:Nat},n<8→toN (toD n)=n
 | 0,_=>rfl
 | 1,_=>rfl
 | 2,_=>rfl
 | 3,_=>rfl
 | 4,_=>rfl
 | 5,_=>rfl
 | 6,_=>rfl
 | 7,_=>rfl
 | n+8,h=>by omega
noncomputable def dg (m k:Nat):D8:=toD (Nat.mod (Nat.div k m) 8)
theorem dg_eq {m j k:Nat}:dg m j=dg m k↔j / m % 8=k / m % 8:=by
 constructor
 ·intro h
  have this:toN (toD (j / m % 8))=toN (toD (k / m % 8)):=congrArg toN h
  rwa [toN_toD (Nat.mod_lt _ (by omega)),toN_toD (Nat.mod_lt _ (by omega))] at this
 intro h
 unfold dg
 exact congrArg toD h
noncomputable def sel8 {α:Type} (d:D8):P8 α→α:= @D8.rec (fun _=>P8 α→α) (@P8.a0 α) (@P8.a1 α) (@P8.a2 α) (@P8.a3 α) (@P8.a4 α) (@P8.a5 α) (@P8.a6 α) (@P8.a7 α) d
noncomputable def put8 {α:Type} (d:D8):(α→α)→P8 α→P8 α:= @D8.rec (fun _=>(α→α)→P8 α→P8 α) (@up0 α) (@up1 α) (@up2 α) (@up3 α) (@up4 α) (@up5 α) (@up6 α) (@up7 α) d
theorem sel_put {α:Type} (d e:D8) (U:α→α) (t:P8 α):(d=e→sel8 d (put8 e U t)=U (sel8 d t))∧(d≠e→sel8 d (put8 e U t)=sel8 d t):=by
 constructor
 ·rintro rfl;cases d<;>rfl
 intro h;cases d<;>cases e<;>first | rfl | exact absurd rfl h
def Fx (L:Type):Nat→Type
 | 0=>L
 | n+1=>P8 (Fx L n)
section
variable {L : Type}
noncomputable def leafN (m:Nat):(n:Nat)→Fx L n→Nat→L
 | 0,t,_=>t
 | n+1,t,k=>leafN (m*8) n (@sel8 (Fx L n) (dg m k) t) k
noncomputable def updN (f:L→L) (m:Nat):(n:Nat)→Nat→Fx L n→Fx L n
 | 0,_=>f
 | n+1,k=> @put8 (Fx L n) (dg m k) (updN f (m*8) n k)
def allN (x:L):(n:Nat)→Fx L n
 | 0=>x
 | n+1=>(⟨allN x n,allN x n,allN x n,allN x n,allN x n,allN x n,allN x n,allN x n⟩:P8 (Fx L n))
def zip8 {α:Type} (f:α→α→α) (t u:P8 α):P8 α:=⟨f t.a0 u.a0,f t.a1 u.a1,f t.a2 u.a2,f t.a3 u.a3,f t.a4 u.a4,f t.a5 u.a5,f t.a6 u.a6,f t.a7 u.a7⟩
def zipN (f:L→L→L):(n:Nat)→Fx L n→Fx L n→Fx L n
 | 0,t,u=>f t u
 | n+1,t,u=> @zip8 (Fx L n) (zipN f n) t u
theorem leaf_all (x:L):∀ (n m k:Nat),leafN m n (allN x n) k=x
 | 0,_,_=>rfl
 | n+1,m,k=>by
  show leafN (m*8) n (@sel8 (Fx L n) (dg m k) (⟨allN x n,allN x n,allN x n,allN x n,allN x n,allN x n,allN x n,allN x n⟩:P8 (Fx L n))) k=x
  have e: @sel8 (Fx L n) (dg m k) (⟨allN x n,allN x n,allN x n,allN x n,allN x n,allN x n,allN x n,allN x n⟩:P8 (Fx L n))=allN x n:=by cases dg m k<;>rfl
  rw [e];exact leaf_all x n _ _
theorem leaf_zip (f:L→L→L):∀ (n m:Nat) (t u:Fx L n) (k:Nat),leafN m n (zipN f n t u) k=f (leafN m n t k) (leafN m n u k)
 | 0,_,_,_,_=>rfl
 | n+1,m,t,u,k=>by
  show leafN (m*8) n (@sel8 (Fx L n) (dg m k) (@zip8 (Fx L n) (zipN f n) t u)) k=f (leafN (m*8) n (@sel8 (Fx L n) (dg m k) t) k) (leafN (m*8) n (@sel8 (Fx L n) (dg m k) u) k)
  have e: @sel8 (Fx L n) (dg m k) (@zip8 (Fx L n) (zipN f n) t u)=zipN f n (@sel8 (Fx L n) (dg m k) t) (@sel8 (Fx L n) (dg m k) u):=by cases dg m k<;>rfl
  rw [e];exact leaf_zip f n _ _ _ _
theorem mod_eight (n a b:Nat):(a % 8 ^ (n+1)=b % 8 ^ (n+1))↔(a % 8=b % 8∧a / 8 % 8 ^ n=b / 8 % 8 ^ n):=by
 have h:=fun x:Nat=>show x % 8 ^ (n+1)=x % 8+8*(x / 8 % 8 ^ n) by rw [Nat.pow_succ,Nat.mul_comm,Nat.mod_mul]
 rw [h a,h b]
 omega
theorem leaf_upd (f:L→L):∀ (n m:Nat) (t:Fx L n) (k j:Nat),leafN m n (updN f m n k t) j=if j / m % 8 ^ n=k / m % 8 ^ n then f (leafN m n t j) else leafN m n t j
 | 0,m,t,k,j=>by simp [Nat.mod_one];rfl
 | n+1,m,t,k,j=>by
  have hd:∀ x,x / (m*8)=x / m / 8:=fun x=>(Nat.div_div_eq_div_mul x m 8).symm
  show leafN (m*8) n (@sel8 (Fx L n) (dg m j) (@put8 (Fx L n) (dg m k) (updN f (m*8) n k) t)) j=if j / m % 8 ^ (n+1)=k / m % 8 ^ (n+1) then f (leafN (m*8) n (@sel8 (Fx L n) (dg m j) t) j) else leafN (m*8) n (@sel8 (Fx L n) (dg m j) t) j
  obtain ⟨h1,h2⟩:= @sel_put (Fx L n) (dg m j) (dg m k) (updN f (m*8) n k) t
  by_cases hj:j / m % 8=k / m % 8
  ·rw [h1 (dg_eq.2 hj),leaf_upd f n (m*8),hd,hd]
   by_cases he:j / m / 8 % 8 ^ n=k / m / 8 % 8 ^ n
   ·rw [if_pos he,if_pos ((mod_eight ..).2 ⟨hj,he⟩)]
   ·rw [if_neg he,if_neg (fun h=>he ((mod_eight ..).1 h).2)]
  ·rw [h2 (fun h=>hj (dg_eq.1 h)),if_neg (fun h=>hj ((mod_eight ..).1 h).1)]
theorem ble_lt (k m:Nat):Nat.ble k m=decide (k<m+1):=by
 by_cases h:k<m+1
 ·rw [decide_eq_true h];exact Nat.ble_eq_true_of_le (by omega)
 rw [decide_eq_false h]
 cases hb:Nat.ble k m with
 | false=>rfl
 | true=>exact absurd (Nat.le_of_ble_eq_true hb) (by omega)
end
def fam (c:Nat→Option Chunk):Chunk where
 fp k:=∃ s x,c s=some x∧x.fp k
 ok w:=(∀ s x,c s=some x→x.ok w)∧∀ s t x y,c s=some x→c t=some y→s≠t→∀ k,x.fp k→ ¬ y.fp k
 loc w w' h hw:=⟨fun s x hs=>x.loc w w' (fun k hk=>h k ⟨s,x,hs,hk⟩) (hw.1 s x hs),hw.2⟩
section
variable {w0 w : World} {O : List Nat} {C : List Chunk} {c : Nat → Option Chunk}
theorem fam_get (h:St w0 O (fam c::C) w) {s:Nat} {x:Chunk} (hs:c s=some x):x.ok w:=(h.ok _ (List.mem_cons_self ..)).1 s x hs
theorem fam_split (h:St w0 O (fam c::C) w) {s:Nat} {x:Chunk} (hs:c s=some x):St w0 O (x::fam (fun t=>if t=s then none else c t)::C) w:=by
 have hf:=h.ok _ (List.mem_cons_self ..)
 have hd:=List.pairwise_cons.1 h.disj
 refine ⟨h.os,h.tape,h.output,h.size,h.old,fun y hy=>?_,fun y hy k hk=>?_,?_⟩
 ·rcases List.mem_cons.1 hy with rfl | hy
  ·exact hf.1 s _ hs
  rcases List.mem_cons.1 hy with rfl | hy
  ·refine ⟨fun t z ht=>?_,fun t u y z ht hu hne=>?_⟩
   ·dsimp only at ht;split at ht
    ·cases ht
    exact hf.1 t z ht
   dsimp only at ht hu
   split at ht
   ·cases ht
   split at hu
   ·cases hu
   exact hf.2 t u y z ht hu hne
  exact h.ok y (List.mem_cons_of_mem _ hy)
 ·rcases List.mem_cons.1 hy with rfl | hy
  ·exact h.bnd _ (List.mem_cons_self ..) k ⟨s,_,hs,hk⟩
  rcases List.mem_cons.1 hy with rfl | hy
  ·obtain ⟨t,z,ht,hz⟩:=hk
   dsimp only at ht;split at ht
   ·cases ht
   exact h.bnd _ (List.mem_cons_self ..) k ⟨t,z,ht,hz⟩
  exact h.bnd y (List.mem_cons_of_mem _ hy) k hk
 refine List.pairwise_cons.2 ⟨fun y hy k hk=>?_,List.pairwise_cons.2 ⟨fun y hy k hk=>?_,hd.2⟩⟩
 ·rcases List.mem_cons.1 hy with rfl | hy
  ·rintro ⟨t,z,ht,hz⟩
   dsimp only at ht;split at ht
   ·cases ht
   rename_i hne
   exact hf.2 s t x z hs ht (Ne.symm hne) k hk hz
  exact hd.1 y hy k ⟨s,x,hs,hk⟩
 obtain ⟨t,z,ht,hz⟩:=hk
 dsimp only at ht;split at ht
 ·cases ht
 exact hd.1 y hy k ⟨t,z,ht,hz⟩
theorem fam_join {s:Nat} {x:Chunk} (hs:c s=none) (h:St w0 O (x::fam c::C) w):St w0 O (fam (fun t=>if t=s then some x else c t)::C) w:=by
 have hx:=h.ok x (List.mem_cons_self ..)
 have hf:=h.ok _ (List.mem_cons_of_mem _ (List.mem_cons_self ..))
 obtain ⟨hd1,hd2⟩:=List.pairwise_cons.1 h.disj
 obtain ⟨hd3,hd4⟩:=List.pairwise_cons.1 hd2
 have hap:=hd1 _ (List.mem_cons_self ..)
 refine ⟨h.os,h.tape,h.output,h.size,h.old,fun y hy=>?_,fun y hy k hk=>?_,?_⟩
 ·rcases List.mem_cons.1 hy with rfl | hy
  ·refine ⟨fun t z ht=>?_,fun t u y z ht hu hne k hky hkz=>?_⟩
   ·dsimp only at ht;split at ht
    ·cases ht;exact hx
    exact hf.1 t z ht
   dsimp only at ht hu
   split at ht
   ·cases ht
    split at hu
    ·rename_i e1 e2;exact hne (e1.trans e2.symm)
    exact hap k hky ⟨u,z,hu,hkz⟩
   split at hu
   ·cases hu;exact hap k hkz ⟨t,y,ht,hky⟩
   exact hf.2 t u y z ht hu hne k hky hkz
  exact h.ok y (List.mem_cons_of_mem _ (List.mem_cons_of_mem _ hy))
 ·rcases List.mem_cons.1 hy with rfl | hy
  ·obtain ⟨t,z,ht,hz⟩:=hk
   dsimp only at ht;split at ht
   ·cases ht;exact h.bnd _ (List.mem_cons_self ..) k hz
   exact h.bnd _ (List.mem_cons_of_mem _ (List.mem_cons_self ..)) k ⟨t,z,ht,hz⟩
  exact h.bnd y (List.mem_cons_of_mem _ (List.mem_cons_of_mem _ hy)) k hk
 refine List.pairwise_cons.2 ⟨fun y hy k hk=>?_,hd4⟩
 obtain ⟨t,z,ht,hz⟩:=hk
 dsimp only at ht;split at ht
 ·cases ht;exact hd1 y (List.mem_cons_of_mem _ hy) k hz
 exact hd3 y hy k ⟨t,z,ht,hz⟩
theorem fam_eq {c d:Nat→Option Chunk} (h:∀ s,c s=d s) (hS:St w0 O (fam c::C) w):St w0 O (fam d::C) w:=by
 rw [← show c=d from funext h];exact hS
end
end Go.X
namespace Go.Proofs.YtedbajbgnmaakaaGreatDoor
open Go Go.Eng Go.Proofs Dg
structure RpV where
 w:List UInt8
 c:List Nat
 ca:Option Addr
 cc:Nat
abbrev rpC (y:RpV):List Value:=[.string (str y.w),.slice y.ca y.c.length y.cc]
theorem rpC_one (x:RpV):∀ u∈rpC x,u.oneCell'=true:=by intro u hu;simp [rpC] at hu;rcases hu with h | h<;>subst h<;>rfl
abbrev rpW (y:RpV):Chunk:=rowc (.slice y.ca y.c.length y.cc) y.c.length 24 1 (y.c.flatMap nC)
abbrev rpF (o:List RpV):Chunk:=Go.X.fam fun t=>(o[t]?).map rpW
abbrev rpH (o:List RpV) (k:Nat):Chunk:=Go.X.fam fun t=>if t=k then none else (o[t]?).map rpW
abbrev rpK (y:RpV):List UInt8×List Nat:=(y.w,y.c)
section
variable {w0 w : World} {O : List Nat} {C : List Chunk} {o : List RpV} {k : Nat} {y z : RpV}
theorem rpF_nil (h:St w0 O C w):St w0 O (rpF []::C) w:=
 ⟨h.os,h.tape,h.output,h.size,h.old,fun c hc=>by
  rcases List.mem_cons.1 hc with rfl | hc
  ·exact ⟨fun s x hx=>by simp at hx,fun s t x y hx=>by simp at hx⟩
  ·exact h.ok c hc,fun c hc k hk=>by
  rcases List.mem_cons.1 hc with rfl | hc
  ·obtain ⟨s,x,hx,_⟩:=hk;simp at hx
  ·exact h.bnd c hc k hk,List.Pairwise.cons (fun _ _ _ hk=>by obtain ⟨s,x,hx,_⟩:=hk;simp at hx) h.disj⟩
theorem rpF_open (h:St w0 O (rpF o::C) w) (hy:o[k]?=some y):St w0 O (rpW y::rpH o k::C) w:=Go.X.fam_split h (by rw [hy];rfl)
theorem rpF_close (hk:k<o.length) (h:St w0 O (rpW z::rpH o k::C) w):St w0 O (rpF (o.set k z)::C) w:=by
 refine Go.X.fam_eq (fun t=>?_) (Go.X.fam_join (s:=k) (by rw [if_pos rfl]) h)
 by_cases ht:t=k
 ·subst ht
  rw [if_pos rfl,List.getElem?_set_self hk];rfl
 rw [if_neg ht,if_neg ht,List.getElem?_set_ne (Ne.symm ht)]
theorem rpF_snoc (h:St w0 O (rpW z::rpF o::C) w):St w0 O (rpF (o++[z])::C) w:=by
 refine Go.X.fam_eq (fun t=>?_) (Go.X.fam_join (s:=o.length) (by simp) h)
 by_cases ht:t=o.length
 ·subst ht
  rw [if_pos rfl];simp
 rw [if_neg ht]
 by_cases h2:t<o.length
 ·rw [List.getElem?_append_left h2]
 rw [List.getElem?_append_right (by omega),List.getElem?_eq_none (by omega),List.getElem?_eq_none (by simp;omega)]
end
def grp1 (w:List UInt8) (n:Nat):List (List UInt8×List Nat)→List (List UInt8×List Nat)
 | []=>[(w,[n])]
 | (v,l)::r=>if v=w then (v,l++[n])::r else (v,l)::grp1 w n r
def grpN (f:Nat→List UInt8) (d:List Nat):List (List UInt8×List Nat):=d.foldl (fun o n=>grp1 (f n) n o) []
theorem grpN_succ {f:Nat→List UInt8} {d:List Nat} {i n:Nat} (h:d[i]?=some n):grpN f (d.take (i+1))=grp1 (f n) n (grpN f (d.take i)):=by
 unfold grpN
 rw [List.take_add_one,h,Option.toList_some,List.foldl_append]
 rfl
theorem grp1_new {w:List UInt8} {n:Nat}:∀ {o:List RpV},(∀ y∈o,y.w≠w)→grp1 w n (o.map rpK)=o.map rpK++[(w,[n])]
 | [],_=>rfl
 | y::o,h=>by
  show (if y.w=w then _ else _::grp1 w n (o.map rpK))=_
  rw [if_neg (h y (List.mem_cons_self ..)),grp1_new fun z hz=>h z (List.mem_cons_of_mem _ hz)]
  rfl
theorem grp1_old {w:List UInt8} {n:Nat} {ca:Option Addr} {cc:Nat}:∀ {o:List RpV} {k:Nat} {y:RpV},o[k]?=some y→y.w=w→(∀ z∈o.take k,z.w≠w)→grp1 w n (o.map rpK)=(o.set k ⟨y.w,y.c++[n],ca,cc⟩).map rpK
 | [],k,y,h,_,_=>by simp at h
 | x::o,0,y,h,hw,_=>by
  simp at h
  subst h
  show (if x.w=w then _ else _)=_
  rw [if_pos hw]
  rfl
 | x::o,k+1,y,h,hw,hn=>by
  show (if x.w=w then _ else _::grp1 w n (o.map rpK))=_
  rw [if_neg (hn x (by simp)),grp1_old (k:=k) (by simpa using h) hw (fun z hz=>hn z (by rw [List.take_succ_cons];exact List.mem_cons_of_mem _ hz))]
  rfl
structure RpG where
 i:Nat
 o:List RpV
 a:Option Addr
 c:Nat
theorem grp1_len {w:List UInt8} {n:Nat}:∀ {o:List (List UInt8×List Nat)},(grp1 w n o).length≤o.length+1
 | []=>Nat.le_refl _
 | (v,l)::r=>by
  unfold grp1
  split
  ·simp
  ·have:=grp1_len (w:=w) (n:=n) (o:=r);simp;omega
theorem grpN_len {f:Nat→List UInt8} {d:List Nat}:∀ i,(grpN f (d.take i)).length≤i
 | 0=>Nat.le_refl _
 | i+1=>by
  have ih:=grpN_len (f:=f) (d:=d) i
  cases h:d[i]? with
  | none=>
   have e:d.take (i+1)=d.take i:=by rw [List.take_add_one,h];simp
   rw [e];omega
  | some n=>rw [grpN_succ h];have:=grp1_len (w:=f n) (n:=n) (o:=grpN f (d.take i));omega
theorem grp1_in {w:List UInt8} {n B:Nat}:∀ {o:List (List UInt8×List Nat)},(∀ p∈o,p.2.length≤B)→∀ p∈grp1 w n o,p.2.length≤B+1
 | [],_,p,hp=>by
  have hp:p=(w,[n]):=List.mem_singleton.1 hp
  rw [hp];simp
 | (v,l)::r,h,p,hp=>by
  have h0:=h (v,l) (List.mem_cons_self ..)
  unfold grp1 at hp
  split at hp
  ·rcases List.mem_cons.1 hp with rfl | hp
   ·simp only [List.length_append,List.length_cons,List.length_nil];simp only at h0;omega
   ·have:=h p (List.mem_cons_of_mem _ hp);omega
  ·rcases List.mem_cons.1 hp with rfl | hp
   ·simp only at h0 ⊢;omega
   ·exact grp1_in (fun q hq=>h q (List.mem_cons_of_mem _ hq)) p hp
theorem grpN_in {f:Nat→List UInt8} {d:List Nat}:∀ i,∀ p∈grpN f (d.take i),p.2.length≤i
 | 0,p,hp=>by cases hp
 | i+1,p,hp=>by
  have ih:=grpN_in (f:=f) (d:=d) i
  cases h:d[i]? with
  | none=>
   have e:d.take (i+1)=d.take i:=by rw [List.take_add_one,h];simp
   rw [e] at hp
   exact Nat.le_succ_of_le (ih p hp)
  | some n=>rw [grpN_succ h] at hp;exact grp1_in ih p hp
theorem take_ne {o:List RpV} {k:Nat} {y:RpV} {w:List UInt8} (hy:o[k]?=some y) (h:∀ z∈o.take k,z.w≠w) (hne:y.w≠w):∀ z∈o.take (k+1),z.w≠w:=fun z hz=>by
 rw [List.take_add_one,hy] at hz
 rcases List.mem_append.1 hz with hz | hz
 ·exact h z hz
 ·simp at hz;rw [hz];exact hne
open Go Go.Eng Go.Proofs Dg
theorem rp_set {y:RpV} {n:Nat} {a9:Option Addr} {c9:Nat}:SetN (rpC y) 1 [.slice a9 (y.c.length+1) c9] (rpC ⟨y.w,y.c++[n],a9,c9⟩):=by
 show SetN [_,_] 1 [_] [_,.slice a9 (y.c++[n]).length c9]
 rw [List.length_append]
 repeat constructor
set_option maxRecDepth 100000 in
theorem rProducts_c (rs:List RtV) (hl:rs.length≤1000) (ra:Option Addr) (rc:Nat) (d:List Nat) (hdl:d.length≤1000) (da:Option Addr) (dc:Nat) (w:World) (hr:RdSl rtC 6 w rs ra) (hB:∀ t∈rs,t.x.t.length≤1000000) (hc:∀ t∈rs,RdN w t.c t.ca∧t.c.length≤1000000000000000) (hd:RdN w d da):
  Calls Tryz.prog 19 [.slice ra rs.length rc,.slice da d.length dc].toArray w fun e w'=>∃ x:RpG,x.o.map rpK=grpN (fun n=>(wdR (ofR n rs)).1) d∧e= .returned (.slice x.a x.o.length x.c)∧St w [] [rowc (.slice x.a (x.o).length x.c) (x.o).length 69 2 ((x.o).flatMap rpC),rpF x.o] w':=by
 refine enter Tryz.func19 rfl Tryz.ntmps19 rfl (St.init _) ?_
 refine jN 20 ?_
 refine WC.chunks (C':=[rowc (.slice none 0 0) 0 69 2 [],rpF []]) (fun w hS=>(jK (St.rowNil (rpF_nil hS) 69 2))) ?_
 refine WC.loop (α:=RpG) (fun g=>g.i≤d.length∧g.o.map rpK=grpN (fun n=>(wdR (ofR n rs)).1) (d.take g.i)) (fun g=>[(0,.slice ra rs.length rc),(1,.slice da d.length dc),(5,.slice g.a (g.o).length g.c),(6,.int .i64 (g.i:Int))]) (fun g=>[rowc (.slice g.a (g.o).length g.c) (g.o).length 69 2 ((g.o).flatMap rpC),rpF g.o]) (fun g=>d.length - g.i) (⟨0,[],none,0⟩) ?_ ?_ ?_ ?_
 ·exact ⟨Nat.zero_le _,rfl⟩
 ·exact ⟨rfl,rfl,rfl,rfl,trivial⟩
 ·rfl
 rintro ⟨i,o,a,c⟩ ⟨hi,ho⟩
 dsimp only at hi ho
 show WC _ _ _ _ _ _ _ [(0,.slice ra rs.length rc),(1,.slice da d.length dc),(5,.slice a (o).length c),(6,.int .i64 (i:Int))] [rowc (.slice a (o).length c) (o).length 69 2 ((o).flatMap rpC),rpF o]
 have hol:o.length≤i:=by have h9:=congrArg List.length ho;rw [List.length_map] at h9;rw [h9];exact grpN_len i
 refine jN 13 ?_
 refine WC.cond rfl (fun h12=>?_) (fun h12=>?_)
 ·have hlt:i<d.length:=by simpa using h12
  obtain ⟨n,hn⟩:∃ z,d[i]?=some z:=⟨_,List.getElem?_eq_getElem hlt⟩
  have hnm:=List.mem_of_getElem? hn
  obtain ⟨bd,od,rfl,hcd⟩:=hd i n hn
  refine jN 13 ?_
  refine WL.indexAddr F.sl53 rfl rfl rfl hlt ?_
  refine jN 1 ?_
  refine WL.load1 F.one24 rfl rfl (v:= .int .u32 (n:Int)) (fun w hS=>hS.oldc (hcd 0 _ rfl) (by simp)) ?_
  refine jN 1 ?_
  refine WL.call0 (β:=Option Addr×Nat) (res:=fun x=> .returned (.slice x.1 (ofR n rs).length x.2)) (cs:=fun x=>[rowc (.slice x.1 (ofR n rs).length x.2) (ofR n rs).length 93 6 ((ofR n rs).flatMap rtC)]) (ψ:=fun _=>True) F.fun59 (fun d h=>by cases h;rfl) rfl (fun w hS=>(rOf6_c rs hl ra rc n w (hr.next hS) (fun t ht=>⟨(hc t ht).1.next hS,(hc t ht).2⟩)).mono (fun e w2 ⟨x,h1,h2⟩=>⟨x,trivial,h1,h2⟩)) (fun ⟨xa,xc⟩ _=>After_ret ?_)
  refine jN 1 ?_
  refine WL.callV F.fun58 rfl rfl (fun w hS=>rWords_c (ofR n rs) (Nat.le_trans (List.length_filter_le _ _) hl) xa xc w (RdSl.of_row (cells:=rtC) (fun _ _=>rfl) (fun h=>h) (Nat.le_refl _) (hS.ok (rowc (.slice xa (ofR n rs).length xc) (ofR n rs).length 93 6 ((ofR n rs).flatMap rtC)) jM)) (fun t ht=>hB t (List.mem_filter.1 ht).1)) ?_
  refine jN 12 ?_
  refine WC.chunks (C':=[rowc (.slice a (o).length c) (o).length 69 2 ((o).flatMap rpC),rpF o]) (fun w hS=>(jK hS)) ?_
  refine WC.loop (α:=Nat) (fun k=>k≤o.length∧∀ z∈o.take k,z.w≠(wdR (ofR n rs)).1) (fun k=>[(0,.slice ra rs.length rc),(1,.slice (some ⟨bd,od,none⟩) d.length dc),(5,.slice a (o).length c),(6,.int .i64 (i:Int)),(7,.string (str (wdR (ofR n rs)).1)),(8,.int .i64 (k:Int))]) (fun _=>[rowc (.slice a (o).length c) (o).length 69 2 ((o).flatMap rpC),rpF o]) (fun k=>o.length - k) (0) ?_ ?_ ?_ ?_
  ·exact ⟨Nat.zero_le _,by simp⟩
  ·exact ⟨rfl,rfl,rfl,rfl,rfl,rfl,trivial⟩
  ·rfl
  rintro k ⟨hk,hno⟩
  show WC _ _ _ _ _ _ _ [(0,.slice ra rs.length rc),(1,.slice (some ⟨bd,od,none⟩) d.length dc),(5,.slice a (o).length c),(6,.int .i64 (i:Int)),(7,.string (str (wdR (ofR n rs)).1)),(8,.int .i64 (k:Int))] [rowc (.slice a (o).length c) (o).length 69 2 ((o).flatMap rpC),rpF o]
  refine jN 2 ?_
  by_cases hkl:k<o.length
  ·obtain ⟨y,hy⟩:∃ z,o[k]?=some z:=⟨_,List.getElem?_eq_getElem hkl⟩
   have hyc:y.c.length≤i:=grpN_in i (rpK y) (by rw [← ho];exact List.mem_map_of_mem (List.mem_of_getElem? hy))
   refine WC.know (φ:=∃ g,a=some ⟨g,0,none⟩∧o.length=o.length∧o.length≤c) (fun w hS=>rowc_addr (hS.ok (rowc (.slice a (o).length c) (o).length 69 2 ((o).flatMap rpC)) jM) (by omega)) (fun ⟨g9,hg9,_,_⟩=>?_)
   subst hg9
   refine jN 11 ?_
   refine WA.splitB (i:=26) rfl (fun g26=>?_) (fun g26=>?_)
   ·refine jN 8 ?_
    refine WL.indexAddr F.sl60 rfl rfl rfl hkl ?_
    refine jN 2 ?_
    refine WL.fieldAddr F.fld69_0 rfl rfl ?_
    refine jN 2 ?_
    refine WL.load1 F.one9 rfl rfl (v:= .string (str y.w)) (fun w hS=>(by rw [Nat.zero_add];exact rowc_cells (hS.ok (jW g9 (o).length c 69 2 ((o).flatMap rpC)) jM) (flat_at (cells:=rpC) (sz:=2) (fun _ _=>rfl) hy 0 _ rfl))) ?_
    refine jN 10 ?_
    refine WC.cond rfl (fun h34=>?_) (fun h34=>?_)
    ·have hne:y.w≠(wdR (ofR n rs)).1:=by simpa using h34
     refine jN 12 ?_
     refine WQ.back (k+1:Nat) ?_ ?_ ?_ ?_
     ·exact ⟨hkl,take_ne hy hno hne⟩
     ·show o.length - (k+1)<o.length - k;omega
     ·exact ⟨rfl,rfl,rfl,rfl,rfl,rfl,trivial⟩
     rfl
    have hyw:y.w=(wdR (ofR n rs)).1:=by simpa using h34
    refine jN 18 ?_
    refine WC.cond rfl (fun h40=>?_) (fun h40=>?_)
    ·exfalso;simp at h40;omega
    refine WC.chunks (C':=[jW g9 (o).length c 69 2 ((o).flatMap rpC),rpW y,rpH o k]) (fun w hS=>by have h9:=rpF_open (k:=k) ((St.pick hS (c:=rpF o) jR)) hy;exact (jK h9)) ?_
    refine jN 2 ?_
    refine WC.draws [([12,15],fun w=>w.cell? ⟨g9,0+k*2+1,none⟩=some (.slice y.ca y.c.length y.cc)),([11,12,15],fun w=>w.cell? ⟨bd,od+i*1,none⟩=some (.int .u32 (n:Int)))] (by kernel_rfl) (fun w hS=>facts_cons ((by rw [Nat.zero_add];exact rowc_cells (hS.ok (jW g9 (o).length c 69 2 ((o).flatMap rpC)) jM) (flat_at (cells:=rpC) (sz:=2) (fun _ _=>rfl) hy 1 _ rfl))) (facts_cons (hS.oldc (hcd 0 _ rfl) (by simp)) (facts_nil))) ?_
    refine jQ [0,1,2,3] ?_
    refine jT 4 rfl (Yl.indexAddr F.sl60 rfl rfl (by omega)) ?_
    refine jT 5 rfl (Yl.fieldAddr F.fld69_1 rfl) ?_
    refine jF 6 0 rfl rfl (Yl.load1 F.one53 rfl) ?_
    refine jQ [7,8] ?_
    refine jT 9 rfl (Yl.indexAddr F.sl53 rfl rfl hlt) ?_
    refine jF 10 1 rfl rfl (Yl.load1 F.one24 rfl) ?_
    refine jA 11 rfl ?_
    refine WL.buildSlice F.sl53 F.ez53 rfl rfl rfl rfl jB rfl (fun b57=>?_)
    refine WD.on (closed_of (by decide+kernel)) (fun w hS=>Sx.keep ((by rw [Nat.zero_add];exact rowc_cells (hS.ok (jW g9 (o).length c 69 2 ((o).flatMap rpC)) jM) (flat_at (cells:=rpC) (sz:=2) (fun _ _=>rfl) hy 1 _ rfl))) (Sx.gone rfl (Sx.none))) ?_
    refine jA 12 rfl ?_
    refine WL.appendE (news:=nC n) F.el53 rfl rfl rfl jR (fun w hS jj u hu=>by rw [Nat.zero_add];exact hS.cell (cs:=nC n) jM hu) rfl jO (Nat.le_trans (m:=1000000) (by omega) (by decide)) (by omega) (fun a9 c9=>?_)
    refine jG ?_
    refine jT 13 rfl (Yl.indexAddr F.sl60 rfl rfl (by omega)) ?_
    refine jT 14 rfl (Yl.fieldAddr F.fld69_1 rfl) ?_
    refine jA 15 rfl ?_
    refine WL.storeRow1 (n:=(o).length) (xs':=((o).set k (⟨y.w,y.c++[n],a9,c9⟩:RpV)).flatMap rpC) F.one53 rfl rfl rfl jU (by rw [Nat.zero_add];exact setN_sub (cells:=rpC) (sz:=2) (off:=1) (fun _=>rfl) hy rp_set) ?_
    refine jG ?_
    refine jD ?_
    refine jN 10 ?_
    refine WQ.chunks (C':=[jW g9 (o).length c 69 2 (((o).set k (⟨y.w,y.c++[n],a9,c9⟩:RpV)).flatMap rpC),rpF ((o).set k (⟨y.w,y.c++[n],a9,c9⟩:RpV))]) (fun w hS=>?_) ?_
    ·have h8:=(St.pick (St.pick hS (c:=rpH o k) jR) (c:=rowc (.slice a9 (y.c.length+1) c9) (y.c.length+1) 24 1 (y.c.flatMap nC++nC n)) jR)
     have h9:=rpF_close (z:=(⟨y.w,y.c++[n],a9,c9⟩:RpV)) (show k<(o).length by omega) (show St _ _ (rpW (⟨y.w,y.c++[n],a9,c9⟩:RpV)::_) _ by show St _ _ (rowc (.slice a9 (y.c++[n]).length c9) (y.c++[n]).length 24 1 ((y.c++[n]).flatMap nC)::_) _;simp only [List.length_append,List.length_cons,List.length_nil,List.flatMap_append,List.flatMap_cons,List.flatMap_nil,List.append_nil];exact h8)
     exact (jK h9)
    have hsl:((o).set k (⟨y.w,y.c++[n],a9,c9⟩:RpV)).length=(o).length:=List.length_set
    refine WQ.back (⟨i+1,(o).set k (⟨y.w,y.c++[n],a9,c9⟩:RpV),some ⟨g9,0,none⟩,c⟩:RpG) ?_ ?_ ?_ ?_
    ·exact ⟨hlt,by (show ((o).set k (⟨y.w,y.c++[n],a9,c9⟩:RpV)).map rpK=grpN (fun n=>(wdR (ofR n rs)).1) (d.take (i+1));rw [grpN_succ hn,← ho,grp1_old hy hyw hno])⟩
    ·show d.length - (i+1)<d.length - i;omega
    ·dsimp only;simp only [hsl];exact ⟨rfl,rfl,rfl,rfl,trivial⟩
    dsimp only;rw [hsl]
   exfalso;simp at g26;omega
  have hke:k=o.length:=by omega
  subst hke
  rw [List.take_length] at hno
  refine jN 11 ?_
  refine WA.splitB (i:=26) rfl (fun g26=>?_) (fun g26=>?_)
  ·exfalso;simp at g26
  refine jN 37 ?_
  refine WC.cond rfl (fun h40=>?_) (fun h40=>?_)
  ·refine jN 8 ?_
   refine WL.buildSlice F.sl60 F.ez60 rfl rfl rfl rfl jB rfl (fun b44=>?_)
   refine jN 1 ?_
   refine WL.appendE (news:=rpC (⟨(wdR (ofR n rs)).1,[],none,0⟩:RpV)) F.el60 rfl rfl rfl jR (fun w hS jj u hu=>by rw [Nat.zero_add];exact hS.cell (cs:=rpC (⟨(wdR (ofR n rs)).1,[],none,0⟩:RpV)) jM hu) rfl (rpC_one (⟨(wdR (ofR n rs)).1,[],none,0⟩:RpV)) (Nat.le_trans (m:=20000) (by omega) (by decide)) (by omega) (fun a8 c8=>?_)
   refine jN 4 ?_
   skip
   obtain ⟨y,hy9⟩:∃ y,y=(⟨(wdR (ofR n rs)).1,[],none,0⟩:RpV):=⟨_,rfl⟩
   have hyw:y.w=(wdR (ofR n rs)).1:=by rw [hy9]
   have hy:(o++[y])[o.length]?=some y:=by simp
   have hol2:(o++[y]).length=o.length+1:=by simp
   have hyc:y.c.length≤i:=by rw [hy9];exact Nat.zero_le _
   refine WC.chunks (C':=[rowc (.slice a8 ((o++[y])).length c8) ((o++[y])).length 69 2 (((o++[y])).flatMap rpC),rpW y,rpH (o++[y]) o.length]) (fun w hS=>?_) ?_
   ·rw [← hy9] at hS
    have h7:=(St.pick (St.pick (hS.rowNil 24 1) (c:=rpF o) jR) (c:=rowc (.slice none 0 0) 0 24 1 []) jR)
    have e9:rpW y=rowc (.slice none 0 0) 0 24 1 []:=by rw [hy9];rfl
    rw [← e9] at h7
    have h9:=rpF_open (k:=o.length) (rpF_snoc (z:=y) h7) hy
    rw [show rowc (.slice a8 ((o++[y])).length c8) ((o++[y])).length 69 2 (((o++[y])).flatMap rpC)=rowc (.slice a8 (o.length+1) c8) (o.length+1) 69 2 (o.flatMap rpC++rpC y) by rw [hol2,List.flatMap_append,List.flatMap_cons,List.flatMap_nil,List.append_nil]]
    exact (jK h9)
   refine WC.know (φ:=∃ g,a8=some ⟨g,0,none⟩∧(o++[y]).length=(o++[y]).length∧(o++[y]).length≤c8) (fun w hS=>rowc_addr (hS.ok (rowc (.slice a8 ((o++[y])).length c8) ((o++[y])).length 69 2 (((o++[y])).flatMap rpC)) jM) (by omega)) (fun ⟨g9,hg9,_,_⟩=>?_)
   subst hg9
   refine WC.draws [([12,15],fun w=>w.cell? ⟨g9,0+o.length*2+1,none⟩=some (.slice y.ca y.c.length y.cc)),([11,12,15],fun w=>w.cell? ⟨bd,od+i*1,none⟩=some (.int .u32 (n:Int)))] (by kernel_rfl) (fun w hS=>facts_cons ((by rw [Nat.zero_add];exact rowc_cells (hS.ok (jW g9 ((o++[y])).length c8 69 2 (((o++[y])).flatMap rpC)) jM) (flat_at (cells:=rpC) (sz:=2) (fun _ _=>rfl) hy 1 _ rfl))) (facts_cons (hS.oldc (hcd 0 _ rfl) (by simp)) (facts_nil))) ?_
   refine jQ [0,1,2,3] ?_
   refine jT 4 rfl (Yl.indexAddr F.sl60 rfl rfl (by omega)) ?_
   refine jT 5 rfl (Yl.fieldAddr F.fld69_1 rfl) ?_
   refine jF 6 0 rfl rfl (Yl.load1 F.one53 rfl) ?_
   refine jQ [7,8] ?_
   refine jT 9 rfl (Yl.indexAddr F.sl53 rfl rfl hlt) ?_
   refine jF 10 1 rfl rfl (Yl.load1 F.one24 rfl) ?_
   refine jA 11 rfl ?_
   refine WL.buildSlice F.sl53 F.ez53 rfl rfl rfl rfl jB rfl (fun b57=>?_)
   refine WD.on (closed_of (by decide+kernel)) (fun w hS=>Sx.keep ((by rw [Nat.zero_add];exact rowc_cells (hS.ok (jW g9 ((o++[y])).length c8 69 2 (((o++[y])).flatMap rpC)) jM) (flat_at (cells:=rpC) (sz:=2) (fun _ _=>rfl) hy 1 _ rfl))) (Sx.gone rfl (Sx.none))) ?_
   refine jA 12 rfl ?_
   refine WL.appendE (news:=nC n) F.el53 rfl rfl rfl jR (fun w hS jj u hu=>by rw [Nat.zero_add];exact hS.cell (cs:=nC n) jM hu) rfl jO (Nat.le_trans (m:=1000000) (by omega) (by decide)) (by omega) (fun a9 c9=>?_)
   refine jG ?_
   refine jT 13 rfl (Yl.indexAddr F.sl60 rfl rfl (by omega)) ?_
   refine jT 14 rfl (Yl.fieldAddr F.fld69_1 rfl) ?_
   refine jA 15 rfl ?_
   refine WL.storeRow1 (n:=((o++[y])).length) (xs':=(((o++[y])).set o.length (⟨y.w,y.c++[n],a9,c9⟩:RpV)).flatMap rpC) F.one53 rfl rfl rfl jU (by rw [Nat.zero_add];exact setN_sub (cells:=rpC) (sz:=2) (off:=1) (fun _=>rfl) hy rp_set) ?_
   refine jG ?_
   refine jD ?_
   refine jN 10 ?_
   refine WQ.chunks (C':=[jW g9 ((o++[y])).length c8 69 2 ((((o++[y])).set o.length (⟨y.w,y.c++[n],a9,c9⟩:RpV)).flatMap rpC),rpF (((o++[y])).set o.length (⟨y.w,y.c++[n],a9,c9⟩:RpV))]) (fun w hS=>?_) ?_
   ·have h8:=(St.pick (St.pick hS (c:=rpH (o++[y]) o.length) jR) (c:=rowc (.slice a9 (y.c.length+1) c9) (y.c.length+1) 24 1 (y.c.flatMap nC++nC n)) jR)
    have h9:=rpF_close (z:=(⟨y.w,y.c++[n],a9,c9⟩:RpV)) (show o.length<((o++[y])).length by omega) (show St _ _ (rpW (⟨y.w,y.c++[n],a9,c9⟩:RpV)::_) _ by show St _ _ (rowc (.slice a9 (y.c++[n]).length c9) (y.c++[n]).length 24 1 ((y.c++[n]).flatMap nC)::_) _;simp only [List.length_append,List.length_cons,List.length_nil,List.flatMap_append,List.flatMap_cons,List.flatMap_nil,List.append_nil];exact h8)
    exact (jK h9)
   have hsl:(((o++[y])).set o.length (⟨y.w,y.c++[n],a9,c9⟩:RpV)).length=((o++[y])).length:=List.length_set
   refine WQ.back (⟨i+1,((o++[y])).set o.length (⟨y.w,y.c++[n],a9,c9⟩:RpV),some ⟨g9,0,none⟩,c8⟩:RpG) ?_ ?_ ?_ ?_
   ·exact ⟨hlt,by (show ((o++[y]).set o.length (⟨y.w,y.c++[n],a9,c9⟩:RpV)).map rpK=grpN (fun n=>(wdR (ofR n rs)).1) (d.take (i+1));rw [grpN_succ hn,← ho,grp1_new hno,List.set_append_right _ _ (Nat.le_refl _),Nat.sub_self,List.map_append];show _++[(y.w,y.c++[n])]=_;rw [hy9];rfl)⟩
   ·show d.length - (i+1)<d.length - i;omega
   ·dsimp only;simp only [hsl,hol2];exact ⟨rfl,rfl,rfl,rfl,trivial⟩
   dsimp only;rw [hsl]
  exfalso;simp at h40
 have hie:i=d.length:=by simp at h12;omega
 subst hie
 rw [List.take_length] at ho
 refine jN 14 ?_
 exact WQ.ret (rs:=[.tmp 4]) rfl (.tmp rfl .nil) (fun w hS=>⟨⟨0,o,a,c⟩,ho,rfl,hS⟩)
theorem cfgsN_pop (u:Nat):∀ k,(cfgsN u k).length=2 ^ popN u k
 | 0=>rfl
 | k+1=>by
  have ih:=cfgsN_pop u k
  have hb:(u>>>k&&&1)=if u.testBit k then 1 else 0:=by
   rw [Nat.testBit_eq_decide_div_mod_eq,Nat.shiftRight_eq_div_pow,Nat.and_one_is_mod]
   have:=Nat.mod_lt (u / 2 ^ k) (by decide:0<2)
   by_cases h:u / 2 ^ k % 2=1
   ·rw [h,decide_eq_true rfl];rfl
   ·have h0:u / 2 ^ k % 2=0:=by omega
    rw [h0];rfl
  unfold cfgsN popN
  rw [hb]
  split
  ·rw [List.length_append,List.length_map,ih,Nat.pow_succ];omega
  ·rw [ih,Nat.add_zero]
theorem cfgs_few {u:Nat} (h:(popN u 32:Int)≤6):(cfgs u).length≤64:=by
 rw [show (cfgs u).length=2 ^ popN u 32 from cfgsN_pop u 32]
 exact Nat.pow_le_pow_right (by decide) (show popN u 32≤6 by omega)
theorem few7_c (v:Nat) (hv:v<4294967296) (m:Int) (w:World):
  Calls Tryz.prog 23 [.int .u32 (v:Int),.int .i64 m].toArray w fun e w'=>∃ b:Bool,(b=true→(popN v 32:Int)≤m)∧e= .returned (.bool b)∧St w [] [] w':=by
 refine enter Tryz.func23 rfl Tryz.ntmps23 rfl (St.init _) ?_
 refine jN 20 ?_
 refine WC.loop (α:=Nat) (fun i=>i≤32) (fun i=>[(0,.int .u32 (v:Int)),(1,.int .i64 m),(5,.int .i64 (popN v i:Int)),(6,.int .i64 (i:Int))]) (fun _=>[]) (fun i=>32 - i) (0) ?_ ?_ ?_ ?_
 ·exact by decide
 ·exact ⟨rfl,rfl,rfl,rfl,trivial⟩
 ·rfl
 rintro i hi
 refine jN 9 ?_
 refine WC.cond rfl (fun h8=>?_) (fun h8=>?_)
 ·have hlt:i<32:=by simp at h8;omega
  have hpl:=popN_le v i
  have hp1:(v>>>i&&&1)≤1:=Nat.and_le_right
  refine jN 12 ?_
  refine WL.bin (v:= .int .u32 ((v>>>i:Nat):Int)) rfl rfl rfl (fun w=>run_shr (by omega) _ _ _ w) ?_
  refine jN 1 ?_
  refine WL.bin (v:= .int .u32 ((v>>>i&&&1:Nat):Int)) rfl rfl rfl (fun w=>run_and (b:=1) (Nat.lt_of_le_of_lt (Nat.shiftRight_le v i) hv) (by decide) _ _ _ w) ?_
  refine jN 1 ?_
  refine WL.convert rfl rfl (v:= .int .i64 ((v>>>i&&&1:Nat):Int)) (fun w hS=>conv6 (by omega) w) ?_
  refine jN 1 ?_
  refine WL.bin (v:= .int .i64 (popN v (i+1):Int)) rfl rfl rfl (fun w=>by simp only [popN];exact run_addN6 (by omega) (by omega) _ _ _ w) ?_
  refine jN 13 ?_
  refine WQ.back (i+1) ?_ ?_ ?_ ?_
  ·exact by omega
  ·omega
  ·exact ⟨rfl,rfl,rfl,rfl,trivial⟩
  rfl
 have hie:i=32:=by simp at h8;omega
 subst hie
 refine jN 18 ?_
 exact WQ.ret (rs:=[.tmp 4]) rfl (.tmp rfl .nil) (fun w hS=>⟨_,fun hb=>of_decide_eq_true hb,rfl,hS⟩)
set_option maxRecDepth 100000 in
theorem rowBits7_c (l:List RwV) (la:Option Addr) (lc:Nat) (d:List QB) (da:Option Addr) (dc:Nat) (m:Int) (w:World) (hl:l.length≤LM) (hr:RdSl rwC 2 w l la) (hro:∀ x∈l,RwR w x) (hdl:d.length≤LM) (hd:RdSl qC 2 w d da) (hdo:∀ q∈d,qOk q):
  Calls Tryz.prog 5 [.slice la l.length lc,.slice da d.length dc,.int .i64 m].toArray w fun e w'=>∃ (u n:Nat) (b:Bool),u<16777216∧(b=true→n<300∧l.length<20∧d.length≤n∧subN (bitsQ d) u∧(popN u 32:Int)≤m∧∀ x∈l,RbR u n x)∧e= .returned (.tuple #[.int .u32 (u:Int),.bool b])∧St w [] [] w':=by
 have hl9:l.length≤140737488351232:=hl
 have hd9:d.length≤140737488351232:=hdl
 refine enter Tryz.func5 rfl Tryz.ntmps5 rfl (St.init _) ?_
 refine jN 13 ?_
 refine WL.callV F.fun22 rfl rfl (fun w hS=>bits_c d da dc (Nat.le_trans hdl (by decide)) w (hd.next hS) hdo) ?_
 refine jN 22 ?_
 refine WC.loop (α:=RbX) (fun g=>g.i≤l.length∧RbB l d g.i g.u g.n) (fun g=>[(0,.slice la l.length lc),(2,.int .i64 m),(8,.int .u32 (g.u:Int)),(9,.int .i64 (g.n:Int)),(10,.int .i64 (g.i:Int))]) (fun _=>[]) (fun g=>l.length - g.i) (⟨0,bitsQ d,d.length⟩) ?_ ?_ ?_ ?_
 ·exact ⟨Nat.zero_le _,⟨bitsQ_lt d,Nat.le_trans hdl (by decide),Nat.or_self _,Nat.le_refl _,fun _ y hy=>by simp at hy⟩⟩
 ·exact ⟨rfl,rfl,rfl,rfl,rfl,trivial⟩
 ·rfl
 rintro ⟨i,u,n⟩ ⟨hi,hb⟩
 dsimp only at hi hb
 have hnn:=hb.nn
 show WC _ _ _ _ _ _ _ [(0,.slice la l.length lc),(2,.int .i64 m),(8,.int .u32 (u:Int)),(9,.int .i64 (n:Int)),(10,.int .i64 (i:Int))] []
 refine jN 13 ?_
 refine WA.splitB (i:=22) rfl (fun g22=>?_) (fun g22=>?_)
 ·have hlt:i<l.length:=by simpa using g22
  refine jN 10 ?_
  refine WC.cond rfl (fun h25=>?_) (fun h25=>?_)
  ·have hn1:n<1000:=by simp at h25;omega
   obtain ⟨⟨its,ia,ic,nts,na,nc⟩,hx⟩:∃ x,l[i]?=some x:=⟨_,List.getElem?_eq_getElem hlt⟩
   obtain ⟨bl,ol,rfl,hcx⟩:=hr i _ hx
   have hxr:=hro _ (List.mem_of_getElem? hx)
   have hil:its.length≤140737488351232:=hxr.il
   have hnl:nts.length≤140737488351232:=hxr.nl
   refine jN 5 ?_
   refine WC.draws [([],fun w=>w.cell? ⟨bl,ol+i*2+0,none⟩=some (.slice ia its.length ic)),([],fun w=>w.cell? ⟨bl,ol+i*2+1,none⟩=some (.slice na nts.length nc))] (by kernel_rfl) (fun w hS=>facts_cons (hS.oldc (hcx 0 _ rfl) (by simp)) (facts_cons (hS.oldc (hcx 1 _ rfl) (by simp)) (facts_nil))) ?_
   refine jQ [0,1,2] ?_
   refine jT 3 rfl (Yl.indexAddr F.sl22 rfl rfl hlt) ?_
   refine jT 4 rfl (Yl.fieldAddr F.fld43_0 rfl) ?_
   refine jF 5 0 rfl rfl (Yl.load1 F.one40 rfl) ?_
   refine jT 6 rfl (Yl.lenSl F.und40 rfl) ?_
   refine jT 7 rfl (Yl.bin (v:= .int .i64 ((n+its.length:Nat):Int)) rfl rfl (fun w=>run_addN6 (by omega) (by omega) _ _ _ w)) ?_
   refine jQ [8,9] ?_
   refine jT 10 rfl (Yl.indexAddr F.sl22 rfl rfl hlt) ?_
   refine jT 11 rfl (Yl.fieldAddr F.fld43_1 rfl) ?_
   refine jF 12 1 rfl rfl (Yl.load1 F.one41 rfl) ?_
   refine jT 13 rfl (Yl.lenSl F.und41 rfl) ?_
   refine jT 14 rfl (Yl.bin (v:= .int .i64 ((n+its.length+nts.length:Nat):Int)) rfl rfl (fun w=>run_addN6 (by omega) (by omega) _ _ _ w)) ?_
   refine jQ [15] ?_
   refine jD ?_
   refine jN 9 ?_
   refine WC.chunks (C':=[]) (fun w hS=>hS.sublist (List.nil_sublist _)) ?_
   refine WC.loop (α:=RbX) (fun g=>g.i≤its.length∧RbB l d i g.u g.n∧its.length+nts.length≤g.n∧(g.n<1000→∀ y∈its.take g.i,RbI g.u g.n y)) (fun g=>[(0,.slice (some ⟨bl,ol,none⟩) l.length lc),(2,.int .i64 m),(8,.int .u32 (g.u:Int)),(9,.int .i64 (g.n:Int)),(10,.int .i64 (i:Int)),(11,.int .i64 (g.i:Int))]) (fun _=>[]) (fun g=>its.length - g.i) (⟨0,u,n+its.length+nts.length⟩) ?_ ?_ ?_ ?_
   ·exact ⟨Nat.zero_le _,hb.upN (m:=n+its.length+nts.length) (by omega) (by omega),by show _≤n+its.length+nts.length;omega,fun _ y hy=>by simp at hy⟩
   ·exact ⟨rfl,rfl,rfl,rfl,rfl,rfl,trivial⟩
   ·rfl
   rintro ⟨k,u,n⟩ ⟨hk,hb,hn0,hI⟩
   dsimp only at hk hb hn0 hI
   have hnn:=hb.nn
   show WC _ _ _ _ _ _ _ [(0,.slice (some ⟨bl,ol,none⟩) l.length lc),(2,.int .i64 m),(8,.int .u32 (u:Int)),(9,.int .i64 (n:Int)),(10,.int .i64 (i:Int)),(11,.int .i64 (k:Int))] []
   refine jN 10 ?_
   refine WL.indexAddr F.sl22 rfl rfl rfl hlt ?_
   refine jN 1 ?_
   refine WL.fieldAddr F.fld43_0 rfl rfl ?_
   refine jN 1 ?_
   refine WL.load1 F.one40 rfl rfl (v:= .slice ia its.length ic) (fun w hS=>hS.oldc (hcx 0 _ rfl) (by simp)) ?_
   refine jN 6 ?_
   refine WA.splitB (i:=51) rfl (fun g51=>?_) (fun g51=>?_)
   ·have hki:k<its.length:=by simpa using g51
    refine jN 10 ?_
    refine WC.cond rfl (fun h54=>?_) (fun h54=>?_)
    ·have hn2:n<1000:=by simp at h54;omega
     obtain ⟨y,hy⟩:∃ y,its[k]?=some y:=⟨_,List.getElem?_eq_getElem hki⟩
     obtain ⟨b,o,hia,hcy⟩:=hxr.i k y hy
     dsimp only at hia
     subst hia
     have hyr:=hxr.io y (List.mem_of_getElem? hy)
     have hql:y.q.length≤140737488351232:=hyr.ql
     have hpl:y.p.length≤140737488351232:=hyr.pl
     have htl:y.t.length≤140737488351232:=hyr.t
     have hbq:=bitsQ_lt y.q
     have hu32:=hb.uu
     refine jN 11 ?_
     refine WL.indexAddr F.sl22 rfl rfl rfl hlt ?_
     refine jN 1 ?_
     refine WL.fieldAddr F.fld43_0 rfl rfl ?_
     refine jN 1 ?_
     refine WL.load1 F.one40 rfl rfl (v:= .slice (some ⟨b,o,none⟩) its.length ic) (fun w hS=>hS.oldc (hcx 0 _ rfl) (by simp)) ?_
     refine jN 3 ?_
     refine WL.indexAddr F.sl40 rfl rfl rfl hki ?_
     refine jN 1 ?_
     refine WL.loadN F.agg75 rfl rfl (vs:=itC y) rfl (fun w hS j v hv=>hS.oldc (hcy j v hv) (by simp)) ?_
     refine jN 1 ?_
     refine WL.alloc F.zero75 rfl (fun b12=>?_)
     refine jN 13 ?_
     refine WL.callV F.fun22 rfl rfl (fun w hS=>bits_c y.q y.qa y.qc (Nat.le_trans hyr.ql (by decide)) w (hyr.q.next hS) hyr.qo) ?_
     refine jN 1 ?_
     refine WL.bin (v:= .int .u32 ((u|||bitsQ y.q:Nat):Int)) rfl rfl rfl (fun w=>run_or (by omega) (by omega) _ _ _ w) ?_
     refine jN 14 ?_
     refine WL.bin (v:= .int .i64 ((n+y.q.length:Nat):Int)) rfl rfl rfl (fun w=>run_addN6 (by omega) (by omega) _ _ _ w) ?_
     refine jN 7 ?_
     refine WL.bin (v:= .int .i64 ((y.p.length / 8:Nat):Int)) rfl rfl rfl (fun w=>run_quoK8 (by omega) _ _ _ w) ?_
     refine jN 1 ?_
     refine WL.bin (v:= .int .i64 ((n+y.q.length+y.p.length / 8:Nat):Int)) rfl rfl rfl (fun w=>run_addN6 (by omega) (by omega) _ _ _ w) ?_
     refine jN 7 ?_
     refine WL.bin (v:= .int .i64 ((y.t.length / 100:Nat):Int)) rfl rfl rfl (fun w=>run_quoK100 (by omega) _ _ _ w) ?_
     refine jN 1 ?_
     refine WL.bin (v:= .int .i64 ((n+y.q.length+y.p.length / 8+y.t.length / 100:Nat):Int)) rfl rfl rfl (fun w=>run_addN6 (by omega) (by omega) _ _ _ w) ?_
     refine jN 13 ?_
     have hu24:=hb.uu
     have q1:n≤n+y.q.length+y.p.length / 8+y.t.length / 100:=by omega
     have q2:n+y.q.length+y.p.length / 8+y.t.length / 100≤1000000000000000:=by omega
     have q3:n+y.q.length+y.p.length / 8+y.t.length / 100<1000→n<1000:=by omega
     have q4:y.q.length+y.p.length / 8+y.t.length / 100≤n+y.q.length+y.p.length / 8+y.t.length / 100:=by omega
     have q5:its.length+nts.length≤n+y.q.length+y.p.length / 8+y.t.length / 100:=by omega
     refine WQ.chunks (C':=[]) (fun w hS=>hS.sublist (List.nil_sublist _)) ?_
     refine WQ.back (⟨k+1,u|||bitsQ y.q,n+y.q.length+y.p.length / 8+y.t.length / 100⟩:RbX) ?_ ?_ ?_ ?_
     ·exact ⟨by show k+1≤its.length;omega,hb.up hbq q1 q2,q5,fun h1=>all_next hy (fun z hz=>(hI (q3 h1) z hz).up q1) ⟨subN.self,q4⟩⟩
     ·show its.length - (k+1)<its.length - k;omega
     ·exact ⟨rfl,rfl,rfl,rfl,rfl,rfl,trivial⟩
     rfl
    have hI2:n<1000→∀ y∈its,RbI u n y:=fun h1=>by exfalso;simp at h54;omega
    refine jN 12 ?_
    refine WC.chunks (C':=[]) (fun w hS=>hS.sublist (List.nil_sublist _)) ?_
    refine WC.loop (α:=RbX) (fun g=>g.i≤nts.length∧RbB l d i g.u g.n∧its.length+nts.length≤g.n∧(g.n<1000→∀ y∈its,RbI g.u g.n y)∧(g.n<1000→∀ y∈nts.take g.i,RbN g.u g.n y)) (fun g=>[(0,.slice (some ⟨bl,ol,none⟩) l.length lc),(2,.int .i64 m),(8,.int .u32 (g.u:Int)),(9,.int .i64 (g.n:Int)),(10,.int .i64 (i:Int)),(13,.int .i64 (g.i:Int))]) (fun _=>[]) (fun g=>nts.length - g.i) (⟨0,u,n⟩) ?_ ?_ ?_ ?_
    ·exact ⟨Nat.zero_le _,hb,hn0,hI2,fun _ y hy=>by simp at hy⟩
    ·exact ⟨rfl,rfl,rfl,rfl,rfl,rfl,trivial⟩
    ·rfl
    rintro ⟨k,u,n⟩ ⟨hk,hb,hn0,hI,hN⟩
    dsimp only at hk hb hn0 hI hN
    have hnn:=hb.nn
    show WC _ _ _ _ _ _ _ [(0,.slice (some ⟨bl,ol,none⟩) l.length lc),(2,.int .i64 m),(8,.int .u32 (u:Int)),(9,.int .i64 (n:Int)),(10,.int .i64 (i:Int)),(13,.int .i64 (k:Int))] []
    refine jN 10 ?_
    refine WL.indexAddr F.sl22 rfl rfl rfl hlt ?_
    refine jN 1 ?_
    refine WL.fieldAddr F.fld43_1 rfl rfl ?_
    refine jN 1 ?_
    refine WL.load1 F.one41 rfl rfl (v:= .slice na nts.length nc) (fun w hS=>hS.oldc (hcx 1 _ rfl) (by simp)) ?_
    refine jN 6 ?_
    refine WA.splitB (i:=93) rfl (fun g93=>?_) (fun g93=>?_)
    ·have hkn:k<nts.length:=by simpa using g93
     refine jN 10 ?_
     refine WC.cond rfl (fun h96=>?_) (fun h96=>?_)
     ·have hn2:n<1000:=by simp at h96;omega
      obtain ⟨y,hy⟩:∃ y,nts[k]?=some y:=⟨_,List.getElem?_eq_getElem hkn⟩
      obtain ⟨b,o,hna,hcy⟩:=hxr.n k y hy
      dsimp only at hna
      subst hna
      have hyr:=hxr.no y (List.mem_of_getElem? hy)
      have hql:y.q.length≤140737488351232:=hyr.ql
      have hpl:y.p.length≤140737488351232:=hyr.pl
      have hbq:=bitsQ_lt y.q
      have hu32:=hb.uu
      refine jN 13 ?_
      refine WL.indexAddr F.sl22 rfl rfl rfl hlt ?_
      refine jN 1 ?_
      refine WL.fieldAddr F.fld43_1 rfl rfl ?_
      refine jN 1 ?_
      refine WL.load1 F.one41 rfl rfl (v:= .slice (some ⟨b,o,none⟩) nts.length nc) (fun w hS=>hS.oldc (hcx 1 _ rfl) (by simp)) ?_
      refine jN 3 ?_
      refine WL.indexAddr F.sl41 rfl rfl rfl hkn ?_
      refine jN 1 ?_
      refine WL.fieldAddr F.fld78_4 rfl rfl ?_
      refine jN 1 ?_
      refine WL.load1 F.one23 rfl rfl (v:= .slice y.qa y.q.length y.qc) (fun w hS=>hS.oldc (hcy 4 _ rfl) (by simp)) ?_
      refine jN 1 ?_
      refine WL.callV F.fun22 rfl rfl (fun w hS=>bits_c y.q y.qa y.qc (Nat.le_trans hyr.ql (by decide)) w (hyr.q.next hS) hyr.qo) ?_
      refine jN 1 ?_
      refine WL.bin (v:= .int .u32 ((u|||bitsQ y.q:Nat):Int)) rfl rfl rfl (fun w=>run_or (by omega) (by omega) _ _ _ w) ?_
      refine jN 4 ?_
      refine WC.draws [([],fun w=>w.cell? ⟨bl,ol+i*2+1,none⟩=some (.slice (some ⟨b,o,none⟩) nts.length nc)),([],fun w=>w.cell? ⟨b,o+k*5+4,none⟩=some (.slice y.qa y.q.length y.qc)),([],fun w=>w.cell? ⟨bl,ol+i*2+1,none⟩=some (.slice (some ⟨b,o,none⟩) nts.length nc)),([],fun w=>w.cell? ⟨b,o+k*5+1,none⟩=some (.slice y.pa y.p.length y.pc))] (by kernel_rfl) (fun w hS=>facts_cons (hS.oldc (hcx 1 _ rfl) (by simp)) (facts_cons (hS.oldc (hcy 4 _ rfl) (by simp)) (facts_cons (hS.oldc (hcx 1 _ rfl) (by simp)) (facts_cons (hS.oldc (hcy 1 _ rfl) (by simp)) (facts_nil))))) ?_
      refine jQ [0,1,2] ?_
      refine jT 3 rfl (Yl.indexAddr F.sl22 rfl rfl hlt) ?_
      refine jT 4 rfl (Yl.fieldAddr F.fld43_1 rfl) ?_
      refine jF 5 0 rfl rfl (Yl.load1 F.one41 rfl) ?_
      refine jQ [6] ?_
      refine jT 7 rfl (Yl.indexAddr F.sl41 rfl rfl hkn) ?_
      refine jT 8 rfl (Yl.fieldAddr F.fld78_4 rfl) ?_
      refine jF 9 1 rfl rfl (Yl.load1 F.one23 rfl) ?_
      refine jT 10 rfl (Yl.lenSl F.und23 rfl) ?_
      refine jT 11 rfl (Yl.bin (v:= .int .i64 ((n+y.q.length:Nat):Int)) rfl rfl (fun w=>run_addN6 (by omega) (by omega) _ _ _ w)) ?_
      refine jQ [12,13] ?_
      refine jT 14 rfl (Yl.indexAddr F.sl22 rfl rfl hlt) ?_
      refine jT 15 rfl (Yl.fieldAddr F.fld43_1 rfl) ?_
      refine jF 16 2 rfl rfl (Yl.load1 F.one41 rfl) ?_
      refine jQ [17] ?_
      refine jT 18 rfl (Yl.indexAddr F.sl41 rfl rfl hkn) ?_
      refine jT 19 rfl (Yl.fieldAddr F.fld78_1 rfl) ?_
      refine jF 20 3 rfl rfl (Yl.load1 F.one73 rfl) ?_
      refine jT 21 rfl (Yl.lenSl F.und73 rfl) ?_
      refine jT 22 rfl (Yl.bin (v:= .int .i64 ((y.p.length / 8:Nat):Int)) rfl rfl (fun w=>run_quoK8 (by omega) _ _ _ w)) ?_
      refine jT 23 rfl (Yl.bin (v:= .int .i64 ((n+y.q.length+y.p.length / 8:Nat):Int)) rfl rfl (fun w=>run_addN6 (by omega) (by omega) _ _ _ w)) ?_
      refine jQ [24] ?_
      refine jD ?_
      refine jN 10 ?_
      have hu24:=hb.uu
      have q1:n≤n+y.q.length+y.p.length / 8:=by omega
      have q2:n+y.q.length+y.p.length / 8≤1000000000000000:=by omega
      have q3:n+y.q.length+y.p.length / 8<1000→n<1000:=by omega
      have q4:y.q.length+y.p.length / 8≤n+y.q.length+y.p.length / 8:=by omega
      have q5:its.length+nts.length≤n+y.q.length+y.p.length / 8:=by omega
      refine WQ.chunks (C':=[]) (fun w hS=>hS.sublist (List.nil_sublist _)) ?_
      refine WQ.back (⟨k+1,u|||bitsQ y.q,n+y.q.length+y.p.length / 8⟩:RbX) ?_ ?_ ?_ ?_
      ·exact ⟨by show k+1≤nts.length;omega,hb.up hbq q1 q2,q5,fun h1 z hz=>(hI (q3 h1) z hz).up q1,fun h1=>all_next hy (fun z hz=>(hN (q3 h1) z hz).up q1) ⟨subN.self,q4⟩⟩
      ·show nts.length - (k+1)<nts.length - k;omega
      ·exact ⟨rfl,rfl,rfl,rfl,rfl,rfl,trivial⟩
      rfl
     have hN2:n<1000→∀ y∈nts,RbN u n y:=fun h1=>by exfalso;simp at h96;omega
     refine jN 14 ?_
     refine WQ.chunks (C':=[]) (fun w hS=>hS.sublist (List.nil_sublist _)) ?_
     refine WQ.back (⟨i+1,u,n⟩:RbX) ?_ ?_ ?_ ?_
     ·exact ⟨by show i+1≤l.length;omega,hb.next hx (fun h1=>⟨hn0,hI h1,hN2 h1⟩)⟩
     ·show l.length - (i+1)<l.length - i;omega
     ·exact ⟨rfl,rfl,rfl,rfl,rfl,trivial⟩
     rfl
    have hke2:k=nts.length:=by simp at g93;omega
    have hN2:n<1000→∀ y∈nts,RbN u n y:=by rw [hke2,List.take_length] at hN;exact hN
    refine jN 23 ?_
    refine WQ.chunks (C':=[]) (fun w hS=>hS.sublist (List.nil_sublist _)) ?_
    refine WQ.back (⟨i+1,u,n⟩:RbX) ?_ ?_ ?_ ?_
    ·exact ⟨by show i+1≤l.length;omega,hb.next hx (fun h1=>⟨hn0,hI h1,hN2 h1⟩)⟩
    ·show l.length - (i+1)<l.length - i;omega
    ·exact ⟨rfl,rfl,rfl,rfl,rfl,trivial⟩
    rfl
   have hke:k=its.length:=by simp at g51;omega
   have hI2:n<1000→∀ y∈its,RbI u n y:=by rw [hke,List.take_length] at hI;exact hI
   refine jN 21 ?_
   refine WC.chunks (C':=[]) (fun w hS=>hS.sublist (List.nil_sublist _)) ?_
   refine WC.loop (α:=RbX) (fun g=>g.i≤nts.length∧RbB l d i g.u g.n∧its.length+nts.length≤g.n∧(g.n<1000→∀ y∈its,RbI g.u g.n y)∧(g.n<1000→∀ y∈nts.take g.i,RbN g.u g.n y)) (fun g=>[(0,.slice (some ⟨bl,ol,none⟩) l.length lc),(2,.int .i64 m),(8,.int .u32 (g.u:Int)),(9,.int .i64 (g.n:Int)),(10,.int .i64 (i:Int)),(13,.int .i64 (g.i:Int))]) (fun _=>[]) (fun g=>nts.length - g.i) (⟨0,u,n⟩) ?_ ?_ ?_ ?_
   ·exact ⟨Nat.zero_le _,hb,hn0,hI2,fun _ y hy=>by simp at hy⟩
   ·exact ⟨rfl,rfl,rfl,rfl,rfl,rfl,trivial⟩
   ·rfl
   rintro ⟨k,u,n⟩ ⟨hk,hb,hn0,hI,hN⟩
   dsimp only at hk hb hn0 hI hN
   have hnn:=hb.nn
   show WC _ _ _ _ _ _ _ [(0,.slice (some ⟨bl,ol,none⟩) l.length lc),(2,.int .i64 m),(8,.int .u32 (u:Int)),(9,.int .i64 (n:Int)),(10,.int .i64 (i:Int)),(13,.int .i64 (k:Int))] []
   refine jN 10 ?_
   refine WL.indexAddr F.sl22 rfl rfl rfl hlt ?_
   refine jN 1 ?_
   refine WL.fieldAddr F.fld43_1 rfl rfl ?_
   refine jN 1 ?_
   refine WL.load1 F.one41 rfl rfl (v:= .slice na nts.length nc) (fun w hS=>hS.oldc (hcx 1 _ rfl) (by simp)) ?_
   refine jN 6 ?_
   refine WA.splitB (i:=93) rfl (fun g93=>?_) (fun g93=>?_)
   ·have hkn:k<nts.length:=by simpa using g93
    refine jN 10 ?_
    refine WC.cond rfl (fun h96=>?_) (fun h96=>?_)
    ·have hn2:n<1000:=by simp at h96;omega
     obtain ⟨y,hy⟩:∃ y,nts[k]?=some y:=⟨_,List.getElem?_eq_getElem hkn⟩
     obtain ⟨b,o,hna,hcy⟩:=hxr.n k y hy
     dsimp only at hna
     subst hna
     have hyr:=hxr.no y (List.mem_of_getElem? hy)
     have hql:y.q.length≤140737488351232:=hyr.ql
     have hpl:y.p.length≤140737488351232:=hyr.pl
     have hbq:=bitsQ_lt y.q
     have hu32:=hb.uu
     refine jN 13 ?_
     refine WL.indexAddr F.sl22 rfl rfl rfl hlt ?_
     refine jN 1 ?_
     refine WL.fieldAddr F.fld43_1 rfl rfl ?_
     refine jN 1 ?_
     refine WL.load1 F.one41 rfl rfl (v:= .slice (some ⟨b,o,none⟩) nts.length nc) (fun w hS=>hS.oldc (hcx 1 _ rfl) (by simp)) ?_
     refine jN 3 ?_
     refine WL.indexAddr F.sl41 rfl rfl rfl hkn ?_
     refine jN 1 ?_
     refine WL.fieldAddr F.fld78_4 rfl rfl ?_
     refine jN 1 ?_
     refine WL.load1 F.one23 rfl rfl (v:= .slice y.qa y.q.length y.qc) (fun w hS=>hS.oldc (hcy 4 _ rfl) (by simp)) ?_
     refine jN 1 ?_
     refine WL.callV F.fun22 rfl rfl (fun w hS=>bits_c y.q y.qa y.qc (Nat.le_trans hyr.ql (by decide)) w (hyr.q.next hS) hyr.qo) ?_
     refine jN 1 ?_
     refine WL.bin (v:= .int .u32 ((u|||bitsQ y.q:Nat):Int)) rfl rfl rfl (fun w=>run_or (by omega) (by omega) _ _ _ w) ?_
     refine jN 4 ?_
     refine WC.draws [([],fun w=>w.cell? ⟨bl,ol+i*2+1,none⟩=some (.slice (some ⟨b,o,none⟩) nts.length nc)),([],fun w=>w.cell? ⟨b,o+k*5+4,none⟩=some (.slice y.qa y.q.length y.qc)),([],fun w=>w.cell? ⟨bl,ol+i*2+1,none⟩=some (.slice (some ⟨b,o,none⟩) nts.length nc)),([],fun w=>w.cell? ⟨b,o+k*5+1,none⟩=some (.slice y.pa y.p.length y.pc))] (by kernel_rfl) (fun w hS=>facts_cons (hS.oldc (hcx 1 _ rfl) (by simp)) (facts_cons (hS.oldc (hcy 4 _ rfl) (by simp)) (facts_cons (hS.oldc (hcx 1 _ rfl) (by simp)) (facts_cons (hS.oldc (hcy 1 _ rfl) (by simp)) (facts_nil))))) ?_
     refine jQ [0,1,2] ?_
     refine jT 3 rfl (Yl.indexAddr F.sl22 rfl rfl hlt) ?_
     refine jT 4 rfl (Yl.fieldAddr F.fld43_1 rfl) ?_
     refine jF 5 0 rfl rfl (Yl.load1 F.one41 rfl) ?_
     refine jQ [6] ?_
     refine jT 7 rfl (Yl.indexAddr F.sl41 rfl rfl hkn) ?_
     refine jT 8 rfl (Yl.fieldAddr F.fld78_4 rfl) ?_
     refine jF 9 1 rfl rfl (Yl.load1 F.one23 rfl) ?_
     refine jT 10 rfl (Yl.lenSl F.und23 rfl) ?_
     refine jT 11 rfl (Yl.bin (v:= .int .i64 ((n+y.q.length:Nat):Int)) rfl rfl (fun w=>run_addN6 (by omega) (by omega) _ _ _ w)) ?_
     refine jQ [12,13] ?_
     refine jT 14 rfl (Yl.indexAddr F.sl22 rfl rfl hlt) ?_
     refine jT 15 rfl (Yl.fieldAddr F.fld43_1 rfl) ?_
     refine jF 16 2 rfl rfl (Yl.load1 F.one41 rfl) ?_
     refine jQ [17] ?_
     refine jT 18 rfl (Yl.indexAddr F.sl41 rfl rfl hkn) ?_
     refine jT 19 rfl (Yl.fieldAddr F.fld78_1 rfl) ?_
     refine jF 20 3 rfl rfl (Yl.load1 F.one73 rfl) ?_
     refine jT 21 rfl (Yl.lenSl F.und73 rfl) ?_
     refine jT 22 rfl (Yl.bin (v:= .int .i64 ((y.p.length / 8:Nat):Int)) rfl rfl (fun w=>run_quoK8 (by omega) _ _ _ w)) ?_
     refine jT 23 rfl (Yl.bin (v:= .int .i64 ((n+y.q.length+y.p.length / 8:Nat):Int)) rfl rfl (fun w=>run_addN6 (by omega) (by omega) _ _ _ w)) ?_
     refine jQ [24] ?_
     refine jD ?_
     refine jN 10 ?_
     have hu24:=hb.uu
     have q1:n≤n+y.q.length+y.p.length / 8:=by omega
     have q2:n+y.q.length+y.p.length / 8≤1000000000000000:=by omega
     have q3:n+y.q.length+y.p.length / 8<1000→n<1000:=by omega
     have q4:y.q.length+y.p.length / 8≤n+y.q.length+y.p.length / 8:=by omega
     have q5:its.length+nts.length≤n+y.q.length+y.p.length / 8:=by omega
     refine WQ.chunks (C':=[]) (fun w hS=>hS.sublist (List.nil_sublist _)) ?_
     refine WQ.back (⟨k+1,u|||bitsQ y.q,n+y.q.length+y.p.length / 8⟩:RbX) ?_ ?_ ?_ ?_
     ·exact ⟨by show k+1≤nts.length;omega,hb.up hbq q1 q2,q5,fun h1 z hz=>(hI (q3 h1) z hz).up q1,fun h1=>all_next hy (fun z hz=>(hN (q3 h1) z hz).up q1) ⟨subN.self,q4⟩⟩
     ·show nts.length - (k+1)<nts.length - k;omega
     ·exact ⟨rfl,rfl,rfl,rfl,rfl,rfl,trivial⟩
     rfl
    have hN2:n<1000→∀ y∈nts,RbN u n y:=fun h1=>by exfalso;simp at h96;omega
    refine jN 14 ?_
    refine WQ.chunks (C':=[]) (fun w hS=>hS.sublist (List.nil_sublist _)) ?_
    refine WQ.back (⟨i+1,u,n⟩:RbX) ?_ ?_ ?_ ?_
    ·exact ⟨by show i+1≤l.length;omega,hb.next hx (fun h1=>⟨hn0,hI h1,hN2 h1⟩)⟩
    ·show l.length - (i+1)<l.length - i;omega
    ·exact ⟨rfl,rfl,rfl,rfl,rfl,trivial⟩
    rfl
   have hke2:k=nts.length:=by simp at g93;omega
   have hN2:n<1000→∀ y∈nts,RbN u n y:=by rw [hke2,List.take_length] at hN;exact hN
   refine jN 23 ?_
   refine WQ.chunks (C':=[]) (fun w hS=>hS.sublist (List.nil_sublist _)) ?_
   refine WQ.back (⟨i+1,u,n⟩:RbX) ?_ ?_ ?_ ?_
   ·exact ⟨by show i+1≤l.length;omega,hb.next hx (fun h1=>⟨hn0,hI h1,hN2 h1⟩)⟩
   ·show l.length - (i+1)<l.length - i;omega
   ·exact ⟨rfl,rfl,rfl,rfl,rfl,trivial⟩
   rfl
  have hfin:n<1000→∀ x∈l,RbR u n x:=fun h1=>by exfalso;simp at h25;omega
  refine jN 15 ?_
  refine WA.splitB (i:=138) rfl (fun g138=>?_) (fun g138=>?_)
  ·have hn3:n<300:=by simp at g138;omega
   refine jN 13 ?_
   refine WA.splitB (i:=143) rfl (fun g143=>?_) (fun g143=>?_)
   ·have hl20:l.length<20:=by simp at g143;omega
    refine jN 8 ?_
    refine WL.call0 (β:=Bool) (res:=fun x=> .returned (.bool x)) (cs:=fun _=>[]) (ψ:=fun x=>x=true→(popN u 32:Int)≤m) F.fun23 (fun d h=>by cases h;rfl) rfl (fun w hS=>(few7_c u (Nat.lt_of_lt_of_le hb.uu (by decide)) m w).mono (fun e w2 ⟨x,h1,h2,h3⟩=>⟨x,h1,h2,h3⟩)) (fun bb hbb=>?_)
    refine WL.step ?_
    refine WL.pickT rfl rfl rfl ?_
    refine WL.step ?_
    refine WL.assign rfl rfl ?_
    refine WL.step ?_
    refine WL.assign rfl rfl ?_
    refine WL.nil ?_
    refine WQ.then_normal ?_
    refine WC.ret ?_
    exact WQ.ret (rs:=[.tmp 6,.tmp 7]) rfl (.tmp rfl (.tmp rfl .nil)) (fun w hS=>⟨u,n,bb,hb.uu,fun h9=>⟨hn3,hl20,hb.d,hb.b,hbb h9,hfin (by omega)⟩,rfl,hS⟩)
   refine jN 15 ?_
   exact WQ.ret (rs:=[.tmp 6,.tmp 7]) rfl (.tmp rfl (.tmp rfl .nil)) (fun w hS=>⟨u,n,false,hb.uu,fun h=>(by cases h),rfl,hS⟩)
  refine jN 25 ?_
  exact WQ.ret (rs:=[.tmp 6,.tmp 7]) rfl (.tmp rfl (.tmp rfl .nil)) (fun w hS=>⟨u,n,false,hb.uu,fun h=>(by cases h),rfl,hS⟩)
 have hie:i=l.length:=by simp at g22;omega
 have hfin:n<1000→∀ x∈l,RbR u n x:=by have h9:=hb.r;rw [hie,List.take_length] at h9;exact h9
 refine jN 24 ?_
 refine WA.splitB (i:=138) rfl (fun g138=>?_) (fun g138=>?_)
 ·have hn3:n<300:=by simp at g138;omega
  refine jN 13 ?_
  refine WA.splitB (i:=143) rfl (fun g143=>?_) (fun g143=>?_)
  ·have hl20:l.length<20:=by simp at g143;omega
   refine jN 8 ?_
   refine WL.call0 (β:=Bool) (res:=fun x=> .returned (.bool x)) (cs:=fun _=>[]) (ψ:=fun x=>x=true→(popN u 32:Int)≤m) F.fun23 (fun d h=>by cases h;rfl) rfl (fun w hS=>(few7_c u (Nat.lt_of_lt_of_le hb.uu (by decide)) m w).mono (fun e w2 ⟨x,h1,h2,h3⟩=>⟨x,h1,h2,h3⟩)) (fun bb hbb=>?_)
   refine WL.step ?_
   refine WL.pickT rfl rfl rfl ?_
   refine WL.step ?_
   refine WL.assign rfl rfl ?_
   refine WL.step ?_
   refine WL.assign rfl rfl ?_
   refine WL.nil ?_
   refine WQ.then_normal ?_
   refine WC.ret ?_
   exact WQ.ret (rs:=[.tmp 6,.tmp 7]) rfl (.tmp rfl (.tmp rfl .nil)) (fun w hS=>⟨u,n,bb,hb.uu,fun h9=>⟨hn3,hl20,hb.d,hb.b,hbb h9,hfin (by omega)⟩,rfl,hS⟩)
  refine jN 15 ?_
  exact WQ.ret (rs:=[.tmp 6,.tmp 7]) rfl (.tmp rfl (.tmp rfl .nil)) (fun w hS=>⟨u,n,false,hb.uu,fun h=>(by cases h),rfl,hS⟩)
 refine jN 25 ?_
 exact WQ.ret (rs:=[.tmp 6,.tmp 7]) rfl (.tmp rfl (.tmp rfl .nil)) (fun w hS=>⟨u,n,false,hb.uu,fun h=>(by cases h),rfl,hS⟩)
section
variable {κ : Type} {lt : κ → κ → Bool}
abbrev ltK (lt:κ→κ→Bool):κ×(Cf→Bool)→κ×(Cf→Bool)→Bool:=fun a b=>lt a.1 b.1
theorem pins_fst (heq:∀ x y,lt x y=false→lt y x=false→x=y) {x:κ×(Cf→Bool)}:∀ {l:List (κ×(Cf→Bool))} {q:κ},q∈(pins (ltK lt) jnK x l).map Prod.fst→q=x.1∨q∈l.map Prod.fst
 | [],q,h=>by simp [pins] at h;exact .inl h
 | y::r,q,h=>by
  unfold pins at h
  split at h
  ·rw [List.map_cons,List.mem_cons] at h
   rcases h with h | h
   ·exact .inr (by simp [h])
   ·rcases pins_fst heq h with h | h
    ·exact .inl h
    ·exact .inr (by rw [List.map_cons];exact List.mem_cons_of_mem _ h)
  ·split at h
   ·simpa using h
   ·exact .inr (by simpa [jnK] using h)
abbrev SrK (lt:κ→κ→Bool) (l:List (κ×(Cf→Bool))):Prop:=l.Pairwise fun a b=>lt a.1 b.1=true
theorem pins_sr (hw:Swo lt) (heq:∀ x y,lt x y=false→lt y x=false→x=y) {x:κ×(Cf→Bool)}:∀ {l:List (κ×(Cf→Bool))},SrK lt l→SrK lt (pins (ltK lt) jnK x l)
 | [],_=>by unfold pins;exact List.pairwise_singleton _ _
 | y::r,h=>by
  obtain ⟨h1,h2⟩:=List.pairwise_cons.1 h
  unfold pins
  split
  ·rename_i hy
   refine List.pairwise_cons.2 ⟨fun z hz=>?_,pins_sr hw heq h2⟩
   rcases pins_fst heq (List.mem_map_of_mem (f:=Prod.fst) hz) with e | e
   ·rw [e];exact hy
   ·obtain ⟨z2,hz2,e2⟩:=List.mem_map.1 e
    rw [← e2];exact h1 z2 hz2
  ·rename_i hy
   split
   ·rename_i hx
    refine List.pairwise_cons.2 ⟨fun z hz=>?_,h⟩
    rcases List.mem_cons.1 hz with rfl | hz
    ·exact hx
    ·exact hw.lt_le hx (hw.asym _ _ (h1 z hz))
   ·exact List.pairwise_cons.2 ⟨h1,h2⟩
end
section
variable {κ : Type} [DecidableEq κ] {lt : κ → κ → Bool}
def atQ (q:κ) (c:Cf) (l:List (κ×(Cf→Bool))):Bool:=l.any fun a=>decide (a.1=q)&&a.2 c
theorem pins_atQ (heq:∀ x y,lt x y=false→lt y x=false→x=y) (x:κ×(Cf→Bool)) (q:κ) (c:Cf):∀ l,atQ q c (pins (ltK lt) jnK x l)=(atQ q c l||(decide (x.1=q)&&x.2 c))
 | []=>by simp [atQ,pins]
 | y::r=>by
  have ih:=pins_atQ heq x q c r
  unfold atQ at ih ⊢
  unfold pins
  split
  ·rw [List.any_cons,ih,List.any_cons,Bool.or_assoc]
  ·rename_i h1
   split
   ·simp only [List.any_cons]
    rw [Bool.or_comm]
   ·rename_i h2
    have e:y.1=x.1:=heq _ _ (by simpa using h1) (by simpa using h2)
    simp only [List.any_cons,jnK,e]
    cases decide (x.1=q)<;>cases y.2 c<;>cases x.2 c<;>simp
theorem joiN_sr (hw:Swo lt) (heq:∀ x y,lt x y=false→lt y x=false→x=y) (l:List (κ×(Cf→Bool))):SrK lt (joiN lt l)∧∀ q c,atQ q c (joiN lt l)=atQ q c l:=by
 rw [joiN_pins hw]
 have key:∀ (m acc:List (κ×(Cf→Bool))),SrK lt acc→SrK lt (m.foldl (fun acc x=>pins (fun a b:κ×(Cf→Bool)=>lt a.1 b.1) jnK x acc) acc)∧∀ q c,atQ q c (m.foldl (fun acc x=>pins (fun a b:κ×(Cf→Bool)=>lt a.1 b.1) jnK x acc) acc)=(atQ q c acc||atQ q c m):=by
  intro m
  induction m with
  | nil=>intro acc h;exact ⟨h,fun q c=>by simp [atQ]⟩
  | cons x m ih=>
   intro acc h
   obtain ⟨i1,i2⟩:=ih _ (pins_sr hw heq (x:=x) h)
   refine ⟨i1,fun q c=>?_⟩
   rw [List.foldl_cons,i2 q c]
   rw [show atQ q c (pins (fun a b:κ×(Cf→Bool)=>lt a.1 b.1) jnK x acc)=(atQ q c acc||(decide (x.1=q)&&x.2 c)) from pins_atQ heq x q c acc]
   unfold atQ
   rw [List.any_cons,Bool.or_assoc]
 obtain ⟨k1,k2⟩:=key (l.filter fun a=>neF a.2) [] List.Pairwise.nil
 refine ⟨k1,fun q c=>?_⟩
 rw [k2]
 unfold atQ
 rw [List.any_nil,Bool.false_or,Bool.eq_iff_iff,List.any_eq_true,List.any_eq_true]
 constructor
 ·rintro ⟨a,ha,h⟩
  exact ⟨a,(List.mem_filter.1 ha).1,h⟩
 rintro ⟨a,ha,h⟩
 refine ⟨a,List.mem_filter.2 ⟨ha,?_⟩,h⟩
 rw [Bool.and_eq_true] at h
 exact neF_T h.2
theorem SrK.get (hw:Swo lt) {l:List (κ×(Cf→Bool))} (h:SrK lt l) {a:κ×(Cf→Bool)} (ha:a∈l) (c:Cf):a.2 c=atQ a.1 c l:=by
 unfold atQ
 rw [Bool.eq_iff_iff,List.any_eq_true]
 constructor
 ·intro hc;exact ⟨a,ha,by rw [hc,decide_eq_true rfl];rfl⟩
 rintro ⟨b,hb,hbc⟩
 rw [Bool.and_eq_true,decide_eq_true_eq] at hbc
 have irr:∀ x,lt x x=false:=fun x=>by
  cases hx:lt x x with
  | false=>rfl
  | true=>have:=hw.asym _ _ hx;rw [hx] at this;exact this
 have:b=a:=by
  refine Classical.byContradiction fun hne=>?_
  obtain ⟨i,hi⟩:=List.getElem?_of_mem ha
  obtain ⟨j,hj⟩:=List.getElem?_of_mem hb
  have hp:=List.pairwise_iff_getElem.1 h
  rcases Nat.lt_trichotomy i j with hij | hij | hij
  ·have:=hp i j (List.getElem?_eq_some_iff.1 hi).1 (List.getElem?_eq_some_iff.1 hj).1 hij
   rw [(List.getElem?_eq_some_iff.1 hi).2,(List.getElem?_eq_some_iff.1 hj).2,hbc.1,irr] at this
   cases this
  ·subst hij;rw [hi] at hj;injection hj with hj;exact hne hj.symm
  ·have:=hp j i (List.getElem?_eq_some_iff.1 hj).1 (List.getElem?_eq_some_iff.1 hi).1 hij
   rw [(List.getElem?_eq_some_iff.1 hi).2,(List.getElem?_eq_some_iff.1 hj).2,hbc.1,irr] at this
   cases this
 rw [← this];exact hbc.2
end
open Go Go.Eng Go.Proofs Dg
theorem ltW_eq :∀ x y:List UInt8,ltC cmpW x y=false→ltC cmpW y x=false→x=y:=fun x y h1 h2=>cmpS_zero.1 (by
 have h3:cmpS y x<0↔0<cmpS x y:=cmpS_3.anti x y
 have h4: ¬ cmpS x y<0:=by simpa using h1
 have h5: ¬ cmpS y x<0:=by simpa using h2
 omega)
theorem clE_get (R:ClR) (k:ClK) (c:Cf):((R k).getD dvZ).1.ev c=clE R k c:=by
 unfold clE dvZ
 cases R k<;>rfl
section
variable {A : List TkV} {W : Cf → Bool} {cs : List Cf} {R : ClR} {done : List ClK} {o : List PrV}
abbrev wdA (A:List TkV) (c:Cf):List UInt8:=(clsN A c A.length).1
theorem PrG.at_ (h:PrG A W cs R done o) (q:List UInt8) (c:Cf):atQ q c (o.map kvP)=(W c&&decide (wdA A c=q)):=by
 obtain ⟨m,rfl,hm,_⟩:=h.j
 rw [hm,(joiN_sr cmpW_3.swo ltW_eq _).2 q c]
 unfold atQ
 rw [Bool.eq_iff_iff,List.any_eq_true,Bool.and_eq_true,decide_eq_true_eq]
 constructor
 ·rintro ⟨a,ha,hac⟩
  obtain ⟨t,ht,rfl⟩:=List.mem_map.1 ha
  obtain ⟨k,hk,rfl⟩:=List.mem_map.1 ht
  rw [Bool.and_eq_true,decide_eq_true_eq] at hac
  have h2:=hac.2
  rw [show (kvP (mkPr R k)).2 c=clE R k c from clE_get R k c,h.I.e,Bool.and_eq_true,decide_eq_true_eq] at h2
  exact ⟨h2.1,by show (clsN A c A.length).1=q;rw [h2.2];exact hac.1⟩
 rintro ⟨h1,h2⟩
 have he:clE R (clsN A c A.length) c=true:=by rw [h.I.e,h1,decide_eq_true rfl];rfl
 refine ⟨kvP (mkPr R (clsN A c A.length)),List.mem_map_of_mem (List.mem_map_of_mem ?_),?_⟩
 ·cases hv:R (clsN A c A.length) with
  | none=>unfold clE at he;rw [hv] at he;cases he
  | some v=>exact h.all _ v hv
 rw [Bool.and_eq_true,decide_eq_true_eq]
 exact ⟨h2,by rw [show (kvP (mkPr R (clsN A c A.length))).2 c=clE R (clsN A c A.length) c from clE_get R _ c];exact he⟩
theorem PrG.sr (h:PrG A W cs R done o):SrK (ltC cmpW) (o.map kvP):=by
 obtain ⟨m,rfl,hm,_⟩:=h.j
 rw [hm]
 exact (joiN_sr cmpW_3.swo ltW_eq _).1
theorem PrG.ev (h:PrG A W cs R done o) {t:PrV} (ht:t∈o) (c:Cf):t.d.ev c=(W c&&decide (wdA A c=t.x)):=by
 rw [← h.at_ t.x c]
 exact h.sr.get cmpW_3.swo (List.mem_map_of_mem (f:=kvP) ht) c
theorem PrG.some_ (h:PrG A W cs R done o) {c:Cf} (hc:W c=true):∃ t∈o,t.x=wdA A c:=by
 have h1:=h.at_ (wdA A c) c
 rw [hc,decide_eq_true rfl] at h1
 obtain ⟨a,ha,hac⟩:=List.any_eq_true.1 h1
 obtain ⟨t,ht,rfl⟩:=List.mem_map.1 ha
 rw [Bool.and_eq_true,decide_eq_true_eq] at hac
 exact ⟨t,ht,hac.1⟩
theorem PrG.ne (h:PrG A W cs R done o) {t:PrV} (ht:t∈o):∃ c,t.d.ev c=true:=by
 obtain ⟨m,rfl,hm,_⟩:=h.j
 have:=joiN_ne cmpW_3.swo (l:=(done.map (mkPr R)).map kvP) (kvP t) (by rw [← hm];exact List.mem_map_of_mem ht)
 unfold neF at this
 exact @of_decide_eq_true _ (Classical.propDecidable _) this
theorem PrG.words (h:PrG A W cs R done o):(o.map fun t=>t.x).Nodup:=by
 have hs:=h.sr
 have e:(o.map fun t=>t.x)=(o.map kvP).map Prod.fst:=by rw [List.map_map];rfl
 rw [e]
 refine List.Pairwise.map _ (fun a b hab he=>?_) hs
 rw [he] at hab
 have:=cmpW_3.swo.asym _ _ hab
 rw [hab] at this
 cases this
end
open Go Go.Eng Go.Proofs Dg
section
variable {f : Nat → List UInt8}
abbrev GrD (o:List (List UInt8×List Nat)):Prop:=o.Pairwise fun p q=>p.1≠q.1
theorem grp1_none {w:List UInt8} {n:Nat}:∀ {o:List (List UInt8×List Nat)},(∀ p∈o,p.1≠w)→grp1 w n o=o++[(w,[n])]
 | [],_=>rfl
 | (v,l)::r,h=>by
  unfold grp1
  rw [if_neg (h (v,l) (List.mem_cons_self ..)),grp1_none fun p hp=>h p (List.mem_cons_of_mem _ hp)]
  rfl
theorem grp1_some {w:List UInt8} {n:Nat}:∀ {o:List (List UInt8×List Nat)},GrD o→(∃ p∈o,p.1=w)→grp1 w n o=o.map fun p=>if p.1=w then (p.1,p.2++[n]) else p
 | [],_,⟨p,hp,_⟩=>by cases hp
 | (v,l)::r,hd,⟨p,hp,hw⟩=>by
  obtain ⟨h1,h2⟩:=List.pairwise_cons.1 hd
  unfold grp1
  rw [List.map_cons]
  by_cases hv:v=w
  ·rw [if_pos hv,if_pos hv]
   congr 1
   refine (List.map_id r).symm.trans (List.map_congr_left fun q hq=>?_)
   rw [if_neg (fun e=>h1 q hq (hv.trans e.symm))]
   rfl
  ·rw [if_neg hv,if_neg hv]
   congr 1
   refine grp1_some h2 ?_
   rcases List.mem_cons.1 hp with rfl | hp
   ·exact absurd hw hv
   ·exact ⟨p,hp,hw⟩
structure GrI (f:Nat→List UInt8) (l:List Nat) (o:List (List UInt8×List Nat)):Prop where
 a:∀ p∈o,p.2=l.filter (fun n=>decide (f n=p.1))∧p.2≠[]
 b:∀ n∈l,∃ p∈o,p.1=f n
 d:GrD o
 c:o.Pairwise fun p q=>p.2.headD 0<q.2.headD 0
theorem headD_app {l:List Nat} {n:Nat} (h:l≠[]):(l++[n]).headD 0=l.headD 0:=by
 cases l with
 | nil=>exact absurd rfl h
 | cons x l=>rfl
theorem GrI.snoc {l:List Nat} {o:List (List UInt8×List Nat)} {n:Nat} (h:GrI f l o) (hn:∀ m∈l,m<n):GrI f (l++[n]) (grp1 (f n) n o):=by
 by_cases he:∃ p∈o,p.1=f n
 ·rw [grp1_some h.d he]
  have h1:∀ p:List UInt8×List Nat,(if p.1=f n then (p.1,p.2++[n]) else p).1=p.1:=fun p=>by split<;>rfl
  have h2:∀ p∈o,(if p.1=f n then (p.1,p.2++[n]) else p).2.headD 0=p.2.headD 0:=fun p hp=>by
   split
   ·exact headD_app (h.a p hp).2
   ·rfl
  refine ⟨fun q hq=>?_,fun m hm=>?_,?_,?_⟩
  ·obtain ⟨p,hp,rfl⟩:=List.mem_map.1 hq
   obtain ⟨h3,h4⟩:=h.a p hp
   rw [h1,List.filter_append]
   by_cases hpn:p.1=f n
   ·rw [if_pos hpn]
    refine ⟨?_,by simp⟩
    rw [List.filter_cons_of_pos (by simp [hpn]),List.filter_nil,← h3]
   rw [if_neg hpn,List.filter_cons_of_neg (by simpa using fun e=>hpn e.symm),List.filter_nil,List.append_nil]
   exact ⟨h3,h4⟩
  ·rcases List.mem_append.1 hm with hm | hm
   ·obtain ⟨p,hp,e⟩:=h.b m hm
    exact ⟨_,List.mem_map_of_mem hp,by rw [h1];exact e⟩
   obtain ⟨p,hp,e⟩:=he
   exact ⟨_,List.mem_map_of_mem hp,by rw [h1,e,List.mem_singleton.1 hm]⟩
  ·exact List.pairwise_map.2 (h.d.imp fun hab=>by rw [h1,h1];exact hab)
  refine List.pairwise_map.2 ?_
  exact List.Pairwise.imp_of_mem (fun ha hb hab=>by rw [h2 _ ha,h2 _ hb];exact hab) h.c
 have hne:∀ p∈o,p.1≠f n:=fun p hp e=>he ⟨p,hp,e⟩
 rw [grp1_none hne]
 have hfn:l.filter (fun m=>decide (f m=f n))=[]:=List.filter_eq_nil_iff.2 fun m hm=>by
  obtain ⟨p,hp,e⟩:=h.b m hm
  simpa using fun e2=>hne p hp (e.trans e2)
 refine ⟨fun q hq=>?_,fun m hm=>?_,?_,?_⟩
 ·rw [List.filter_append]
  rcases List.mem_append.1 hq with hq | hq
  ·obtain ⟨h3,h4⟩:=h.a q hq
   rw [List.filter_cons_of_neg (by simpa using fun e=>hne q hq e.symm),List.filter_nil,List.append_nil]
   exact ⟨h3,h4⟩
  rw [List.mem_singleton.1 hq]
  refine ⟨?_,by simp⟩
  show [n]=_
  rw [hfn,List.filter_cons_of_pos (by simp)]
  rfl
 ·rcases List.mem_append.1 hm with hm | hm
  ·obtain ⟨p,hp,e⟩:=h.b m hm
   exact ⟨p,List.mem_append_left _ hp,e⟩
  exact ⟨_,List.mem_append_right _ (List.mem_singleton.2 rfl),by rw [List.mem_singleton.1 hm]⟩
 ·exact List.pairwise_append.2 ⟨h.d,List.pairwise_singleton _ _,fun p hp q hq=>by rw [List.mem_singleton.1 hq];exact hne p hp⟩
 refine List.pairwise_append.2 ⟨h.c,List.pairwise_singleton _ _,fun p hp q hq=>?_⟩
 rw [List.mem_singleton.1 hq]
 show p.2.headD 0<n
 obtain ⟨h3,h4⟩:=h.a p hp
 cases hp2:p.2 with
 | nil=>exact absurd hp2 h4
 | cons m r=>
  refine hn m ?_
  have:m∈l.filter (fun n=>decide (f n=p.1)):=by rw [← h3,hp2];exact List.mem_cons_self ..
  exact (List.mem_filter.1 this).1
theorem grpN_I :∀ {d:List Nat},d.Pairwise (· < ·)→GrI f d (grpN f d):=fun {d} hd=>by
 have key:∀ (m l:List Nat) (o:List (List UInt8×List Nat)),(l++m).Pairwise (· < ·)→GrI f l o→GrI f (l++m) (m.foldl (fun o n=>grp1 (f n) n o) o):=by
  intro m
  induction m with
  | nil=>intro l o _ h;rw [List.append_nil];exact h
  | cons n m ih=>
   intro l o hp h
   have h1:(l++[n]++m).Pairwise (· < ·):=by rw [List.append_assoc];exact hp
   have h2:=ih (l++[n]) (grp1 (f n) n o) h1 (h.snoc fun k hk=>(List.pairwise_append.1 hp).2.2 k hk n (List.mem_cons_self ..))
   rw [List.append_assoc] at h2
   exact h2
 exact key d [] [] hd ⟨fun p hp=>(by cases hp),fun n hn=>(by cases hn),List.Pairwise.nil,List.Pairwise.nil⟩
end
end Go.Proofs.YtedbajbgnmaakaaGreatDoor
