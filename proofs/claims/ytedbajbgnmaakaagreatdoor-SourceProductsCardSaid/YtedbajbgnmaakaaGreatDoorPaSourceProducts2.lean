/- Parts of the walk, put together by a program. By an AI agent. -/
import Derived.Test.YtedbajbgnmaakaaGreatDoorPaSourceProducts1
import Derived.RangeFuncOwn
import Derived.RangeFuncLeaves
import Derived.RangeFuncSeq
import Derived.OrdersIn
import Derived.TacticsIn
set_option linter.unusedSimpArgs false
set_option linter.unusedVariables false
namespace Dg
def KnowsL (l:List Dec) (f:Dec→Option Nat):Prop:=∀ x p,f x=some p↔∃ k,p=k+2∧l[k]?=some x
theorem KnowsL.nil :KnowsL [] (fun _=>none):=fun x p=>by simp
theorem KnowsL.snoc {l:List Dec} {f:Dec→Option Nat} (h:KnowsL l f) (x:Dec) (hx:f x=none):KnowsL (l++[x]) (fun y=>if y=x then some (l.length+2) else f y):=by
 intro y p
 by_cases he:y=x
 ·subst he
  simp only [if_pos]
  constructor
  ·intro e
   cases e
   exact ⟨l.length,rfl,by simp⟩
  rintro ⟨k,rfl,hk⟩
  by_cases hl:k<l.length
  ·rw [List.getElem?_append_left hl] at hk
   have:=(h y (k+2)).2 ⟨k,rfl,hk⟩
   rw [hx] at this;cases this
  have:=(List.getElem?_eq_some_iff.1 hk).1
  simp at this
  have e:k=l.length:=by omega
  rw [e]
 simp only [if_neg he]
 rw [h y p]
 constructor
 ·rintro ⟨k,rfl,hk⟩
  exact ⟨k,rfl,by rw [List.getElem?_append_left (List.getElem?_eq_some_iff.1 hk).1];exact hk⟩
 rintro ⟨k,rfl,hk⟩
 by_cases hl:k<l.length
 ·exact ⟨k,rfl,by rw [List.getElem?_append_left hl] at hk;exact hk⟩
 have:=(List.getElem?_eq_some_iff.1 hk).1
 simp at this
 have e:k=l.length:=by omega
 subst e
 simp at hk
 exact absurd hk.symm he
structure MadeN (l l':List Dec) (p:Nat) (t:BT):Prop where
 ismk:Mk l'
 pre:∃ r,l'=l++r
 lt:p<l'.length+2
 tree:trs l' p=t
theorem MadeN.same {l:List Dec} (h:Mk l) {i p:Nat} (hp:p<l.length+2):MadeN l l p (mkN i (trs l p) (trs l p)):=
 ⟨h,⟨[],by simp⟩,hp,by rw [mkN_same]⟩
theorem MadeN.known {l:List Dec} {f:Dec→Option Nat} (h:Mk l) (hf:KnowsL l f) {i lo hi p:Nat} (hne:lo≠hi) (hlo:lo<l.length+2) (hhi:hi<l.length+2) (hp:f (i,lo,hi)=some p):MadeN l l p (mkN i (trs l lo) (trs l hi)):=by
 obtain ⟨k,rfl,hk⟩:=(hf _ _).1 hp
 have hlt:=(List.getElem?_eq_some_iff.1 hk).1
 refine ⟨h,⟨[],by simp⟩,by omega,?_⟩
 rw [h.at hk,mkN_ne (fun e=>hne (h.inj hlo hhi e))]
theorem MadeN.new {l:List Dec} {f:Dec→Option Nat} (h:Mk l) (hf:KnowsL l f) {i lo hi:Nat} (hi24:i<24) (hne:lo≠hi) (hlo:lo<l.length+2) (hhi:hi<l.length+2) (hp:f (i,lo,hi)=none):MadeN l (l++[(i,lo,hi)]) (l.length+2) (mkN i (trs l lo) (trs l hi)):=by
 have hn:(i,lo,hi)∉l:=by
  intro hm
  obtain ⟨k,hk⟩:=List.getElem?_of_mem hm
  have:=(hf _ _).2 ⟨k,rfl,hk⟩
  rw [hp] at this;cases this
 refine ⟨h.snoc ⟨hi24,hlo,hhi,hne⟩ hn,⟨_,rfl⟩,by simp,?_⟩
 rw [trs_snoc_new,mkN_ne (fun e=>hne (h.inj hlo hhi e))]
def PlaceOk (l o:List Dec) (f:Nat→Option Nat):Prop:=∀ r p,r<l.length+2→(f r=some p↔p<o.length+2∧trs o p=trs l r)
theorem PlaceOk.nil {l:List Dec} (h:Mk l):PlaceOk l [] (fun r=>if r=1 then some 1 else if r=0 then some 0 else none):=by
 intro r p hr
 have z:=trs_zero ([]:List Dec)
 have z':=trs_zero l
 by_cases h1:r=1
 ·subst h1
  simp only [if_pos,z'.2,List.length_nil]
  constructor
  ·intro e;cases e;exact ⟨by omega,z.2⟩
  rintro ⟨hp,e⟩
  have:p=1:=by
   rcases p with _ | _ | p
   ·rw [z.1] at e;cases e
   ·rfl
   ·omega
  rw [this]
 by_cases h0:r=0
 ·subst h0
  simp only [if_pos,if_neg h1,z'.1,List.length_nil]
  constructor
  ·intro e;cases e;exact ⟨by omega,z.1⟩
  rintro ⟨hp,e⟩
  have:p=0:=by
   rcases p with _ | _ | p
   ·rfl
   ·rw [z.2] at e;cases e
   ·omega
  rw [this]
 simp only [if_neg h1,if_neg h0]
 constructor
 ·intro e;cases e
 rintro ⟨hp,e⟩
 exfalso
 simp only [List.length_nil] at hp
 rcases p with _ | _ | p
 ·rw [z.1] at e;have:=h.lf hr e.symm;omega
 ·rw [z.2] at e;have:=h.lf hr e.symm;omega
 omega
theorem PlaceOk.hit {l o:List Dec} {f:Nat→Option Nat} (hm:Mk o) (h:PlaceOk l o f) {r p:Nat} (hr:r<l.length+2) (hp:f r=some p):visitT (trs l r) o=(o,p):=by
 obtain ⟨h1,h2⟩:=(h r p hr).1 hp
 cases ht:trs l r with
 | lf b=>
  rw [ht] at h2
  have h3:=hm.lf h1 h2
  have z:=trs_zero o
  cases b with
  | false=>
   rcases p with _ | _ | p
   ·rfl
   ·rw [z.2] at h2;cases h2
   ·omega
  | true=>
   rcases p with _ | _ | p
   ·rw [z.1] at h2;cases h2
   ·rfl
   ·omega
 | nd v lo hi=>
  rw [ht] at h2
  unfold visitT
  rw [look_eq hm h1 h2]
theorem PlaceOk.miss {l o:List Dec} {f:Nat→Option Nat} (hl:Mk l) (h:PlaceOk l o f) {r:Nat} (hr:r<l.length+2) (hp:f r=none):
  ∃ x,2≤r∧l[r - 2]?=some x∧x.2.1<r∧x.2.2<r∧x.1<24∧trs l r= .nd x.1 (trs l x.2.1) (trs l x.2.2)∧look o (trs l r)=none:=by
 have hlook:look o (trs l r)=none:=by
  cases hk:look o (trs l r) with
  | none=>rfl
  | some p=>
   have:=(h r p hr).2 (look_some hk)
   rw [hp] at this;cases this
 have h2:2≤r:=by
  rcases Nat.lt_or_ge r 2 with h2 | h2
  ·exfalso
   rcases r with _ | _ | r
   ·have:=(h 0 0 hr).2 ⟨by omega,by rw [(trs_zero o).1,(trs_zero l).1]⟩
    rw [hp] at this;cases this
   ·have:=(h 1 1 hr).2 ⟨by omega,by rw [(trs_zero o).2,(trs_zero l).2]⟩
    rw [hp] at this;cases this
   ·omega
  ·exact h2
 obtain ⟨k,rfl⟩:∃ k,r=k+2:=⟨r - 2,by omega⟩
 have hk:k<l.length:=by omega
 have hx:=List.getElem?_eq_getElem hk
 have hb:=hl.kid k _ hx
 exact ⟨l[k],h2,hx,hb.2.1,hb.2.2.1,hb.1,hl.at hx,hlook⟩
theorem PlaceOk.step {l o o2:List Dec} {f2:Nat→Option Nat} {r v p1 p2:Nat} {lo hi:BT} (hl:Mk l) (hr:r<l.length+2) (ht:trs l r= .nd v lo hi) (hlook:look o (.nd v lo hi)=none)
  (ho2:o2=(visitT hi (visitT lo o).1).1) (h2:PlaceOk l o2 f2) (h:trs (o2++[(v,p1,p2)]) (o2.length+2)= .nd v lo hi):
  PlaceOk l (o2++[(v,p1,p2)]) (fun q=>if q=r then some (o2.length+2) else f2 q):=by
 have hfresh:=visitT_fresh hlook
 rw [← ho2] at hfresh
 intro q p hq
 by_cases hqr:q=r
 ·subst hqr
  simp only [if_pos]
  constructor
  ·intro e;cases e;exact ⟨by simp,by rw [h,ht]⟩
  rintro ⟨hp,e⟩
  rw [List.length_append,List.length_singleton] at hp
  by_cases hlt:p<o2.length+2
  ·rw [trs_snoc_old hlt,ht] at e
   exact absurd e (hfresh p hlt)
  rw [show p=o2.length+2 by omega]
 simp only [if_neg hqr]
 rw [h2 q p hq]
 constructor
 ·rintro ⟨hp,e⟩
  exact ⟨by rw [List.length_append,List.length_singleton];omega,by rw [trs_snoc_old hp,e]⟩
 rintro ⟨hp,e⟩
 rw [List.length_append,List.length_singleton] at hp
 by_cases hlt:p<o2.length+2
 ·rw [trs_snoc_old hlt] at e
  exact ⟨hlt,e⟩
 have hpe:p=o2.length+2:=by omega
 rw [hpe,h,← ht] at e
 exact absurd (hl.inj hr hq e).symm hqr
end Dg
namespace Go.Eng
open Go Go.RowKit
section
variable {P : Program} {w0 : World} {O : List Nat} {ops : Array Oper} {Q : Exit → Act → World → Prop} {N : Nat} {D : List Deferred} {L : FL} {C : List Chunk} {K : Act → World → Prop}
theorem WA.openB {F:List Nat} {α:Type} {Cs:α→List Chunk} {φ:α→Prop} (h:∀ x,φ x→(∀ c∈Cs x,∀ k,c.fp k→k∈F)→(∀ k∈F,∃ c∈Cs x,c.fp k)→WA w0 O K N D L (Cs x++C)):WA w0 O K N D L (bun F Cs φ::C):=fun a w hF hS=>by
 obtain ⟨x,h1,h2,h3,h4⟩:=hS.bunOpen
 exact h x h1 h2 h3 a w hF h4
end
end Go.Eng
namespace Go.Proofs.YtedbajbgnmaakaaGreatDoor
open Go Go.Eng Go.Proofs Dg
theorem keyDec :KeyT Tryz.prog 155 enc3:=KeyT.threeOf (by kernel_rfl)
theorem keyInt :KeyT Tryz.prog 3 encI:=KeyT.nat (by kernel_rfl)
theorem undMD :Tryz.prog.underlying 207=some (.map 155 3):=by kernel_rfl
theorem undMI :Tryz.prog.underlying 211=some (.map 3 3):=by kernel_rfl
theorem zeroInt (w:World):(zeroValue 3).run Tryz.prog w= .ok (.int .i64 0) w:=by kernel_rfl
def decs (l:List Dec):List Value:=l.flatMap fun x=>[.int .i64 (x.1:Int),.int .i64 (x.2.1:Int),.int .i64 (x.2.2:Int)]
theorem decs_append (l m:List Dec):decs (l++m)=decs l++decs m:=by simp [decs]
theorem decs_len :∀ l:List Dec,(decs l).length=l.length*3
 | []=>rfl
 | x::l=>by
  have:=decs_len l
  simp only [decs,List.flatMap_cons,List.length_append,List.length_cons,List.length_nil] at this ⊢
  omega
theorem decs_at :∀ {l:List Dec} {k:Nat} {x:Dec},l[k]?=some x→∀ j u,[Value.int .i64 (x.1:Int),.int .i64 (x.2.1:Int),.int .i64 (x.2.2:Int)][j]?=some u→(decs l)[k*3+j]?=some u
 | [],k,x,h,_,_,_=>by simp at h
 | y::l,0,x,h,j,u,hj=>by
  simp only [List.getElem?_cons_zero,Option.some.injEq] at h
  subst h
  have hjl:=(List.getElem?_eq_some_iff.1 hj).1
  show ([Value.int .i64 (y.1:Int),.int .i64 (y.2.1:Int),.int .i64 (y.2.2:Int)]++decs l)[0*3+j]?=_
  rw [Nat.zero_mul,Nat.zero_add,List.getElem?_append_left hjl]
  exact hj
 | y::l,k+1,x,h,j,u,hj=>by
  simp only [List.getElem?_cons_succ] at h
  have ih:=decs_at h j u hj
  show ([Value.int .i64 (y.1:Int),.int .i64 (y.2.1:Int),.int .i64 (y.2.2:Int)]++decs l)[(k+1)*3+j]?=_
  rw [List.getElem?_append_right (by simp;omega)]
  simp only [List.length_cons,List.length_nil]
  rw [show (k+1)*3+j - (0+1+1+1)=k*3+j by omega]
  exact ih
theorem decs_one (l:List Dec):∀ u∈decs l,u.oneCell'=true:=by
 intro u hu
 simp only [decs,List.mem_flatMap] at hu
 obtain ⟨x,_,hu⟩:=hu
 simp only [List.mem_cons,List.not_mem_nil,or_false] at hu
 rcases hu with rfl | rfl | rfl<;>rfl
def RdDec (w:World) (l:List Dec) (a:Option Addr):Prop:=∀ j u,(decs l)[j]?=some u→∃ b off,a=some ⟨b,off,none⟩∧w.cell? ⟨b,off+j,none⟩=some u
theorem RdDec.next {w0 w:World} {O:List Nat} {C:List Chunk} {l:List Dec} {a:Option Addr} (h:RdDec w0 l a) (hS:St w0 O C w) (hO:∀ b off,a=some ⟨b,off,none⟩→b<w0.heap.size→b∉O):RdDec w l a:=fun j u hu=>by
 obtain ⟨b,off,ha,hc⟩:=h j u hu
 exact ⟨b,off,ha,hS.oldc hc (hO b off ha (World.block_lt_of_cell? w0 _ hc))⟩
theorem RdDec.next0 {w0 w:World} {C:List Chunk} {l:List Dec} {a:Option Addr} (h:RdDec w0 l a) (hS:St w0 [] C w):RdDec w l a:=h.next hS (by simp)
theorem RdDec.at {w:World} {l:List Dec} {a:Option Addr} (h:RdDec w l a) {k:Nat} {x:Dec} (hk:l[k]?=some x):∃ b off,a=some ⟨b,off,none⟩∧∀ j u,[Value.int .i64 (x.1:Int),.int .i64 (x.2.1:Int),.int .i64 (x.2.2:Int)][j]?=some u→w.cell? ⟨b,off+k*3+j,none⟩=some u:=by
 obtain ⟨b,off,ha,_⟩:=h (k*3+0) _ (decs_at hk 0 _ rfl)
 refine ⟨b,off,ha,fun j u hj=>?_⟩
 obtain ⟨b',off',ha',hc⟩:=h (k*3+j) u (decs_at hk j u hj)
 rw [ha] at ha'
 injection ha' with e
 injection e with e1 e2
 subst e1;subst e2
 rw [Nat.add_assoc];exact hc
theorem RdDec.of_row {w:World} {l:List Dec} {a:Option Addr} {n cap:Nat} {e:TypeId} (hn:n=l.length) (h:(rowc (.slice a n cap) n e 3 (decs l)).ok w):RdDec w l a:=fun j u hu=>by
 have hpos:0<n:=by
  have h1:=(List.getElem?_eq_some_iff.1 hu).1
  rw [decs_len] at h1;omega
 obtain ⟨g,hg,_,_⟩:=rowc_addr h hpos
 subst hg
 exact ⟨g,0,rfl,by rw [Nat.zero_add];exact rowc_cells h hu⟩
abbrev dC (a:Option Addr) (c:Nat) (t:BT):Chunk:=rowc (.slice a (canon t).1.length c) (canon t).1.length 155 3 (decs (canon t).1)
abbrev dval (t:BT) (a:Option Addr) (c:Nat):Value:= .agg [.slice a (canon t).1.length c,.int .i64 ((canon t).2:Int)].toArray
def RdD (w:World) (t:BT) (a:Option Addr):Prop:=t.ok 0∧RdDec w (canon t).1 a
theorem RdD.next0 {w0 w:World} {C:List Chunk} {t:BT} {a:Option Addr} (h:RdD w0 t a) (hS:St w0 [] C w):RdD w t a:=⟨h.1,h.2.next0 hS⟩
theorem RdD.of_row {w:World} {t:BT} {a:Option Addr} {c:Nat} (ht:t.ok 0) (h:(dC a c t).ok w):RdD w t a:=⟨ht,RdDec.of_row rfl h⟩
abbrev mkCs (bm:Nat) (l:List Dec) (x:Option Addr×Nat×Nat×(Dec→Option Nat)):List Chunk:=
 [pt bm [.slice x.1 l.length x.2.1,.map (some x.2.2.1)] 209,rowc (.slice x.1 l.length x.2.1) l.length 155 3 (decs l),mpg enc3 x.2.2.1 (fun y=>(x.2.2.2 y).map encI)]
def mkr (F:List Nat) (bm:Nat) (l:List Dec):Chunk:=bun F (mkCs bm l) (fun x=>KnowsL l x.2.2.2)
theorem mkr_fp {bm:Nat} {l:List Dec} (x:Option Addr×Nat×Nat×(Dec→Option Nat)):FpL (mkCs bm l x) ([bm]++(ob (.slice x.1 l.length x.2.1)++([x.2.2.1]++[]))):= .cons FpIs.pt (.cons FpIs.rowc (.cons FpIs.mpg .nil))
theorem St.mkrClose {w0 w:World} {O:List Nat} {C:List Chunk} {bm:Nat} {l:List Dec} {a:Option Addr} {c b n:Nat} {f:Dec→Option Nat} {g:Dec→Option Value} (hf:KnowsL l f) (hg:g=fun y=>(f y).map encI) (hn:n=l.length) {xs:List Value} (hx:xs=decs l)
  (h:St w0 O (pt bm [.slice a n c,.map (some b)] 209::rowc (.slice a n c) n 155 3 xs::mpg enc3 b g::C) w):St w0 O (mkr ([bm]++(ob (.slice a l.length c)++([b]++[]))) bm l::C) w:=by
 subst hg;subst hn;subst hx
 exact St.bunClose' (Cs:=mkCs bm l) (a,c,b,f) hf (mkr_fp (a,c,b,f)) h
theorem newMaker_c (w:World):Calls Tryz.prog 75 [].toArray w fun e w'=>∃ x:List Nat×Nat,e= .returned (pp x.2)∧St w [] [mkr x.1 x.2 []] w':=by
 refine enter Tryz.func75 rfl Tryz.ntmps75 rfl (St.init _) ?_
 refine jN 9 ?_
 refine WL.makeMapG enc3 rfl (fun b1=>?_)
 refine jN 3 ?_
 refine WL.boxN rfl rfl (fun b3=>?_)
 refine jN 5 ?_
 refine WQ.ret (rs:=[.tmp 0]) rfl (.tmp rfl .nil) (fun w hS=>⟨(_,b3),rfl,St.mkrClose (l:=[]) (a:=none) (c:=0) (b:=b1) (n:=0) (f:=fun _=>none) KnowsL.nil rfl rfl rfl ?_⟩)
 exact St.pick (hS.rowNil 155 3) (c:=pt b3 [.slice none 0 0,.map (some b1)] 209) jR
theorem mnode_c (Fp:List Nat) (bm:Nat) (l:List Dec) (i lo hi:Nat) (w:World) (h24:i<24) (hm:Mk l) (hlo:lo<l.length+2) (hhi:hi<l.length+2) (hlen:l.length≤16777214) (hS0:St w Fp [mkr Fp bm l] w):
  Calls Tryz.prog 76 [pp bm,.int .i64 (i:Int),.int .i64 (lo:Int),.int .i64 (hi:Int)].toArray w fun e w'=>∃ x:{x:List Nat×List Dec×Nat // MadeN l x.2.1 x.2.2 (mkN i (trs l lo) (trs l hi))∧x.2.1.length≤l.length+1},e= .returned (.int .i64 (x.1.2.2:Int))∧St w Fp [mkr x.1.1 bm x.1.2.1] w':=by
 obtain ⟨⟨a,c,bk,fk⟩,hk,h1,h2,hS0⟩:=hS0.bunOpen
 simp only [List.cons_append,List.nil_append] at hS0
 refine enter Tryz.func76 rfl Tryz.ntmps76 rfl (C:=[pt bm [.slice a l.length c,.map (some bk)] 209,rowc (.slice a l.length c) l.length 155 3 (decs l),mpg enc3 bk (fun y=>(fk y).map encI)]) hS0 ?_
 refine jN 17 ?_
 refine WC.cond rfl (fun h14=>?_) (fun h14=>?_)
 ·have he:lo=hi:=by simp at h14;omega
  subst he
  refine jN 10 ?_
  refine WQ.ret (rs:=[.tmp 8]) rfl (.tmp rfl .nil) (fun w hS=>⟨⟨(Fp,l,lo),MadeN.same hm hlo,Nat.le_succ _⟩,rfl,?_⟩)
  exact hS.bunClose (Cs:=mkCs bm l) (a,c,bk,fk) hk h1 h2
 have hne:lo≠hi:=by simp at h14;omega
 refine jN 13 ?_
 refine WL.alloc F.zero155 rfl (fun b9=>?_)
 refine jN 5 ?_
 rcases Option.eq_none_or_eq_some (fk (i,lo,hi)) with hf | ⟨p,hf⟩
 ·refine WC.drawsL (by kernel_rfl) (FactsOk.cons (ds:=[]) (LoadOk.one (t:=0) (off:=1) rfl jM rfl) (FactsOk.cons (ds:=[]) (LoadOk.whole (t:=9) rfl jM) (FactsOk.cons (ds:=[]) (LoadOk.by (Y:=fun w=>(mpg enc3 bk (fun y=>(fk y).map encI)).ok w) (fun w hS=>hS.ok _ jM)) (FactsOk.nil)))) ?_
  refine jQ [0,1] ?_
  refine jT 2 rfl (Yl.fieldAddr0 F.fld209_1 rfl) ?_
  refine jF 3 0 rfl rfl (Yl.load1 F.one207 rfl) ?_
  refine jF 4 1 rfl rfl (Yl.loadN F.agg155 rfl rfl) ?_
  refine jF 5 2 rfl rfl (Yl.lookupMiss (f:=fun y=>(fk y).map encI) (i,lo,hi) undMD keyDec zeroInt rfl rfl rfl (by rw [hf];rfl)) ?_
  refine jQ [6] ?_
  refine jT 7 rfl (Yl.extract rfl rfl) ?_
  refine jT 8 rfl (Yl.extract rfl rfl) ?_
  refine jQ [9,10] ?_
  refine jD ?_
  refine jN 12 ?_
  refine WC.drawsL (by kernel_rfl) (FactsOk.cons (ds:=[7,10]) (LoadOk.one (t:=0) (off:=0) rfl jM rfl) (FactsOk.cons (ds:=[6,7,10]) (LoadOk.whole (t:=9) rfl jM) (FactsOk.nil))) ?_
  refine jQ [0,1,2] ?_
  refine jT 3 rfl (Yl.fieldAddr0 F.fld209_0 rfl) ?_
  refine jF 4 0 rfl rfl (Yl.load1 F.one48 rfl) ?_
  refine jF 5 1 rfl rfl (Yl.loadN F.agg155 rfl rfl) ?_
  refine jA 6 rfl ?_
  refine WL.buildSlice F.sl48 F.ez48 rfl rfl rfl rfl jB rfl (fun b37=>?_)
  refine WD.on (closed_of (by kernel_rfl)) (fun w hS=>Sx.keep (hS.cell jM rfl) (Sx.gone rfl (Sx.none))) ?_
  refine jA 7 rfl ?_
  refine WL.appendE (news:=decs [(i,lo,hi)]) F.el48 rfl rfl rfl jR (fun w hS jj u hu=>by rw [Nat.zero_add];exact hS.cell (cs:=[.int .i64 (i:Int),.int .i64 (lo:Int),.int .i64 (hi:Int)]) jM hu) rfl (decs_one _) (Nat.le_trans (m:=16777216) (by omega) (by decide)) (by omega) (fun a2 c2=>?_)
  refine jG ?_
  refine jQ [8] ?_
  refine jT 9 rfl (Yl.fieldAddr0 F.fld209_0 rfl) ?_
  refine jA 10 rfl ?_
  refine WL.store1 F.one48 rfl rfl rfl jU jS ?_
  refine jG ?_
  refine jD ?_
  refine jN 19 ?_
  refine WC.drawsL (by kernel_rfl) (FactsOk.cons (ds:=[6]) (LoadOk.one (t:=0) (off:=1) rfl jM rfl) (FactsOk.cons (ds:=[6]) (LoadOk.whole (t:=9) rfl jM) (FactsOk.nil))) ?_
  refine jQ [0,1] ?_
  refine jT 2 rfl (Yl.fieldAddr0 F.fld209_1 rfl) ?_
  refine jF 3 0 rfl rfl (Yl.load1 F.one207 rfl) ?_
  refine jF 4 1 rfl rfl (Yl.loadN F.agg155 rfl rfl) ?_
  refine jQ [5] ?_
  refine jA 6 rfl ?_
  refine WL.mapPutG (f:=fun y=>(fk y).map encI) (i,lo,hi) undMD keyDec rfl rfl rfl rfl jU ?_
  refine jG ?_
  refine jD ?_
  refine jN 10 ?_
  have hlen2:(l++[(i,lo,hi)]).length=l.length+1:=by simp
  refine WQ.ret (rs:=[.tmp 8]) rfl (.tmp rfl .nil) (fun w hS=>⟨⟨([bm]++(ob (.slice a2 (l++[(i,lo,hi)]).length c2)++([bk]++[])),l++[(i,lo,hi)],l.length+2),MadeN.new hm hk h24 hne hlo hhi hf,by simp⟩,rfl,?_⟩)
  refine St.mkrClose (a:=a2) (c:=c2) (b:=bk) (n:=l.length+1) (hk.snoc (i,lo,hi) hf) ?_ hlen2.symm (decs_append _ _).symm (jK hS)
  funext q
  by_cases hq:q=(i,lo,hi)
  ·simp only [if_pos hq,Option.map_some,encI];rfl
  simp only [if_neg hq]
 refine WC.drawsL (by kernel_rfl) (FactsOk.cons (ds:=[]) (LoadOk.one (t:=0) (off:=1) rfl jM rfl) (FactsOk.cons (ds:=[]) (LoadOk.whole (t:=9) rfl jM) (FactsOk.cons (ds:=[]) (LoadOk.by (Y:=fun w=>(mpg enc3 bk (fun y=>(fk y).map encI)).ok w) (fun w hS=>hS.ok _ jM)) (FactsOk.nil)))) ?_
 refine jQ [0,1] ?_
 refine jT 2 rfl (Yl.fieldAddr0 F.fld209_1 rfl) ?_
 refine jF 3 0 rfl rfl (Yl.load1 F.one207 rfl) ?_
 refine jF 4 1 rfl rfl (Yl.loadN F.agg155 rfl rfl) ?_
 refine jF 5 2 rfl rfl (Yl.lookupHit (f:=fun y=>(fk y).map encI) (v:=encI p) (i,lo,hi) undMD keyDec zeroInt rfl rfl rfl (by rw [hf];rfl)) ?_
 refine jQ [6] ?_
 refine jT 7 rfl (Yl.extract rfl rfl) ?_
 refine jT 8 rfl (Yl.extract rfl rfl) ?_
 refine jQ [9,10] ?_
 refine jD ?_
 refine jN 22 ?_
 refine WQ.ret (rs:=[.tmp 8]) rfl (.tmp rfl .nil) (fun w hS=>⟨⟨(Fp,l,p),MadeN.known hm hk hne hlo hhi hf,Nat.le_succ _⟩,rfl,?_⟩)
 exact St.bunClose (Cs:=mkCs bm l) (a,c,bk,fk) hk h1 h2 (jK hS)
theorem place_map {f:Nat→Option Nat} {r n:Nat} {z:Int} (hz:z=(n:Int)):(fun q:Nat=>if q=r then some (Value.int .i64 z) else (f q).map encI)=(fun y=>(if y=r then some n else f y).map encI):=by
 funext q
 by_cases h:q=r
 ·rw [if_pos h,if_pos h,hz];rfl
 rw [if_neg h,if_neg h]
theorem place_map0 :(fun q:Nat=>if q=1 then some (Value.int .i64 1) else if q=0 then some (Value.int .i64 0) else none)=(fun y=>(if y=1 then some 1 else if y=0 then some 0 else none:Option Nat).map encI):=by
 funext q
 by_cases h:q=1
 ·rw [if_pos h,if_pos h];rfl
 rw [if_neg h,if_neg h]
 by_cases h0:q=0
 ·rw [if_pos h0,if_pos h0];rfl
 rw [if_neg h0,if_neg h0];rfl
abbrev viCs (bo bk:Nat) (o:List Dec) (x:Option Addr×Nat×(Nat→Option Nat)):List Chunk:=
 [pt bo [.slice x.1 o.length x.2.1] 48,rowc (.slice x.1 o.length x.2.1) o.length 155 3 (decs o),mpg encI bk (fun r=>(x.2.2 r).map encI)]
def vis (F:List Nat) (bo bk:Nat) (l o:List Dec):Chunk:=bun F (viCs bo bk o) (fun x=>PlaceOk l o x.2.2)
theorem vis_fp {bo bk:Nat} {o:List Dec} (x:Option Addr×Nat×(Nat→Option Nat)):FpL (viCs bo bk o x) ([bo]++(ob (.slice x.1 o.length x.2.1)++([bk]++[]))):= .cons FpIs.pt (.cons FpIs.rowc (.cons FpIs.mpg .nil))
theorem St.visClose {w0 w:World} {O:List Nat} {C:List Chunk} {bo bk n c:Nat} {l o:List Dec} {a:Option Addr} {f:Nat→Option Nat} {g:Nat→Option Value} (hf:PlaceOk l o f) (hg:g=fun y=>(f y).map encI) (hn:n=o.length) {xs:List Value} (hx:xs=decs o)
  (h:St w0 O (pt bo [.slice a n c] 48::rowc (.slice a n c) n 155 3 xs::mpg encI bk g::C) w):∃ F,St w0 O (vis F bo bk l o::C) w:=by
 subst hg;subst hn;subst hx
 refine ⟨_,St.bunClose' (Cs:=viCs bo bk o) (a,c,f) hf (vis_fp (a,c,f)) h⟩
abbrev visF (bp bm bv bo:Nat):Value:= .func (.func 115) [].toArray [pp bp,pp bm,pp bv,pp bo].toArray
def RdDecO (w:World) (l:List Dec) (a:Option Addr) (F:List Nat):Prop:=∀ j u,(decs l)[j]?=some u→∃ b off,a=some ⟨b,off,none⟩∧w.cell? ⟨b,off+j,none⟩=some u∧b∉F
theorem RdDecO.at {w:World} {l:List Dec} {a:Option Addr} {F:List Nat} (h:RdDecO w l a F) {k:Nat} {x:Dec} (hk:l[k]?=some x):∃ b off,a=some ⟨b,off,none⟩∧b∉F∧∀ j u,[Value.int .i64 (x.1:Int),.int .i64 (x.2.1:Int),.int .i64 (x.2.2:Int)][j]?=some u→w.cell? ⟨b,off+k*3+j,none⟩=some u:=by
 obtain ⟨b,off,ha,_,hb⟩:=h (k*3+0) _ (decs_at hk 0 _ rfl)
 refine ⟨b,off,ha,hb,fun j u hj=>?_⟩
 obtain ⟨b',off',ha',hc,_⟩:=h (k*3+j) u (decs_at hk j u hj)
 rw [ha] at ha'
 injection ha' with e
 injection e with e1 e2
 subst e1;subst e2
 rw [Nat.add_assoc];exact hc
structure VEnv (w:World) (F:List Nat) (bp bmv bv bo bk bm:Nat) (l:List Dec) (a:Option Addr) (c:Nat):Prop where
 pl:w.cell? ⟨bp,0,none⟩=some (.map (some bk))
 pl':bp∉F
 mv:w.cell? ⟨bmv,0,none⟩=some (pp bm)
 mv':bmv∉F
 vi:w.cell? ⟨bv,0,none⟩=some (visF bp bmv bv bo)
 vi':bv∉F
 li:w.cell? ⟨bm,0,none⟩=some (.slice a l.length c)
 li':bm∉F
 rd:RdDecO w l a F
theorem VEnv.next {w0 w:World} {F F':List Nat} {C1:List Chunk} {bp bmv bv bo bk bm c:Nat} {l o:List Dec} {a:Option Addr} (h:VEnv w0 F bp bmv bv bo bk bm l a c) (hS:St w0 F ([vis F' bo bk l o]++C1) w):VEnv w F' bp bmv bv bo bk bm l a c:=by
 have hap:=fun {z:Nat} (h1:z<w0.heap.size) (h2:z∉F)=>hS.apart (F:=F') bun_O2 h1 h2
 refine ⟨hS.oldc h.pl h.pl',hap (World.block_lt_of_cell? w0 _ h.pl) h.pl',hS.oldc h.mv h.mv',hap (World.block_lt_of_cell? w0 _ h.mv) h.mv',hS.oldc h.vi h.vi',hap (World.block_lt_of_cell? w0 _ h.vi) h.vi',hS.oldc h.li h.li',hap (World.block_lt_of_cell? w0 _ h.li) h.li',fun j u hu=>?_⟩
 obtain ⟨b,off,e1,e2,e3⟩:=h.rd j u hu
 exact ⟨b,off,e1,hS.oldc e2 e3,hap (World.block_lt_of_cell? w0 _ e2) e3⟩
theorem visit_c (bp bmv bv bo bk bm:Nat) (l:List Dec) (a:Option Addr) (c:Nat) (hl:Mk l) (hll:l.length≤16777216):∀ (n r:Nat),r<n→∀ (Fp:List Nat) (o:List Dec) (w:World),r<l.length+2→Mk o→(∃ m,(trs l r).ok m)→(visitT (trs l r) o).1.length≤16777216→VEnv w Fp bp bmv bv bo bk bm l a c→St w Fp [vis Fp bo bk l o] w→
  Calls Tryz.prog 115 [.int .i64 (r:Int),pp bp,pp bmv,pp bv,pp bo].toArray w fun e w'=>∃ x:List Nat,e= .returned (.int .i64 ((visitT (trs l r) o).2:Int))∧St w Fp [vis x bo bk l (visitT (trs l r) o).1] w':=by
 intro n
 induction n with
 | zero=>intro r hr;omega
 | succ n hrec=>
 intro r hrn Fp o w hr ho ⟨mo,hok⟩ hb hE hS0
 obtain ⟨⟨a2,c2,fk⟩,hk,h1,h2,hS0⟩:=hS0.bunOpen
 have hk:PlaceOk l o fk:=hk
 simp only [List.cons_append,List.nil_append] at hS0
 refine enter Tryz.func115 rfl Tryz.ntmps115 rfl (C:=[pt bo [.slice a2 o.length c2] 48,rowc (.slice a2 o.length c2) o.length 155 3 (decs o),mpg encI bk (fun y=>(fk y).map encI)]) hS0 ?_
 refine jN 8 ?_
 rcases Option.eq_none_or_eq_some (fk r) with hf | ⟨p,hf⟩
 ·obtain ⟨x,hr2,hx,hlo,hhi,hx24,htr,hlk⟩:=hk.miss hl hr hf
  rw [htr] at hlk hok hb
  have hvt:visitT (trs l r) o=((visitT (trs l x.2.2) (visitT (trs l x.2.1) o).1).1++[(x.1,(visitT (trs l x.2.1) o).2,(visitT (trs l x.2.2) (visitT (trs l x.2.1) o).1).2)],(visitT (trs l x.2.2) (visitT (trs l x.2.1) o).1).1.length+2):=by rw [htr];show visitT (.nd x.1 (trs l x.2.1) (trs l x.2.2)) o=_;conv=>lhs;unfold visitT;rw [hlk]
  have hb0:(visitT (.nd x.1 (trs l x.2.1) (trs l x.2.2)) o).1.length=(visitT (trs l x.2.2) (visitT (trs l x.2.1) o).1).1.length+1:=by rw [← htr,hvt];simp
  have hb2:=visitT_len (trs l x.2.2) (visitT (trs l x.2.1) o).1
  have hb1:=visitT_len (trs l x.2.1) o
  have hm1:=visitT_mk hok.2.2.2.1 ho
  have hm2:=visitT_mk hok.2.2.2.2 hm1
  obtain ⟨bl,off,rfl,hbl,hcx⟩:=hE.rd.at hx
  have hri:((r - 2:Nat):Int)=(r:Int) - 2:=by omega
  refine jN 2 ?_
  refine WL.load1 F.one211 rfl rfl (v:= .map (some bk)) (fun w hS=>hS.oldc hE.pl hE.pl') ?_
  refine jN 3 ?_
  refine WL.lookupMiss (f:=fun y=>(fk y).map encI) r undMI keyInt zeroInt rfl rfl rfl rfl jM (by rw [hf];rfl) ?_
  refine jN 24 ?_
  refine WL.load1 F.one156 rfl rfl (v:=pp bm) (fun w hS=>hS.oldc hE.mv hE.mv') ?_
  refine jN 5 ?_
  refine WL.load1 F.one48 rfl rfl (v:= .slice (some ⟨bl,off,none⟩) l.length c) (fun w hS=>hS.oldc hE.li hE.li') ?_
  refine jN 4 ?_
  refine WA.say 25 (.int .i64 ((r - 2:Nat):Int)) (by rw [hri];rfl) ?_
  refine jN 1 ?_
  refine WL.indexAddr F.sl48 rfl rfl rfl (List.getElem?_eq_some_iff.1 hx).1 ?_
  refine jN 1 ?_
  refine WL.loadN F.agg155 rfl rfl (vs:=[Value.int .i64 (x.1:Int),.int .i64 (x.2.1:Int),.int .i64 (x.2.2:Int)]) rfl (fun w hS j v hv=>hS.oldc (hcx j v hv) hbl) ?_
  refine jN 1 ?_
  refine WL.alloc F.zero155 rfl (fun b9=>?_)
  refine jN 7 ?_
  refine WL.load1 F.one212 rfl rfl (v:=visF bp bmv bv bo) (fun w hS=>hS.oldc hE.vi hE.vi') ?_
  refine jN 4 ?_
  refine WA.chunks (C':=[vis Fp bo bk l o,pt b9 [Value.int .i64 (x.1:Int),.int .i64 (x.2.1:Int),.int .i64 (x.2.2:Int)] 155]) (fun w hS=>St.bunClose (Cs:=viCs bo bk o) (a2,c2,fk) hk h1 h2 (jK hS)) ?_
  refine jN 1 ?_
  refine WL.callFC (β:=List Nat) (us:=[]) (cap:=[pp bp,pp bmv,pp bv,pp bo]) (res:=fun y=> .int .i64 ((visitT (trs l x.2.1) o).2:Int)) (cs:=fun y=>[vis y bo bk l (visitT (trs l x.2.1) o).1]) (Cs:=[vis Fp bo bk l o]) (C1:=[pt b9 [Value.int .i64 (x.1:Int),.int .i64 (x.2.1:Int),.int .i64 (x.2.2:Int)] 155]) (O':=Fp) F.fun115 (fun d h=>by cases h;rfl) rfl rfl (List.Perm.refl _) bun_O1 bun_O2 (fun w hS hS2=>hrec x.2.1 (by omega) Fp o w (by omega) ho ⟨_,hok.2.2.2.1⟩ (by omega) (hE.next hS) hS2) (fun Fp1=>?_)
  refine jN 7 ?_
  refine WL.load1 F.one212 rfl rfl (v:=visF bp bmv bv bo) (fun w hS=>hS.oldc hE.vi hE.vi') ?_
  refine jN 5 ?_
  refine WL.callFC (β:=List Nat) (us:=[]) (cap:=[pp bp,pp bmv,pp bv,pp bo]) (res:=fun y=> .int .i64 ((visitT (trs l x.2.2) (visitT (trs l x.2.1) o).1).2:Int)) (cs:=fun y=>[vis y bo bk l (visitT (trs l x.2.2) (visitT (trs l x.2.1) o).1).1]) (Cs:=[vis Fp1 bo bk l (visitT (trs l x.2.1) o).1]) (C1:=[pt b9 [Value.int .i64 (x.1:Int),.int .i64 (x.2.1:Int),.int .i64 (x.2.2:Int)] 155]) (O':=Fp1) F.fun115 (fun d h=>by cases h;rfl) rfl rfl (List.Perm.refl _) bun_O1 bun_O2 (fun w hS hS2=>hrec x.2.2 (by omega) Fp1 (visitT (trs l x.2.1) o).1 w (by omega) hm1 ⟨_,hok.2.2.2.2⟩ (by omega) (hE.next hS) hS2) (fun Fp2=>?_)
  refine jN 6 ?_
  refine WA.openB (fun x3 hk3 h13 h23=>?_)
  obtain ⟨a3,c3,f3⟩:=x3
  have hk3:PlaceOk l (visitT (trs l x.2.2) (visitT (trs l x.2.1) o).1).1 f3:=hk3
  simp only [viCs,List.cons_append,List.nil_append]
  refine jN 13 ?_
  refine WL.buildSlice F.sl48 F.ez48 rfl rfl rfl rfl jB rfl (fun b42=>?_)
  refine jN 1 ?_
  refine WL.appendE (news:=decs [(x.1,(visitT (trs l x.2.1) o).2,(visitT (trs l x.2.2) (visitT (trs l x.2.1) o).1).2)]) F.el48 rfl rfl rfl jR (fun w hS jj u hu=>by rw [Nat.zero_add];exact hS.cell (cs:=[.int .i64 (x.1:Int),.int .i64 ((visitT (trs l x.2.1) o).2:Int),.int .i64 ((visitT (trs l x.2.2) (visitT (trs l x.2.1) o).1).2:Int)]) jM hu) rfl (decs_one _) (Nat.le_trans (m:=16777217) (by omega) (by decide)) (by omega) (fun a4 c4=>?_)
  refine jN 7 ?_
  refine WL.load1 F.one211 rfl rfl (v:= .map (some bk)) (fun w hS=>hS.oldc hE.pl hE.pl') ?_
  refine jN 9 ?_
  refine WL.mapPutG (f:=fun y=>(f3 y).map encI) r undMI keyInt rfl rfl rfl rfl jU ?_
  refine jN 15 ?_
  have htn:=visitT_at (trs l r) o
  rw [hvt,htr] at htn
  have hst:=hk3.step hl hr htr hlk rfl (v:=x.1) (p1:=(visitT (trs l x.2.1) o).2) (p2:=(visitT (trs l x.2.2) (visitT (trs l x.2.1) o).1).2) htn.2
  refine WQ.ret (rs:=[.tmp 6]) rfl (.tmp rfl .nil) (fun w hS=>?_)
  obtain ⟨F9,hF9⟩:=St.visClose (a:=a4) (c:=c4) (bk:=bk) (bo:=bo) (n:=(visitT (trs l x.2.2) (visitT (trs l x.2.1) o).1).1.length+1) hst (place_map (z:=((((visitT (trs l x.2.2) (visitT (trs l x.2.1) o).1).1.length+1:Nat):Int)+1)) (by omega)) (by simp) (decs_append _ _).symm (((St.pick (St.pick (St.pick hS (c:=mpg encI bk (fun q=>if q=r then some (.int .i64 ((((visitT (trs l x.2.2) (visitT (trs l x.2.1) o).1).1.length+1:Nat):Int)+1)) else (f3 q).map encI)) (by repeat (first | exact Rem.here | apply Rem.there))) (c:=rowc (.slice a4 ((visitT (trs l x.2.2) (visitT (trs l x.2.1) o).1).1.length+1) c4) ((visitT (trs l x.2.2) (visitT (trs l x.2.1) o).1).1.length+1) 155 3 (decs (visitT (trs l x.2.2) (visitT (trs l x.2.1) o).1).1++decs [(x.1,(visitT (trs l x.2.1) o).2,(visitT (trs l x.2.2) (visitT (trs l x.2.1) o).1).2)])) (by repeat (first | exact Rem.here | apply Rem.there))) (c:=pt bo [.slice a4 ((visitT (trs l x.2.2) (visitT (trs l x.2.1) o).1).1.length+1) c4] 48) (by repeat (first | exact Rem.here | apply Rem.there)))).sublist (List.Sublist.cons_cons _ (List.Sublist.cons_cons _ (List.Sublist.cons_cons _ (List.nil_sublist _)))))
  exact ⟨F9,by rw [hvt];rfl,by rw [hvt];exact hF9⟩
 refine jN 2 ?_
 refine WL.load1 F.one211 rfl rfl (v:= .map (some bk)) (fun w hS=>hS.oldc hE.pl hE.pl') ?_
 refine jN 3 ?_
 refine WL.lookupHit (f:=fun y=>(fk y).map encI) (v:=encI p) r undMI keyInt zeroInt rfl rfl rfl rfl jM (by rw [hf];rfl) ?_
 refine jN 29 ?_
 have hh:=hk.hit ho hr hf
 refine WQ.ret (rs:=[.tmp 6]) rfl (.tmp rfl .nil) (fun w hS=>⟨Fp,by rw [hh];rfl,?_⟩)
 rw [hh]
 exact hS.bunClose (Cs:=viCs bo bk o) (a2,c2,fk) hk h1 h2
end Go.Proofs.YtedbajbgnmaakaaGreatDoor
namespace Go.Eng
open Go Go.RowKit
theorem SetN.append {cs cs' vs:List Value} {off:Nat} (ys:List Value) (h:SetN cs off vs cs'):SetN (cs++ys) off vs (cs'++ys):=by
 induction h with
 | nil=>exact .done
 | done=>exact .done
 | put _ ih=>exact .put ih
 | skip _ ih=>exact .skip ih
theorem SetN.len {cs cs' vs:List Value} {off:Nat} (h:SetN cs off vs cs'):cs'.length=cs.length:=by
 obtain ⟨h1,h2⟩:=h.eq
 rw [← h1];simp;omega
section
variable {P : Program} {w0 : World} {O : List Nat} {ops : Array Oper} {Q : Exit → Act → World → Prop} {N : Nat} {D : List Deferred} {L : FL} {C : List Chunk} {K : Act → World → Prop}
variable {d : Nat} {ty : TypeId} {pos : String} {af : Array Edge}
theorem St.rowUpd {w:World} {C':List Chunk} {b:Nat} {c0 c1:Chunk} {cs:Array Value} (h:St w0 O C w) (hu:Upd c0 c1 C C') (hf:∀ k,c0.fp k↔k=b) (hf':∀ k,c1.fp k↔k=b) (hok:c1.ok (w.setRow b cs)):St w0 O C' (w.setRow b cs):=by
 obtain ⟨R,p1,p2⟩:=hu.perm
 have h1:=h.perm p1
 refine St.perm ?_ p2.symm
 have hbO:=(h1.bnd _ (List.mem_cons_self ..) b ((hf b).2 rfl))
 have hoth:∀ k,k≠b→(w.setRow b cs).heap[k]?=w.heap[k]?:=fun k hk=>setRow_other w b k _ hk
 have hdis:=List.pairwise_cons.1 h1.disj
 refine ⟨h.os,h.tape,h.output,by simpa using h.size,fun k hk ho=>?_,?_,?_,?_⟩
 ·by_cases hkb:k=b
  ·subst hkb;exact absurd (hbO.2 hk) ho
  rw [hoth k hkb];exact h.old k hk ho
 ·intro c hc
  rcases List.mem_cons.1 hc with rfl | hc
  ·exact hok
  refine c.loc w _ (fun k hk=>hoth k (fun e=>?_)) (h1.ok c (List.mem_cons_of_mem _ hc))
  exact hdis.1 c hc k ((hf k).2 e) hk
 ·intro c hc k hk
  rcases List.mem_cons.1 hc with rfl | hc
  ·have:k=b:=(hf' k).1 hk
   subst this
   exact ⟨by simpa using hbO.1,hbO.2⟩
  simpa using h1.bnd c (List.mem_cons_of_mem _ hc) k hk
 exact List.Pairwise.cons (fun c hc k hk hk'=>hdis.1 c hc k ((hf k).2 ((hf' k).1 hk)) hk') hdis.2
theorem WL.storeRow {t:TypeId} {n m sz cap:Nat} {x y:Operand} {g off:Nat} {xs xs' vs:List Value} {e:TypeId} {C':List Chunk} (ht:Agg P t m) (hx:ev L x=some (.pointer (some ⟨g,off,none⟩))) (hy:ev L y=some (.agg vs.toArray)) (hl:vs.length=m)
  (hv:∀ u∈vs,u.oneCell'=true) (hpos:0<n) (hu:Upd (jW g n cap e sz xs) (jW g n cap e sz xs') C C') (hn:SetN xs off vs xs') (h:WA w0 O K N D L C'):
  WK P w0 O ops Q ⟨none,.store t x y,ty,pos,af,none⟩ K N D L C:=fun a w hF hS=>by
 subst hl
 obtain ⟨hlen,hr⟩:=(show w.ownsRow 0 e sz (.slice (some ⟨g,0,none⟩) n cap) n xs from hS.ok _ hu.mem)
 rcases hr with ⟨h1,_⟩ | ⟨g',cap',cur,h1,_,hh,hnc,hcm,hcs,htk⟩
 ·cases h1
 ·injection h1 with h1 h2 h3
  injection h1 with h1
  injection h1 with h1
  subst h1;subst h3
  have hsplit:cur.toList=xs++cur.toList.drop (n*sz):=by rw [← htk,List.take_append_drop]
  have hn':SetN cur.toList off vs (xs'++cur.toList.drop (n*sz)):=by
   have:=hn.append (cur.toList.drop (n*sz))
   rw [← hsplit] at this
   exact this
  have hh':w.heap[g]?=some (.cells cur.toList.toArray e (0,0)):=by rw [Array.toArray_toList];exact hh
  have hr:=run_storeN (P:=P) (t:=t) (v:= .agg vs.toArray) ht.size rfl hv hh' hn'
  have hxl:xs'.length=xs.length:=hn.len
  have hSt:St w0 O C' (w.setRow g (xs'++cur.toList.drop (n*sz)).toArray):=by
   refine hS.rowUpd (b:=g) hu (fun k=>?_) (fun k=>?_) ?_
   ·constructor
    ·intro hk;exact (Option.some.inj hk).symm
    ·intro hk;rw [hk];rfl
   ·constructor
    ·intro hk;exact (Option.some.inj hk).symm
    ·intro hk;rw [hk];rfl
   ·refine ⟨by rw [hxl,hlen],.inr ⟨g,cap,(xs'++cur.toList.drop (n*sz)).toArray,rfl,Nat.zero_le _,setRow_heap w g _ _ e _ hh',hnc,hcm,?_,?_⟩⟩
    ·have:=congrArg List.length hsplit
     simp at this ⊢
     omega
    ·have e2:xs'.length=n*sz:=by rw [hxl,hlen]
     show (xs'++cur.toList.drop (n*sz)).take (n*sz)=xs'
     rw [List.take_left' e2]
  exact wpo_skip rfl (by simp [execOp,hF.ev hx,hF.ev hy,hr]) (h _ _ hF hSt)
end
open Go Go.RowKit
def Keeps (wb w:World) (F:List Nat) (w':World):Prop:=(∀ k∈F,w'.heap[k]?=w.heap[k]?)∧∀ k,k<wb.heap.size→w'.heap[k]?=wb.heap[k]?
def shr (wb:World) (F:List Nat) (t:Tree) (v:Value):Chunk where
 fp k:=k∈F
 ok w:=∃ G,∀ w',Keeps wb w F w'→rdT w' t G v
 loc w w' h:=fun ⟨G,hG⟩=>⟨G,fun w2 hk=>hG w2 ⟨fun k hkF=>(hk.1 k hkF).trans (h k hkF),hk.2⟩⟩
section
variable {w0 : World} {O : List Nat} {C : List Chunk}
end
open Go Go.RowKit
section
variable {P : Program} {w0 : World} {O : List Nat} {ops : Array Oper} {Q : Exit → Act → World → Prop} {N : Nat} {D : List Deferred} {L : FL} {C : List Chunk} {K : Act → World → Prop}
variable {Fs : List (List Nat × (World → Prop))}
theorem WD.three {i j l fuel:Nat} {oi oj ol:Oper} {listed:Array Bool} (hr:Region.ready .any ops listed=[i,j,l]) (hi:ops[i]?=some oi) (hj:ops[j]?=some oj) (hl:ops[l]?=some ol)
  (h:WK P w0 O ops Q oi (fun a w=>Sx Fs (listed.setIfInBounds i true) w∧wpAnyT P ops Q Fs fuel (listed.setIfInBounds i true) a w) N D L C)
  (h':WK P w0 O ops Q oj (fun a w=>Sx Fs (listed.setIfInBounds j true) w∧wpAnyT P ops Q Fs fuel (listed.setIfInBounds j true) a w) N D L C)
  (h'':WK P w0 O ops Q ol (fun a w=>Sx Fs (listed.setIfInBounds l true) w∧wpAnyT P ops Q Fs fuel (listed.setIfInBounds l true) a w) N D L C):WD P w0 O ops Q Fs (fuel+1) listed N D L C:=fun hc a w hFr hS hSx=>by
 refine ⟨fun h=>(by rw [h] at hr;cases hr),fun k hk=>?_⟩
 rw [hr] at hk
 simp only [List.mem_cons,List.not_mem_nil,or_false] at hk
 rcases hk with rfl | rfl | rfl
 ·have:=h a w hFr hS
  unfold wpOp
  simp only [hi]
  exact this
 ·have:=h' a w hFr hS
  unfold wpOp
  simp only [hj]
  exact this
 ·have:=h'' a w hFr hS
  unfold wpOp
  simp only [hl]
  exact this
end
open Go Go.RowKit
section
variable {P : Program} {w0 : World} {O : List Nat} {ops : Array Oper} {Q : Exit → Act → World → Prop} {N : Nat} {D : List Deferred} {L : FL} {C : List Chunk} {K : Act → World → Prop}
variable {d : Nat} {ty : TypeId} {pos : String} {af : Array Edge}
variable {κ : Type} [DecidableEq κ] {enc : κ → Value} {kt : TypeId}
theorem WL.insertG {t et:TypeId} {x y z:Operand} {b:Nat} {f:κ→Option Value} {vy v:Value} {C':List Chunk} (k:κ) (hm:P.underlying t=some (.map kt et)) (hk:KeyT P kt enc)
  (hx:ev L x=some (.map (some b))) (hy:ev L y=some vy) (hvy:vy=enc k) (hz:ev L z=some v) (hu:Upd (mpg enc b f) (mpg enc b (fun q=>if q=k then some v else f q)) C C') (h:WA w0 O K N D L C'):
  WK P w0 O ops Q ⟨none,.insert t x y z,ty,pos,af,none⟩ K N D L C:=fun a w hF hS=>by
 subst hvy
 obtain ⟨es,clock,kvs,h1,h2,h3,hI⟩:=hS.ok _ hu.mem
 have hb:b<w.heap.size:=((hS.bnd _ hu.mem) b rfl).1
 have hf:=hk.find w k es.toList kvs h2
 cases hh:kidx kvs k 0 with
 | none=>
  rw [hh] at hf
  have hr:(Instr.mapUpdate t (.map (some b)) (enc k) v).run P w= .ok () {w with heap:=w.heap.setIfInBounds b (.map (es.push {key:=enc k,val:=v,born:=clock}) (clock+1))}:=by
   simp [Instr.mapUpdate,run_underlying hm,MapKept.run_getObj_map h1,hk.check,hf,MapKept.run_setObj_map _ h1,Result.andThen]
  refine wpo_skip rfl (w':={w with heap:=w.heap.setIfInBounds b (.map (es.push {key:=enc k,val:=v,born:=clock}) (clock+1))}) ?_ (h _ _ hF (hS.setObj hu (fun k=>Iff.rfl) (fun k=>Iff.rfl) ⟨es.push {key:=enc k,val:=v,born:=clock},clock+1,kvs++[(k,v)],?_,?_,?_,?_⟩))
  ·simp [execOp,hF.ev hx,hF.ev hy,hF.ev hz,hr]
  ·show (w.heap.setIfInBounds b _)[b]?=_
   rw [Array.getElem?_setIfInBounds_self_of_lt hb]
  ·simp [h2]
  ·intro q
   rw [kfind_snoc (kidx_none.1 hh) q]
   simp only [h3]
  ·have:=hI.push (kfind_mem (kidx_none.1 hh)) (enc k) v
   simpa using this
 | some p=>
  obtain ⟨j,u⟩:=p
  rw [hh] at hf
  obtain ⟨_,g2,g3,g4⟩:=kidx_some hh
  simp only [Nat.sub_zero] at g2 g4
  have hlen:es.toList.length=kvs.length:=by have:=congrArg List.length h2;simpa using this
  have hjl:j<es.toList.length:=by rw [hlen];exact (List.getElem?_eq_some_iff.1 g2).1
  have hej:es.toList[j]?=some es.toList[j]:=List.getElem?_eq_getElem hjl
  have hkey:es.toList[j].key=enc k:=by
   have e1:(es.toList.map (fun e=>(e.key,e.val)))[j]?=some (es.toList[j].key,es.toList[j].val):=by rw [List.getElem?_map,hej];rfl
   rw [h2,List.getElem?_map,g2] at e1
   simp only [Option.map_some,Option.some.injEq,Prod.mk.injEq] at e1
   exact e1.1.symm
  have hej':es[j]?=some es.toList[j]:=by rw [← Array.getElem?_toList];exact hej
  have hkey2:=hkey
  simp only [Array.getElem_toList] at hkey2
  have hr:(Instr.mapUpdate t (.map (some b)) (enc k) v).run P w= .ok () {w with heap:=w.heap.setIfInBounds b (.map (es.modify j fun e=>{e with key:=enc k,val:=v}) clock)}:=by
   simp [Instr.mapUpdate,run_underlying hm,MapKept.run_getObj_map h1,hk.check,hf,MapKept.run_setObj_map _ h1,Result.andThen,hej',hkey,hkey2,hk.stays]
  refine wpo_skip rfl (w':={w with heap:=w.heap.setIfInBounds b (.map (es.modify j fun e=>{e with key:=enc k,val:=v}) clock)}) ?_ (h _ _ hF (hS.setObj hu (fun k=>Iff.rfl) (fun k=>Iff.rfl) ⟨es.modify j fun e=>{e with key:=enc k,val:=v},clock,kvs.set j (k,v),?_,?_,?_,?_⟩))
  ·simp [execOp,hF.ev hx,hF.ev hy,hF.ev hz,hr]
  ·show (w.heap.setIfInBounds b _)[b]?=_
   rw [Array.getElem?_setIfInBounds_self_of_lt hb]
  ·rw [Array.toList_modify,map_modify_set _ _ _ _ _ hej,h2,List.map_set]
  ·intro q
   rw [g4 v q]
   simp only [h3]
  ·rw [Array.toList_modify]
   have e1:(kvs.set j (k,v)).map Prod.fst=kvs.map Prod.fst:=by
    rw [List.map_set]
    refine List.ext_getElem? fun i=>?_
    rw [List.getElem?_set]
    split
    ·rename_i e
     subst e
     have hj:j<kvs.length:=(List.getElem?_eq_some_iff.1 g2).1
     rw [if_pos (by simpa using hj),List.getElem?_map,g2];rfl
    ·rfl
   rw [e1]
   exact hI.modify (fun e=>{e with key:=enc k,val:=v}) (fun _=>rfl) j
theorem WC.cutQ {c:Code} (M:FL) (C':List Chunk) (hq:NoLook Q) (hx:∀ Q',NoLook Q'→WQ w0 O Q' .normal N D M C'→WC P w0 O c Q' N D L C) (hy:WQ w0 O Q .normal N D M C'):WC P w0 O c Q N D L C:=hx Q hq hy
theorem Yl.minI {F:World→Prop} {x y:Operand} {k k':IntKind} {m n r:Int} {ts:Array TypeId} (hx:ev L x=some (.int k m)) (hy:ev L y=some (.int k' n)) (hr:(if n<m then n else m)=r):
  Yl P N D L F ⟨some d,.call {callee:= .builtin .min,args:=#[x,y],argTypes:=ts},ty,pos,af,none⟩ (.int k r):=fun a w hF _=>by
 subst hr
 simp [execOp,resolve,invoke,builtin,hF.ev hx,hF.ev hy,Builtin.min_,Builtin.min2]
theorem WL.minI {x y:Operand} {k k':IntKind} {m n r:Int} {ts:Array TypeId} (hd:Nat.blt d N=true) (hx:ev L x=some (.int k m)) (hy:ev L y=some (.int k' n)) (hr:(if n<m then n else m)=r)
  (h:WA w0 O K N D ((d,.int k r)::L) C):
  WK P w0 O ops Q ⟨some d,.call {callee:= .builtin .min,args:=#[x,y],argTypes:=ts},ty,pos,af,none⟩ K N D L C:=
 WL.y (F:=fun _=>True) (Yl.minI hx hy hr) hd (fun _ _=>trivial) h
theorem WL.min3 {x y z:Operand} {k k' k'':IntKind} {m n o r:Int} {ts:Array TypeId} (hd:Nat.blt d N=true) (hx:ev L x=some (.int k m)) (hy:ev L y=some (.int k' n)) (hz:ev L z=some (.int k'' o)) (hr:(if o<(if n<m then n else m) then o else (if n<m then n else m))=r)
  (h:WA w0 O K N D ((d,.int k r)::L) C):
  WK P w0 O ops Q ⟨some d,.call {callee:= .builtin .min,args:=#[x,y,z],argTypes:=ts},ty,pos,af,none⟩ K N D L C:=by
 subst hr
 refine WL.y (F:=fun _=>True) (fun a w hF _=>?_) hd (fun _ _=>trivial) h
 simp [execOp,resolve,invoke,builtin,hF.ev hx,hF.ev hy,hF.ev hz,Builtin.min_,Builtin.min2]
end
end Go.Eng
namespace Go.Proofs.YtedbajbgnmaakaaGreatDoor
open Go Go.Eng Go.Proofs Dg
theorem venv_of {w0 w:World} {O:List Nat} {Fv:List Nat} {b2 b4 b5 b6 b7 b9 bm bk c:Nat} {l:List Dec} {a:Option Addr} {fk:Dec→Option Nat} (hS:St w0 O [vis Fv b5 b9 l [],pt b7 [visF b6 b2 b7 b5] 212,pt b6 [.map (some b9)] 211,pt b2 [pp bm] 156,pt b4 [.slice none 0 0,.int .i64 0] 50,pt bm [.slice a l.length c,.map (some bk)] 209,rowc (.slice a l.length c) l.length 155 3 (decs l),mpg enc3 bk (fun y=>(fk y).map encI)] w):VEnv w Fv b6 b2 b7 b5 b9 bm l a c:=by
 have hd:=hS.disj
 simp only [List.pairwise_cons,List.mem_cons,List.not_mem_nil,or_false,forall_eq_or_imp,forall_eq] at hd
 obtain ⟨⟨d1,d2,d3,d4,d5,d6,d7⟩,_⟩:=hd
 have hap:∀ {b:Nat} {cs:List Value} {e:TypeId},(∀ k,(vis Fv b5 b9 l []).fp k→ ¬ (pt b cs e).fp k)→b∉Fv:=fun h hb=>h _ hb rfl
 refine ⟨hS.cell jM rfl,hap d2,hS.cell jM rfl,hap d3,hS.cell jM rfl,hap d1,hS.cell (cs:=[.slice a l.length c,.map (some bk)]) jM rfl,hap d5,fun j u hu=>?_⟩
 obtain ⟨b,off,e1,e2⟩:=RdDec.of_row (l:=l) (a:=a) (cap:=c) rfl (hS.ok (rowc (.slice a l.length c) l.length 155 3 (decs l)) jM) j u hu
 refine ⟨b,off,e1,e2,fun hb=>d6 b hb ?_⟩
 show (Value.slice a l.length c).ownBlock=some b
 have hpos:0<l.length:=by
  have h1:=(List.getElem?_eq_some_iff.1 hu).1
  rw [decs_len] at h1;omega
 obtain ⟨g,hg,_,_⟩:=rowc_addr (hS.ok (rowc (.slice a l.length c) l.length 155 3 (decs l)) jM) hpos
 subst hg
 injection e1 with e
 injection e with e _
 rw [← e];rfl
theorem done_c (Fp:List Nat) (bm:Nat) (l:List Dec) (r:Nat) (w:World) (hm:Mk l) (hr:r<l.length+2) (ho:(trs l r).ok 0) (hlen:l.length≤16777216) (hS0:St w Fp [mkr Fp bm l] w):
  Calls Tryz.prog 77 [pp bm,.int .i64 (r:Int)].toArray w fun e w'=>∃ x:Option Addr×Nat,e= .returned (dval (trs l r) x.1 x.2)∧St w Fp [dC x.1 x.2 (trs l r)] w':=by
 obtain ⟨⟨a,c,bk,fk⟩,hk,h1,h2,hS0⟩:=hS0.bunOpen
 simp only [List.cons_append,List.nil_append] at hS0
 refine enter Tryz.func77 rfl Tryz.ntmps77 rfl (C:=[pt bm [.slice a l.length c,.map (some bk)] 209,rowc (.slice a l.length c) l.length 155 3 (decs l),mpg enc3 bk (fun y=>(fk y).map encI)]) hS0 ?_
 refine jN 3 ?_
 refine WL.box1 rfl rfl rfl (fun b2=>?_)
 refine jN 1 ?_
 refine WL.alloc F.zero50 rfl (fun b4=>?_)
 refine jN 5 ?_
 refine WL.alloc F.zero48 rfl (fun b5=>?_)
 refine jN 5 ?_
 refine WL.makeMapG encI rfl (fun b9=>?_)
 refine jN 1 ?_
 refine WL.insertG (f:=fun _:Nat=>none) 0 undMI keyInt rfl rfl rfl rfl jU ?_
 refine jN 1 ?_
 refine WL.insertG (f:=fun q:Nat=>if q=0 then some (.int .i64 0) else none) 1 undMI keyInt rfl rfl rfl rfl jU ?_
 refine jN 3 ?_
 refine WL.alloc F.zero211 rfl (fun b6=>?_)
 refine jN 7 ?_
 refine WL.alloc F.zero212 rfl (fun b7=>?_)
 refine jN 12 ?_
 refine WA.chunksE (C':=fun Fv=>[vis Fv b5 b9 l [],pt b7 [visF b6 b2 b7 b5] 212,pt b6 [.map (some b9)] 211,pt b2 [pp bm] 156,pt b4 [.slice none 0 0,.int .i64 0] 50,pt bm [.slice a l.length c,.map (some bk)] 209,rowc (.slice a l.length c) l.length 155 3 (decs l),mpg enc3 bk (fun y=>(fk y).map encI)]) (fun w hS=>?_) (fun Fv=>?_)
 ·exact St.visClose (l:=l) (o:=[]) (a:=none) (c:=0) (bk:=b9) (bo:=b5) (n:=0) (PlaceOk.nil hm) place_map0 rfl rfl (jK (hS.rowNil 155 3))
 refine jN 5 ?_
 refine WL.callFC (β:=List Nat) (us:=[]) (cap:=[pp b6,pp b2,pp b7,pp b5]) (res:=fun y=> .int .i64 ((visitT (trs l r) []).2:Int)) (cs:=fun y=>[vis y b5 b9 l (visitT (trs l r) []).1]) (Cs:=[vis Fv b5 b9 l []]) (C1:=[pt b7 [visF b6 b2 b7 b5] 212,pt b6 [.map (some b9)] 211,pt b2 [pp bm] 156,pt b4 [.slice none 0 0,.int .i64 0] 50,pt bm [.slice a l.length c,.map (some bk)] 209,rowc (.slice a l.length c) l.length 155 3 (decs l),mpg enc3 bk (fun y=>(fk y).map encI)]) (O':=Fv) F.fun115 (fun d h=>by cases h;rfl) rfl rfl (List.Perm.refl _) bun_O1 bun_O2 (fun w hS hS2=>visit_c b6 b2 b7 b5 b9 bm l a c hm (by omega) (r+1) r (Nat.lt_succ_self _) Fv [] w hr Mk.nil ⟨_,ho⟩ (Nat.le_of_lt (canon_len ho)) (venv_of hS) hS2) (fun F2=>?_)
 refine jN 6 ?_
 refine WA.openB (fun x3 hk3 h13 h23=>?_)
 obtain ⟨a3,c3,f3⟩:=x3
 simp only [viCs,List.cons_append,List.nil_append]
 refine jN 11 ?_
 refine WQ.ret (rs:=[.cell 4 50]) rfl (.cellN F.agg50 rfl jM rfl .nil) (fun w hS=>⟨(a3,c3),rfl,(jK hS)⟩)
structure FoldG (σ:Type) where
 i:Nat
 out:List Int
 ad:Option Addr
 ac:Nat
 s:σ
theorem Fold_c {σ:Type} (ch:σ→Chunk) (Fs:σ→List Nat) (hF:∀ s,FpIs (ch s) (Fs s)) (fj:Nat) (hg:funB Tryz.prog fj=some true) (us cap:List Value) (l:List Dec) (a:Option Addr) (c root:Nat) (e0 e1:Int) (I:List Int→σ→Prop)
  (hll:l.length≤16777216) (hkid:∀ k x,l[k]?=some x→x.2.1<k+2∧x.2.2<k+2) (hroot:root<l.length+2) (s0:σ) (h0:I [e0,e1] s0)
  (hj:∀ (out:List Int) (s:σ) (x:Dec) (z1 z2:Int) (w:World),l[out.length - 2]?=some x→I out s→out[x.2.1]?=some z1→out[x.2.2]?=some z2→St w (Fs s) [ch s] w→
   Calls Tryz.prog fj (us++[Value.int .i64 (x.1:Int),.int .i64 z1,.int .i64 z2]++cap).toArray w fun e w'=>∃ y:{y:σ×Int // I (out++[y.2]) y.1},e= .returned (.int .i64 y.1.2)∧St w (Fs s) [ch y.1.1] w')
  (w:World) (hrd:RdDecO w l a (Fs s0)) (hS0:St w (Fs s0) [ch s0] w):
  Calls Tryz.prog 97 [.agg [.slice a l.length c,.int .i64 (root:Int)].toArray,.int .i64 e0,.int .i64 e1,Value.func (.func fj) us.toArray cap.toArray].toArray w fun e w'=>
   ∃ y:{y:List Int×σ×Int // I y.1 y.2.1∧y.1.length=l.length+2∧y.1[root]?=some y.2.2},e= .returned (.int .i64 y.1.2.2)∧St w (Fs s0) [ch y.1.2.1] w':=by
 refine enter Tryz.func97 rfl Tryz.ntmps97 rfl (C:=[ch s0]) hS0 ?_
 refine jN 3 ?_
 refine WL.boxN rfl rfl (fun b4=>?_)
 refine jN 11 ?_
 refine WL.buildSlice F.sl73 F.ez73 rfl rfl rfl rfl jB rfl (fun b14=>?_)
 refine jN 18 ?_
 refine WC.chunks (fun w hS=>St.rowOf (n:=2) (sz:=1) (cs:=[e0,e1].map (Value.int .i64)) (hS.pick (c:=pt b14 [.int .i64 e0,.int .i64 e1] 3) jR) rfl (by decide)) ?_
 refine WC.chunks (C':=[ch s0,jW b14 2 2 3 1 ([e0,e1].map (Value.int .i64)),pt b4 [.slice a l.length c,.int .i64 (root:Int)] 50]) (fun w hS=>(jK hS)) ?_
 refine WC.loop (α:=FoldG σ) (fun g=>g.i≤l.length∧g.out.length=g.i+2∧I g.out g.s) (fun g=>[(3,Value.func (.func fj) us.toArray cap.toArray),(4,pp b4),(9,.slice g.ad (g.i+2) g.ac),(16,.slice a l.length c),(17,.int .i64 (l.length:Int)),(18,.int .i64 (g.i:Int))]) (fun g=>[ch g.s,rowc (.slice g.ad (g.i+2) g.ac) (g.i+2) 3 1 (g.out.map (Value.int .i64)),pt b4 [.slice a l.length c,.int .i64 (root:Int)] 50]) (fun g=>l.length - g.i) (⟨0,[e0,e1],some ⟨b14,0,none⟩,2,s0⟩) ?_ ?_ ?_ ?_
 ·exact ⟨Nat.zero_le _,rfl,h0⟩
 ·exact ⟨rfl,rfl,rfl,rfl,rfl,rfl,trivial⟩
 ·rfl
 rintro ⟨i,out,ad,ac,s⟩ ⟨hi,hol,hI⟩
 dsimp only at hi hol hI
 show WC _ _ _ _ _ _ _ [(3,Value.func (.func fj) us.toArray cap.toArray),(4,pp b4),(9,.slice ad (i+2) ac),(16,.slice a l.length c),(17,.int .i64 (l.length:Int)),(18,.int .i64 (i:Int))] [ch s,rowc (.slice ad (i+2) ac) (i+2) 3 1 (out.map (Value.int .i64)),pt b4 [.slice a l.length c,.int .i64 (root:Int)] 50]
 refine jN 7 ?_
 refine WC.cond rfl (fun h19=>?_) (fun h19=>?_)
 ·have hlt:i<l.length:=by simpa using h19
  obtain ⟨x,hx⟩:∃ x,l[i]?=some x:=⟨_,List.getElem?_eq_getElem hlt⟩
  obtain ⟨k1,k2⟩:=hkid i x hx
  obtain ⟨bl,off,rfl,hbl,hcx⟩:=hrd.at hx
  obtain ⟨z1,hz1⟩:∃ z,out[x.2.1]?=some z:=⟨_,List.getElem?_eq_getElem (by omega)⟩
  obtain ⟨z2,hz2⟩:∃ z,out[x.2.2]?=some z:=⟨_,List.getElem?_eq_getElem (by omega)⟩
  refine jN 7 ?_
  refine WL.indexAddr F.sl48 rfl rfl rfl hlt ?_
  refine jN 1 ?_
  refine WL.loadN F.agg155 rfl rfl (vs:=[Value.int .i64 (x.1:Int),.int .i64 (x.2.1:Int),.int .i64 (x.2.2:Int)]) rfl (fun w hS j v hv=>hS.oldc (hcx j v hv) hbl) ?_
  refine jN 1 ?_
  refine WL.alloc F.zero155 rfl (fun b11=>?_)
  refine jN 4 ?_
  refine WC.know (φ:=∃ g2,ad=some ⟨g2,0,none⟩∧i+2=i+2∧i+2≤ac) (fun w hS=>rowc_addr (hS.ok (rowc (.slice ad (i+2) ac) (i+2) 3 1 (out.map (Value.int .i64))) jM) (by omega)) (fun ⟨g2,hg2,_,_⟩=>?_)
  subst hg2
  refine WC.drawsL (by kernel_rfl) (FactsOk.cons (ds:=[14,15,16]) (LoadOk.one (t:=11) (off:=0) rfl jM rfl) (FactsOk.cons (ds:=[14,15,16]) (LoadOk.one (t:=11) (off:=1) rfl jM rfl) (FactsOk.cons (ds:=[14,15,16]) (LoadOk.by (Y:=fun w=>w.cell? ⟨g2,0+x.2.1*1,none⟩=some (.int .i64 z1)) (fun w hS=>by rw [Nat.zero_add,Nat.mul_one];exact rowc_cell (hS.ok (jW g2 (i+2) ac 3 1 (out.map (Value.int .i64))) jM) (by simp [hz1]))) (FactsOk.cons (ds:=[14,15,16]) (LoadOk.one (t:=11) (off:=2) rfl jM rfl) (FactsOk.cons (ds:=[14,15,16]) (LoadOk.by (Y:=fun w=>w.cell? ⟨g2,0+x.2.2*1,none⟩=some (.int .i64 z2)) (fun w hS=>by rw [Nat.zero_add,Nat.mul_one];exact rowc_cell (hS.ok (jW g2 (i+2) ac 3 1 (out.map (Value.int .i64))) jM) (by simp [hz2]))) (FactsOk.nil)))))) ?_
  refine jQ [0,1] ?_
  refine jT 2 rfl (Yl.fieldAddr0 F.fld155_0 rfl) ?_
  refine jF 3 0 rfl rfl (Yl.load1 F.one3 rfl) ?_
  refine jQ [4] ?_
  refine jT 5 rfl (Yl.fieldAddr0 F.fld155_1 rfl) ?_
  refine jF 6 1 rfl rfl (Yl.load1 F.one3 rfl) ?_
  refine jT 7 rfl (Yl.indexAddr F.sl73 rfl rfl (by omega)) ?_
  refine jF 8 2 rfl rfl (Yl.load1 F.one3 rfl) ?_
  refine jQ [9] ?_
  refine jT 10 rfl (Yl.fieldAddr0 F.fld155_2 rfl) ?_
  refine jF 11 3 rfl rfl (Yl.load1 F.one3 rfl) ?_
  refine jT 12 rfl (Yl.indexAddr F.sl73 rfl rfl (by omega)) ?_
  refine jF 13 4 rfl rfl (Yl.load1 F.one3 rfl) ?_
  refine jA 14 rfl ?_
  refine WL.callFC (β:={y:σ×Int // I (out++[y.2]) y.1}) (us:=us) (cap:=cap) (res:=fun y=> .int .i64 y.1.2) (cs:=fun y=>[ch y.1.1]) (Cs:=[ch s]) (C1:=[pt b11 [Value.int .i64 (x.1:Int),.int .i64 (x.2.1:Int),.int .i64 (x.2.2:Int)] 155,jW g2 (i+2) ac 3 1 (out.map (Value.int .i64)),pt b4 [.slice (some ⟨bl,off,none⟩) l.length c,.int .i64 (root:Int)] 50]) (O':=Fs s) hg (fun d h=>by cases h;rfl) rfl rfl ?_ (fun c hc k hk=>(by rw [List.mem_singleton.1 hc] at hk;exact (hF s k).1 hk)) (fun k hk=>⟨_,List.mem_singleton.2 rfl,(hF s k).2 hk⟩) (fun w hS hS2=>hj out s x z1 z2 w (by rw [hol];simpa using hx) hI hz1 hz2 hS2) (fun y36=>?_)
  ·exact ((List.Perm.swap _ _ _).trans (List.Perm.refl _))
  refine jG ?_
  refine jA 15 rfl ?_
  refine WL.buildSlice F.sl73 F.ez73 rfl rfl rfl rfl jB rfl (fun b37=>?_)
  refine jG ?_
  refine jA 16 rfl ?_
  refine WL.appendE (news:=[.int .i64 y36.1.2]) F.el73 rfl rfl rfl jR (fun w hS jj u hu=>by rw [Nat.zero_add];exact hS.cell (cs:=[.int .i64 y36.1.2]) jM hu) rfl jO (Nat.le_trans (m:=33554432) (by omega) (by decide)) (by omega) (fun ad2 ac2=>?_)
  refine jG ?_
  refine jQ [17] ?_
  refine jD ?_
  refine jN 8 ?_
  refine WQ.chunks (C':=[ch y36.1.1,rowc (.slice ad2 (i+1+2) ac2) (i+1+2) 3 1 ((out++[y36.1.2]).map (Value.int .i64)),pt b4 [.slice (some ⟨bl,off,none⟩) l.length c,.int .i64 (root:Int)] 50]) (fun w hS=>?_) ?_
  ·rw [List.map_append]
   exact (jK hS)
  refine WQ.back (⟨i+1,out++[y36.1.2],ad2,ac2,y36.1.1⟩) ?_ ?_ ?_ ?_
  ·exact ⟨by show i+1≤_;omega,by simp [hol],y36.2⟩
  ·(show l.length - (i+1)<l.length - i;omega)
  ·exact ⟨rfl,rfl,rfl,rfl,rfl,rfl,trivial⟩
  rfl
 have hie:i=l.length:=by simp at h19;omega
 subst hie
 obtain ⟨z,hz⟩:∃ z,out[root]?=some z:=⟨_,List.getElem?_eq_getElem (by omega)⟩
 refine jN 7 ?_
 refine WA.know (φ:=∃ g2,ad=some ⟨g2,0,none⟩∧l.length+2=l.length+2∧l.length+2≤ac) (fun w hS=>rowc_addr (hS.ok (rowc (.slice ad (l.length+2) ac) (l.length+2) 3 1 (out.map (Value.int .i64))) jM) (by omega)) (fun ⟨g2,hg2,_,_⟩=>?_)
 subst hg2
 refine jN 7 ?_
 refine WL.indexAddr F.sl73 rfl rfl rfl (by omega) ?_
 refine jN 1 ?_
 refine WL.load1 F.one3 rfl rfl (v:= .int .i64 z) (fun w hS=>by rw [Nat.zero_add,Nat.mul_one];exact rowc_cell (hS.ok (jW g2 (l.length+2) ac 3 1 (out.map (Value.int .i64))) jM) (by simp [hz])) ?_
 refine jN 5 ?_
 refine WQ.ret (rs:=[.tmp 8]) rfl (.tmp rfl .nil) (fun w hS=>⟨⟨(out,s,z),hI,hol,hz⟩,rfl,(jK hS)⟩)
end Go.Proofs.YtedbajbgnmaakaaGreatDoor
namespace Dg
def atD (l:List Dec) (r:Nat):Dec:=if r<2 then (24,r,r) else l.getD (r - 2) (24,r,r)
theorem atD_ge {l:List Dec} {r:Nat} {x:Dec} (h2:2≤r) (hx:l[r - 2]?=some x):atD l r=x:=by
 unfold atD
 rw [if_neg (by omega)]
 simp [List.getD,hx]
def loP (l:List Dec) (r i:Nat):Nat:=if (atD l r).1=i then (atD l r).2.1 else r
def hiP (l:List Dec) (r i:Nat):Nat:=if (atD l r).1=i then (atD l r).2.2 else r
theorem half_at {l:List Dec} (h:Mk l) {r i:Nat} (hr:r<l.length+2) {m:Nat} (ho:(trs l r).ok m) (hi:i≤(atD l r).1) (hi24:i<24):
  loP l r i<l.length+2∧hiP l r i<l.length+2∧(trs l (loP l r i)).ok (i+1)∧(trs l (hiP l r i)).ok (i+1)∧(∀ c,(trs l r).ev c=bif c i then (trs l (hiP l r i)).ev c else (trs l (loP l r i)).ev c)∧((atD l r).1=i→m≤i)∧((atD l r).1=i→2≤r):=by
 unfold loP hiP
 rcases Nat.lt_or_ge r 2 with h2 | h2
 ·have e:atD l r=(24,r,r):=by unfold atD;rw [if_pos h2]
  rw [e]
  have hne: ¬ ((24,r,r):Dec).1=i:=by simp only;omega
  simp only [if_neg hne]
  have hlf:∃ b,trs l r= .lf b:=by
   rcases r with _ | _ | r
   ·exact ⟨_,(trs_zero l).1⟩
   ·exact ⟨_,(trs_zero l).2⟩
   ·omega
  obtain ⟨b,hb⟩:=hlf
  rw [hb]
  exact ⟨hr,hr,trivial,trivial,fun c=>by cases c i<;>rfl,fun h=>absurd h hne,fun h=>absurd h hne⟩
 obtain ⟨k,rfl⟩:∃ k,r=k+2:=⟨r - 2,by omega⟩
 have hk:k<l.length:=by omega
 have hx:=List.getElem?_eq_getElem hk
 have e:atD l (k+2)=l[k]:=atD_ge h2 hx
 have hb:=h.kid k _ hx
 have ht:=h.at hx
 rw [e] at hi ⊢
 rw [ht] at ho ⊢
 by_cases hv:l[k].1=i
 ·simp only [if_pos hv]
  refine ⟨by omega,by omega,hv▸ho.2.2.2.1,hv▸ho.2.2.2.2,fun c=>?_,fun _=>hv▸ho.1,fun _=>h2⟩
  simp only [BT.ev,hv]
 simp only [if_neg hv]
 have hok:(BT.nd l[k].1 (trs l l[k].2.1) (trs l l[k].2.2)).ok (i+1):=⟨by omega,ho.2⟩
 rw [ht]
 exact ⟨hr,hr,hok,hok,fun c=>by cases c i<;>rfl,fun h=>absurd h hv,fun h=>absurd h hv⟩
theorem atD_lt {l:List Dec} (h:Mk l) {r:Nat} (hr:r<l.length+2) (h2:2≤r):(atD l r).1<24:=by
 obtain ⟨k,rfl⟩:∃ k,r=k+2:=⟨r - 2,by omega⟩
 have hk:k<l.length:=by omega
 rw [atD_ge h2 (List.getElem?_eq_getElem hk)]
 exact (h.kid k _ (List.getElem?_eq_getElem hk)).1
theorem atD_ok {l:List Dec} (h:Mk l) {r m:Nat} (hr:r<l.length+2) (ho:(trs l r).ok m) (hm:m≤24):m≤(atD l r).1:=by
 rcases Nat.lt_or_ge r 2 with h2 | h2
 ·unfold atD;rw [if_pos h2];exact hm
 obtain ⟨k,rfl⟩:∃ k,r=k+2:=⟨r - 2,by omega⟩
 have hk:k<l.length:=by omega
 rw [atD_ge h2 (List.getElem?_eq_getElem hk)]
 rw [h.at (List.getElem?_eq_getElem hk)] at ho
 exact ho.1
structure JR (bop:Bool→Bool→Bool) (l:List Dec) (r:Nat) (s t:BT):Prop where
 lt:r<l.length+2
 ok:∀ j,s.ok j→t.ok j→(trs l r).ok j
 ev:∀ c,(trs l r).ev c=bop (s.ev c) (t.ev c)
theorem JR.ext {bop:Bool→Bool→Bool} {l:List Dec} {r:Nat} {s t:BT} (h:JR bop l r s t) {l':List Dec} (hp:∃ z,l'=l++z):JR bop l' r s t:=by
 obtain ⟨z,rfl⟩:=hp
 have e:=trs_append (m:=z) h.lt
 exact ⟨by rw [List.length_append];have:=h.lt;omega,fun j hs ht=>by rw [e];exact h.ok j hs ht,fun c=>by rw [e];exact h.ev c⟩
def SeenOk (bop:Bool→Bool→Bool) (la lb l:List Dec) (f:Nat×Nat→Option Nat):Prop:=∀ x y r,f (x,y)=some r→JR bop l r (trs la x) (trs lb y)
theorem SeenOk.ext {bop:Bool→Bool→Bool} {la lb l l':List Dec} {f:Nat×Nat→Option Nat} (h:SeenOk bop la lb l f) (hp:∃ z,l'=l++z):SeenOk bop la lb l' f:=fun x y r hr=>(h x y r hr).ext hp
theorem SeenOk.put {bop:Bool→Bool→Bool} {la lb l:List Dec} {f:Nat×Nat→Option Nat} (h:SeenOk bop la lb l f) {x y r:Nat} (hr:JR bop l r (trs la x) (trs lb y)):SeenOk bop la lb l (fun q=>if q=(x,y) then some r else f q):=by
 intro x' y' r' h'
 by_cases e:(x',y')=(x,y)
 ·simp only [if_pos e,Option.some.injEq] at h'
  cases e
  rw [← h'];exact hr
 simp only [if_neg e] at h'
 exact h x' y' r' h'
structure OpSpec (bop:Bool→Bool→Bool) (opf:Nat→Nat→Nat×Bool):Prop where
 stop:∀ x y,(opf x y).2=true→∃ b:Bool,(opf x y).1=(bif b then 1 else 0)∧∀ p q:Bool,(x=0→p=false)→(x=1→p=true)→(y=0→q=false)→(y=1→q=true)→bop p q=b
 go:∀ x y,(opf x y).2=false→2≤x∨2≤y
theorem OpSpec.done {bop:Bool→Bool→Bool} {opf:Nat→Nat→Nat×Bool} (h:OpSpec bop opf) {la lb l:List Dec} {x y:Nat} (hs:(opf x y).2=true):JR bop l (opf x y).1 (trs la x) (trs lb y):=by
 obtain ⟨b,h1,h2⟩:=h.stop x y hs
 have hb:trs l (opf x y).1= .lf b:=by
  rw [h1];cases b
  ·exact (trs_zero l).1
  ·exact (trs_zero l).2
 refine ⟨by rw [h1];cases b<;>simp,fun j _ _=>by rw [hb];trivial,fun c=>?_⟩
 rw [hb]
 symm
 refine h2 _ _ (fun e=>?_) (fun e=>?_) (fun e=>?_) (fun e=>?_)
 ·rw [e,(trs_zero la).1];rfl
 ·rw [e,(trs_zero la).2];rfl
 ·rw [e,(trs_zero lb).1];rfl
 rw [e,(trs_zero lb).2];rfl
theorem JR.node {bop:Bool→Bool→Bool} {la lb l1 l2 l3:List Dec} {x y i p q r m:Nat} (ha:Mk la) (hb:Mk lb) (hx:x<la.length+2) (hy:y<lb.length+2) (hox:(trs la x).ok m) (hoy:(trs lb y).ok m) (hi:i=min (atD la x).1 (atD lb y).1) (hi24:i<24)
  (h1:JR bop l1 p (trs la (loP la x i)) (trs lb (loP lb y i))) (h2:JR bop l2 q (trs la (hiP la x i)) (trs lb (hiP lb y i))) (he:∃ z,l2=l1++z) (h3:MadeN l2 l3 r (mkN i (trs l2 p) (trs l2 q))):JR bop l3 r (trs la x) (trs lb y):=by
 have hix:i≤(atD la x).1:=by omega
 have hiy:i≤(atD lb y).1:=by omega
 obtain ⟨a1,a2,a3,a4,a5,a6,_⟩:=half_at ha hx hox hix hi24
 obtain ⟨b1,b2,b3,b4,b5,b6,_⟩:=half_at hb hy hoy hiy hi24
 have h1':=h1.ext he
 refine ⟨h3.lt,fun j hs ht=>?_,fun c=>?_⟩
 ·rw [h3.tree]
  refine mkN_ok ?_ hi24 (h1'.ok _ a3 b3) (h2.ok _ a4 b4)
  have e:(atD la x).1=i∨(atD lb y).1=i:=by omega
  rcases e with e | e
  ·exact (half_at ha hx hs hix hi24).2.2.2.2.2.1 e
  exact (half_at hb hy ht hiy hi24).2.2.2.2.2.1 e
 rw [h3.tree,mkN_ev,a5 c,b5 c,h1'.ev c,h2.ev c]
 cases c i<;>rfl
def andF (x y:Nat):Nat×Bool:=(min (min x y) 1,x==0||y==0||(x==1&&y==1))
def orF (x y:Nat):Nat×Bool:=if x=1∨y=1 then (1,true) else (0,x==0&&y==0)
theorem and_spec :OpSpec (fun p q=>p&&q) andF where
 stop x y h:=by
  unfold andF at h ⊢
  simp only [Bool.or_eq_true,Bool.and_eq_true,beq_iff_eq] at h
  rcases h with (h | h) | ⟨h,h'⟩
  ·refine ⟨false,by simp only [cond_false];omega,fun p q h1 _ _ _=>by rw [h1 h];rfl⟩
  ·refine ⟨false,by simp only [cond_false];omega,fun p q _ _ h1 _=>by rw [h1 h];simp⟩
  ·refine ⟨true,by simp only [cond_true];omega,fun p q _ h1 _ h2=>by rw [h1 h,h2 h'];rfl⟩
 go x y h:=by
  unfold andF at h
  simp at h
  omega
theorem or_spec :OpSpec (fun p q=>p||q) orF where
 stop x y h:=by
  unfold orF at h ⊢
  split at h
  ·rename_i h1
   rw [if_pos h1]
   refine ⟨true,rfl,fun p q _ a _ b=>?_⟩
   rcases h1 with e | e
   ·rw [a e];rfl
   ·rw [b e];simp
  ·rename_i h1
   rw [if_neg h1]
   simp only [Bool.and_eq_true,beq_iff_eq] at h
   exact ⟨false,rfl,fun p q a _ b _=>by rw [a h.1,b h.2];rfl⟩
 go x y h:=by
  unfold orF at h
  split at h
  ·cases h
  ·simp at h
   omega
end Dg
namespace Go.Proofs.YtedbajbgnmaakaaGreatDoor
open Go Go.Eng Go.Proofs Dg
theorem at_c (l:List Dec) (a:Option Addr) (c root r:Nat) (w:World) (hll:l.length≤16777216) (hr:r<l.length+2) (hrd:RdDec w l a):
  Pure Tryz.prog 157 [.agg [.slice a l.length c,.int .i64 (root:Int)].toArray,.int .i64 (r:Int)] w (.agg [.int .i64 ((atD l r).1:Int),.int .i64 ((atD l r).2.1:Int),.int .i64 ((atD l r).2.2:Int)].toArray):=by
 refine enter Tryz.func157 rfl Tryz.ntmps157 rfl (St.init _) ?_
 refine jN 3 ?_
 refine WL.boxN rfl rfl (fun b2=>?_)
 refine jN 1 ?_
 refine WL.alloc F.zero155 rfl (fun b4=>?_)
 refine jN 11 ?_
 refine WC.cond rfl (fun h6=>?_) (fun h6=>?_)
 have h2:r<2:=by simp at h6;omega
 have ha:atD l r=(24,r,r):=by unfold atD;rw [if_pos h2]
 refine jN 14 ?_
 rotate_left
 have h2:2≤r:=by simp at h6;omega
 obtain ⟨x,hx⟩:∃ x,l[r - 2]?=some x:=⟨_,List.getElem?_eq_getElem (by omega)⟩
 have ha:atD l r=x:=atD_ge h2 hx
 obtain ⟨bl,off,rfl,hcx⟩:=hrd.at hx
 have hri:((r - 2:Nat):Int)=(r:Int) - 2:=by omega
 refine jN 12 ?_
 refine WA.say 13 (.int .i64 ((r - 2:Nat):Int)) (by rw [hri];rfl) ?_
 refine jN 1 ?_
 refine WL.indexAddr F.sl48 rfl rfl rfl (List.getElem?_eq_some_iff.1 hx).1 ?_
 refine jN 1 ?_
 refine WL.loadN F.agg155 rfl rfl (vs:=[Value.int .i64 (x.1:Int),.int .i64 (x.2.1:Int),.int .i64 (x.2.2:Int)]) rfl (fun w hS j v hv=>hS.oldc (hcx j v hv) (by simp)) ?_
 refine jN 5 ?_
 rotate_left
 all_goals
  exact WQ.ret (rs:=[.cell 4 155]) rfl (.cellN F.agg155 rfl jM rfl .nil) (fun w hS=>⟨by rw [ha];rfl,hS.sublist (List.nil_sublist _)⟩)
structure OpOk (g:Nat) (bop:Bool→Bool→Bool) (opf:Nat→Nat→Nat×Bool):Prop where
 fn:funB Tryz.prog g=some true
 spec:OpSpec bop opf
 call:∀ (x y:Nat) (w:World),x≤1099511627776→y≤1099511627776→Pure Tryz.prog g [.int .i64 (x:Int),.int .i64 (y:Int)] w (.tuple #[.int .i64 ((opf x y).1:Int),.bool (opf x y).2])
theorem both_c (x y:Nat) (w:World) (hx:x≤1099511627776) (hy:y≤1099511627776):Pure Tryz.prog 85 [.int .i64 (x:Int),.int .i64 (y:Int)] w (.tuple #[.int .i64 ((andF x y).1:Int),.bool (andF x y).2]):=by
 refine enter Tryz.func85 rfl Tryz.ntmps85 rfl (St.init _) ?_
 refine jN 15 ?_
 refine WL.min3 (r:=((min (min x y) 1:Nat):Int)) rfl rfl rfl rfl (by (repeat split)<;>omega) ?_
 refine jN 6 ?_
 refine WA.splitB (i:=11) rfl (fun g11=>?_) (fun g11=>?_)
 ·refine jN 29 ?_
  refine WQ.ret (rs:=[.tmp 4,.tmp 5]) rfl (.tmp rfl (.tmp rfl .nil)) (fun w hS=>⟨?_,hS⟩)
  have e:∀ b:Bool,b=(andF x y).2→Ending.returned (tup [.int .i64 ((min (min x y) 1:Nat):Int),.bool b])= .returned (.tuple #[.int .i64 ((andF x y).1:Int),.bool (andF x y).2]):=fun b hb=>by rw [hb];rfl
  refine e _ ?_
  unfold andF
  simp at*
  first | done | omega | (simp [*];done) | (rw [Bool.eq_iff_iff];simp;omega)
 refine jN 10 ?_
 refine WA.splitB (i:=15) rfl (fun g15=>?_) (fun g15=>?_)
 ·refine jN 21 ?_
  refine WQ.ret (rs:=[.tmp 4,.tmp 5]) rfl (.tmp rfl (.tmp rfl .nil)) (fun w hS=>⟨?_,hS⟩)
  have e:∀ b:Bool,b=(andF x y).2→Ending.returned (tup [.int .i64 ((min (min x y) 1:Nat):Int),.bool b])= .returned (.tuple #[.int .i64 ((andF x y).1:Int),.bool (andF x y).2]):=fun b hb=>by rw [hb];rfl
  refine e _ ?_
  unfold andF
  simp at*
  first | done | omega | (simp [*];done) | (rw [Bool.eq_iff_iff];simp;omega)
 refine jN 9 ?_
 refine WA.splitB (i:=18) rfl (fun g18=>?_) (fun g18=>?_)
 refine jN 18 ?_
 rotate_left
 refine jN 16 ?_
 rotate_left
 all_goals
  refine WQ.ret (rs:=[.tmp 4,.tmp 5]) rfl (.tmp rfl (.tmp rfl .nil)) (fun w hS=>⟨?_,hS⟩)
  have e:∀ b:Bool,b=(andF x y).2→Ending.returned (tup [.int .i64 ((min (min x y) 1:Nat):Int),.bool b])= .returned (.tuple #[.int .i64 ((andF x y).1:Int),.bool (andF x y).2]):=fun b hb=>by rw [hb];rfl
  refine e _ ?_
  unfold andF
  simp at*
  first | done | omega | (simp [*];done) | (rw [Bool.eq_iff_iff];simp;omega)
theorem both_ok :OpOk 85 (fun p q=>p&&q) andF:=⟨F.fun85,and_spec,both_c⟩
theorem either_c (x y:Nat) (w:World) (hx:x≤1099511627776) (hy:y≤1099511627776):Pure Tryz.prog 86 [.int .i64 (x:Int),.int .i64 (y:Int)] w (.tuple #[.int .i64 ((orF x y).1:Int),.bool (orF x y).2]):=by
 refine enter Tryz.func86 rfl Tryz.ntmps86 rfl (St.init _) ?_
 refine jN 17 ?_
 refine WA.splitB (i:=8) rfl (fun g8=>?_) (fun g8=>?_)
 ·have hor:x=1∨y=1:=by (simp at g8;omega)
  have ho:orF x y=(1,true):=by (unfold orF;rw [if_pos hor])
  refine jN 19 ?_
  refine WQ.ret (rs:=[.tmp 4,.tmp 5]) rfl (.tmp rfl (.tmp rfl .nil)) (fun w hS=>⟨?_,hS⟩)
  rw [ho];rfl
 refine jN 10 ?_
 refine WC.cond rfl (fun h11=>?_) (fun h11=>?_)
 ·have hor:x=1∨y=1:=by (first | (simp at g8;omega) | (simp at h11;omega) | (simp at*;omega))
  have ho:orF x y=(1,true):=by (unfold orF;rw [if_pos hor])
  refine jN 10 ?_
  refine WQ.ret (rs:=[.tmp 4,.tmp 5]) rfl (.tmp rfl (.tmp rfl .nil)) (fun w hS=>⟨?_,hS⟩)
  rw [ho];rfl
 have hor: ¬ (x=1∨y=1):=by (simp at g8 h11;omega)
 have ho:orF x y=(0,x==0&&y==0):=by (unfold orF;rw [if_neg hor])
 refine jN 10 ?_
 refine WA.splitB (i:=14) rfl (fun g14=>?_) (fun g14=>?_)
 refine jN 15 ?_
 rotate_left
 refine jN 13 ?_
 rotate_left
 all_goals
  refine WQ.ret (rs:=[.tmp 4,.tmp 5]) rfl (.tmp rfl (.tmp rfl .nil)) (fun w hS=>⟨?_,hS⟩)
  rw [ho]
  have e:∀ b:Bool,b=(x==0&&y==0)→Ending.returned (tup [.int .i64 0,.bool b])= .returned (.tuple #[.int .i64 ((0:Nat):Int),.bool (x==0&&y==0)]):=fun b hb=>by rw [hb];rfl
  refine e _ ?_
  simp at*
  first | done | omega | (simp [*];done) | (rw [Bool.eq_iff_iff];simp;omega)
theorem either_ok :OpOk 86 (fun p q=>p||q) orF:=⟨F.fun86,or_spec,either_c⟩
theorem keyPair :KeyT Tryz.prog 267 enc2:=KeyT.twoOf (by kernel_rfl)
theorem undMP :Tryz.prog.underlying 218=some (.map 267 3):=by kernel_rfl
abbrev jnCs (bm bs:Nat) (l:List Dec) (f:Nat×Nat→Option Nat) (F1:List Nat):List Chunk:=[mkr F1 bm l,mpg enc2 bs (fun q=>(f q).map encI)]
def jns (F:List Nat) (bm bs:Nat) (l:List Dec) (f:Nat×Nat→Option Nat):Chunk:=bun F (jnCs bm bs l f) (fun _=>True)
theorem St.jnsClose {w0 w:World} {O:List Nat} {C:List Chunk} {F1:List Nat} {bm bs:Nat} {l:List Dec} {f:Nat×Nat→Option Nat} (h:St w0 O (mkr F1 bm l::mpg enc2 bs (fun q=>(f q).map encI)::C) w):St w0 O (jns (F1++([bs]++[])) bm bs l f::C) w:=
 St.bunClose' (Cs:=jnCs bm bs l f) F1 trivial (.cons FpIs.bun (.cons FpIs.mpg .nil)) h
theorem pair_map {f:Nat×Nat→Option Nat} {k:Nat×Nat} {n:Nat} {z:Int} (hz:z=(n:Int)):(fun q:Nat×Nat=>if q=k then some (Value.int .i64 z) else (f q).map encI)=(fun y=>(if y=k then some n else f y).map encI):=by
 funext q
 by_cases h:q=k
 ·rw [if_pos h,if_pos h,hz];rfl
 rw [if_neg h,if_neg h]
theorem RdDecO.now {w0 w:World} {F:List Nat} {C:List Chunk} {l:List Dec} {a:Option Addr} (h:RdDecO w0 l a F) (hS:St w0 F C w):RdDec w l a:=fun j u hu=>by
 obtain ⟨b,off,e1,e2,e3⟩:=h j u hu
 exact ⟨b,off,e1,hS.oldc e2 e3⟩
structure JEnv (w:World) (F:List Nat) (bp bm bs:Nat) (la lb:List Dec) (aa ab:Option Addr) (ca cb ra rb:Nat):Prop where
 ce:∀ j v,[pp bm,.slice aa la.length ca,.int .i64 (ra:Int),.slice ab lb.length cb,.int .i64 (rb:Int),.map (some bs)][j]?=some v→w.cell? ⟨bp,j,none⟩=some v
 ce':bp∉F
 rda:RdDecO w la aa F
 rdb:RdDecO w lb ab F
theorem JEnv.next {w0 w:World} {F F':List Nat} {C1:List Chunk} {bp bm bs ca cb ra rb:Nat} {la lb l:List Dec} {aa ab:Option Addr} {f:Nat×Nat→Option Nat} (h:JEnv w0 F bp bm bs la lb aa ab ca cb ra rb) (hS:St w0 F ([jns F' bm bs l f]++C1) w):JEnv w F' bp bm bs la lb aa ab ca cb ra rb:=by
 have hap:=fun {z:Nat} (h1:z<w0.heap.size) (h2:z∉F)=>hS.apart (F:=F') bun_O2 h1 h2
 refine ⟨fun j v hv=>hS.oldc (h.ce j v hv) h.ce',hap (World.block_lt_of_cell? w0 _ (h.ce 0 _ rfl)) h.ce',fun j u hu=>?_,fun j u hu=>?_⟩
 ·obtain ⟨b,off,e1,e2,e3⟩:=h.rda j u hu
  exact ⟨b,off,e1,hS.oldc e2 e3,hap (World.block_lt_of_cell? w0 _ e2) e3⟩
 obtain ⟨b,off,e1,e2,e3⟩:=h.rdb j u hu
 exact ⟨b,off,e1,hS.oldc e2 e3,hap (World.block_lt_of_cell? w0 _ e2) e3⟩
abbrev JT :=List Nat×List Dec×(Nat×Nat→Option Nat)×Nat
structure JPost (bop:Bool→Bool→Bool) (la lb l:List Dec) (m x y:Nat) (z:JT):Prop where
 ismk:Mk z.2.1
 pre:∃ t,z.2.1=l++t
 len:z.2.1.length+1≤l.length+2 ^ (24 - m)
 jr:JR bop z.2.1 z.2.2.2 (trs la x) (trs lb y)
 seen:SeenOk bop la lb z.2.1 z.2.2.1
set_option maxRecDepth 100000 in
theorem join_c (g:Nat) (bop:Bool→Bool→Bool) (opf:Nat→Nat→Nat×Bool) (hop:OpOk g bop opf) (bp bm bs:Nat) (la lb:List Dec) (aa ab:Option Addr) (ca cb ra rb:Nat) (ha:Mk la) (hb:Mk lb) (hla:la.length≤16777216) (hlb:lb.length≤16777216):∀ (n m:Nat),m≤24→24 - m<n→
  ∀ (Fp:List Nat) (l:List Dec) (f:Nat×Nat→Option Nat) (x y:Nat) (w:World),x<la.length+2→y<lb.length+2→(trs la x).ok m→(trs lb y).ok m→Mk l→SeenOk bop la lb l f→l.length+2 ^ (24 - m)≤16777216→JEnv w Fp bp bm bs la lb aa ab ca cb ra rb→St w Fp [jns Fp bm bs l f] w→
  Calls Tryz.prog 120 [pp bp,.int .i64 (x:Int),.int .i64 (y:Int),Value.func (.func g) [].toArray [].toArray].toArray w fun e w'=>∃ z:{z:JT // JPost bop la lb l m x y z},e= .returned (.int .i64 (z.1.2.2.2:Int))∧St w Fp [jns z.1.1 bm bs z.1.2.1 z.1.2.2.1] w':=by
 intro n
 induction n with
 | zero=>intro m;omega
 | succ n hrec=>
 intro m hm24 hmn Fp l f x y w hx hy hox hoy hm hsn hsz hE hS0
 have hpow:l.length+1≤l.length+2 ^ (24 - m):=by have:=Nat.one_le_two_pow (n:=24 - m);omega
 obtain ⟨F1,_,h1,h2,hS0⟩:=hS0.bunOpen
 simp only [jnCs,List.cons_append,List.nil_append] at hS0
 refine enter Tryz.func120 rfl Tryz.ntmps120 rfl (C:=[mkr F1 bm l,mpg enc2 bs (fun q=>(f q).map encI)]) hS0 ?_
 refine jN 16 ?_
 refine WL.callF0 (β:=Unit) (res:=fun _=> .returned (.tuple #[.int .i64 ((opf x y).1:Int),.bool (opf x y).2])) (cs:=fun _=>[]) (ψ:=fun _=>True) (us:=[]) (cap:=[]) hop.fn (fun d h=>by cases h;rfl) rfl rfl (fun w hS=>(hop.call x y w (by omega) (by omega)).mono (fun e w2 h=>⟨(),trivial,h.1,h.2⟩)) (fun _ _=>?_)
 refine WL.step ?_
 refine WL.move rfl rfl ?_
 refine WL.step ?_
 refine WL.extract rfl rfl rfl ?_
 refine WL.step ?_
 refine WL.extract rfl rfl rfl ?_
 refine WL.step ?_
 refine WL.assign rfl rfl ?_
 refine WL.step ?_
 refine WL.assign rfl rfl ?_
 refine WL.nil ?_
 refine WQ.then_normal ?_
 refine WC.seq ?_
 refine WC.region ?_
 refine WL.step ?_
 refine WL.move rfl rfl ?_
 refine WL.nil ?_
 refine WQ.then_normal ?_
 refine WC.cond rfl (fun h28=>?_) (fun h28=>?_)
 ·refine jN 10 ?_
  refine WQ.ret (rs:=[.tmp 8]) rfl (.tmp rfl .nil) (fun w hS=>⟨⟨(_,l,f,(opf x y).1),⟨hm,⟨[],by simp⟩,hpow,hop.spec.done h28,hsn⟩⟩,rfl,St.jnsClose hS⟩)
 refine jN 9 ?_
 refine WL.buildA F.arT267 rfl jB rfl ?_
 refine jN 1 ?_
 refine WL.alloc F.zero267 rfl (fun b11=>?_)
 refine jN 6 ?_
 rcases Option.eq_none_or_eq_some (f (x,y)) with hf | ⟨r,hf⟩
 ·refine WC.drawsL (by kernel_rfl) (FactsOk.cons (ds:=[]) (LoadOk.by (Y:=fun w=>w.cell? ⟨bp,5,none⟩=some (.map (some bs))) (fun w hS=>hS.oldc (hE.ce 5 _ rfl) hE.ce')) (FactsOk.cons (ds:=[]) (LoadOk.whole (t:=11) rfl jM) (FactsOk.cons (ds:=[]) (LoadOk.by (Y:=fun w=>(mpg enc2 bs (fun q=>(f q).map encI)).ok w) (fun w hS=>hS.ok _ jM)) (FactsOk.nil)))) ?_
  refine jQ [0,1] ?_
  refine jT 2 rfl (Yl.fieldAddr0 F.fld220_3 rfl) ?_
  refine jF 3 0 rfl rfl (Yl.load1 F.one218 rfl) ?_
  refine jF 4 1 rfl rfl (Yl.loadN F.agg267 rfl rfl) ?_
  refine jF 5 2 rfl rfl (Yl.lookupMiss (f:=fun q=>(f q).map encI) (x,y) undMP keyPair zeroInt rfl rfl rfl (by rw [hf];rfl)) ?_
  refine jQ [6] ?_
  refine jT 7 rfl (Yl.extract rfl rfl) ?_
  refine jT 8 rfl (Yl.extract rfl rfl) ?_
  refine jQ [9,10] ?_
  refine jD ?_
  refine jN 11 ?_
  refine WC.cutPE (α:=Nat×Nat) (fun z=>[(0,pp bp),(1,.int .i64 (x:Int)),(2,.int .i64 (y:Int)),(3,Value.func (.func g) [].toArray [].toArray),(11,pp b11),(14,pp z.1),(15,pp z.2)]) (fun z=>[pt z.1 [Value.int .i64 ((atD la x).1:Int),.int .i64 ((atD la x).2.1:Int),.int .i64 ((atD la x).2.2:Int)] 155,pt z.2 [Value.int .i64 ((atD lb y).1:Int),.int .i64 ((atD lb y).2.1:Int),.int .i64 ((atD lb y).2.2:Int)] 155,pt b11 [Value.int .i64 (x:Int),.int .i64 (y:Int)] 267,mkr F1 bm l,mpg enc2 bs (fun q=>(f q).map encI)]) (fun c a d v w h=>by cases d<;>exact h) (fun Q' hP hQ=>?_) (fun xE=>?_)
  ·refine WC.drawsL (by kernel_rfl) (FactsOk.cons (ds:=[5,11,14,15]) (LoadOk.by (Y:=fun w=>∀ j v,[Value.slice aa la.length ca,.int .i64 (ra:Int)][j]?=some v→w.cell? ⟨bp,1+j,none⟩=some v) (fun w hS=>fun j v hv=>hS.oldc (hE.ce (1+j) v (by rw [Nat.add_comm];rcases j with _ | _ | j<;>first | exact hv | simp at hv)) hE.ce')) (FactsOk.cons (ds:=[11,14,15]) (LoadOk.by (Y:=fun w=>∀ j v,[Value.slice ab lb.length cb,.int .i64 (rb:Int)][j]?=some v→w.cell? ⟨bp,3+j,none⟩=some v) (fun w hS=>fun j v hv=>hS.oldc (hE.ce (3+j) v (by rw [Nat.add_comm];rcases j with _ | _ | j<;>first | exact hv | simp at hv)) hE.ce')) (FactsOk.nil))) ?_
   refine jQ [0,1] ?_
   refine jT 2 rfl (Yl.fieldAddr0 F.fld220_1 rfl) ?_
   refine jF 3 0 rfl rfl (Yl.loadN F.agg50 rfl rfl) ?_
   refine jQ [4,6,7] ?_
   refine jT 8 rfl (Yl.fieldAddr0 F.fld220_2 rfl) ?_
   refine jF 9 1 rfl rfl (Yl.loadN F.agg50 rfl rfl) ?_
   refine jQ [10] ?_
   refine WD.three (i:=5) (j:=12) (l:=13) (by kernel_rfl) rfl rfl rfl ?_ ?_ ?_
   ·refine WL.callV F.fun157 rfl rfl (fun w hS=>at_c la aa ca ra x w (by omega) hx (hE.rda.now hS)) ?_
    refine WD.on (closed_of (by kernel_rfl)) (fun w hS=>Sx.gone rfl (Sx.keep (fun j v hv=>hS.oldc (hE.ce (3+j) v (by rw [Nat.add_comm];rcases j with _ | _ | j<;>first | exact hv | simp at hv)) hE.ce') (Sx.none))) ?_
    refine WD.three (i:=11) (j:=12) (l:=13) (by kernel_rfl) rfl rfl rfl ?_ ?_ ?_
    refine WL.callV F.fun157 rfl rfl (fun w hS=>at_c lb ab cb rb y w (by omega) hy (hE.rdb.now hS)) ?_
    refine jG ?_
    refine WD.two (i:=12) (j:=13) (by kernel_rfl) rfl rfl ?_ ?_
    refine WL.alloc F.zero155 rfl (fun b14=>?_)
    refine jG ?_
    refine jA 13 rfl ?_
    refine WL.alloc F.zero155 rfl (fun b15=>?_)
    rotate_left
    refine WL.alloc F.zero155 rfl (fun b15=>?_)
    refine jG ?_
    refine jA 12 rfl ?_
    refine WL.alloc F.zero155 rfl (fun b14=>?_)
    rotate_left
    refine WL.alloc F.zero155 rfl (fun b14=>?_)
    refine WD.on (closed_of (by kernel_rfl)) (fun w hS=>Sx.gone rfl (Sx.keep (fun j v hv=>hS.oldc (hE.ce (3+j) v (by rw [Nat.add_comm];rcases j with _ | _ | j<;>first | exact hv | simp at hv)) hE.ce') (Sx.none))) ?_
    refine WD.two (i:=11) (j:=13) (by kernel_rfl) rfl rfl ?_ ?_
    refine WL.callV F.fun157 rfl rfl (fun w hS=>at_c lb ab cb rb y w (by omega) hy (hE.rdb.now hS)) ?_
    refine jG ?_
    refine jA 13 rfl ?_
    refine WL.alloc F.zero155 rfl (fun b15=>?_)
    rotate_left
    refine WL.alloc F.zero155 rfl (fun b15=>?_)
    refine WD.on (closed_of (by kernel_rfl)) (fun w hS=>Sx.gone rfl (Sx.keep (fun j v hv=>hS.oldc (hE.ce (3+j) v (by rw [Nat.add_comm];rcases j with _ | _ | j<;>first | exact hv | simp at hv)) hE.ce') (Sx.none))) ?_
    refine jA 11 rfl ?_
    refine WL.callV F.fun157 rfl rfl (fun w hS=>at_c lb ab cb rb y w (by omega) hy (hE.rdb.now hS)) ?_
    rotate_left
    refine WL.alloc F.zero155 rfl (fun b15=>?_)
    refine WD.on (closed_of (by kernel_rfl)) (fun w hS=>Sx.gone rfl (Sx.keep (fun j v hv=>hS.oldc (hE.ce (3+j) v (by rw [Nat.add_comm];rcases j with _ | _ | j<;>first | exact hv | simp at hv)) hE.ce') (Sx.none))) ?_
    refine WD.two (i:=11) (j:=12) (by kernel_rfl) rfl rfl ?_ ?_
    refine WL.callV F.fun157 rfl rfl (fun w hS=>at_c lb ab cb rb y w (by omega) hy (hE.rdb.now hS)) ?_
    refine jG ?_
    refine jA 12 rfl ?_
    refine WL.alloc F.zero155 rfl (fun b14=>?_)
    rotate_left
    refine WL.alloc F.zero155 rfl (fun b14=>?_)
    refine WD.on (closed_of (by kernel_rfl)) (fun w hS=>Sx.gone rfl (Sx.keep (fun j v hv=>hS.oldc (hE.ce (3+j) v (by rw [Nat.add_comm];rcases j with _ | _ | j<;>first | exact hv | simp at hv)) hE.ce') (Sx.none))) ?_
    refine jA 11 rfl ?_
    refine WL.callV F.fun157 rfl rfl (fun w hS=>at_c lb ab cb rb y w (by omega) hy (hE.rdb.now hS)) ?_
    rotate_left
    all_goals
     rotate_left
     all_goals
      refine jG ?_
      refine jA 14 rfl ?_
      refine WL.storeN F.agg155 rfl rfl rfl jO jU jS ?_
      refine jG ?_
      refine jA 15 rfl ?_
      refine WL.storeN F.agg155 rfl rfl rfl jO jU jS ?_
      refine jG ?_
      refine jD ?_
      refine WQ.chunks (C':=[pt (b14,b15).1 [Value.int .i64 ((atD la x).1:Int),.int .i64 ((atD la x).2.1:Int),.int .i64 ((atD la x).2.2:Int)] 155,pt (b14,b15).2 [Value.int .i64 ((atD lb y).1:Int),.int .i64 ((atD lb y).2.1:Int),.int .i64 ((atD lb y).2.2:Int)] 155,pt b11 [Value.int .i64 (x:Int),.int .i64 (y:Int)] 267,mkr F1 bm l,mpg enc2 bs (fun q=>(f q).map encI)]) (fun w hS=>(jK hS)) ?_
      exact WQ.byCut (hQ (b14,b15)) ⟨rfl,rfl,rfl,rfl,rfl,rfl,rfl,trivial⟩
   ·refine WL.alloc F.zero155 rfl (fun b14=>?_)
    refine WD.on (closed_of (by kernel_rfl)) (fun w hS=>Sx.keep (fun j v hv=>hS.oldc (hE.ce (1+j) v (by rw [Nat.add_comm];rcases j with _ | _ | j<;>first | exact hv | simp at hv)) hE.ce') (Sx.keep (fun j v hv=>hS.oldc (hE.ce (3+j) v (by rw [Nat.add_comm];rcases j with _ | _ | j<;>first | exact hv | simp at hv)) hE.ce') (Sx.none))) ?_
    refine WD.two (i:=5) (j:=13) (by kernel_rfl) rfl rfl ?_ ?_
    ·refine WL.callV F.fun157 rfl rfl (fun w hS=>at_c la aa ca ra x w (by omega) hx (hE.rda.now hS)) ?_
     refine WD.on (closed_of (by kernel_rfl)) (fun w hS=>Sx.gone rfl (Sx.keep (fun j v hv=>hS.oldc (hE.ce (3+j) v (by rw [Nat.add_comm];rcases j with _ | _ | j<;>first | exact hv | simp at hv)) hE.ce') (Sx.none))) ?_
     refine WD.two (i:=11) (j:=13) (by kernel_rfl) rfl rfl ?_ ?_
     refine WL.callV F.fun157 rfl rfl (fun w hS=>at_c lb ab cb rb y w (by omega) hy (hE.rdb.now hS)) ?_
     refine jG ?_
     refine jA 13 rfl ?_
     refine WL.alloc F.zero155 rfl (fun b15=>?_)
     rotate_left
     refine WL.alloc F.zero155 rfl (fun b15=>?_)
     refine WD.on (closed_of (by kernel_rfl)) (fun w hS=>Sx.gone rfl (Sx.keep (fun j v hv=>hS.oldc (hE.ce (3+j) v (by rw [Nat.add_comm];rcases j with _ | _ | j<;>first | exact hv | simp at hv)) hE.ce') (Sx.none))) ?_
     refine jA 11 rfl ?_
     refine WL.callV F.fun157 rfl rfl (fun w hS=>at_c lb ab cb rb y w (by omega) hy (hE.rdb.now hS)) ?_
     rotate_left
     all_goals
      refine jG ?_
      refine jA 14 rfl ?_
      refine WL.storeN F.agg155 rfl rfl rfl jO jU jS ?_
      refine jG ?_
      refine jA 15 rfl ?_
      refine WL.storeN F.agg155 rfl rfl rfl jO jU jS ?_
      refine jG ?_
      refine jD ?_
      refine WQ.chunks (C':=[pt (b14,b15).1 [Value.int .i64 ((atD la x).1:Int),.int .i64 ((atD la x).2.1:Int),.int .i64 ((atD la x).2.2:Int)] 155,pt (b14,b15).2 [Value.int .i64 ((atD lb y).1:Int),.int .i64 ((atD lb y).2.1:Int),.int .i64 ((atD lb y).2.2:Int)] 155,pt b11 [Value.int .i64 (x:Int),.int .i64 (y:Int)] 267,mkr F1 bm l,mpg enc2 bs (fun q=>(f q).map encI)]) (fun w hS=>(jK hS)) ?_
      exact WQ.byCut (hQ (b14,b15)) ⟨rfl,rfl,rfl,rfl,rfl,rfl,rfl,trivial⟩
    refine WL.alloc F.zero155 rfl (fun b15=>?_)
    refine WD.on (closed_of (by kernel_rfl)) (fun w hS=>Sx.keep (fun j v hv=>hS.oldc (hE.ce (1+j) v (by rw [Nat.add_comm];rcases j with _ | _ | j<;>first | exact hv | simp at hv)) hE.ce') (Sx.keep (fun j v hv=>hS.oldc (hE.ce (3+j) v (by rw [Nat.add_comm];rcases j with _ | _ | j<;>first | exact hv | simp at hv)) hE.ce') (Sx.none))) ?_
    refine jA 5 rfl ?_
    refine WL.callV F.fun157 rfl rfl (fun w hS=>at_c la aa ca ra x w (by omega) hx (hE.rda.now hS)) ?_
    refine WD.on (closed_of (by kernel_rfl)) (fun w hS=>Sx.gone rfl (Sx.keep (fun j v hv=>hS.oldc (hE.ce (3+j) v (by rw [Nat.add_comm];rcases j with _ | _ | j<;>first | exact hv | simp at hv)) hE.ce') (Sx.none))) ?_
    refine jA 11 rfl ?_
    refine WL.callV F.fun157 rfl rfl (fun w hS=>at_c lb ab cb rb y w (by omega) hy (hE.rdb.now hS)) ?_
    refine jG ?_
    refine jA 14 rfl ?_
    refine WL.storeN F.agg155 rfl rfl rfl jO jU jS ?_
    refine jG ?_
    refine jA 15 rfl ?_
    refine WL.storeN F.agg155 rfl rfl rfl jO jU jS ?_
    refine jG ?_
    refine jD ?_
    refine WQ.chunks (C':=[pt (b14,b15).1 [Value.int .i64 ((atD la x).1:Int),.int .i64 ((atD la x).2.1:Int),.int .i64 ((atD la x).2.2:Int)] 155,pt (b14,b15).2 [Value.int .i64 ((atD lb y).1:Int),.int .i64 ((atD lb y).2.1:Int),.int .i64 ((atD lb y).2.2:Int)] 155,pt b11 [Value.int .i64 (x:Int),.int .i64 (y:Int)] 267,mkr F1 bm l,mpg enc2 bs (fun q=>(f q).map encI)]) (fun w hS=>(jK hS)) ?_
    exact WQ.byCut (hQ (b14,b15)) ⟨rfl,rfl,rfl,rfl,rfl,rfl,rfl,trivial⟩
   refine WL.alloc F.zero155 rfl (fun b15=>?_)
   refine WD.on (closed_of (by kernel_rfl)) (fun w hS=>Sx.keep (fun j v hv=>hS.oldc (hE.ce (1+j) v (by rw [Nat.add_comm];rcases j with _ | _ | j<;>first | exact hv | simp at hv)) hE.ce') (Sx.keep (fun j v hv=>hS.oldc (hE.ce (3+j) v (by rw [Nat.add_comm];rcases j with _ | _ | j<;>first | exact hv | simp at hv)) hE.ce') (Sx.none))) ?_
   refine WD.two (i:=5) (j:=12) (by kernel_rfl) rfl rfl ?_ ?_
   ·refine WL.callV F.fun157 rfl rfl (fun w hS=>at_c la aa ca ra x w (by omega) hx (hE.rda.now hS)) ?_
    refine WD.on (closed_of (by kernel_rfl)) (fun w hS=>Sx.gone rfl (Sx.keep (fun j v hv=>hS.oldc (hE.ce (3+j) v (by rw [Nat.add_comm];rcases j with _ | _ | j<;>first | exact hv | simp at hv)) hE.ce') (Sx.none))) ?_
    refine WD.two (i:=11) (j:=12) (by kernel_rfl) rfl rfl ?_ ?_
    refine WL.callV F.fun157 rfl rfl (fun w hS=>at_c lb ab cb rb y w (by omega) hy (hE.rdb.now hS)) ?_
    refine jG ?_
    refine jA 12 rfl ?_
    refine WL.alloc F.zero155 rfl (fun b14=>?_)
    rotate_left
    refine WL.alloc F.zero155 rfl (fun b14=>?_)
    refine WD.on (closed_of (by kernel_rfl)) (fun w hS=>Sx.gone rfl (Sx.keep (fun j v hv=>hS.oldc (hE.ce (3+j) v (by rw [Nat.add_comm];rcases j with _ | _ | j<;>first | exact hv | simp at hv)) hE.ce') (Sx.none))) ?_
    refine jA 11 rfl ?_
    refine WL.callV F.fun157 rfl rfl (fun w hS=>at_c lb ab cb rb y w (by omega) hy (hE.rdb.now hS)) ?_
    rotate_left
    all_goals
     refine jG ?_
     refine jA 14 rfl ?_
     refine WL.storeN F.agg155 rfl rfl rfl jO jU jS ?_
     refine jG ?_
     refine jA 15 rfl ?_
     refine WL.storeN F.agg155 rfl rfl rfl jO jU jS ?_
     refine jG ?_
     refine jD ?_
     refine WQ.chunks (C':=[pt (b14,b15).1 [Value.int .i64 ((atD la x).1:Int),.int .i64 ((atD la x).2.1:Int),.int .i64 ((atD la x).2.2:Int)] 155,pt (b14,b15).2 [Value.int .i64 ((atD lb y).1:Int),.int .i64 ((atD lb y).2.1:Int),.int .i64 ((atD lb y).2.2:Int)] 155,pt b11 [Value.int .i64 (x:Int),.int .i64 (y:Int)] 267,mkr F1 bm l,mpg enc2 bs (fun q=>(f q).map encI)]) (fun w hS=>(jK hS)) ?_
     exact WQ.byCut (hQ (b14,b15)) ⟨rfl,rfl,rfl,rfl,rfl,rfl,rfl,trivial⟩
   refine WL.alloc F.zero155 rfl (fun b14=>?_)
   refine WD.on (closed_of (by kernel_rfl)) (fun w hS=>Sx.keep (fun j v hv=>hS.oldc (hE.ce (1+j) v (by rw [Nat.add_comm];rcases j with _ | _ | j<;>first | exact hv | simp at hv)) hE.ce') (Sx.keep (fun j v hv=>hS.oldc (hE.ce (3+j) v (by rw [Nat.add_comm];rcases j with _ | _ | j<;>first | exact hv | simp at hv)) hE.ce') (Sx.none))) ?_
   refine jA 5 rfl ?_
   refine WL.callV F.fun157 rfl rfl (fun w hS=>at_c la aa ca ra x w (by omega) hx (hE.rda.now hS)) ?_
   refine WD.on (closed_of (by kernel_rfl)) (fun w hS=>Sx.gone rfl (Sx.keep (fun j v hv=>hS.oldc (hE.ce (3+j) v (by rw [Nat.add_comm];rcases j with _ | _ | j<;>first | exact hv | simp at hv)) hE.ce') (Sx.none))) ?_
   refine jA 11 rfl ?_
   refine WL.callV F.fun157 rfl rfl (fun w hS=>at_c lb ab cb rb y w (by omega) hy (hE.rdb.now hS)) ?_
   refine jG ?_
   refine jA 14 rfl ?_
   refine WL.storeN F.agg155 rfl rfl rfl jO jU jS ?_
   refine jG ?_
   refine jA 15 rfl ?_
   refine WL.storeN F.agg155 rfl rfl rfl jO jU jS ?_
   refine jG ?_
   refine jD ?_
   refine WQ.chunks (C':=[pt (b14,b15).1 [Value.int .i64 ((atD la x).1:Int),.int .i64 ((atD la x).2.1:Int),.int .i64 ((atD la x).2.2:Int)] 155,pt (b14,b15).2 [Value.int .i64 ((atD lb y).1:Int),.int .i64 ((atD lb y).2.1:Int),.int .i64 ((atD lb y).2.2:Int)] 155,pt b11 [Value.int .i64 (x:Int),.int .i64 (y:Int)] 267,mkr F1 bm l,mpg enc2 bs (fun q=>(f q).map encI)]) (fun w hS=>(jK hS)) ?_
   exact WQ.byCut (hQ (b14,b15)) ⟨rfl,rfl,rfl,rfl,rfl,rfl,rfl,trivial⟩
  obtain ⟨b14,b15⟩:=xE
  show WQ _ _ _ _ _ _ [(0,pp bp),(1,.int .i64 (x:Int)),(2,.int .i64 (y:Int)),(3,Value.func (.func g) [].toArray [].toArray),(11,pp b11),(14,pp b14),(15,pp b15)] [pt b14 [Value.int .i64 ((atD la x).1:Int),.int .i64 ((atD la x).2.1:Int),.int .i64 ((atD la x).2.2:Int)] 155,pt b15 [Value.int .i64 ((atD lb y).1:Int),.int .i64 ((atD lb y).2.1:Int),.int .i64 ((atD lb y).2.2:Int)] 155,pt b11 [Value.int .i64 (x:Int),.int .i64 (y:Int)] 267,mkr F1 bm l,mpg enc2 bs (fun q=>(f q).map encI)]
  obtain ⟨i,hi⟩:∃ i,i=min (atD la x).1 (atD lb y).1:=⟨_,rfl⟩
  have hgo:=hop.spec.go x y h28
  have hi24:i<24:=by
   rcases hgo with h | h
   ·have:=atD_lt ha hx h;omega
   ·have:=atD_lt hb hy h;omega
  have hmi:m≤i:=by have e1:=atD_ok ha hx hox hm24;have e2:=atD_ok hb hy hoy hm24;omega
  obtain ⟨a1,a2,a3,a4,_,_,a7⟩:=half_at ha hx hox (i:=i) (by omega) hi24
  obtain ⟨c1,c2,c3,c4,_,_,c7⟩:=half_at hb hy hoy (i:=i) (by omega) hi24
  have hp2:2 ^ (24 - (i+1))+2 ^ (24 - (i+1))≤2 ^ (24 - m):=by (have e1:2 ^ (24 - i)=2 ^ (24 - (i+1))*2:=by (rw [← Nat.pow_succ];congr 1;omega));(have e2:2 ^ (24 - i)≤2 ^ (24 - m):=Nat.pow_le_pow_right (by decide) (by omega));omega
  refine jN 12 ?_
  refine WL.minI (r:=(i:Int)) rfl rfl rfl (by (split)<;>omega) ?_
  refine jN 11 ?_
  refine WL.buildA F.arT267 rfl jB rfl ?_
  refine jN 5 ?_
  refine WL.buildA F.arT267 rfl jB rfl ?_
  refine jN 1 ?_
  refine WL.alloc F.zero267 rfl (fun b17=>?_)
  refine jN 1 ?_
  refine WL.alloc F.zero267 rfl (fun b18=>?_)
  refine jN 19 ?_
  refine WC.cutQ ([(0,pp bp),(1,.int .i64 (x:Int)),(2,.int .i64 (y:Int)),(3,Value.func (.func g) [].toArray [].toArray),(11,pp b11),(14,pp b14),(15,pp b15),(16,.int .i64 (i:Int)),(17,pp b17),(18,pp b18)]) ([pt b17 [.int .i64 (loP la x i:Int),.int .i64 (y:Int)] 267,pt b18 [.int .i64 (hiP la x i:Int),.int .i64 (y:Int)] 267,pt b15 [Value.int .i64 ((atD lb y).1:Int),.int .i64 ((atD lb y).2.1:Int),.int .i64 ((atD lb y).2.2:Int)] 155,pt b11 [Value.int .i64 (x:Int),.int .i64 (y:Int)] 267,mkr F1 bm l,mpg enc2 bs (fun q=>(f q).map encI)]) (fun c a d v w h=>by cases d<;>exact h) (fun Q' hP hQ=>?_) ?_
  ·refine WC.cond rfl (fun h70=>?_) (fun h70=>?_)
   have h70n:(atD la x).1=i:=by simp at h70;omega
   have e70:loP la x i=(atD la x).2.1∧hiP la x i=(atD la x).2.2:=by unfold loP hiP;rw [if_pos h70n,if_pos h70n];exact ⟨rfl,rfl⟩
   refine WC.drawsL (by kernel_rfl) (FactsOk.cons (ds:=[5,7]) (LoadOk.one (t:=14) (off:=1) rfl jM rfl) (FactsOk.cons (ds:=[7]) (LoadOk.one (t:=14) (off:=2) rfl jM rfl) (FactsOk.nil))) ?_
   refine jT 0 rfl (Yl.fieldAddr0 F.fld155_1 rfl) ?_
   refine jF 1 0 rfl rfl (Yl.load1 F.one3 rfl) ?_
   refine jT 2 rfl (Yl.fieldAddr0 F.fld155_2 rfl) ?_
   refine jF 3 1 rfl rfl (Yl.load1 F.one3 rfl) ?_
   refine jT 4 rfl (Yl.indexAddrA (i:=0) F.arT267 rfl rfl (by decide)) ?_
   refine jA 5 rfl ?_
   refine WL.store1 F.one3 rfl rfl rfl jU jS ?_
   refine WD.on (closed_of (by kernel_rfl)) (fun w hS=>Sx.gone rfl (Sx.keep (hS.cell jM rfl) (Sx.none))) ?_
   refine jT 6 rfl (Yl.indexAddrA (i:=0) F.arT267 rfl rfl (by decide)) ?_
   refine jA 7 rfl ?_
   refine WL.store1 F.one3 rfl rfl rfl jU jS ?_
   refine jG ?_
   refine jD ?_
   rotate_left
   have h70n: ¬ (atD la x).1=i:=by simp at h70;omega
   have e70:loP la x i=x∧hiP la x i=x:=by unfold loP hiP;rw [if_neg h70n,if_neg h70n];exact ⟨rfl,rfl⟩
   refine jN 1 ?_
   rotate_left
   all_goals
    refine WQ.chunks (C':=[pt b17 [.int .i64 (loP la x i:Int),.int .i64 (y:Int)] 267,pt b18 [.int .i64 (hiP la x i:Int),.int .i64 (y:Int)] 267,pt b15 [Value.int .i64 ((atD lb y).1:Int),.int .i64 ((atD lb y).2.1:Int),.int .i64 ((atD lb y).2.2:Int)] 155,pt b11 [Value.int .i64 (x:Int),.int .i64 (y:Int)] 267,mkr F1 bm l,mpg enc2 bs (fun q=>(f q).map encI)]) (fun w hS=>?_) (WQ.byCut hQ ⟨rfl,rfl,rfl,rfl,rfl,rfl,rfl,rfl,rfl,rfl,trivial⟩)
    rw [e70.1,e70.2]
    first | exact (jK hS) | exact (jK hS)
  refine jN 14 ?_
  refine WC.cutQ ([(0,pp bp),(3,Value.func (.func g) [].toArray [].toArray),(11,pp b11),(14,pp b14),(15,pp b15),(16,.int .i64 (i:Int)),(17,pp b17),(18,pp b18)]) ([pt b17 [.int .i64 (loP la x i:Int),.int .i64 (loP lb y i:Int)] 267,pt b18 [.int .i64 (hiP la x i:Int),.int .i64 (hiP lb y i:Int)] 267,pt b11 [Value.int .i64 (x:Int),.int .i64 (y:Int)] 267,mkr F1 bm l,mpg enc2 bs (fun q=>(f q).map encI)]) (fun c a d v w h=>by cases d<;>exact h) (fun Q' hP hQ=>?_) ?_
  ·refine WC.cond rfl (fun h80=>?_) (fun h80=>?_)
   have h80n:(atD lb y).1=i:=by simp at h80;omega
   have e80:loP lb y i=(atD lb y).2.1∧hiP lb y i=(atD lb y).2.2:=by unfold loP hiP;rw [if_pos h80n,if_pos h80n];exact ⟨rfl,rfl⟩
   refine WC.drawsL (by kernel_rfl) (FactsOk.cons (ds:=[5,7]) (LoadOk.one (t:=15) (off:=1) rfl jM rfl) (FactsOk.cons (ds:=[7]) (LoadOk.one (t:=15) (off:=2) rfl jM rfl) (FactsOk.nil))) ?_
   refine jT 0 rfl (Yl.fieldAddr0 F.fld155_1 rfl) ?_
   refine jF 1 0 rfl rfl (Yl.load1 F.one3 rfl) ?_
   refine jT 2 rfl (Yl.fieldAddr0 F.fld155_2 rfl) ?_
   refine jF 3 1 rfl rfl (Yl.load1 F.one3 rfl) ?_
   refine jT 4 rfl (Yl.indexAddrA (i:=1) F.arT267 rfl rfl (by decide)) ?_
   refine jA 5 rfl ?_
   refine WL.store1 F.one3 rfl rfl rfl jU jS ?_
   refine WD.on (closed_of (by kernel_rfl)) (fun w hS=>Sx.gone rfl (Sx.keep (hS.cell jM rfl) (Sx.none))) ?_
   refine jT 6 rfl (Yl.indexAddrA (i:=1) F.arT267 rfl rfl (by decide)) ?_
   refine jA 7 rfl ?_
   refine WL.store1 F.one3 rfl rfl rfl jU jS ?_
   refine jG ?_
   refine jD ?_
   rotate_left
   have h80n: ¬ (atD lb y).1=i:=by simp at h80;omega
   have e80:loP lb y i=y∧hiP lb y i=y:=by unfold loP hiP;rw [if_neg h80n,if_neg h80n];exact ⟨rfl,rfl⟩
   refine jN 1 ?_
   rotate_left
   all_goals
    refine WQ.chunks (C':=[pt b17 [.int .i64 (loP la x i:Int),.int .i64 (loP lb y i:Int)] 267,pt b18 [.int .i64 (hiP la x i:Int),.int .i64 (hiP lb y i:Int)] 267,pt b11 [Value.int .i64 (x:Int),.int .i64 (y:Int)] 267,mkr F1 bm l,mpg enc2 bs (fun q=>(f q).map encI)]) (fun w hS=>?_) (WQ.byCut hQ ⟨rfl,rfl,rfl,rfl,rfl,rfl,rfl,rfl,trivial⟩)
    rw [e80.1,e80.2]
    first | exact (jK hS) | exact (jK hS)
  refine jN 6 ?_
  refine WL.indexAddrA (i:=0) F.arT267 rfl rfl rfl (by decide) ?_
  refine jN 3 ?_
  refine WL.indexAddrA (i:=1) F.arT267 rfl rfl rfl (by decide) ?_
  refine jN 4 ?_
  refine WA.chunks (C':=[jns (F1++([bs]++[])) bm bs l f,pt b17 [.int .i64 (loP la x i:Int),.int .i64 (loP lb y i:Int)] 267,pt b18 [.int .i64 (hiP la x i:Int),.int .i64 (hiP lb y i:Int)] 267,pt b11 [Value.int .i64 (x:Int),.int .i64 (y:Int)] 267]) (fun w hS=>St.jnsClose (jK hS)) ?_
  refine jN 1 ?_
  refine WL.callC (β:={z:JT // JPost bop la lb l (i+1) (loP la x i) (loP lb y i) z}) (res:=fun z=> .int .i64 (z.1.2.2.2:Int)) (cs:=fun z=>[jns z.1.1 bm bs z.1.2.1 z.1.2.2.1]) (Cs:=[jns (F1++([bs]++[])) bm bs l f]) (C1:=[pt b17 [.int .i64 (loP la x i:Int),.int .i64 (loP lb y i:Int)] 267,pt b18 [.int .i64 (hiP la x i:Int),.int .i64 (hiP lb y i:Int)] 267,pt b11 [Value.int .i64 (x:Int),.int .i64 (y:Int)] 267]) (O':=(F1++([bs]++[]))) F.fun120 (fun d h=>by cases h;rfl) rfl (List.Perm.refl _) bun_O1 bun_O2 (fun w hS hS2=>hrec (i+1) (by omega) (by omega) (F1++([bs]++[])) l f (loP la x i) (loP lb y i) w a1 c1 a3 c3 hm hsn (by omega) (hE.next hS) hS2) (fun ⟨z1,hz1⟩=>?_)
  obtain ⟨G1,l1,f1,p1⟩:=z1
  obtain ⟨j1,j2,j3,j4,j5⟩:=hz1
  dsimp only at j1 j2 j3 j4 j5 ⊢
  refine jN 5 ?_
  refine WC.drawsL (by kernel_rfl) (FactsOk.cons (ds:=[13]) (LoadOk.by (Y:=fun w=>w.cell? ⟨bp,0,none⟩=some (pp bm)) (fun w hS=>hS.oldc (hE.ce 0 _ rfl) hE.ce')) (FactsOk.cons (ds:=[12,13]) (LoadOk.by (Y:=fun w=>w.cell? ⟨b18,0+0*1,none⟩=some (.int .i64 (hiP la x i:Int))) (fun w hS=>hS.cell (cs:=[.int .i64 (hiP la x i:Int),.int .i64 (hiP lb y i:Int)]) jM rfl)) (FactsOk.cons (ds:=[12,13]) (LoadOk.by (Y:=fun w=>w.cell? ⟨b18,0+1*1,none⟩=some (.int .i64 (hiP lb y i:Int))) (fun w hS=>hS.cell (cs:=[.int .i64 (hiP la x i:Int),.int .i64 (hiP lb y i:Int)]) jM rfl)) (FactsOk.nil)))) ?_
  refine jQ [0,1] ?_
  refine jT 2 rfl (Yl.fieldAddr0 F.fld220_0 rfl) ?_
  refine jF 3 0 rfl rfl (Yl.load1 F.one156 rfl) ?_
  refine jQ [4,5,6] ?_
  refine jT 7 rfl (Yl.indexAddrA (i:=0) F.arT267 rfl rfl (by decide)) ?_
  refine jF 8 1 rfl rfl (Yl.load1 F.one3 rfl) ?_
  refine jT 9 rfl (Yl.indexAddrA (i:=1) F.arT267 rfl rfl (by decide)) ?_
  refine jF 10 2 rfl rfl (Yl.load1 F.one3 rfl) ?_
  refine jQ [11] ?_
  refine jA 12 rfl ?_
  refine WL.callC (β:={z:JT // JPost bop la lb l1 (i+1) (hiP la x i) (hiP lb y i) z}) (res:=fun z=> .int .i64 (z.1.2.2.2:Int)) (cs:=fun z=>[jns z.1.1 bm bs z.1.2.1 z.1.2.2.1]) (Cs:=[jns G1 bm bs l1 f1]) (C1:=[pt b17 [.int .i64 (loP la x i:Int),.int .i64 (loP lb y i:Int)] 267,pt b18 [.int .i64 (hiP la x i:Int),.int .i64 (hiP lb y i:Int)] 267,pt b11 [Value.int .i64 (x:Int),.int .i64 (y:Int)] 267]) (O':=G1) F.fun120 (fun d h=>by cases h;rfl) rfl (List.Perm.refl _) bun_O1 bun_O2 (fun w hS hS2=>hrec (i+1) (by omega) (by omega) G1 l1 f1 (hiP la x i) (hiP lb y i) w a2 c2 a4 c4 j1 j5 (by omega) (hE.next hS) hS2) (fun ⟨z2,hz2⟩=>?_)
  refine WD.on (closed_of (by kernel_rfl)) (fun w hS=>Sx.keep (hS.oldc (hE.ce 0 _ rfl) hE.ce') (Sx.gone rfl (Sx.gone rfl (Sx.none)))) ?_
  obtain ⟨G2,l2,f2,p2⟩:=z2
  obtain ⟨k1,k2,k3,k4,k5⟩:=hz2
  dsimp only at k1 k2 k3 k4 k5 ⊢
  refine jA 13 rfl ?_
  refine WA.openB (fun G3 _ _ _=>?_)
  simp only [jnCs,List.cons_append,List.nil_append]
  refine WL.callC (β:={z:List Nat×List Dec×Nat // MadeN l2 z.2.1 z.2.2 (mkN i (trs l2 p1) (trs l2 p2))∧z.2.1.length≤l2.length+1}) (res:=fun z=> .int .i64 (z.1.2.2:Int)) (cs:=fun z=>[mkr z.1.1 bm z.1.2.1]) (Cs:=[mkr G3 bm l2]) (C1:=[mpg enc2 bs (fun q=>(f2 q).map encI),pt b17 [.int .i64 (loP la x i:Int),.int .i64 (loP lb y i:Int)] 267,pt b18 [.int .i64 (hiP la x i:Int),.int .i64 (hiP lb y i:Int)] 267,pt b11 [Value.int .i64 (x:Int),.int .i64 (y:Int)] 267]) (O':=G3) F.fun76 (fun d h=>by cases h;rfl) rfl (List.Perm.refl _) bun_O1 bun_O2 (fun w hS hS2=>mnode_c G3 bm l2 i p1 p2 w hi24 k1 (j4.ext k2).lt k4.lt (by omega) hS2) (fun ⟨z3,hz3,hz3l⟩=>?_)
  refine jG ?_
  obtain ⟨G4,l3,r3⟩:=z3
  dsimp only at hz3 hz3l ⊢
  refine jQ [14] ?_
  refine jD ?_
  refine jN 2 ?_
  refine WC.drawsL (by kernel_rfl) (FactsOk.cons (ds:=[6]) (LoadOk.by (Y:=fun w=>w.cell? ⟨bp,5,none⟩=some (.map (some bs))) (fun w hS=>hS.oldc (hE.ce 5 _ rfl) hE.ce')) (FactsOk.cons (ds:=[6]) (LoadOk.whole (t:=11) rfl jM) (FactsOk.nil))) ?_
  refine jQ [0,1] ?_
  refine jT 2 rfl (Yl.fieldAddr0 F.fld220_3 rfl) ?_
  refine jF 3 0 rfl rfl (Yl.load1 F.one218 rfl) ?_
  refine jF 4 1 rfl rfl (Yl.loadN F.agg267 rfl rfl) ?_
  refine jQ [5] ?_
  refine jA 6 rfl ?_
  refine WL.mapPutG (f:=fun q=>(f2 q).map encI) (x,y) undMP keyPair rfl rfl rfl rfl jU ?_
  refine jG ?_
  refine jD ?_
  refine jN 10 ?_
  have hjr:=JR.node ha hb hx hy hox hoy hi hi24 j4 k4 k2 hz3
  have hpre:∃ t,l3=l++t:=by (obtain ⟨t1,e1⟩:=j2;obtain ⟨t2,e2⟩:=k2;obtain ⟨t3,e3⟩:=hz3.pre;exact ⟨t1++t2++t3,by rw [e3,e2,e1];simp⟩)
  refine WQ.ret (rs:=[.tmp 8]) rfl (.tmp rfl .nil) (fun w hS=>⟨⟨(G4++([bs]++[]),l3,fun q=>if q=(x,y) then some r3 else f2 q,r3),⟨hz3.ismk,hpre,by dsimp only;omega,hjr,(k5.ext hz3.pre).put hjr⟩⟩,rfl,?_⟩)
  refine St.jnsClose (F1:=G4) ?_
  rw [← pair_map (z:=(r3:Int)) rfl]
  exact (jK hS)
 refine WC.drawsL (by kernel_rfl) (FactsOk.cons (ds:=[]) (LoadOk.by (Y:=fun w=>w.cell? ⟨bp,5,none⟩=some (.map (some bs))) (fun w hS=>hS.oldc (hE.ce 5 _ rfl) hE.ce')) (FactsOk.cons (ds:=[]) (LoadOk.whole (t:=11) rfl jM) (FactsOk.cons (ds:=[]) (LoadOk.by (Y:=fun w=>(mpg enc2 bs (fun q=>(f q).map encI)).ok w) (fun w hS=>hS.ok _ jM)) (FactsOk.nil)))) ?_
 refine jQ [0,1] ?_
 refine jT 2 rfl (Yl.fieldAddr0 F.fld220_3 rfl) ?_
 refine jF 3 0 rfl rfl (Yl.load1 F.one218 rfl) ?_
 refine jF 4 1 rfl rfl (Yl.loadN F.agg267 rfl rfl) ?_
 refine jF 5 2 rfl rfl (Yl.lookupHit (f:=fun q=>(f q).map encI) (v:=encI r) (x,y) undMP keyPair zeroInt rfl rfl rfl (by rw [hf];rfl)) ?_
 refine jQ [6] ?_
 refine jT 7 rfl (Yl.extract rfl rfl) ?_
 refine jT 8 rfl (Yl.extract rfl rfl) ?_
 refine jQ [9,10] ?_
 refine jD ?_
 refine jN 18 ?_
 refine WQ.ret (rs:=[.tmp 8]) rfl (.tmp rfl .nil) (fun w hS=>⟨⟨(_,l,f,r),⟨hm,⟨[],by simp⟩,hpow,hsn x y r hf,hsn⟩⟩,rfl,St.jnsClose (jK hS)⟩)
abbrev DRes (f:Cf→Bool):Type:={z:BT×Option Addr×Nat // z.1.ok 0∧∀ c,z.1.ev c=f c}
abbrev DRes.v {f:Cf→Bool} (z:DRes f):Value:=dval z.1.1 z.1.2.1 z.1.2.2
abbrev DRes.ch {f:Cf→Bool} (z:DRes f):Chunk:=dC z.1.2.1 z.1.2.2 z.1.1
def DPost (f:Cf→Bool) (w:World) (e:Ending) (w':World):Prop:=∃ z:DRes f,e= .returned z.v∧St w [] [z.ch] w'
theorem DRes.rd {f:Cf→Bool} (z:DRes f) {w0 w:World} {O:List Nat} {C:List Chunk} (hS:St w0 O C w) (hm:z.ch∈C):RdD w z.1.1 z.1.2.1:=RdD.of_row z.2.1 (hS.ok _ hm)
theorem jenv_of {w0 w:World} {C:List Chunk} {F:List Nat} {bp bm bs ca cb ra rb:Nat} {la lb l:List Dec} {aa ab:Option Addr} {f:Nat×Nat→Option Nat} {e:TypeId}
  (hS:St w0 [] (jns F bm bs l f::pt bp [pp bm,.slice aa la.length ca,.int .i64 (ra:Int),.slice ab lb.length cb,.int .i64 (rb:Int),.map (some bs)] e::C) w) (hra:RdDec w0 la aa) (hrb:RdDec w0 lb ab):JEnv w F bp bm bs la lb aa ab ca cb ra rb:=by
 have hd:=(List.pairwise_cons.1 hS.disj).1
 have hnew:∀ b,b<w0.heap.size→b∉F:=fun b hb hF=>by
  have:=(hS.bnd _ (List.mem_cons_self ..) b hF).2 hb
  simp at this
 refine ⟨fun j v hv=>hS.cell (List.mem_cons_of_mem _ (List.mem_cons_self ..)) hv,fun hF=>hd _ (List.mem_cons_self ..) bp hF rfl,fun j u hu=>?_,fun j u hu=>?_⟩
 obtain ⟨b,off,e1,e2⟩:=hra j u hu
 rotate_left
 obtain ⟨b,off,e1,e2⟩:=hrb j u hu
 rotate_left
 all_goals
  exact ⟨b,off,e1,hS.oldc e2 (by simp),hnew b (World.block_lt_of_cell? w0 _ e2)⟩
end Go.Proofs.YtedbajbgnmaakaaGreatDoor
namespace Go.Eng
open Go Go.RowKit Go.Proofs.YtedbajbgnmaakaaGreatDoor
abbrev FR (l:Nat):Fence:=Fence.wide.inRound l
def isDefer :Op→Bool
 | .defer _=>true
 | _=>false
theorem not_defer {op:Op} (h:isDefer op=false):∀ c,op≠ .defer c:=fun c e=>by rw [e] at h;cases h
section
variable {P : Program} {ops : Array Oper} {Q : Exit → Act → World → Prop} {n : Nat}
theorem rowsIn_wide {row:String} {args:Array Value} {w:World} {R:Value→World→Prop} (h:Rows P row args w R):RowsIn Fence.wide n P row args w R:=fun c cs _=>by
 obtain ⟨v,w',h1,h2⟩:=h c cs
 exact ⟨v,w',h1,stepsIn_wide.2 h2⟩
theorem upon_in {F:Fence} (hF:F=Fence.wide∨∃ l,F=FR l) {o:Oper} {a:Act} {K:Act→World→Prop} {r:Result Next} (h:o.upon P a K Q r):o.uponIn F n P a K Q r:=by
 have hc:∀ {m:Nat} {f:FuncId} {args:Array Value} {w:World} {R:Ending→World→Prop},Calls P f args w R→CallsIn F m P f args w R:=fun {m} {f} {args} {w} {R} h=>by
  rcases hF with rfl | ⟨l,rfl⟩
  ·exact callsIn_wide.2 h
  ·exact callsIn_wide.2 h
 have hr:∀ {m:Nat} {row:String} {args:Array Value} {w:World} {R:Value→World→Prop},Rows P row args w R→RowsIn F m P row args w R:=fun {m} {row} {args} {w} {R} h=>by
  rcases hF with rfl | ⟨l,rfl⟩
  ·exact rowsIn_wide h
  ·exact rowsIn_wide h
 have hd:F.depth.isSome=true→1≤n:=by
  rcases hF with rfl | ⟨l,rfl⟩<;>(intro h;cases h)
 cases r with
 | ok x w'=>
  cases x<;>simp only [Oper.upon] at h<;>first
   | exact h
   | exact ⟨hd,hc h⟩
   | exact ⟨hd,hr h⟩
   | exact h.elim
 | halt x w'=>cases x<;>first | exact h | exact h.elim
theorem semAt_nd {ρ:Operand→Value} {o:Oper} {ro:Option Nat} (h:isDefer o.op=false):Oper.semAt ro ρ o=execOp ρ o:=Oper.semAt_eq ro ρ o (not_defer h)
theorem fn_in {F:Fence} (hF:F=Fence.wide∨∃ l,F=FR l) (f:FuncId):F.fn f:=by
 rcases hF with rfl | ⟨l,rfl⟩<;>trivial
theorem oper_in {F:Fence} (hF:F=Fence.wide∨∃ l,F=FR l) {o:Oper} {a:Act} {w:World} {K:Act→World→Prop} (hd:isDefer o.op=false) (h:o.wp P a w K Q):o.wpIn F n P a w K Q:=
 ⟨fun f _=>fn_in hF f,by rw [semAt_nd hd];exact upon_in hF h⟩
theorem any_in {F:Fence} (hF:F=Fence.wide∨∃ l,F=FR l) (hQ: ¬ LetsOut Q) (hd:(ops.toList.all fun o=> !isDefer o.op)=true):∀ (fuel:Nat) (listed:Array Bool) (a:Act) (w:World),wpAny P .any ops Q fuel listed a w→wpAnyIn F n P .any ops Q fuel listed a w
 | 0,_,_,_,h=>h
 | fuel+1,listed,a,w,h=>⟨h.1,fun i hi=>by
  have h1:=h.2 i hi
  unfold wpOp at h1
  unfold wpOpIn
  split at h1
  ·rename_i ho;simp only [ho];exact any_in hF hQ hd fuel _ _ _ h1
  ·rename_i o ho
   simp only [ho]
   have hdo:isDefer o.op=false:=by
    have:=List.all_eq_true.1 hd o (by rw [← Array.getElem?_toList] at ho;exact List.mem_of_getElem? ho)
    simpa using this
   split at h1
   ·rename_i hw
    rw [if_pos hw]
    rcases h1 with h1 | ⟨_,h1⟩
    ·exact Oper.wpIn_mono (fun a w h=>any_in hF hQ hd fuel _ a w h) (oper_in hF hdo h1)
    ·exact absurd h1 hQ
   ·rename_i hw
    rw [if_neg hw]
    exact ⟨fun f _=>fn_in hF f,any_in hF hQ hd fuel _ _ _ h1⟩⟩
end
section
variable {P : Program} {w0 : World} {O : List Nat} {ops : Array Oper} {Q : Exit → Act → World → Prop} {N : Nat} {D : List Deferred} {L : FL} {C : List Chunk} {K : Act → World → Prop}
variable {l : Nat}
variable {d : Nat} {ty : TypeId} {pos : String} {af : Array Edge}
end
def ob1 (b:Nat) (o:Obj):Chunk where
 fp k:=k=b
 ok w:=w.heap[b]?=some o
 loc w w' h hw:=by rw [h b rfl];exact hw
section
variable {P : Program} {w0 : World} {O : List Nat} {ops : Array Oper} {Q : Exit → Act → World → Prop} {N : Nat} {D : List Deferred} {L : FL} {C : List Chunk} {K : Act → World → Prop}
theorem St.allocO {w:World} (h:St w0 O C w) (o:Obj):St w0 O (ob1 w.heap.size o::C) (w.alloc o):=by
 have hh:∀ k,k<w.heap.size→(w.alloc o).heap[k]?=w.heap[k]?:=fun k hk=>Below.heap_alloc w _ k hk
 refine ⟨h.os,h.tape,h.output,by have:=h.size;simp;omega,fun k hk ho=>?_,?_,?_,?_⟩
 ·rw [hh k (Nat.lt_of_lt_of_le hk h.size)];exact h.old k hk ho
 ·intro c hc
  rcases List.mem_cons.1 hc with rfl | hc
  ·exact World.alloc_heap_new w o
  exact c.loc w _ (fun k hk=>hh k (h.bnd c hc k hk).1) (h.ok c hc)
 ·intro c hc k hk
  rcases List.mem_cons.1 hc with rfl | hc
  ·have:k=w.heap.size:=hk
   subst this
   exact ⟨by simp,fun hlt=>absurd hlt (Nat.not_lt.2 h.size)⟩
  exact ⟨by have:=(h.bnd c hc k hk).1;simp;omega,(h.bnd c hc k hk).2⟩
 refine List.Pairwise.cons (fun c hc k hk hk'=>?_) h.disj
 have:k=w.heap.size:=hk
 subst this
 exact Nat.lt_irrefl _ (h.bnd c hc _ hk').1
end
end Go.Eng
namespace Go.Proofs.YtedbajbgnmaakaaGreatDoor
open Go Go.Eng Go.Proofs Dg
abbrev DV :=BT×Option Addr×Nat
def RdIn (w:World) (x:DV) (F:List Nat):Prop:=x.1.ok 0∧∀ (j:Nat) (u:Value),(decs (canon x.1).1)[j]?=some u→∃ b off,x.2.1=some ⟨b,off,none⟩∧w.cell? ⟨b,off+j,none⟩=some u∧b∈F
def dsC (F:List Nat) (l:List DV):Chunk where
 fp k:=k∈F
 ok w:=∀ x∈l,RdIn w x F
 loc w w' h hw:=fun x hx=>⟨(hw x hx).1,fun j u hu=>by
  obtain ⟨b,off,e1,e2,e3⟩:=(hw x hx).2 j u hu
  exact ⟨b,off,e1,by rw [World.cell?_of_block (h b e3)];exact e2,e3⟩⟩
theorem dsC_rd {F:List Nat} {l:List DV} {w:World} {x:DV} (h:(dsC F l).ok w) (hx:x∈l):RdD w x.1 x.2.1:=⟨(h x hx).1,fun j u hu=>by
 obtain ⟨b,off,e1,e2,_⟩:=(h x hx).2 j u hu
 exact ⟨b,off,e1,e2⟩⟩
section
variable {w0 : World} {O : List Nat} {C : List Chunk}
theorem St.dsNil {w:World} (h:St w0 O C w):St w0 O (dsC [] []::C) w:=
 ⟨h.os,h.tape,h.output,h.size,h.old,fun c hc=>by
  rcases List.mem_cons.1 hc with rfl | hc
  ·intro x hx;cases hx
  ·exact h.ok c hc,fun c hc k hk=>by
  rcases List.mem_cons.1 hc with rfl | hc
  ·cases hk
  ·exact h.bnd c hc k hk,List.Pairwise.cons (fun _ _ _ hk=>by cases hk) h.disj⟩
theorem St.dsSnoc {w:World} {F:List Nat} {l:List DV} {t:BT} {a:Option Addr} {c:Nat} (ht:t.ok 0) (h:St w0 O (dsC F l::dC a c t::C) w):∃ F',St w0 O (dsC F' (l++[(t,a,c)])::C) w:=by
 have hok:(dC a c t).ok w:=h.ok _ (List.mem_cons_of_mem _ (List.mem_cons_self ..))
 have hob:∃ G:List Nat,(∀ k∈G,(dC a c t).fp k)∧RdIn w (t,a,c) G:=by
  by_cases h0:(canon t).1.length=0
  ·exact ⟨[],by simp,ht,fun j u hu=>by
    have:=(List.getElem?_eq_some_iff.1 hu).1
    rw [decs_len] at this
    dsimp only at this
    omega⟩
  ·obtain ⟨g,hg,_,_⟩:=rowc_addr hok (by omega)
   subst hg
   exact ⟨[g],fun k hk=>by simp at hk;subst hk;rfl,ht,fun j u hu=>⟨g,0,rfl,by rw [Nat.zero_add];exact rowc_cells hok hu,by simp⟩⟩
 obtain ⟨G,hG1,hG2⟩:=hob
 refine ⟨F++G,h.join (fun k hk=>?_) (fun hc hd _=>?_)⟩
 ·rcases List.mem_append.1 hk with hk | hk
  ·exact .inl hk
  exact .inr (hG1 k hk)
 intro x hx
 rcases List.mem_append.1 hx with hx | hx
 ·exact ⟨(hc x hx).1,fun j u hu=>by
   obtain ⟨b,off,e1,e2,e3⟩:=(hc x hx).2 j u hu
   exact ⟨b,off,e1,e2,List.mem_append_left _ e3⟩⟩
 rw [List.mem_singleton.1 hx]
 exact ⟨hG2.1,fun j u hu=>by
  obtain ⟨b,off,e1,e2,e3⟩:=hG2.2 j u hu
  exact ⟨b,off,e1,e2,List.mem_append_right _ e3⟩⟩
end
open Go Go.Eng Go.Proofs Dg
def RdSl {α:Type} (cells:α→List Value) (sz:Nat) (w:World) (l:List α) (a:Option Addr):Prop:=
 ∀ i x,l[i]?=some x→∃ b off,a=some ⟨b,off,none⟩∧∀ j u,(cells x)[j]?=some u→w.cell? ⟨b,off+i*sz+j,none⟩=some u
section
variable {α : Type} {cells : α → List Value} {sz : Nat} {w0 w : World} {l : List α} {a : Option Addr}
theorem RdSl.next {C:List Chunk} (h:RdSl cells sz w0 l a) (hS:St w0 [] C w):RdSl cells sz w l a:=fun i x hx=>by
 obtain ⟨b,off,e,hc⟩:=h i x hx
 exact ⟨b,off,e,fun j u hu=>hS.oldc (hc j u hu) (by simp)⟩
theorem flat_len (hl:∀ x∈l,(cells x).length=sz):(l.flatMap cells).length=l.length*sz:=by
 induction l with
 | nil=>simp
 | cons x l ih=>
  rw [List.flatMap_cons,List.length_append,hl x (by simp),ih (fun y hy=>hl y (by simp [hy])),List.length_cons,Nat.succ_mul]
  omega
theorem flat_at :∀ {l:List α} {k:Nat} {x:α},(∀ x∈l,(cells x).length=sz)→l[k]?=some x→∀ j u,(cells x)[j]?=some u→(l.flatMap cells)[k*sz+j]?=some u
 | [],k,x,_,h,_,_,_=>by simp at h
 | y::l,0,x,hl,h,j,u,hu=>by
  simp at h;subst h
  rw [List.flatMap_cons,Nat.zero_mul,Nat.zero_add,List.getElem?_append_left (List.getElem?_eq_some_iff.1 hu).1]
  exact hu
 | y::l,k+1,x,hl,h,j,u,hu=>by
  have ih:=flat_at (l:=l) (k:=k) (fun z hz=>hl z (by simp [hz])) (by simpa using h) j u hu
  have hy:=hl y (by simp)
  rw [List.flatMap_cons,List.getElem?_append_right (by rw [hy,Nat.succ_mul];omega),show (k+1)*sz+j - (cells y).length=k*sz+j by rw [hy,Nat.succ_mul];omega]
  exact ih
theorem RdSl.of_row {n c:Nat} {e:TypeId} (hl:∀ x∈l,(cells x).length=sz) (h0:0<n→0<l.length) (hn:l.length≤n) (h:(rowc (.slice a n c) n e sz (l.flatMap cells)).ok w):RdSl cells sz w l a:=fun i x hx=>by
 have hi:=(List.getElem?_eq_some_iff.1 hx).1
 obtain ⟨g,hg,_,_⟩:=rowc_addr h (by omega)
 subst hg
 exact ⟨g,0,rfl,fun j u hu=>by rw [Nat.zero_add];exact rowc_cells h (flat_at hl hx j u hu)⟩
end
end Go.Proofs.YtedbajbgnmaakaaGreatDoor
namespace Dg
def notT :BT→BT
 | .lf b=> .lf (!b)
 | .nd v lo hi=>mkN v (notT lo) (notT hi)
theorem notT_ok :∀ {t:BT} {m:Nat},t.ok m→(notT t).ok m
 | .lf _,_,_=>trivial
 | .nd v lo hi,m,h=>mkN_ok h.1 h.2.1 (notT_ok h.2.2.2.1) (notT_ok h.2.2.2.2)
theorem notT_ev :∀ (t:BT) (c:Cf),(notT t).ev c= !t.ev c
 | .lf _,_=>rfl
 | .nd v lo hi,c=>by
  rw [notT,mkN_ev,notT_ev lo,notT_ev hi]
  simp only [BT.ev]
  cases c v<;>rfl
structure FI (φ:BT→BT) (la:List Dec) (out:List Int) (l:List Dec):Prop where
 ismk:Mk l
 len:l.length+2≤out.length
 at':∀ k z,out[k]?=some z→∃ p:Nat,z=(p:Int)∧p<l.length+2∧trs l p=φ (trs la k)
theorem FI.nil {φ:BT→BT} {la:List Dec} {b0 b1:Bool} (h0:φ (.lf false)= .lf b0) (h1:φ (.lf true)= .lf b1):FI φ la [bif b0 then 1 else 0,bif b1 then 1 else 0] []:=by
 refine ⟨Mk.nil,by simp,fun k z hz=>?_⟩
 have e:∀ b:Bool,trs [] (bif b then 1 else 0)= .lf b:=fun b=>by cases b<;>rfl
 rcases k with _ | _ | k
 ·simp only [List.getElem?_cons_zero,Option.some.injEq] at hz
  refine ⟨bif b0 then 1 else 0,by rw [← hz];cases b0<;>rfl,by cases b0<;>simp,?_⟩
  rw [e,(trs_zero la).1,h0]
 ·simp only [List.getElem?_cons_succ,List.getElem?_cons_zero,Option.some.injEq] at hz
  refine ⟨bif b1 then 1 else 0,by rw [← hz];cases b1<;>rfl,by cases b1<;>simp,?_⟩
  rw [e,(trs_zero la).2,h1]
 simp at hz
theorem FI.step {φ:BT→BT} {la:List Dec} (hla:Mk la) {out:List Int} {l l':List Dec} (h:FI φ la out l) {x:Dec} (hx:la[out.length - 2]?=some x) {p:Nat} (hm:Mk l') (hpre:∃ r,l'=l++r) (hlen:l'.length≤l.length+1) (hp:p<l'.length+2) (ht:trs l' p=φ (.nd x.1 (trs la x.2.1) (trs la x.2.2))):FI φ la (out++[(p:Int)]) l':=by
 have h2:2≤out.length:=by have:=h.len;omega
 refine ⟨hm,by rw [List.length_append,List.length_singleton];have:=h.len;omega,fun k z hz=>?_⟩
 by_cases hk:k<out.length
 ·rw [List.getElem?_append_left hk] at hz
  obtain ⟨q,e1,e2,e3⟩:=h.at' k z hz
  obtain ⟨r,rfl⟩:=hpre
  exact ⟨q,e1,by rw [List.length_append];omega,by rw [trs_append e2];exact e3⟩
 have hlt:=(List.getElem?_eq_some_iff.1 hz).1
 rw [List.length_append,List.length_singleton] at hlt
 have e:k=out.length:=by omega
 subst e
 simp at hz
 refine ⟨p,hz.symm,hp,?_⟩
 rw [ht]
 have:=hla.at hx
 rw [show out.length - 2+2=out.length by omega] at this
 rw [this]
theorem emptyT {t:BT} (h:t.ok 0):((canon t).2==0)=true↔∀ c,t.ev c=false:=by
 rw [beq_iff_eq]
 constructor
 ·intro e c
  rw [(canon_lf h false).1 e];rfl
 intro e
 have:t= .lf false:=BT.unique (n:=0) h trivial e
 rw [this];rfl
def cfg (n:Nat):Cf:=fun i=>n.testBit i
def supT (l:List Dec):Nat:=l.foldl (fun s x=>s|||2 ^ x.1) 0
end Dg
namespace Dg
def cubeB (on off m:Nat) (c:Cf):Bool:=(List.range 24).all fun j=>decide (j<m)||((!on.testBit j||c j)&&(!off.testBit j|| !c j))
theorem cubeB_end (on off:Nat) (c:Cf):cubeB on off 24 c=true:=by
 unfold cubeB
 rw [List.all_eq_true]
 intro j hj
 simp [List.mem_range.1 hj]
theorem cubeB_step {on off m:Nat} (hm:m<24) (c:Cf):cubeB on off m c=(((!on.testBit m||c m)&&(!off.testBit m|| !c m))&&cubeB on off (m+1) c):=by
 unfold cubeB
 rw [Bool.eq_iff_iff]
 simp only [List.all_eq_true,Bool.and_eq_true,List.mem_range]
 constructor
 ·intro h
  refine ⟨by have:=h m hm;simpa using this,fun j hj=>?_⟩
  have:=h j hj
  by_cases hjm:j<m
  ·simp [show j<m+1 by omega]
  simpa [hjm,show (j<m+1)=(j=m) from by simp;omega] using Or.inr (by simpa [hjm] using this)
 rintro ⟨h1,h2⟩ j hj
 by_cases hjm:j=m
 ·subst hjm;simpa using h1
 have:=h2 j hj
 by_cases hlt:j<m
 ·simp [hlt]
 have h3: ¬ j<m+1:=by omega
 simpa [hlt,h3] using this
theorem cubeB_mask {on off:Nat} (c:Cf):cubeB (on&&&16777215) (off&&&16777215) 0 c=cubeB on off 0 c:=by
 unfold cubeB
 have key:∀ n j:Nat,j<24→(n&&&16777215).testBit j=n.testBit j:=fun n j hj=>by
  rw [Nat.testBit_and,show (16777215:Nat)=2 ^ 24 - 1 by decide,Nat.testBit_two_pow_sub_one]
  simp [hj]
 rw [Bool.eq_iff_iff]
 simp only [List.all_eq_true,List.mem_range]
 constructor
 ·intro h j hj
  have:=h j hj
  rwa [key on j hj,key off j hj] at this
 intro h j hj
 have:=h j hj
 rwa [key on j hj,key off j hj]
theorem cubeB_clash {on off:Nat} (h:(on&&&16777215)&&&(off&&&16777215)≠0) (c:Cf):cubeB on off 0 c=false:=by
 obtain ⟨j,hj⟩:∃ j,((on&&&16777215)&&&(off&&&16777215)).testBit j=true:=Nat.exists_testBit_of_ne_zero h
 rw [Nat.testBit_and,Nat.testBit_and,Nat.testBit_and,show (16777215:Nat)=2 ^ 24 - 1 by decide,Nat.testBit_two_pow_sub_one] at hj
 simp only [Bool.and_eq_true,decide_eq_true_eq] at hj
 obtain ⟨⟨h1,h2⟩,h3,_⟩:=hj
 unfold cubeB
 rw [List.all_eq_false]
 refine ⟨j,List.mem_range.2 h2,?_⟩
 rw [h1,h3]
 cases c j<;>simp
end Dg
namespace Dg
def hasVar (v:Nat):BT→Prop
 | .lf _=>False
 | .nd x l h=>v=x∨hasVar v l∨hasVar v h
theorem sup_bit (j:Nat):∀ (l:List Dec) (s:Nat),(l.foldl (fun s x=>s|||2 ^ x.1) s).testBit j=true↔s.testBit j=true∨∃ x∈l,x.1=j
 | [],s=>by simp
 | x::l,s=>by
  rw [List.foldl_cons,sup_bit j l,Nat.testBit_or,Nat.testBit_two_pow]
  simp
  constructor
  ·rintro ((h | h) | h)
   ·exact .inl h
   ·exact .inr (.inl h)
   ·exact .inr (.inr h)
  ·rintro (h | h | h)
   ·exact .inl (.inl h)
   ·exact .inl (.inr h)
   ·exact .inr h
theorem visitT_var (t:BT):∀ (out:List Dec),∀ x∈(visitT t out).1,x∈out∨hasVar x.1 t:=by
 induction t with
 | lf b=>intro out x h;left;simpa [visitT] using h
 | nd v lo hi ihl ihh=>
  intro out x h
  unfold visitT at h
  cases hl:look out (.nd v lo hi) with
  | some p=>rw [hl] at h;exact .inl h
  | none=>
   rw [hl] at h
   rcases List.mem_append.1 h with h | h
   ·rcases ihh _ x h with h | h
    ·rcases ihl _ x h with h | h
     ·exact .inl h
     ·exact .inr (.inr (.inl h))
    ·exact .inr (.inr (.inr h))
   ·rw [List.mem_singleton.1 h];exact .inr (.inl rfl)
theorem trs_var {l:List Dec} (hm:Mk l) {v:Nat}:∀ (t:BT) (p:Nat),p<l.length+2→trs l p=t→hasVar v t→∃ x∈l,x.1=v
 | .lf _,_,_,_,h=>h.elim
 | .nd y lo hi,p,hp,he,h=>by
  have h2:2≤p:=by
   rcases p with _ | _ | p
   ·rw [(trs_zero l).1] at he;cases he
   ·rw [(trs_zero l).2] at he;cases he
   ·omega
  obtain ⟨x,hx⟩:∃ x,l[p - 2]?=some x:=⟨_,List.getElem?_eq_getElem (by omega)⟩
  have ha:=hm.at hx
  rw [show p - 2+2=p by omega,he] at ha
  injection ha with h3 h4 h5
  have hk:=hm.kid _ x hx
  have hxm:=List.mem_of_getElem? hx
  rcases h with h | h | h
  ·exact ⟨x,hxm,by rw [h,h3]⟩
  ·exact trs_var hm lo x.2.1 (by have:=(List.getElem?_eq_some_iff.1 hx).1;omega) h4.symm h
  ·exact trs_var hm hi x.2.2 (by have:=(List.getElem?_eq_some_iff.1 hx).1;omega) h5.symm h
theorem sup_var {t:BT} (ho:t.ok 0) (v:Nat):(supT (canon t).1).testBit v=true↔hasVar v t:=by
 unfold supT
 rw [sup_bit]
 constructor
 ·rintro (h | ⟨x,hx,rfl⟩)
  ·simp at h
  rcases visitT_var t [] x hx with h | h
  ·cases h
  exact h
 intro h
 obtain ⟨x,hx,he⟩:=trs_var (canon_mk ho) t (canon t).2 (canon_at t).1 (canon_at t).2 h
 exact .inr ⟨x,hx,he⟩
theorem upd_comm (c:Cf) {x v:Nat} (a b:Bool) (h:x≠v):upd (upd c v b) x a=upd (upd c x a) v b:=by
 funext j
 unfold upd
 by_cases h1:j=x
 ·subst h1;rw [if_pos rfl,if_neg h,if_pos rfl]
 rw [if_neg h1]
 by_cases h2:j=v
 ·rw [if_pos h2,if_pos h2]
 rw [if_neg h2,if_neg h2,if_neg h1]
theorem not_var :∀ {t:BT} {m v:Nat},t.ok m→(∀ c,t.ev (upd c v false)=t.ev (upd c v true))→ ¬ hasVar v t
 | .lf _,_,_,_,_=>fun h=>h
 | .nd x l h,m,v,ho,hi=>by
  have ho':=ho
  obtain ⟨h1,h2,h3,h4,h5⟩:=ho'
  have hl:∀ c,l.ev c=(BT.nd x l h).ev (upd c x false):=fun c=>(BT.ev_lo ho c).symm
  have hh:∀ c,h.ev c=(BT.nd x l h).ev (upd c x true):=fun c=>(BT.ev_hi ho c).symm
  rintro (rfl | hv | hv)
  ·exact h3 (BT.unique h4 h5 fun c=>by rw [hl,hh];exact hi c)
  ·by_cases hx:x=v
   ·subst hx
    exact h3 (BT.unique h4 h5 fun c=>by rw [hl,hh];exact hi c)
   ·exact not_var h4 (fun c=>by rw [hl,hl,upd_comm c _ _ hx,upd_comm c _ _ hx];exact hi _) hv
  ·by_cases hx:x=v
   ·subst hx
    exact h3 (BT.unique h4 h5 fun c=>by rw [hl,hh];exact hi c)
   ·exact not_var h5 (fun c=>by rw [hh,hh,upd_comm c _ _ hx,upd_comm c _ _ hx];exact hi _) hv
theorem no_var :∀ {t:BT} {v:Nat},¬ hasVar v t→∀ (c:Cf) (b:Bool),t.ev (upd c v b)=t.ev c
 | .lf _,_,_,_,_=>rfl
 | .nd x l h,v,hn,c,b=>by
  have hx:x≠v:=fun e=>hn (.inl e.symm)
  simp only [BT.ev]
  rw [no_var (fun hv=>hn (.inr (.inl hv))) c b,no_var (fun hv=>hn (.inr (.inr hv))) c b,upd_ne c b hx]
theorem sup_dep {t:BT} (ho:t.ok 0) (v:Nat):(supT (canon t).1).testBit v=true↔∃ c,t.ev (upd c v false)≠t.ev (upd c v true):=by
 rw [sup_var ho]
 constructor
 ·intro h
  refine Classical.byContradiction fun hn=>?_
  exact not_var ho (fun c=>Classical.byContradiction fun hc=>hn ⟨c,hc⟩) h
 rintro ⟨c,hc⟩
 refine Classical.byContradiction fun hn=>hc ?_
 rw [no_var hn,no_var hn]
theorem sup_fold {n:Nat}:∀ (l:List Dec) (s:Nat),(∀ x∈l,x.1<n)→s<2 ^ n→l.foldl (fun s x=>s|||2 ^ x.1) s<2 ^ n
 | [],s,_,h=>h
 | x::l,s,hx,h=>sup_fold l _ (fun y hy=>hx y (List.mem_cons_of_mem _ hy)) (Nat.or_lt_two_pow h (Nat.pow_lt_pow_right (by decide) (hx x (List.mem_cons_self ..))))
theorem supT_take {l:List Dec} {k:Nat} {x:Dec} (h:l[k]?=some x):supT (l.take (k+1))=supT (l.take k)|||2 ^ x.1:=by
 unfold supT
 rw [List.take_add_one,h]
 simp
end Dg
namespace Dg
def dep (f:Nat) (ev:Cf→Bool):Prop:=∀ c c':Cf,(∀ k,f.testBit k=true→c k=c' k)→ev c=ev c'
theorem cubeB_dep {on off f:Nat} (h:∀ k,k<24→(on.testBit k=true∨off.testBit k=true)→f.testBit k=true):dep f (cubeB on off 0):=fun c c' hc=>by
 unfold cubeB
 rw [Bool.eq_iff_iff,List.all_eq_true,List.all_eq_true]
 have key:∀ j,j<24→(((!on.testBit j||c j)&&(!off.testBit j|| !c j))=((!on.testBit j||c' j)&&(!off.testBit j|| !c' j))):=fun j hj=>by
  cases h1:on.testBit j with
  | true=>rw [hc j (h j hj (.inl h1))]
  | false=>
   cases h2:off.testBit j with
   | true=>rw [hc j (h j hj (.inr h2))]
   | false=>rfl
 constructor
 ·intro ha j hj
  rw [← key j (List.mem_range.1 hj)];exact ha j hj
 ·intro ha j hj
  rw [key j (List.mem_range.1 hj)];exact ha j hj
theorem sup_in {t:BT} {f:Nat} (ho:t.ok 0) (h:dep f t.ev) {v:Nat} (hv:(supT (canon t).1).testBit v=true):f.testBit v=true:=by
 obtain ⟨c,hc⟩:=(sup_dep ho v).1 hv
 cases hf:f.testBit v with
 | true=>rfl
 | false=>
  exfalso
  refine hc (h _ _ fun k hk=>?_)
  have hne:k≠v:=fun e=>by rw [e,hf] at hk;cases hk
  simp [upd,hne]
end Dg
namespace Dg
def cfgsN (u:Nat):Nat→List Nat
 | 0=>[0]
 | k+1=>if u.testBit k then cfgsN u k++(cfgsN u k).map (fun c=>c|||2 ^ k) else cfgsN u k
theorem or_pow {c k:Nat} (h:c<2 ^ k):c|||2 ^ k=2 ^ k+c:=by
 have:=Nat.two_pow_add_eq_or_of_lt h 1
 rw [Nat.mul_one] at this
 rw [Nat.or_comm,this]
theorem mem_cfgsN {u c:Nat}:∀ {k:Nat},c∈cfgsN u k↔c<2 ^ k∧∀ i,c.testBit i=true→u.testBit i=true
 | 0=>by
  simp only [cfgsN,List.mem_singleton,Nat.pow_zero]
  constructor
  ·rintro rfl;exact ⟨by decide,fun i h=>by simp at h⟩
  ·rintro ⟨h,_⟩;omega
 | k+1=>by
  have ih:∀ c,c∈cfgsN u k↔c<2 ^ k∧∀ i,c.testBit i=true→u.testBit i=true:=fun c=>mem_cfgsN (c:=c) (k:=k)
  have hp:2 ^ (k+1)=2 ^ k+2 ^ k:=by rw [Nat.pow_succ];omega
  have big:∀ {d:Nat},d<2 ^ k→∀ i,(d|||2 ^ k).testBit i=(d.testBit i||decide (i=k)):=fun {d} _ i=>by
   rw [Nat.testBit_or,Nat.testBit_two_pow]
   congr 1
   exact decide_eq_decide.2 eq_comm
  have high:c<2 ^ k→c.testBit k=false:=fun h=>Nat.testBit_lt_two_pow h
  have split: ¬ c<2 ^ k→c<2 ^ (k+1)→∃ d,d<2 ^ k∧c=d|||2 ^ k:=fun h1 h2=>⟨c - 2 ^ k,by omega,by rw [or_pow (by omega)];omega⟩
  unfold cfgsN
  by_cases hu:u.testBit k=true
  ·rw [if_pos hu,List.mem_append,List.mem_map,ih]
   constructor
   ·rintro (⟨h1,h2⟩ | ⟨d,hd,rfl⟩)
    ·exact ⟨by omega,h2⟩
    ·obtain ⟨h1,h2⟩:=(ih d).1 hd
     refine ⟨by rw [or_pow h1];omega,fun i hi=>?_⟩
     rw [big h1,Bool.or_eq_true,decide_eq_true_eq] at hi
     rcases hi with hi | rfl
     ·exact h2 i hi
     ·exact hu
   ·rintro ⟨h1,h2⟩
    by_cases hc:c<2 ^ k
    ·exact .inl ⟨hc,h2⟩
    ·obtain ⟨d,hd,rfl⟩:=split hc h1
     refine .inr ⟨d,(ih d).2 ⟨hd,fun i hi=>h2 i (by rw [big hd,hi];rfl)⟩,rfl⟩
  ·rw [if_neg hu,ih]
   constructor
   ·rintro ⟨h1,h2⟩;exact ⟨by omega,h2⟩
   ·rintro ⟨h1,h2⟩
    refine ⟨?_,h2⟩
    by_cases hc:c<2 ^ k
    ·exact hc
    ·obtain ⟨d,hd,rfl⟩:=split hc h1
     exact absurd (h2 k (by rw [big hd];simp)) hu
theorem cfgsN_up (u:Nat):∀ k,(cfgsN u k).Pairwise (· < ·)
 | 0=>List.pairwise_singleton _ _
 | k+1=>by
  have ih:=cfgsN_up u k
  unfold cfgsN
  split
  ·have hlt:∀ c∈cfgsN u k,c<2 ^ k:=fun c hc=>(mem_cfgsN.1 hc).1
   refine List.pairwise_append.2 ⟨ih,?_,fun c hc d hd=>?_⟩
   ·rw [List.pairwise_map]
    refine ih.imp_of_mem fun {a b} ha hb h=>?_
    rw [or_pow (hlt a ha),or_pow (hlt b hb)]
    omega
   ·obtain ⟨e,he,rfl⟩:=List.mem_map.1 hd
    have:=hlt c hc
    rw [or_pow (hlt e he)]
    omega
  ·exact ih
theorem cfgsN_nodup (u k:Nat):(cfgsN u k).Nodup:=(cfgsN_up u k).imp fun h=>Nat.ne_of_lt h
abbrev cfgs (u:Nat):List Nat:=cfgsN u 32
abbrev QB :=Nat×Nat
def setF (l:List QB):Cf→Bool:=fun c=>l.any fun q=>cubeB q.1 q.2 0 c
def inQ (q:QB) (c:Nat):Bool:=decide (c&&&q.1&&&16777215=q.1&&&16777215)&&decide (c&&&q.2&&&16777215=0)
def inN (l:List QB) (c:Nat):Bool:=l.any fun q=>inQ q c
theorem bit24 (i:Nat):(16777215:Nat).testBit i=decide (i<24):=by
 rw [show (16777215:Nat)=2 ^ 24 - 1 from rfl,Nat.testBit_two_pow_sub_one]
theorem inQ_cube (q:QB) (c:Nat):inQ q c=cubeB q.1 q.2 0 (cfg c):=by
 unfold inQ cubeB cfg
 rw [Bool.eq_iff_iff,Bool.and_eq_true,decide_eq_true_eq,decide_eq_true_eq,List.all_eq_true]
 constructor
 ·rintro ⟨h1,h2⟩ j hj
  have hj:=List.mem_range.1 hj
  have e1:=congrArg (fun x=>Nat.testBit x j) h1
  have e2:=congrArg (fun x=>Nat.testBit x j) h2
  simp only [Nat.testBit_and,bit24,Nat.zero_testBit,decide_eq_true hj,Bool.and_true] at e1 e2
  cases h3:q.1.testBit j<;>cases h4:q.2.testBit j<;>cases h5:c.testBit j<;>simp_all
 intro h
 constructor
 refine Nat.eq_of_testBit_eq fun j=>?_
 simp only [Nat.testBit_and,bit24]
 rotate_left
 refine Nat.eq_of_testBit_eq fun j=>?_
 simp only [Nat.testBit_and,bit24,Nat.zero_testBit]
 rotate_left
 all_goals
  by_cases hj:j<24
  ·have:=h j (List.mem_range.2 hj)
   cases h3:q.1.testBit j<;>cases h4:q.2.testBit j<;>cases h5:c.testBit j<;>simp_all
  simp [hj]
theorem inN_set (l:List QB) (c:Nat):inN l c=setF l (cfg c):=by
 unfold inN setF
 congr 1
 funext q
 exact inQ_cube q c
def orQ (u:Nat) (l:List QB):Nat:=l.foldl (fun u q=>u|||q.1|||q.2) u
def bitsQ (l:List QB):Nat:=orQ 0 l&&&16777215
theorem orQ_bit :∀ (l:List QB) (u i:Nat),(orQ u l).testBit i=(u.testBit i||l.any fun q=>q.1.testBit i||q.2.testBit i)
 | [],u,i=>by simp [orQ]
 | q::l,u,i=>by
  have:=orQ_bit l (u|||q.1|||q.2) i
  unfold orQ at this ⊢
  rw [List.foldl_cons,this,Nat.testBit_or,Nat.testBit_or,List.any_cons]
  simp only [Bool.or_assoc]
theorem bitsQ_lt (l:List QB):bitsQ l<2 ^ 24:=by
 unfold bitsQ
 have:=Nat.and_le_right (n:=orQ 0 l) (m:=16777215)
 omega
def inU (l:List QB) (u:Nat):Prop:=∀ i,i<24→(bitsQ l).testBit i=true→u.testBit i=true
theorem setF_dep {l:List QB} {u:Nat} (h:inU l u):dep u (setF l):=by
 intro c c' hc
 unfold setF
 rw [Bool.eq_iff_iff,List.any_eq_true,List.any_eq_true]
 have one:∀ q∈l,cubeB q.1 q.2 0 c=cubeB q.1 q.2 0 c':=fun q hq=>by
  refine cubeB_dep (f:=u) (fun k hk hb=>h k hk ?_) c c' hc
  unfold bitsQ
  rw [Nat.testBit_and,bit24,decide_eq_true hk,Bool.and_true,orQ_bit]
  simp only [Nat.zero_testBit,Bool.false_or]
  rw [List.any_eq_true]
  exact ⟨q,hq,by rcases hb with hb | hb<;>simp [hb]⟩
 constructor
 ·rintro ⟨q,hq,h2⟩;exact ⟨q,hq,by rw [← one q hq];exact h2⟩
 rintro ⟨q,hq,h2⟩;exact ⟨q,hq,by rw [one q hq];exact h2⟩
def thoseF (u:Nat) (f:Cf→Bool):List Nat:=(cfgs u).filter fun c=>f (cfg c)
def thoseL (l:List QB) (u:Nat):List Nat:=(cfgs u).filter (inN l)
theorem thoseL_F (l:List QB) (u:Nat):thoseL l u=thoseF u (setF l):=by
 unfold thoseL thoseF
 exact List.filter_congr fun c _=>inN_set l c
def onU (u:Nat) (c:Cf):Nat→Nat
 | 0=>0
 | k+1=>if u.testBit k&&c k then onU u c k|||2 ^ k else onU u c k
theorem onU_lt (u:Nat) (c:Cf):∀ k,onU u c k<2 ^ k
 | 0=>by simp [onU]
 | k+1=>by
  have ih:=onU_lt u c k
  have hp:2 ^ (k+1)=2 ^ k+2 ^ k:=by rw [Nat.pow_succ];omega
  unfold onU
  split
  ·rw [or_pow ih];omega
  ·omega
theorem onU_bit (u:Nat) (c:Cf) (i:Nat):∀ k,(onU u c k).testBit i=(decide (i<k)&&u.testBit i&&c i)
 | 0=>by simp [onU]
 | k+1=>by
  have ih:=onU_bit u c i k
  unfold onU
  by_cases hik:i=k
  ·subst hik
   have h0:(onU u c i).testBit i=false:=Nat.testBit_lt_two_pow (onU_lt u c i)
   split
   ·rename_i h
    rw [Nat.testBit_or,Nat.testBit_two_pow_self]
    simp only [Bool.and_eq_true] at h
    simp [h.1,h.2]
   ·rename_i h
    rw [h0]
    cases h1:u.testBit i<;>cases h2:c i<;>simp_all
  ·have hd:decide (i<k+1)=decide (i<k):=decide_eq_decide.2 (by omega)
   rw [hd,← ih]
   split
   ·rw [Nat.testBit_or,Nat.testBit_two_pow]
    simp [Ne.symm hik]
   ·rfl
def alikeF (t:BT) (l:List Nat) (u:Nat):Bool:=decide (l=thoseF u t.ev)&&decide (supT (canon t).1&&&(4294967295 - u)=0)
theorem alike_good {t:BT} {u:Nat} {f:Cf→Bool} (ho:t.ok 0) (he:∀ c,t.ev c=f c) (hf:dep u f) (hu:u<2 ^ 32):alikeF t (thoseF u f) u=true:=by
 unfold alikeF
 have e:t.ev=f:=funext he
 rw [e,decide_eq_true rfl,Bool.true_and,decide_eq_true_eq]
 refine Nat.eq_of_testBit_eq fun i=>?_
 rw [Nat.testBit_and,Nat.zero_testBit]
 cases hs:(supT (canon t).1).testBit i with
 | false=>rfl
 | true=>
  have:=sup_in (f:=u) ho (by rw [e];exact hf) hs
  rw [Bool.true_and]
  rw [show 4294967295 - u=2 ^ 32 - (u+1) by omega,Nat.testBit_two_pow_sub_succ hu,this]
  simp
end Dg
namespace Go.Proofs.YtedbajbgnmaakaaGreatDoor
open Go Go.Eng Go.Proofs Dg
abbrev LM :Nat:=140737488351232
abbrev qC (q:QB):List Value:=[.int .u32 (q.1:Int),.int .u32 (q.2:Int)]
def qOk (q:QB):Prop:=q.1<4294967296∧q.2<4294967296
structure ItV where
 k:Nat
 t:List UInt8
 p:List Int
 pa:Option Addr
 pc:Nat
 f:Int
 l:Int
 q:List QB
 qa:Option Addr
 qc:Nat
abbrev itC (x:ItV):List Value:=[.int .u8 (x.k:Int),.string (str x.t),.slice x.pa x.p.length x.pc,.int .i64 x.f,.int .i64 x.l,.slice x.qa x.q.length x.qc]
structure ItR (w:World) (x:ItV):Prop where
 k:x.k<256
 t:x.t.length≤LM
 pl:x.p.length≤LM
 p:RdC w x.p x.pa
 ql:x.q.length≤LM
 q:RdSl qC 2 w x.q x.qa
 qo:∀ y∈x.q,qOk y
structure NoV where
 k:Nat
 p:List Int
 pa:Option Addr
 pc:Nat
 f:Int
 l:Int
 q:List QB
 qa:Option Addr
 qc:Nat
abbrev noC (x:NoV):List Value:=[.int .u8 (x.k:Int),.slice x.pa x.p.length x.pc,.int .i64 x.f,.int .i64 x.l,.slice x.qa x.q.length x.qc]
structure NoR (w:World) (x:NoV):Prop where
 k:x.k<256
 pl:x.p.length≤LM
 p:RdC w x.p x.pa
 ql:x.q.length≤LM
 q:RdSl qC 2 w x.q x.qa
 qo:∀ y∈x.q,qOk y
structure RwV where
 i:List ItV
 ia:Option Addr
 ic:Nat
 n:List NoV
 na:Option Addr
 nc:Nat
abbrev rwC (x:RwV):List Value:=[.slice x.ia x.i.length x.ic,.slice x.na x.n.length x.nc]
structure RwR (w:World) (x:RwV):Prop where
 il:x.i.length≤LM
 i:RdSl itC 6 w x.i x.ia
 io:∀ y∈x.i,ItR w y
 nl:x.n.length≤LM
 n:RdSl noC 5 w x.n x.na
 no:∀ y∈x.n,NoR w y
section
variable {w0 w : World} {C : List Chunk}
theorem ItR.next {x:ItV} (h:ItR w0 x) (hS:St w0 [] C w):ItR w x:=⟨h.k,h.t,h.pl,h.p.next hS,h.ql,h.q.next hS,h.qo⟩
theorem NoR.next {x:NoV} (h:NoR w0 x) (hS:St w0 [] C w):NoR w x:=⟨h.k,h.pl,h.p.next hS,h.ql,h.q.next hS,h.qo⟩
theorem RwR.next {x:RwV} (h:RwR w0 x) (hS:St w0 [] C w):RwR w x:=⟨h.il,h.i.next hS,fun y hy=>(h.io y hy).next hS,h.nl,h.n.next hS,fun y hy=>(h.no y hy).next hS⟩
end
structure TkV where
 x:ItV
 d:BT
 da:Option Addr
 dc:Nat
abbrev tkC (y:TkV):List Value:=[.int .u8 (y.x.k:Int),.string (str y.x.t),.slice y.x.pa y.x.p.length y.x.pc,.int .i64 y.x.f,.int .i64 y.x.l,.slice y.da (canon y.d).1.length y.dc,.int .i64 ((canon y.d).2:Int)]
structure RtV where
 x:ItV
 c:List Nat
 ca:Option Addr
 cc:Nat
abbrev rtC (y:RtV):List Value:=[.int .u8 (y.x.k:Int),.string (str y.x.t),.slice y.x.pa y.x.p.length y.x.pc,.int .i64 y.x.f,.int .i64 y.x.l,.slice y.ca y.c.length y.cc]
structure DgV where
 x:NoV
 d:BT
 da:Option Addr
 dc:Nat
abbrev dgC (y:DgV):List Value:=[.int .u8 (y.x.k:Int),.slice y.x.pa y.x.p.length y.x.pc,.int .i64 y.x.f,.int .i64 y.x.l,.slice y.da (canon y.d).1.length y.dc,.int .i64 ((canon y.d).2:Int)]
structure RgV where
 x:NoV
 c:List Nat
 ca:Option Addr
 cc:Nat
abbrev rgC (y:RgV):List Value:=[.int .u8 (y.x.k:Int),.slice y.x.pa y.x.p.length y.x.pc,.int .i64 y.x.f,.int .i64 y.x.l,.slice y.ca y.c.length y.cc]
abbrev nC (n:Nat):List Value:=[.int .u32 (n:Int)]
abbrev RdN (w:World) (l:List Nat) (a:Option Addr):Prop:=RdSl nC 1 w l a
open Go Go.Eng Go.Proofs Dg Go.ChangeShapes Go.WideShapes Go.ChangeAt Go.RowKit Go.ChangeMaps
section
variable {H : Type} {enc : TypeId × Value → H} {W : World} {base : Nat} {held : Bool}
abbrev Wt {H:Type} (t:TypeId) (d:DataW H):Prop:=∀ n∈d.weights Tryz.prog t,n≤LM
theorem weightsAll_mem6 {H:Type} {e:TypeId}:∀ {l:List (DataW H)} {d:DataW H},d∈l→∀ n∈d.weights Tryz.prog e,n∈DataW.weightsAll Tryz.prog e l
 | d'::r,d,hd,n,hn=>by
  simp only [DataW.weightsAll,List.mem_append]
  rcases List.mem_cons.1 hd with rfl | h
  ·exact Or.inl hn
  ·exact Or.inr (weightsAll_mem6 h n hn)
theorem open_sl {α:Type} {cells:α→List Value} {φ:α→Prop} {ts te:TypeId} {sz:Nat} (hts:Tryz.prog.underlying ts=some (.slice te)) (hsz:Tryz.prog.cellsOf te=sz) {kb:Nat} (hkb:Tryz.prog.bytesOf te=kb) (hkp:0<kb) (hpos:0<sz) (hlen:∀ y,(cells y).length=sz)
  (he:∀ {fuel:Nat} {cs:List Value} {x:DataW H×List MemPlace},DataW.trod enc Tryz.prog W 0 (fun _=>true) held fuel te cs=some x→Wt te x.1→∃ y:α,cs=cells y∧φ y)
  {fuel:Nat} {cs:List Value} {x:DataW H×List MemPlace} (h:DataW.trod enc Tryz.prog W 0 (fun _=>true) held fuel ts cs=some x) (hwt:Wt ts x.1):
  ∃ (l:List α) (a:Option Addr) (k:Nat),cs=[.slice a l.length k]∧l.length≤LM∧RdSl cells sz W l a∧∀ y∈l,φ y:=by
 rcases DataW.trod_slice hts h with ⟨h1,_⟩ | ⟨a',len,cap,elems,rest,m,_,h1,hxx,_,hlc,hcm,hel0,hel,_⟩
 ·exact ⟨[],none,0,h1,Nat.zero_le _,fun i x hx=>by simp at hx,by simp⟩
 rw [hsz] at hel
 have hwt2:∀ n∈((elems.map (·.1)).length+(rest.map (·.1)).length)*Tryz.prog.bytesOf te::(DataW.weightsAll Tryz.prog te (elems.map (·.1))++DataW.weightsAll Tryz.prog te (rest.map (·.1))),n≤LM:=fun n hn=>hwt n (by rw [hxx];simp only [DataW.weights,hts];exact hn)
 have hlm:len≤LM:=by
  have h9:=hwt2 _ (List.mem_cons_self ..)
  rw [hkb,List.length_map,List.length_map,hel0] at h9
  exact Nat.le_trans (Nat.le_trans (Nat.le_add_right len rest.length) (Nat.le_mul_of_pos_right _ hkp)) h9
 have hwe:∀ z∈elems,Wt te z.1:=fun z hz n hn=>hwt2 n (List.mem_cons_of_mem _ (List.mem_append_left _ (weightsAll_mem6 (List.mem_map_of_mem hz) n hn)))
 have each:∀ i,i<len→∃ y:α,W.cells? 0 (a'.add (i*sz)) sz=some (cells y)∧φ y:=fun i hi=>by
  have h1:=hel i hi
  have h2:elems[i]?=some (elems[i]'(by omega)):=List.getElem?_eq_getElem _
  rw [h2] at h1
  obtain ⟨cs',h3,h4⟩:=Option.bind_eq_some_iff.1 h1
  obtain ⟨y,rfl,h5⟩:=he h4 (hwe _ (List.getElem_mem ..))
  exact ⟨y,h3,h5⟩
 obtain ⟨l,hl,hP⟩:=list_of len each
 refine ⟨l,some a',cap,by rw [h1,hl],by omega,fun i x hx=>?_,fun x hx=>?_⟩
 ·obtain ⟨h1,_⟩:=hP i x hx
  obtain ⟨_,_,h2⟩:=World.cells?_some h1
  have hil:i<len:=by have:=(List.getElem?_eq_some_iff.1 hx).1;omega
  obtain ⟨y0,hy0,_⟩:=each 0 (by omega)
  obtain ⟨_,_,g2⟩:=World.cells?_some hy0
  obtain ⟨u0,hu0⟩:∃ u,(cells y0)[0]?=some u:=⟨_,List.getElem?_eq_getElem (by rw [hlen];exact hpos)⟩
  have g20:=g2 0 hpos
  rw [hu0] at g20
  have ha0:a'.add 0=a':=by simp [Addr.add]
  rw [Nat.zero_mul,ha0,ha0] at g20
  have hs:=cell_spot g20
  obtain ⟨b,off,spot⟩:=a'
  simp only at hs
  subst hs
  refine ⟨b,off,rfl,fun j u hu=>?_⟩
  have hj:j<sz:=by have:=(List.getElem?_eq_some_iff.1 hu).1;rw [hlen] at this;exact this
  have h4:=h2 j hj
  rw [hu,add_blk,add_blk] at h4
  exact h4
 obtain ⟨i,hi⟩:=List.getElem?_of_mem hx
 exact (hP i x hi).2
theorem open_int1 {fuel:Nat} {cs:List Value} {x:DataW H×List MemPlace} (h:DataW.trod enc Tryz.prog W 0 (fun _=>true) held fuel 3 cs=some x) (_:Wt 3 x.1):∃ y:Int,cs=[Value.int .i64 y]∧True:=by
 obtain ⟨n,e,_,_⟩:=DataW.trod_int undInt6 h
 exact ⟨n,e,trivial⟩
theorem open_ints6 {fuel:Nat} {cs:List Value} {x:DataW H×List MemPlace} (h:DataW.trod enc Tryz.prog W 0 (fun _=>true) held fuel 73 cs=some x) (hwt:Wt 73 x.1):∃ (l:List Int) (a:Option Addr) (k:Nat),cs=[.slice a l.length k]∧l.length≤LM∧RdC W l a:=by
 obtain ⟨l,a,k,e,hl,hr,_⟩:=open_sl (cells:=fun z:Int=>[Value.int .i64 z]) (φ:=fun _=>True) undInts6 cellsInt6 (show Tryz.prog.bytesOf 3=8 by kernel_rfl) (by decide) (by decide) (fun _=>rfl) open_int1 h hwt
 exact ⟨l,a,k,e,hl,fun j x hx=>by
  obtain ⟨b,off,e,hc⟩:=hr j x hx
  have:=hc 0 _ rfl
  rw [Nat.mul_one,Nat.add_zero] at this
  exact ⟨b,off,e,this⟩⟩
noncomputable def fsCube:Array Field:=match Tryz.prog.underlying 114 with
 | some (.struct fs)=>fs
 | _=>#[]
theorem undCube' :Tryz.prog.underlying 114=some (.struct fsCube):=by kernel_rfl
theorem cellsCube' :Tryz.prog.cellsOf 114=2:=by kernel_rfl
theorem fsCube_ty :fsCube.toList.map (fun f=>(f.type,f.offset))=[(24,0),(24,1)]:=by kernel_rfl
theorem fsCube_f {i t o:Nat} (h:(fsCube.toList.map (fun f=>(f.type,f.offset)))[i]?=some (t,o)):∃ f:Field,fsCube[i]?=some f∧f.type=t∧f.offset=o:=by
 rw [List.getElem?_map] at h
 cases hq:fsCube.toList[i]? with
 | none=>rw [hq] at h;cases h
 | some f=>
  rw [hq] at h
  simp only [Option.map_some,Option.some.injEq,Prod.mk.injEq] at h
  exact ⟨f,by rw [← Array.getElem?_toList];exact hq,h.1,h.2⟩
set_option maxRecDepth 100000 in
theorem open_cube {fuel:Nat} {cs:List Value} {x:DataW H×List MemPlace} (h:DataW.trod enc Tryz.prog W 0 (fun _=>true) held fuel 114 cs=some x) (hwt:Wt 114 x.1):∃ y:QB,cs=qC y∧qOk y:=by
 obtain ⟨xs,n,rfl,rfl,hl,hx,hf⟩:=DataW.trod_struct undCube' h
 have hsz:fsCube.size=2:=by
  have:=congrArg List.length fsCube_ty
  simpa using this
 rw [hsz] at hx
 rw [cellsCube'] at hl
 have fld:∀ {i t o:Nat},(fsCube.toList.map (fun f=>(f.type,f.offset)))[i]?=some (t,o)→i<2→∃ y,DataW.trod enc Tryz.prog W 0 (fun _=>true) held n t ((cs.drop o).take (Tryz.prog.cellsOf t))=some y∧Wt t y.1:=fun {i t o} hi hi12=>by
  obtain ⟨f,h1,rfl,rfl⟩:=fsCube_f hi
  have hxi:xs[i]?=some (xs[i]'(by omega)):=List.getElem?_eq_getElem _
  exact ⟨xs[i]'(by omega),by rw [hf i f h1];exact hxi,fun n hn=>hwt n (by simp only [DataW.weights,undCube'];exact DataW.weights_mem_each (j:=i) (by rw [List.getElem?_map,Array.getElem?_toList,h1];rfl) (by rw [List.getElem?_map,hxi];rfl) n hn)⟩
 rw [fsCube_ty] at fld
 obtain ⟨y0,f0,g0⟩:=fld (i:=0) rfl (by decide)
 obtain ⟨y1,f1,g1⟩:=fld (i:=1) rfl (by decide)
 rw [show Tryz.prog.cellsOf 24=1 by kernel_rfl] at f0
 rw [show Tryz.prog.cellsOf 24=1 by kernel_rfl] at f1
 match cs,hl with
 | [u0,u1],_=>
  simp only [List.drop_zero,List.take_succ_cons,List.take_zero,List.drop_succ_cons] at f0 f1
  obtain ⟨n0,e0,_,w0⟩:=DataW.trod_int (show Tryz.prog.underlying 24=some (.int .u32) by kernel_rfl) f0
  have v0:=wf_u32 w0
  obtain ⟨m0,rfl⟩:=Int.eq_ofNat_of_zero_le v0.1
  obtain ⟨n1,e1,_,w1⟩:=DataW.trod_int (show Tryz.prog.underlying 24=some (.int .u32) by kernel_rfl) f1
  have v1:=wf_u32 w1
  obtain ⟨m1,rfl⟩:=Int.eq_ofNat_of_zero_le v1.1
  simp only [List.cons.injEq,and_true] at e0 e1
  subst e0
  subst e1
  exact ⟨(m0,m1),rfl,by show m0<4294967296;omega,by show m1<4294967296;omega⟩
noncomputable def fsItem:Array Field:=match Tryz.prog.underlying 75 with
 | some (.struct fs)=>fs
 | _=>#[]
theorem undItem' :Tryz.prog.underlying 75=some (.struct fsItem):=by kernel_rfl
theorem cellsItem' :Tryz.prog.cellsOf 75=6:=by kernel_rfl
theorem fsItem_ty :fsItem.toList.map (fun f=>(f.type,f.offset))=[(5,0),(9,1),(73,2),(3,3),(3,4),(23,5)]:=by kernel_rfl
theorem fsItem_f {i t o:Nat} (h:(fsItem.toList.map (fun f=>(f.type,f.offset)))[i]?=some (t,o)):∃ f:Field,fsItem[i]?=some f∧f.type=t∧f.offset=o:=by
 rw [List.getElem?_map] at h
 cases hq:fsItem.toList[i]? with
 | none=>rw [hq] at h;cases h
 | some f=>
  rw [hq] at h
  simp only [Option.map_some,Option.some.injEq,Prod.mk.injEq] at h
  exact ⟨f,by rw [← Array.getElem?_toList];exact hq,h.1,h.2⟩
set_option maxRecDepth 100000 in
theorem open_item {fuel:Nat} {cs:List Value} {x:DataW H×List MemPlace} (h:DataW.trod enc Tryz.prog W 0 (fun _=>true) held fuel 75 cs=some x) (hwt:Wt 75 x.1):∃ y:ItV,cs=itC y∧ItR W y:=by
 obtain ⟨xs,n,rfl,rfl,hl,hx,hf⟩:=DataW.trod_struct undItem' h
 have hsz:fsItem.size=6:=by
  have:=congrArg List.length fsItem_ty
  simpa using this
 rw [hsz] at hx
 rw [cellsItem'] at hl
 have fld:∀ {i t o:Nat},(fsItem.toList.map (fun f=>(f.type,f.offset)))[i]?=some (t,o)→i<6→∃ y,DataW.trod enc Tryz.prog W 0 (fun _=>true) held n t ((cs.drop o).take (Tryz.prog.cellsOf t))=some y∧Wt t y.1:=fun {i t o} hi hi12=>by
  obtain ⟨f,h1,rfl,rfl⟩:=fsItem_f hi
  have hxi:xs[i]?=some (xs[i]'(by omega)):=List.getElem?_eq_getElem _
  exact ⟨xs[i]'(by omega),by rw [hf i f h1];exact hxi,fun n hn=>hwt n (by simp only [DataW.weights,undItem'];exact DataW.weights_mem_each (j:=i) (by rw [List.getElem?_map,Array.getElem?_toList,h1];rfl) (by rw [List.getElem?_map,hxi];rfl) n hn)⟩
 rw [fsItem_ty] at fld
 obtain ⟨y0,f0,g0⟩:=fld (i:=0) rfl (by decide)
 obtain ⟨y1,f1,g1⟩:=fld (i:=1) rfl (by decide)
 obtain ⟨y2,f2,g2⟩:=fld (i:=2) rfl (by decide)
 obtain ⟨y3,f3,g3⟩:=fld (i:=3) rfl (by decide)
 obtain ⟨y4,f4,g4⟩:=fld (i:=4) rfl (by decide)
 obtain ⟨y5,f5,g5⟩:=fld (i:=5) rfl (by decide)
 rw [show Tryz.prog.cellsOf 5=1 by kernel_rfl] at f0
 rw [show Tryz.prog.cellsOf 9=1 by kernel_rfl] at f1
 rw [show Tryz.prog.cellsOf 73=1 by kernel_rfl] at f2
 rw [show Tryz.prog.cellsOf 3=1 by kernel_rfl] at f3
 rw [show Tryz.prog.cellsOf 3=1 by kernel_rfl] at f4
 rw [show Tryz.prog.cellsOf 23=1 by kernel_rfl] at f5
 match cs,hl with
 | [u0,u1,u2,u3,u4,u5],_=>
  simp only [List.drop_zero,List.take_succ_cons,List.take_zero,List.drop_succ_cons] at f0 f1 f2 f3 f4 f5
  obtain ⟨n0,e0,_,w0⟩:=DataW.trod_int (show Tryz.prog.underlying 5=some (.int .u8) by kernel_rfl) f0
  have v0:=wf_u8 w0
  obtain ⟨m0,rfl⟩:=Int.eq_ofNat_of_zero_le v0.1
  obtain ⟨s1,e1,z1,w1⟩:=DataW.trod_string und_string f1
  obtain ⟨l2,a2,k2,e2,w2,r2⟩:=open_ints6 f2 g2
  obtain ⟨n3,e3,_,w3⟩:=DataW.trod_int undInt6 f3
  obtain ⟨n4,e4,_,w4⟩:=DataW.trod_int undInt6 f4
  obtain ⟨l5,a5,k5,e5,w5,r5,q5⟩:=open_sl (cells:=qC) (φ:=qOk) (show Tryz.prog.underlying 23=some (.slice 114) by kernel_rfl) (show Tryz.prog.cellsOf 114=2 by kernel_rfl) (show Tryz.prog.bytesOf 114=8 by kernel_rfl) (by decide) (by decide) (fun _=>rfl) open_cube f5 g5
  simp only [List.cons.injEq,and_true] at e0 e1 e2 e3 e4 e5
  subst e0
  subst e1
  subst e2
  subst e3
  subst e4
  subst e5
  refine ⟨⟨m0,s1.data.toList,l2,a2,k2,n3,n4,l5,a5,k5⟩,?_,⟨by show m0<256;omega,?_,w2,r2,w5,r5,q5⟩⟩
  ·show _=[Value.int .u8 (m0:Int),.string (str s1.data.toList),_,_,_,_]
   rw [← str_of s1]
  ·show s1.data.toList.length≤LM
   exact g1 _ (by rw [z1];simp [DataW.weights])
noncomputable def fsNote:Array Field:=match Tryz.prog.underlying 78 with
 | some (.struct fs)=>fs
 | _=>#[]
theorem undNote' :Tryz.prog.underlying 78=some (.struct fsNote):=by kernel_rfl
theorem cellsNote' :Tryz.prog.cellsOf 78=5:=by kernel_rfl
theorem fsNote_ty :fsNote.toList.map (fun f=>(f.type,f.offset))=[(76,0),(73,1),(3,2),(3,3),(23,4)]:=by kernel_rfl
theorem fsNote_f {i t o:Nat} (h:(fsNote.toList.map (fun f=>(f.type,f.offset)))[i]?=some (t,o)):∃ f:Field,fsNote[i]?=some f∧f.type=t∧f.offset=o:=by
 rw [List.getElem?_map] at h
 cases hq:fsNote.toList[i]? with
 | none=>rw [hq] at h;cases h
 | some f=>
  rw [hq] at h
  simp only [Option.map_some,Option.some.injEq,Prod.mk.injEq] at h
  exact ⟨f,by rw [← Array.getElem?_toList];exact hq,h.1,h.2⟩
set_option maxRecDepth 100000 in
theorem open_note {fuel:Nat} {cs:List Value} {x:DataW H×List MemPlace} (h:DataW.trod enc Tryz.prog W 0 (fun _=>true) held fuel 78 cs=some x) (hwt:Wt 78 x.1):∃ y:NoV,cs=noC y∧NoR W y:=by
 obtain ⟨xs,n,rfl,rfl,hl,hx,hf⟩:=DataW.trod_struct undNote' h
 have hsz:fsNote.size=5:=by
  have:=congrArg List.length fsNote_ty
  simpa using this
 rw [hsz] at hx
 rw [cellsNote'] at hl
 have fld:∀ {i t o:Nat},(fsNote.toList.map (fun f=>(f.type,f.offset)))[i]?=some (t,o)→i<5→∃ y,DataW.trod enc Tryz.prog W 0 (fun _=>true) held n t ((cs.drop o).take (Tryz.prog.cellsOf t))=some y∧Wt t y.1:=fun {i t o} hi hi12=>by
  obtain ⟨f,h1,rfl,rfl⟩:=fsNote_f hi
  have hxi:xs[i]?=some (xs[i]'(by omega)):=List.getElem?_eq_getElem _
  exact ⟨xs[i]'(by omega),by rw [hf i f h1];exact hxi,fun n hn=>hwt n (by simp only [DataW.weights,undNote'];exact DataW.weights_mem_each (j:=i) (by rw [List.getElem?_map,Array.getElem?_toList,h1];rfl) (by rw [List.getElem?_map,hxi];rfl) n hn)⟩
 rw [fsNote_ty] at fld
 obtain ⟨y0,f0,g0⟩:=fld (i:=0) rfl (by decide)
 obtain ⟨y1,f1,g1⟩:=fld (i:=1) rfl (by decide)
 obtain ⟨y2,f2,g2⟩:=fld (i:=2) rfl (by decide)
 obtain ⟨y3,f3,g3⟩:=fld (i:=3) rfl (by decide)
 obtain ⟨y4,f4,g4⟩:=fld (i:=4) rfl (by decide)
 rw [show Tryz.prog.cellsOf 76=1 by kernel_rfl] at f0
 rw [show Tryz.prog.cellsOf 73=1 by kernel_rfl] at f1
 rw [show Tryz.prog.cellsOf 3=1 by kernel_rfl] at f2
 rw [show Tryz.prog.cellsOf 3=1 by kernel_rfl] at f3
 rw [show Tryz.prog.cellsOf 23=1 by kernel_rfl] at f4
 match cs,hl with
 | [u0,u1,u2,u3,u4],_=>
  simp only [List.drop_zero,List.take_succ_cons,List.take_zero,List.drop_succ_cons] at f0 f1 f2 f3 f4
  obtain ⟨n0,e0,_,w0⟩:=DataW.trod_int (show Tryz.prog.underlying 76=some (.int .u8) by kernel_rfl) f0
  have v0:=wf_u8 w0
  obtain ⟨m0,rfl⟩:=Int.eq_ofNat_of_zero_le v0.1
  obtain ⟨l1,a1,k1,e1,w1,r1⟩:=open_ints6 f1 g1
  obtain ⟨n2,e2,_,w2⟩:=DataW.trod_int undInt6 f2
  obtain ⟨n3,e3,_,w3⟩:=DataW.trod_int undInt6 f3
  obtain ⟨l4,a4,k4,e4,w4,r4,q4⟩:=open_sl (cells:=qC) (φ:=qOk) (show Tryz.prog.underlying 23=some (.slice 114) by kernel_rfl) (show Tryz.prog.cellsOf 114=2 by kernel_rfl) (show Tryz.prog.bytesOf 114=8 by kernel_rfl) (by decide) (by decide) (fun _=>rfl) open_cube f4 g4
  simp only [List.cons.injEq,and_true] at e0 e1 e2 e3 e4
  subst e0
  subst e1
  subst e2
  subst e3
  subst e4
  exact ⟨⟨m0,l1,a1,k1,n2,n3,l4,a4,k4⟩,rfl,⟨by show m0<256;omega,w1,r1,w4,r4,q4⟩⟩
noncomputable def fsRows:Array Field:=match Tryz.prog.underlying 43 with
 | some (.struct fs)=>fs
 | _=>#[]
theorem undRows' :Tryz.prog.underlying 43=some (.struct fsRows):=by kernel_rfl
theorem cellsRows' :Tryz.prog.cellsOf 43=2:=by kernel_rfl
theorem fsRows_ty :fsRows.toList.map (fun f=>(f.type,f.offset))=[(40,0),(41,1)]:=by kernel_rfl
theorem fsRows_f {i t o:Nat} (h:(fsRows.toList.map (fun f=>(f.type,f.offset)))[i]?=some (t,o)):∃ f:Field,fsRows[i]?=some f∧f.type=t∧f.offset=o:=by
 rw [List.getElem?_map] at h
 cases hq:fsRows.toList[i]? with
 | none=>rw [hq] at h;cases h
 | some f=>
  rw [hq] at h
  simp only [Option.map_some,Option.some.injEq,Prod.mk.injEq] at h
  exact ⟨f,by rw [← Array.getElem?_toList];exact hq,h.1,h.2⟩
set_option maxRecDepth 100000 in
theorem open_rows {fuel:Nat} {cs:List Value} {x:DataW H×List MemPlace} (h:DataW.trod enc Tryz.prog W 0 (fun _=>true) held fuel 43 cs=some x) (hwt:Wt 43 x.1):∃ y:RwV,cs=rwC y∧RwR W y:=by
 obtain ⟨xs,n,rfl,rfl,hl,hx,hf⟩:=DataW.trod_struct undRows' h
 have hsz:fsRows.size=2:=by
  have:=congrArg List.length fsRows_ty
  simpa using this
 rw [hsz] at hx
 rw [cellsRows'] at hl
 have fld:∀ {i t o:Nat},(fsRows.toList.map (fun f=>(f.type,f.offset)))[i]?=some (t,o)→i<2→∃ y,DataW.trod enc Tryz.prog W 0 (fun _=>true) held n t ((cs.drop o).take (Tryz.prog.cellsOf t))=some y∧Wt t y.1:=fun {i t o} hi hi12=>by
  obtain ⟨f,h1,rfl,rfl⟩:=fsRows_f hi
  have hxi:xs[i]?=some (xs[i]'(by omega)):=List.getElem?_eq_getElem _
  exact ⟨xs[i]'(by omega),by rw [hf i f h1];exact hxi,fun n hn=>hwt n (by simp only [DataW.weights,undRows'];exact DataW.weights_mem_each (j:=i) (by rw [List.getElem?_map,Array.getElem?_toList,h1];rfl) (by rw [List.getElem?_map,hxi];rfl) n hn)⟩
 rw [fsRows_ty] at fld
 obtain ⟨y0,f0,g0⟩:=fld (i:=0) rfl (by decide)
 obtain ⟨y1,f1,g1⟩:=fld (i:=1) rfl (by decide)
 rw [show Tryz.prog.cellsOf 40=1 by kernel_rfl] at f0
 rw [show Tryz.prog.cellsOf 41=1 by kernel_rfl] at f1
 match cs,hl with
 | [u0,u1],_=>
  simp only [List.drop_zero,List.take_succ_cons,List.take_zero,List.drop_succ_cons] at f0 f1
  obtain ⟨l0,a0,k0,e0,w0,r0,q0⟩:=open_sl (cells:=itC) (φ:=ItR W) (show Tryz.prog.underlying 40=some (.slice 75) by kernel_rfl) (show Tryz.prog.cellsOf 75=6 by kernel_rfl) (show Tryz.prog.bytesOf 75=88 by kernel_rfl) (by decide) (by decide) (fun _=>rfl) open_item f0 g0
  obtain ⟨l1,a1,k1,e1,w1,r1,q1⟩:=open_sl (cells:=noC) (φ:=NoR W) (show Tryz.prog.underlying 41=some (.slice 78) by kernel_rfl) (show Tryz.prog.cellsOf 78=5 by kernel_rfl) (show Tryz.prog.bytesOf 78=72 by kernel_rfl) (by decide) (by decide) (fun _=>rfl) open_note f1 g1
  simp only [List.cons.injEq,and_true] at e0 e1
  subst e0
  subst e1
  exact ⟨⟨l0,a0,k0,l1,a1,k1⟩,rfl,⟨w0,r0,q0,w1,r1,q1⟩⟩
set_option maxRecDepth 100000 in
theorem open_rowsA {v:Value} {d:DataW H} {p:List MemPlace} (hv:Value.okWide Tryz.prog W .any base 43 v) (h:DataW.Trod enc Tryz.prog W 0 (fun _=>true) held 43 v d p) (hwt:Wt 43 d):∃ y:RwV,v= .agg (rwC y).toArray∧RwR W y:=by
 obtain ⟨cs,rfl,_⟩:=okWide_struct undRows' hv
 obtain ⟨fuel,hf⟩:=h
 obtain ⟨y,h1,h2⟩:=open_rows hf hwt
 have e:cs=(rwC y).toArray:=by
  apply Array.ext'
  simpa [Value.cells] using h1
 exact ⟨y,by rw [e],h2⟩
set_option maxRecDepth 100000 in
theorem open_slA {α:Type} {cells:α→List Value} {φ:α→Prop} {ts te:TypeId} {sz:Nat} (hts:Tryz.prog.underlying ts=some (.slice te)) (hsz:Tryz.prog.cellsOf te=sz) {kb:Nat} (hkb:Tryz.prog.bytesOf te=kb) (hkp:0<kb) (hpos:0<sz) (hlen:∀ y,(cells y).length=sz)
  (he:∀ {fuel:Nat} {cs:List Value} {x:DataW H×List MemPlace},DataW.trod enc Tryz.prog W 0 (fun _=>true) held fuel te cs=some x→Wt te x.1→∃ y:α,cs=cells y∧φ y)
  {v:Value} {d:DataW H} {p:List MemPlace} (hv:Value.okWide Tryz.prog W .any base ts v) (h:DataW.Trod enc Tryz.prog W 0 (fun _=>true) held ts v d p) (hwt:Wt ts d):
  ∃ (l:List α) (a:Option Addr) (k:Nat),v= .slice a l.length k∧l.length≤LM∧RdSl cells sz W l a∧∀ y∈l,φ y:=by
 obtain ⟨a,len,cap,rfl⟩:=okWide_slice hts hv
 obtain ⟨fuel,hf⟩:=h
 obtain ⟨l,a2,k,e,h1,h2,h3⟩:=open_sl hts hsz hkb hkp hpos hlen he hf hwt
 have e2:[Value.slice a len cap]=[Value.slice a2 l.length k]:=by simpa [Value.cells] using e
 simp only [List.cons.injEq,Value.slice.injEq,and_true] at e2
 obtain ⟨rfl,rfl,rfl⟩:=e2
 exact ⟨l,a,cap,rfl,h1,h2,h3⟩
set_option maxRecDepth 100000 in
theorem open_cubesA {v:Value} {d:DataW H} {p:List MemPlace} (hv:Value.okWide Tryz.prog W .any base 23 v) (h:DataW.Trod enc Tryz.prog W 0 (fun _=>true) held 23 v d p) (hwt:Wt 23 d):
  ∃ (l:List QB) (a:Option Addr) (k:Nat),v= .slice a l.length k∧l.length≤LM∧RdSl qC 2 W l a∧∀ y∈l,qOk y:=
 open_slA (show Tryz.prog.underlying 23=some (.slice 114) by kernel_rfl) (show Tryz.prog.cellsOf 114=2 by kernel_rfl) (show Tryz.prog.bytesOf 114=8 by kernel_rfl) (by decide) (by decide) (fun _=>rfl) open_cube hv h hwt
end
theorem wt_of {H:Type} {ts:List TypeId} {ds:List (DataW H)} (h:(DataW.weightsEach Tryz.prog ts ds).all (· ≤reachBytes)=true) {j:Nat} {t:TypeId} {d:DataW H} (ht:ts[j]?=some t) (hd:ds[j]?=some d):Wt t d:=fun n hn=>by
 have h9:=List.all_eq_true.1 h n (DataW.weights_mem_each ht hd n hn)
 have h8:n≤reachBytes:=by simpa using h9
 exact Nat.le_trans h8 (by decide)
open Go Go.Eng Go.Proofs Dg
def CfgAt (w:World) (c:List Nat) (a:Option Addr) (F:List Nat):Prop:=∀ (i x:Nat),c[i]?=some x→∃ b off,a=some ⟨b,off,none⟩∧w.cell? ⟨b,off+i,none⟩=some (.int .u32 (x:Int))∧b∈F
def insC (F:List Nat) (l:List (List Nat×Option Addr)):Chunk where
 fp k:=k∈F
 ok w:=∀ x∈l,CfgAt w x.1 x.2 F
 loc w w' h hw:=fun x hx i y hy=>by
  obtain ⟨b,off,e1,e2,e3⟩:=hw x hx i y hy
  exact ⟨b,off,e1,by rw [World.cell?_of_block (h b e3)];exact e2,e3⟩
theorem nC_one {u:Value} {x j:Nat} (h:(nC x)[j]?=some u):j=0∧u= .int .u32 (x:Int):=by
 cases j with
 | zero=>simp at h;exact ⟨rfl,h.symm⟩
 | succ j=>simp at h
theorem insC_rd {F:List Nat} {l:List (List Nat×Option Addr)} {w:World} {x:List Nat×Option Addr} (h:(insC F l).ok w) (hx:x∈l):RdN w x.1 x.2:=fun i y hy=>by
 obtain ⟨b,off,e1,e2,_⟩:=h x hx i y hy
 refine ⟨b,off,e1,fun j u hu=>?_⟩
 obtain ⟨rfl,rfl⟩:=nC_one hu
 rw [Nat.mul_one,Nat.add_zero]
 exact e2
section
variable {w0 : World} {O : List Nat} {C : List Chunk}
theorem _root_.Go.Eng.St.insNil {w:World} (h:St w0 O C w):St w0 O (insC [] []::C) w:=
 ⟨h.os,h.tape,h.output,h.size,h.old,fun c hc=>by
  rcases List.mem_cons.1 hc with rfl | hc
  ·intro x hx;cases hx
  ·exact h.ok c hc,fun c hc k hk=>by
  rcases List.mem_cons.1 hc with rfl | hc
  ·cases hk
  ·exact h.bnd c hc k hk,List.Pairwise.cons (fun _ _ _ hk=>by cases hk) h.disj⟩
theorem _root_.Go.Eng.St.insSnoc {w:World} {F:List Nat} {l:List (List Nat×Option Addr)} {c:List Nat} {a:Option Addr} {k:Nat} {e:TypeId} (h:St w0 O (insC F l::rowc (.slice a c.length k) c.length e 1 (c.flatMap nC)::C) w):∃ F',St w0 O (insC F' (l++[(c,a)])::C) w:=by
 have hok:(rowc (.slice a c.length k) c.length e 1 (c.flatMap nC)).ok w:=h.ok _ (List.mem_cons_of_mem _ (List.mem_cons_self ..))
 have hob:∃ G:List Nat,(∀ j∈G,(rowc (.slice a c.length k) c.length e 1 (c.flatMap nC)).fp j)∧CfgAt w c a G:=by
  by_cases h0:c.length=0
  ·exact ⟨[],by simp,fun i x hx=>by rw [List.length_eq_zero_iff.1 h0] at hx;simp at hx⟩
  ·obtain ⟨g,hg,_,_⟩:=rowc_addr hok (by omega)
   subst hg
   refine ⟨[g],fun j hj=>by simp at hj;subst hj;rfl,fun i x hx=>⟨g,0,rfl,?_,by simp⟩⟩
   rw [Nat.zero_add]
   have:=flat_at (cells:=nC) (sz:=1) (fun _ _=>rfl) hx 0 _ rfl
   rw [Nat.mul_one] at this
   exact rowc_cells hok this
 obtain ⟨G,hG1,hG2⟩:=hob
 refine ⟨F++G,h.join (fun j hj=>?_) (fun hc hd _=>?_)⟩
 ·rcases List.mem_append.1 hj with hj | hj
  ·exact .inl hj
  exact .inr (hG1 j hj)
 intro x hx i y hy
 rcases List.mem_append.1 hx with hx | hx
 ·obtain ⟨b,off,e1,e2,e3⟩:=hc x hx i y hy
  exact ⟨b,off,e1,e2,List.mem_append_left _ e3⟩
 rw [List.mem_singleton.1 hx] at hy ⊢
 obtain ⟨b,off,e1,e2,e3⟩:=hG2 i y hy
 exact ⟨b,off,e1,e2,List.mem_append_right _ e3⟩
end
open Go Go.Eng Go.Proofs Dg
theorem orQ_take {l:List QB} {i:Nat} {q:QB} (h:l[i]?=some q):orQ 0 (l.take (i+1))=orQ 0 (l.take i)|||q.1|||q.2:=by
 unfold orQ
 rw [List.take_add_one,h]
 simp [List.foldl_append]
theorem orQ_lt :∀ (l:List QB) (u:Nat),u<4294967296→(∀ q∈l,qOk q)→orQ u l<4294967296
 | [],u,hu,_=>hu
 | q::l,u,hu,hq=>by
  obtain ⟨h1,h2⟩:=hq q (by simp)
  exact orQ_lt l (u|||q.1|||q.2) (Nat.or_lt_two_pow (n:=32) (Nat.or_lt_two_pow (n:=32) hu h1) h2) (fun y hy=>hq y (by simp [hy]))
theorem orQ_lt' {l:List QB} {i:Nat} (hq:∀ q∈l,qOk q):orQ 0 (l.take i)<4294967296:=orQ_lt _ _ (by decide) (fun y hy=>hq y (List.mem_of_mem_take hy))
theorem bits_c (l:List QB) (a:Option Addr) (c:Nat) (hl:l.length≤1000000000000000) (w:World) (hr:RdSl qC 2 w l a) (hq:∀ q∈l,qOk q):
  Pure Tryz.prog 22 [.slice a l.length c] w (.int .u32 (bitsQ l:Int)):=by
 refine enter Tryz.func22 rfl Tryz.ntmps22 rfl (St.init _) ?_
 refine jN 20 ?_
 refine WC.loop (α:=Nat) (fun i=>i≤l.length) (fun i=>[(0,.slice a l.length c),(3,.int .u32 (orQ 0 (l.take i):Int)),(4,.int .i64 (i:Int))]) (fun _=>[]) (fun i=>l.length - i) (0) ?_ ?_ ?_ ?_
 ·exact Nat.zero_le _
 ·exact ⟨rfl,rfl,rfl,trivial⟩
 ·rfl
 rintro i hi
 refine jN 13 ?_
 refine WC.cond rfl (fun h8=>?_) (fun h8=>?_)
 ·have hlt:i<l.length:=by simpa using h8
  obtain ⟨q,hx⟩:∃ z,l[i]?=some z:=⟨_,List.getElem?_eq_getElem hlt⟩
  obtain ⟨b,o,rfl,hcq⟩:=hr i q hx
  have hqq:=hq q (List.mem_of_getElem? hx)
  have hq1:=hqq.1
  have hq2:=hqq.2
  refine jN 4 ?_
  refine WC.draws [([],fun w=>w.cell? ⟨b,o+i*2+0,none⟩=some (.int .u32 (q.1:Int))),([],fun w=>w.cell? ⟨b,o+i*2+1,none⟩=some (.int .u32 (q.2:Int)))] (by kernel_rfl) (fun w hS=>facts_cons (hS.oldc (hcq 0 _ rfl) (by simp)) (facts_cons (hS.oldc (hcq 1 _ rfl) (by simp)) (facts_nil))) ?_
  refine jQ [0,1,2] ?_
  refine jT 3 rfl (Yl.indexAddr F.sl23 rfl rfl hlt) ?_
  refine jT 4 rfl (Yl.fieldAddr F.fld114_0 rfl) ?_
  refine jF 5 0 rfl rfl (Yl.load1 F.one24 rfl) ?_
  have hob:=orQ_lt' (i:=i) hq
  refine jT 6 rfl (Yl.bin (v:= .int .u32 ((orQ 0 (l.take i)|||q.1:Nat):Int)) rfl rfl (fun w=>run_or (orQ_lt' hq) hq1 _ _ _ w)) ?_
  refine jQ [7,8] ?_
  refine jT 9 rfl (Yl.indexAddr F.sl23 rfl rfl hlt) ?_
  refine jT 10 rfl (Yl.fieldAddr F.fld114_1 rfl) ?_
  refine jF 11 1 rfl rfl (Yl.load1 F.one24 rfl) ?_
  refine jT 12 rfl (Yl.bin (v:= .int .u32 ((orQ 0 (l.take i)|||q.1|||q.2:Nat):Int)) rfl rfl (fun w=>run_or (Nat.or_lt_two_pow (n:=32) (orQ_lt' hq) hq1) hq2 _ _ _ w)) ?_
  refine jQ [13] ?_
  refine jD ?_
  refine jN 10 ?_
  rw [← orQ_take hx]
  refine WQ.back (i+1) ?_ ?_ ?_ ?_
  ·exact hlt
  ·omega
  ·exact ⟨rfl,rfl,rfl,trivial⟩
  rfl
 have hie:i=l.length:=by simp at h8;omega
 subst hie
 rw [List.take_length]
 refine jN 10 ?_
 refine WL.bin (v:= .int .u32 ((orQ 0 l&&&16777215:Nat):Int)) rfl rfl rfl (fun w=>run_and (orQ_lt _ _ (by decide) hq) (b:=16777215) (by decide) _ _ _ w) ?_
 refine jN 5 ?_
 exact WQ.ret (rs:=[.tmp 2]) rfl (.tmp rfl .nil) (fun w hS=>⟨rfl,hS⟩)
def popN (v:Nat):Nat→Nat
 | 0=>0
 | k+1=>popN v k+(v>>>k&&&1)
theorem popN_le (v:Nat):∀ k,popN v k≤k
 | 0=>Nat.le_refl _
 | k+1=>by
  have h1:(v>>>k&&&1)≤1:=Nat.and_le_right
  have:=popN_le v k
  simp only [popN]
  omega
theorem conv6 {n:Nat} (hn:n<4294967296) (w:World):(convert 24 3 (.int .u32 (n:Int))).run Tryz.prog w= .ok (.int .i64 (n:Int)) w:=by
 have h:=run_convert_int (P:=Tryz.prog) w 24 3 .u32 (n:Int) (by kernel_rfl) (by kernel_rfl)
 rw [h]
 have h2:IntKind.i64.wrap (n:Int)=(n:Int):=by
  unfold IntKind.wrap
  simp [IntKind.signed,IntKind.bits]
  omega
 rw [show Tryz.prog.intKind 3= .i64 by kernel_rfl,h2]
theorem run_addN6 {m n:Nat} (hm:m<1000000000000000000) (hn:n<1000000000000000000) (t:TypeId) (x y:Operand) (w:World):
  (do eqGuard .add t x y (.int .i64 (m:Int)) (.int .i64 (n:Int));binOp .add t (.int .i64 (m:Int)) (.int .i64 (n:Int)):Sem Value).run Tryz.prog w= .ok (.int .i64 ((m+n:Nat):Int)) w:=by
 have h2:IntKind.i64.wrap ((m:Int)+(n:Int))=(m:Int)+(n:Int):=by
  unfold IntKind.wrap
  simp [IntKind.signed,IntKind.bits]
  omega
 simp [eqGuard,binOp,Op.intArith,h2]
theorem and2_lt {a b:Nat} (h:a<4294967296):a&&&b<4294967296:=Nat.lt_of_le_of_lt Nat.and_le_left h
theorem inQ_T {q:QB} {c:Nat} (h:(((c&&&q.1&&&16777215:Nat):Int)==((q.1&&&16777215:Nat):Int))=true):inQ q c=(((c&&&q.2&&&16777215:Nat):Int)==0):=by
 have h1:c&&&q.1&&&16777215=q.1&&&16777215:=by rw [beq_iff_eq] at h;omega
 unfold inQ
 rw [decide_eq_true h1,Bool.true_and,Bool.eq_iff_iff,decide_eq_true_eq,beq_iff_eq]
 omega
theorem inQ_F {q:QB} {c:Nat} (h:(((c&&&q.1&&&16777215:Nat):Int)==((q.1&&&16777215:Nat):Int))=false):inQ q c=false:=by
 have h1: ¬ c&&&q.1&&&16777215=q.1&&&16777215:=by intro e;rw [e] at h;simp at h
 unfold inQ
 rw [decide_eq_false h1,Bool.false_and]
theorem inN_no {l:List QB} {c i:Nat} {q:QB} (h:l[i]?=some q) (hn:(l.take i).any (fun q=>inQ q c)=false) (hq:inQ q c=false):(l.take (i+1)).any (fun q=>inQ q c)=false:=by
 rw [List.take_add_one,h]
 simp [hn,hq]
theorem in6_c (l:List QB) (a:Option Addr) (c n:Nat) (hn:n<4294967296) (hl:l.length≤1000000000000000) (w:World) (hr:RdSl qC 2 w l a) (hq:∀ q∈l,qOk q):
  Pure Tryz.prog 48 [.slice a l.length c,.int .u32 (n:Int)] w (.bool (inN l n)):=by
 refine enter Tryz.func48 rfl Tryz.ntmps48 rfl (St.init _) ?_
 refine jN 14 ?_
 refine WC.loop (α:=Nat) (fun i=>i≤l.length∧(l.take i).any (fun q=>inQ q n)=false) (fun i=>[(0,.slice a l.length c),(1,.int .u32 (n:Int)),(5,.int .i64 (i:Int))]) (fun _=>[]) (fun i=>l.length - i) (0) ?_ ?_ ?_ ?_
 ·exact ⟨Nat.zero_le _,rfl⟩
 ·exact ⟨rfl,rfl,rfl,trivial⟩
 ·rfl
 rintro i ⟨hi,hno⟩
 refine jN 13 ?_
 refine WC.cond rfl (fun h8=>?_) (fun h8=>?_)
 ·have hlt:i<l.length:=by simpa using h8
  obtain ⟨q,hx⟩:∃ z,l[i]?=some z:=⟨_,List.getElem?_eq_getElem hlt⟩
  obtain ⟨b,o,rfl,hcq⟩:=hr i q hx
  have hqq:=hq q (List.mem_of_getElem? hx)
  have hq1:=hqq.1
  have hq2:=hqq.2
  refine jN 5 ?_
  refine WC.cutP [(37,.bool (inQ q n)),(0,.slice (some ⟨b,o,none⟩) l.length c),(1,.int .u32 (n:Int)),(5,.int .i64 (i:Int))] (fun c a d v w h=>by cases d<;>exact h) (fun Q' hP hQ=>?_) ?_
  ·refine WC.draws [([],fun w=>w.cell? ⟨b,o+i*2+0,none⟩=some (.int .u32 (q.1:Int))),([],fun w=>w.cell? ⟨b,o+i*2+0,none⟩=some (.int .u32 (q.1:Int))),([],fun w=>w.cell? ⟨b,o+i*2+1,none⟩=some (.int .u32 (q.2:Int)))] (by kernel_rfl) (fun w hS=>facts_cons (hS.oldc (hcq 0 _ rfl) (by simp)) (facts_cons (hS.oldc (hcq 0 _ rfl) (by simp)) (facts_cons (hS.oldc (hcq 1 _ rfl) (by simp)) (facts_nil)))) ?_
   refine jQ [0,1,2] ?_
   refine jT 3 rfl (Yl.indexAddr F.sl23 rfl rfl hlt) ?_
   refine jT 4 rfl (Yl.fieldAddr F.fld114_0 rfl) ?_
   refine jF 5 0 rfl rfl (Yl.load1 F.one24 rfl) ?_
   refine jT 6 rfl (Yl.bin (v:= .int .u32 ((n&&&q.1:Nat):Int)) rfl rfl (fun w=>run_and hn hq1 _ _ _ w)) ?_
   refine jT 7 rfl (Yl.bin (v:= .int .u32 ((n&&&q.1&&&16777215:Nat):Int)) rfl rfl (fun w=>run_and (and2_lt hn) (by decide) _ _ _ w)) ?_
   refine jQ [8,9] ?_
   refine jT 10 rfl (Yl.indexAddr F.sl23 rfl rfl hlt) ?_
   refine jT 11 rfl (Yl.fieldAddr F.fld114_0 rfl) ?_
   refine jF 12 1 rfl rfl (Yl.load1 F.one24 rfl) ?_
   refine jT 13 rfl (Yl.bin (v:= .int .u32 ((q.1&&&16777215:Nat):Int)) rfl rfl (fun w=>run_and hq1 (by decide) _ _ _ w)) ?_
   refine jQ [14,15] ?_
   refine fun hcl=>WA.splitB (i:=27) rfl (fun g27=>?_) (fun g27=>?_)
   refine (show WD _ _ _ _ _ _ _ _ _ _ _ _ from ?_) hcl
   refine jQ [16,17,18] ?_
   refine WD.takeG (i:=19) rfl rfl rfl rfl rfl rfl (by kernel_rfl) (by kernel_rfl) (by kernel_rfl) (fun _ _ _ h=>hP _ _ _ _ _ h) (by kernel_rfl) need_none (Yl.indexAddr F.sl23 rfl rfl hlt) ?_
   refine WD.takeG (i:=20) rfl rfl rfl rfl rfl rfl (by kernel_rfl) (by kernel_rfl) (by kernel_rfl) (fun _ _ _ h=>hP _ _ _ _ _ h) (by kernel_rfl) need_none (Yl.fieldAddr F.fld114_1 rfl) ?_
   refine WD.takeG (i:=21) rfl rfl rfl rfl rfl rfl (by kernel_rfl) (by kernel_rfl) (by kernel_rfl) (fun _ _ _ h=>hP _ _ _ _ _ h) (by kernel_rfl) (need_at 2 26 rfl (by kernel_rfl)) (Yl.load1 F.one24 rfl) ?_
   refine WD.takeG (i:=22) rfl rfl rfl rfl rfl rfl (by kernel_rfl) (by kernel_rfl) (by kernel_rfl) (fun _ _ _ h=>hP _ _ _ _ _ h) (by kernel_rfl) need_none (Yl.bin (v:= .int .u32 ((n&&&q.2:Nat):Int)) rfl rfl (fun w=>run_and hn hq2 _ _ _ w)) ?_
   refine WD.takeG (i:=23) rfl rfl rfl rfl rfl rfl (by kernel_rfl) (by kernel_rfl) (by kernel_rfl) (fun _ _ _ h=>hP _ _ _ _ _ h) (by kernel_rfl) need_none (Yl.bin (v:= .int .u32 ((n&&&q.2&&&16777215:Nat):Int)) rfl rfl (fun w=>run_and (and2_lt hn) (by decide) _ _ _ w)) ?_
   refine jQ [24,25] ?_
   rotate_left
   refine (show WD _ _ _ _ _ _ _ _ _ _ _ _ from ?_) hcl
   refine jQ [16,17,18,19,20,21,22,23,24,25] ?_
   rotate_left
   all_goals
    refine jD ?_
    refine WQ.byCut hQ (subF_bool ?_ ⟨rfl,rfl,rfl,trivial⟩ rfl)
    first | exact (inQ_T g27).symm | exact inQ_T g27 | exact inQ_F g27 | exact (inQ_F g27).symm
  refine jN 1 ?_
  refine WC.cond rfl (fun h37=>?_) (fun h37=>?_)
  ·have hin:inN l n=true:=by unfold inN;rw [List.any_eq_true];exact ⟨q,List.mem_of_getElem? hx,h37⟩
   refine jN 12 ?_
   exact WQ.ret (rs:=[.tmp 4]) rfl (.tmp rfl .nil) (fun w hS=>⟨by rw [hin];rfl,hS⟩)
  refine jN 11 ?_
  refine WQ.back (i+1) ?_ ?_ ?_ ?_
  ·exact ⟨hlt,inN_no hx hno h37⟩
  ·omega
  ·exact ⟨rfl,rfl,rfl,trivial⟩
  rfl
 have hie:i=l.length:=by simp at h8;omega
 subst hie
 rw [List.take_length] at hno
 refine jN 12 ?_
 exact WQ.ret (rs:=[.tmp 4]) rfl (.tmp rfl .nil) (fun w hS=>⟨by show _=Ending.returned (Value.bool (inN l n));unfold inN;rw [hno];rfl,hS⟩)
theorem dwith_c (g:Nat) (bop:Bool→Bool→Bool) (opf:Nat→Nat→Nat×Bool) (hop:OpOk g bop opf) (s t:BT) (aa ab:Option Addr) (ca cb:Nat) (w:World) (hs:RdD w s aa) (ht:RdD w t ab):
  Calls Tryz.prog 84 [dval s aa ca,dval t ab cb,Value.func (.func g) [].toArray [].toArray].toArray w (DPost (fun c=>bop (s.ev c) (t.ev c)) w):=by
 refine enter Tryz.func84 rfl Tryz.ntmps84 rfl (St.init _) ?_
 refine jN 3 ?_
 refine WL.boxN rfl rfl (fun b3=>?_)
 refine jN 1 ?_
 refine WL.boxN rfl rfl (fun b4=>?_)
 refine jN 1 ?_
 refine WL.alloc F.zero50 rfl (fun b6=>?_)
 refine jN 3 ?_
 refine WC.cutPE (α:=Nat×Nat×Nat×List Nat) (fun x=>[(7,pp x.1),(2,Value.func (.func g) [].toArray [].toArray),(3,pp b3),(4,pp b4),(6,pp b6)]) (fun x=>[pt x.1 [pp x.2.1,.slice aa (canon s).1.length ca,.int .i64 ((canon s).2:Int),.slice ab (canon t).1.length cb,.int .i64 ((canon t).2:Int),.map (some x.2.2.1)] 220,mkr x.2.2.2 x.2.1 [],mpg enc2 x.2.2.1 (fun _=>none),pt b3 [.slice aa (canon s).1.length ca,.int .i64 ((canon s).2:Int)] 50,pt b4 [.slice ab (canon t).1.length cb,.int .i64 ((canon t).2:Int)] 50,pt b6 [.slice none 0 0,.int .i64 0] 50]) (fun c a d v w h=>by cases d<;>exact h) (fun Q' hP hQ=>?_) (fun xE=>?_)
 ·refine WC.drawsL (by kernel_rfl) (FactsOk.cons (ds:=[5]) (LoadOk.whole (t:=3) rfl jM) (FactsOk.cons (ds:=[5]) (LoadOk.whole (t:=4) rfl jM) (FactsOk.nil))) ?_
  refine jF 1 0 rfl rfl (Yl.loadN F.agg50 rfl rfl) ?_
  refine jF 2 1 rfl rfl (Yl.loadN F.agg50 rfl rfl) ?_
  refine WD.two (i:=0) (j:=3) (by kernel_rfl) rfl rfl ?_ ?_
  refine WL.call0 (β:=List Nat×Nat) (res:=fun x=> .returned (pp x.2)) (cs:=fun x=>[mkr x.1 x.2 []]) (ψ:=fun _=>True) F.fun75 (fun d h=>by cases h;rfl) rfl (fun w hS=>(newMaker_c w).mono (fun e w2 ⟨x,h1,h2⟩=>⟨x,trivial,h1,h2⟩)) (fun x8 _=>?_)
  refine WD.on (closed_of (by kernel_rfl)) (fun w hS=>Sx.keep ((fun j v hv=>by rw [Nat.zero_add];exact hS.cell jM hv)) (Sx.keep ((fun j v hv=>by rw [Nat.zero_add];exact hS.cell jM hv)) (Sx.none))) ?_
  refine jA 3 rfl ?_
  refine WL.makeMapG enc2 rfl (fun b11=>?_)
  rotate_left
  refine WL.makeMapG enc2 rfl (fun b11=>?_)
  refine WD.on (closed_of (by kernel_rfl)) (fun w hS=>Sx.keep ((fun j v hv=>by rw [Nat.zero_add];exact hS.cell jM hv)) (Sx.keep ((fun j v hv=>by rw [Nat.zero_add];exact hS.cell jM hv)) (Sx.none))) ?_
  refine jA 0 rfl ?_
  refine WL.call0 (β:=List Nat×Nat) (res:=fun x=> .returned (pp x.2)) (cs:=fun x=>[mkr x.1 x.2 []]) (ψ:=fun _=>True) F.fun75 (fun d h=>by cases h;rfl) rfl (fun w hS=>(newMaker_c w).mono (fun e w2 ⟨x,h1,h2⟩=>⟨x,trivial,h1,h2⟩)) (fun x8 _=>?_)
  rotate_left
  all_goals
   refine WD.on (closed_of (by kernel_rfl)) (fun w hS=>Sx.keep ((fun j v hv=>by rw [Nat.zero_add];exact hS.cell jM hv)) (Sx.keep ((fun j v hv=>by rw [Nat.zero_add];exact hS.cell jM hv)) (Sx.none))) ?_
   refine jT 4 rfl (Yl.build F.stT220 rfl jB) ?_
   refine jA 5 rfl ?_
   refine WL.boxN rfl rfl (fun b13=>?_)
   refine jG ?_
   refine jQ [6] ?_
   refine jD ?_
   refine WQ.chunks (C':=[pt b13 [pp x8.2,.slice aa (canon s).1.length ca,.int .i64 ((canon s).2:Int),.slice ab (canon t).1.length cb,.int .i64 ((canon t).2:Int),.map (some b11)] 220,mkr x8.1 x8.2 [],mpg enc2 b11 (fun _=>none),pt b3 [.slice aa (canon s).1.length ca,.int .i64 ((canon s).2:Int)] 50,pt b4 [.slice ab (canon t).1.length cb,.int .i64 ((canon t).2:Int)] 50,pt b6 [.slice none 0 0,.int .i64 0] 50]) (fun w hS=>(jK hS)) ?_
   exact WQ.byCut (hQ (b13,x8.2,b11,x8.1)) ⟨rfl,rfl,rfl,rfl,rfl,trivial⟩
 obtain ⟨bp,bm,bs,F1⟩:=xE
 show WQ _ _ _ _ _ _ [(7,pp bp),(2,Value.func (.func g) [].toArray [].toArray),(3,pp b3),(4,pp b4),(6,pp b6)] [pt bp [pp bm,.slice aa (canon s).1.length ca,.int .i64 ((canon s).2:Int),.slice ab (canon t).1.length cb,.int .i64 ((canon t).2:Int),.map (some bs)] 220,mkr F1 bm [],mpg enc2 bs (fun _=>none),pt b3 [.slice aa (canon s).1.length ca,.int .i64 ((canon s).2:Int)] 50,pt b4 [.slice ab (canon t).1.length cb,.int .i64 ((canon t).2:Int)] 50,pt b6 [.slice none 0 0,.int .i64 0] 50]
 refine jN 2 ?_
 refine WC.chunks (C':=[jns (F1++([bs]++[])) bm bs [] (fun _=>none),pt bp [pp bm,.slice aa (canon s).1.length ca,.int .i64 ((canon s).2:Int),.slice ab (canon t).1.length cb,.int .i64 ((canon t).2:Int),.map (some bs)] 220,pt b3 [.slice aa (canon s).1.length ca,.int .i64 ((canon s).2:Int)] 50,pt b4 [.slice ab (canon t).1.length cb,.int .i64 ((canon t).2:Int)] 50,pt b6 [.slice none 0 0,.int .i64 0] 50]) (fun w hS=>St.jnsClose (f:=fun _=>none) (jK hS)) ?_
 refine WC.drawsL (by kernel_rfl) (FactsOk.cons (ds:=[11,12]) (LoadOk.one (t:=7) (off:=0) rfl jM rfl) (FactsOk.cons (ds:=[10,11,12]) (LoadOk.one (t:=3) (off:=1) rfl jM rfl) (FactsOk.cons (ds:=[10,11,12]) (LoadOk.one (t:=4) (off:=1) rfl jM rfl) (FactsOk.nil)))) ?_
 refine jQ [0,1] ?_
 refine jT 2 rfl (Yl.fieldAddr0 F.fld220_0 rfl) ?_
 refine jF 3 0 rfl rfl (Yl.load1 F.one156 rfl) ?_
 refine jQ [4] ?_
 refine jT 5 rfl (Yl.fieldAddr0 F.fld50_1 rfl) ?_
 refine jF 6 1 rfl rfl (Yl.load1 F.one3 rfl) ?_
 refine jT 7 rfl (Yl.fieldAddr0 F.fld50_1 rfl) ?_
 refine jF 8 2 rfl rfl (Yl.load1 F.one3 rfl) ?_
 refine jQ [9] ?_
 refine jA 10 rfl ?_
 refine WL.callC (β:={z:JT // JPost bop (canon s).1 (canon t).1 [] 0 (canon s).2 (canon t).2 z}) (res:=fun z=> .int .i64 (z.1.2.2.2:Int)) (cs:=fun z=>[jns z.1.1 bm bs z.1.2.1 z.1.2.2.1]) (Cs:=[jns (F1++([bs]++[])) bm bs [] (fun _=>none)]) (C1:=[pt bp [pp bm,.slice aa (canon s).1.length ca,.int .i64 ((canon s).2:Int),.slice ab (canon t).1.length cb,.int .i64 ((canon t).2:Int),.map (some bs)] 220,pt b3 [.slice aa (canon s).1.length ca,.int .i64 ((canon s).2:Int)] 50,pt b4 [.slice ab (canon t).1.length cb,.int .i64 ((canon t).2:Int)] 50,pt b6 [.slice none 0 0,.int .i64 0] 50]) (O':=(F1++([bs]++[]))) F.fun120 (fun d h=>by cases h;rfl) rfl (List.Perm.refl _) bun_O1 bun_O2 (fun w hS hS2=>join_c g bop opf hop bp bm bs (canon s).1 (canon t).1 aa ab ca cb (canon s).2 (canon t).2 (canon_mk hs.1) (canon_mk ht.1) (Nat.le_of_lt (canon_len hs.1)) (Nat.le_of_lt (canon_len ht.1)) 25 0 (by omega) (by omega) (F1++([bs]++[])) [] (fun _=>none) (canon s).2 (canon t).2 w (canon_at s).1 (canon_at t).1 (by rw [(canon_at s).2];exact hs.1) (by rw [(canon_at t).2];exact ht.1) Mk.nil (fun _ _ _ h=>by cases h) (by decide) (jenv_of hS hs.2 ht.2) hS2) (fun ⟨z1,hz1⟩=>?_)
 refine WD.on (closed_of (by kernel_rfl)) (fun w hS=>Sx.keep (hS.cell jM rfl) (Sx.gone rfl (Sx.gone rfl (Sx.none)))) ?_
 refine jA 11 rfl ?_
 obtain ⟨G1,l1,f1,r1⟩:=z1
 obtain ⟨j1,j2,j3,j4,j5⟩:=hz1
 dsimp only at j1 j2 j3 j4 j5 ⊢
 rw [(canon_at s).2,(canon_at t).2] at j4
 have hl1:l1.length≤16777216:=by
  have e:2 ^ (24 - 0)=16777216:=by decide
  simp only [List.length_nil] at j3
  omega
 refine WA.openB (fun G3 _ _ _=>?_)
 simp only [jnCs,List.cons_append,List.nil_append]
 refine WL.callC (β:=Option Addr×Nat) (res:=fun z=>dval (trs l1 r1) z.1 z.2) (cs:=fun z=>[dC z.1 z.2 (trs l1 r1)]) (Cs:=[mkr G3 bm l1]) (C1:=[mpg enc2 bs (fun q=>(f1 q).map encI),pt bp [pp bm,.slice aa (canon s).1.length ca,.int .i64 ((canon s).2:Int),.slice ab (canon t).1.length cb,.int .i64 ((canon t).2:Int),.map (some bs)] 220,pt b3 [.slice aa (canon s).1.length ca,.int .i64 ((canon s).2:Int)] 50,pt b4 [.slice ab (canon t).1.length cb,.int .i64 ((canon t).2:Int)] 50,pt b6 [.slice none 0 0,.int .i64 0] 50]) (O':=G3) F.fun77 (fun d h=>by cases h;rfl) rfl (List.Perm.refl _) bun_O1 bun_O2 (fun w hS hS2=>done_c G3 bm l1 r1 w j1 j4.lt (j4.ok 0 hs.1 ht.1) hl1 hS2) (fun z3=>?_)
 refine jG ?_
 refine jA 12 rfl ?_
 refine WL.storeN F.agg50 rfl rfl rfl jO jU jS ?_
 refine jG ?_
 refine jD ?_
 refine jN 2 ?_
 refine WQ.ret (rs:=[.cell 6 50]) rfl (.cellN F.agg50 rfl jM rfl .nil) (fun w hS=>⟨⟨(trs l1 r1,z3),j4.ok 0 hs.1 ht.1,j4.ev⟩,rfl,(jK hS)⟩)
theorem And_c (s t:BT) (aa ab:Option Addr) (ca cb:Nat) (w:World) (hs:RdD w s aa) (ht:RdD w t ab):
  Calls Tryz.prog 43 [dval s aa ca,dval t ab cb].toArray w (DPost (fun c=>(fun p q:Bool=>p&&q) (s.ev c) (t.ev c)) w):=by
 refine enter Tryz.func43 rfl Tryz.ntmps43 rfl (St.init _) ?_
 refine jN 3 ?_
 refine WL.boxN rfl rfl (fun b2=>?_)
 refine jN 1 ?_
 refine WL.boxN rfl rfl (fun b3=>?_)
 refine jN 1 ?_
 refine WL.alloc F.zero50 rfl (fun b4=>?_)
 refine jN 9 ?_
 refine WL.call0 (β:=DRes (fun c=>(fun p q:Bool=>p&&q) (s.ev c) (t.ev c))) (res:=fun z=> .returned z.v) (cs:=fun z=>[z.ch]) (ψ:=fun _=>True) F.fun84 (fun d h=>by cases h;rfl) rfl (fun w hS=>(dwith_c _ _ _ both_ok s t aa ab ca cb w (hs.next0 hS) (ht.next0 hS)).mono (fun e w2 ⟨x,h1,h2⟩=>⟨x,trivial,h1,h2⟩)) (fun z7 _=>?_)
 refine WL.step ?_
 refine WL.storeN F.agg50 rfl rfl rfl (by simp [Value.oneCell']) (by repeat (first | exact Upd.here | apply Upd.there)) (by repeat constructor) ?_
 refine WL.nil ?_
 refine WQ.then_normal ?_
 refine WC.ret ?_
 refine WQ.ret (rs:=[.cell 4 50]) rfl (.cellN F.agg50 rfl jM rfl .nil) (fun w hS=>⟨z7,rfl,(jK hS)⟩)
theorem Or_c (s t:BT) (aa ab:Option Addr) (ca cb:Nat) (w:World) (hs:RdD w s aa) (ht:RdD w t ab):
  Calls Tryz.prog 45 [dval s aa ca,dval t ab cb].toArray w (DPost (fun c=>(fun p q:Bool=>p||q) (s.ev c) (t.ev c)) w):=by
 refine enter Tryz.func45 rfl Tryz.ntmps45 rfl (St.init _) ?_
 refine jN 3 ?_
 refine WL.boxN rfl rfl (fun b2=>?_)
 refine jN 1 ?_
 refine WL.boxN rfl rfl (fun b3=>?_)
 refine jN 1 ?_
 refine WL.alloc F.zero50 rfl (fun b4=>?_)
 refine jN 9 ?_
 refine WL.call0 (β:=DRes (fun c=>(fun p q:Bool=>p||q) (s.ev c) (t.ev c))) (res:=fun z=> .returned z.v) (cs:=fun z=>[z.ch]) (ψ:=fun _=>True) F.fun84 (fun d h=>by cases h;rfl) rfl (fun w hS=>(dwith_c _ _ _ either_ok s t aa ab ca cb w (hs.next0 hS) (ht.next0 hS)).mono (fun e w2 ⟨x,h1,h2⟩=>⟨x,trivial,h1,h2⟩)) (fun z7 _=>?_)
 refine WL.step ?_
 refine WL.storeN F.agg50 rfl rfl rfl (by simp [Value.oneCell']) (by repeat (first | exact Upd.here | apply Upd.there)) (by repeat constructor) ?_
 refine WL.nil ?_
 refine WQ.then_normal ?_
 refine WC.ret ?_
 refine WQ.ret (rs:=[.cell 4 50]) rfl (.cellN F.agg50 rfl jM rfl .nil) (fun w hS=>⟨z7,rfl,(jK hS)⟩)
theorem False_c (w:World):Calls Tryz.prog 44 [].toArray w (DPost (fun _=>false) w):=by
 refine enter Tryz.func44 rfl Tryz.ntmps44 rfl (St.init _) ?_
 refine jN 3 ?_
 refine WL.alloc F.zero50 rfl (fun b0=>?_)
 refine jN 11 ?_
 refine WQ.ret (rs:=[.cell 0 50]) rfl (.cellN F.agg50 rfl jM rfl .nil) (fun w hS=>⟨⟨(.lf false,none,0),trivial,fun _=>rfl⟩,rfl,?_⟩)
 exact (hS.drop).rowNil _ _
theorem Empty_c (t:BT) (a:Option Addr) (c:Nat) (w:World):Pure Tryz.prog 61 [dval t a c] w (.bool ((canon t).2==0)):=by
 refine enter Tryz.func61 rfl Tryz.ntmps61 rfl (St.init _) ?_
 refine jN 3 ?_
 refine WL.boxN rfl rfl (fun b1=>?_)
 refine jN 17 ?_
 refine WQ.ret (rs:=[.tmp 2]) rfl (.tmp rfl .nil) (fun w hS=>⟨?_,hS.drop⟩)
 show Ending.returned (.bool (((canon t).2:Int)==0))=_
 have e:(((canon t).2:Int)==0)=((canon t).2==0):=by (rw [Bool.eq_iff_iff];simp)
 rw [e]
theorem Has_c (t:BT) (a:Option Addr) (c n:Nat) (hn:n<4294967296) (w:World) (ht:RdD w t a):Pure Tryz.prog 50 [dval t a c,.int .u32 (n:Int)] w (.bool (t.ev (cfg n))):=by
 have hmk:=canon_mk ht.1
 have hcl:=canon_len ht.1
 refine enter Tryz.func50 rfl Tryz.ntmps50 rfl (St.init _) ?_
 refine jN 3 ?_
 refine WL.boxN rfl rfl (fun b2=>?_)
 refine jN 16 ?_
 refine WC.loop (α:=Nat) (fun r=>r<(canon t).1.length+2∧(trs (canon t).1 r).ev (cfg n)=t.ev (cfg n)) (fun r=>[(1,.int .u32 (n:Int)),(2,pp b2),(5,.int .i64 (r:Int))]) (fun _=>[pt b2 [.slice a (canon t).1.length c,.int .i64 ((canon t).2:Int)] 50]) (fun r=>r) ((canon t).2) ?_ ?_ ?_ ?_
 ·exact ⟨(canon_at t).1,by rw [(canon_at t).2]⟩
 ·exact ⟨rfl,rfl,rfl,trivial⟩
 ·rfl
 rintro r ⟨hr,hev⟩
 show WC _ _ _ _ _ _ _ [(1,.int .u32 (n:Int)),(2,pp b2),(5,.int .i64 (r:Int))] [pt b2 [.slice a (canon t).1.length c,.int .i64 ((canon t).2:Int)] 50]
 refine jN 9 ?_
 refine WC.cond rfl (fun h10=>?_) (fun h10=>?_)
 ·have h2:2≤r:=by simp at h10;omega
  obtain ⟨k,rfl⟩:∃ k,r=k+2:=⟨r - 2,by omega⟩
  have hk:k<(canon t).1.length:=by omega
  obtain ⟨x,hx⟩:∃ x,(canon t).1[k]?=some x:=⟨_,List.getElem?_eq_getElem hk⟩
  have hkb:=hmk.kid k x hx
  have htr:=hmk.at hx
  obtain ⟨bl,off,rfl,hcx⟩:=ht.2.at hx
  have hri:((k:Nat):Int)=((k+2:Nat):Int) - 2:=by omega
  refine jN 13 ?_
  refine WA.say 14 (.int .i64 (k:Int)) (by rw [hri];rfl) ?_
  refine jN 1 ?_
  refine WL.indexAddr F.sl48 rfl rfl rfl hk ?_
  refine jN 1 ?_
  refine WL.loadN F.agg155 rfl rfl (vs:=[Value.int .i64 (x.1:Int),.int .i64 (x.2.1:Int),.int .i64 (x.2.2:Int)]) rfl (fun w hS j v hv=>hS.oldc (hcx j v hv) (by simp)) ?_
  refine jN 1 ?_
  refine WL.alloc F.zero155 rfl (fun b6=>?_)
  refine jN 23 ?_
  refine WL.bin rfl rfl rfl (fun w=>run_shr (by omega) _ _ _ w) ?_
  refine jN 1 ?_
  refine WL.bin rfl rfl rfl (fun w=>run_and (b:=1) (Nat.lt_of_le_of_lt (by rw [Nat.shiftRight_eq_div_pow];exact Nat.div_le_self _ _) hn) (by decide) _ _ _ w) ?_
  refine jN 4 ?_
  refine WC.cond rfl (fun h24=>?_) (fun h24=>?_)
  ·have hbit:cfg n x.1=true:=by (rw [Fm.testBit_shift] at h24;exact h24)
   refine jN 9 ?_
   refine WQ.chunks (C':=[pt b2 [.slice (some ⟨bl,off,none⟩) (canon t).1.length c,.int .i64 ((canon t).2:Int)] 50]) (fun w hS=>(jK hS)) ?_
   refine WQ.back (x.2.2) ?_ ?_ ?_ ?_
   ·exact ⟨by omega,by rw [← hev,htr];simp only [BT.ev,hbit,cond_true]⟩
   ·(show x.2.2<k+2;omega)
   ·exact ⟨rfl,rfl,rfl,trivial⟩
   rfl
  have hbit:cfg n x.1=false:=by (rw [Fm.testBit_shift] at h24;exact h24)
  refine jN 2 ?_
  refine WQ.chunks (C':=[pt b2 [.slice (some ⟨bl,off,none⟩) (canon t).1.length c,.int .i64 ((canon t).2:Int)] 50]) (fun w hS=>(jK hS)) ?_
  refine WQ.back (x.2.1) ?_ ?_ ?_ ?_
  ·exact ⟨by omega,by rw [← hev,htr];simp only [BT.ev,hbit,cond_false]⟩
  ·(show x.2.1<k+2;omega)
  ·exact ⟨rfl,rfl,rfl,trivial⟩
  rfl
 have h2:r<2:=by simp at h10;omega
 have hfin:(r==1)=t.ev (cfg n):=by
  rw [← hev]
  rcases r with _ | _ | r
  ·rw [(trs_zero _).1];rfl
  ·rw [(trs_zero _).2];rfl
  ·omega
 refine jN 16 ?_
 refine WQ.ret (rs:=[.tmp 4]) rfl (.tmp rfl .nil) (fun w hS=>⟨?_,hS.drop⟩)
 show Ending.returned (.bool ((r:Int)==1))=_
 rw [← hfin]
 have e:((r:Int)==1)=(r==1):=by (rw [Bool.eq_iff_iff];simp;omega)
 rw [e]
theorem rdO_new {w0 w:World} {C:List Chunk} {ch:Chunk} {F:List Nat} {l:List Dec} {a:Option Addr} (hS:St w0 [] C w) (hm:ch∈C) (hc:FpIs ch F) (h:RdDec w0 l a):RdDecO w l a F:=fun j u hu=>by
 obtain ⟨b,off,e1,e2⟩:=h j u hu
 refine ⟨b,off,e1,hS.oldc e2 (by simp),fun hF=>?_⟩
 have:=(hS.bnd _ hm b ((hc b).2 hF)).2 (World.block_lt_of_cell? w0 _ e2)
 simp at this
theorem fi_len {φ:BT→BT} {la l:List Dec} {out:List Int} {x:Dec} (h:FI φ la out l) (hla:la.length<16777216) (hx:la[out.length - 2]?=some x):l.length≤16777214:=by
 have h1:=(List.getElem?_eq_some_iff.1 hx).1
 have:=h.len
 omega
theorem not_join (bm:Nat) (la:List Dec) (hla:Mk la) (hll:la.length<16777216) (out:List Int) (s:List Nat×List Dec) (x:Dec) (z1 z2:Int) (w:World) (hx:la[out.length - 2]?=some x) (hI:FI notT la out s.2) (h1:out[x.2.1]?=some z1) (h2:out[x.2.2]?=some z2) (hS:St w s.1 [mkr s.1 bm s.2] w):
  Calls Tryz.prog 76 ([pp bm]++[Value.int .i64 (x.1:Int),.int .i64 z1,.int .i64 z2]++[]).toArray w fun e w'=>∃ y:{y:(List Nat×List Dec)×Int // FI notT la (out++[y.2]) y.1.2},e= .returned (.int .i64 y.1.2)∧St w s.1 [mkr y.1.1.1 bm y.1.1.2] w':=by
 obtain ⟨p1,rfl,e1,f1⟩:=hI.at' _ _ h1
 obtain ⟨p2,rfl,e2,f2⟩:=hI.at' _ _ h2
 refine (mnode_c s.1 bm s.2 x.1 p1 p2 w (hla.kid _ _ hx).1 hI.ismk e1 e2 (fi_len hI hll hx) hS).mono ?_
 rintro e w' ⟨⟨⟨F',l',r⟩,hm,hl⟩,he,hS'⟩
 refine ⟨⟨((F',l'),(r:Int)),hI.step hla hx hm.ismk hm.pre hl hm.lt ?_⟩,he,hS'⟩
 rw [hm.tree,f1,f2];rfl
theorem Not_c (t:BT) (a:Option Addr) (c:Nat) (w:World) (ht:RdD w t a):Calls Tryz.prog 62 [dval t a c].toArray w (DPost (fun c=> !t.ev c) w):=by
 have hmk:=canon_mk ht.1
 have hcl:=canon_len ht.1
 refine enter Tryz.func62 rfl Tryz.ntmps62 rfl (St.init _) ?_
 refine jN 3 ?_
 refine WL.boxN rfl rfl (fun b1=>?_)
 refine jN 1 ?_
 refine WL.alloc F.zero50 rfl (fun b2=>?_)
 refine jN 5 ?_
 refine WL.call0 (β:=List Nat×Nat) (res:=fun x=> .returned (pp x.2)) (cs:=fun x=>[mkr x.1 x.2 []]) (ψ:=fun _=>True) F.fun75 (fun d h=>by cases h;rfl) rfl (fun w hS=>(newMaker_c w).mono (fun e w2 ⟨x,h1,h2⟩=>⟨x,trivial,h1,h2⟩)) (fun ⟨F1,bm⟩ _=>?_)
 refine WL.step ?_
 refine WL.assign rfl rfl ?_
 refine WL.nil ?_
 refine WQ.then_normal ?_
 refine WC.seq ?_
 refine WC.region ?_
 refine WL.step ?_
 refine WL.move rfl rfl ?_
 refine WL.step ?_
 refine WL.loadW F.agg50 rfl rfl (by repeat (first | exact List.Mem.head _ | apply List.Mem.tail)) rfl ?_
 refine WL.step ?_
 refine WL.move rfl rfl ?_
 refine WL.step ?_
 refine WL.makeFunc (us:=[pp bm]) (vs:=[]) rfl rfl rfl ?_
 refine jN 1 ?_
 refine WL.callC (β:={y:List Int×(List Nat×List Dec)×Int // FI notT (canon t).1 y.1 y.2.1.2∧y.1.length=(canon t).1.length+2∧y.1[(canon t).2]?=some y.2.2}) (res:=fun y=> .int .i64 y.1.2.2) (cs:=fun y=>[mkr y.1.2.1.1 bm y.1.2.1.2]) (Cs:=[mkr F1 bm []]) (C1:=[pt b2 [.slice none 0 0,.int .i64 0] 50,pt b1 [.slice a (canon t).1.length c,.int .i64 ((canon t).2:Int)] 50]) (O':=F1) F.fun97 (fun d h=>by cases h;rfl) rfl (List.Perm.refl _) bun_O1 bun_O2 (fun w hS hS2=>Fold_c (σ:=List Nat×List Dec) (fun s=>mkr s.1 bm s.2) (fun s=>s.1) (fun s=>FpIs.bun) 76 F.fun76 [pp bm] [] (canon t).1 a c (canon t).2 1 0 (fun out s=>FI notT (canon t).1 out s.2) (Nat.le_of_lt hcl) (fun k x hx=>⟨(hmk.kid k x hx).2.1,(hmk.kid k x hx).2.2.1⟩) (canon_at t).1 (F1,[]) (FI.nil (b0:=true) (b1:=false) rfl rfl) (not_join bm (canon t).1 hmk hcl) w (rdO_new hS jM FpIs.bun ht.2) hS2) (fun ⟨⟨out,⟨G1,l1⟩,z⟩,hI,hol,hz⟩=>?_)
 obtain ⟨r1,rfl,hr1,htr⟩:=hI.at' _ _ hz
 rw [(canon_at t).2] at htr
 have hI9:=hI.len
 dsimp only at hI9 hol hI
 have hl1:l1.length≤16777216:=by omega
 refine jN 1 ?_
 refine WL.callC (β:=Option Addr×Nat) (res:=fun z=>dval (trs l1 r1) z.1 z.2) (cs:=fun z=>[dC z.1 z.2 (trs l1 r1)]) (Cs:=[mkr G1 bm l1]) (C1:=[pt b2 [.slice none 0 0,.int .i64 0] 50,pt b1 [.slice a (canon t).1.length c,.int .i64 ((canon t).2:Int)] 50]) (O':=G1) F.fun77 (fun d h=>by cases h;rfl) rfl (List.Perm.refl _) bun_O1 bun_O2 (fun w hS hS2=>done_c G1 bm l1 r1 w hI.ismk hr1 (by rw [htr];exact notT_ok ht.1) hl1 hS2) (fun z3=>?_)
 refine jN 5 ?_
 refine WQ.ret (rs:=[.cell 2 50]) rfl (.cellN F.agg50 rfl jM rfl .nil) (fun w hS=>⟨⟨(trs l1 r1,z3),by rw [htr];exact notT_ok ht.1,fun c=>by rw [htr];exact notT_ev t c⟩,rfl,(jK hS)⟩)
structure CubeG where
 m:Nat
 G:List Nat
 l:List Dec
 r:Nat
theorem Cube_c (on off:Nat) (hon:on<4294967296) (hoff:off<4294967296) (w:World):Calls Tryz.prog 31 [.int .u32 (on:Int),.int .u32 (off:Int)].toArray w (DPost (fun c=>cubeB on off 0 c) w):=by
 have hon1:(on&&&16777215)<4294967296:=Nat.lt_of_le_of_lt Nat.and_le_left hon
 have hoff1:(off&&&16777215)<4294967296:=Nat.lt_of_le_of_lt Nat.and_le_left hoff
 refine enter Tryz.func31 rfl Tryz.ntmps31 rfl (St.init _) ?_
 refine jN 3 ?_
 refine WL.alloc F.zero50 rfl (fun b4=>?_)
 refine jN 7 ?_
 refine WL.bin rfl rfl rfl (fun w=>run_and (b:=16777215) hon (by decide) _ _ _ w) ?_
 refine jN 3 ?_
 refine WL.bin rfl rfl rfl (fun w=>run_and (b:=16777215) hoff (by decide) _ _ _ w) ?_
 refine jN 14 ?_
 refine WL.bin rfl rfl rfl (fun w=>run_and hon1 hoff1 _ _ _ w) ?_
 refine jN 4 ?_
 refine WC.cond rfl (fun h15=>?_) (fun h15=>?_)
 ·have hcl:(on&&&16777215)&&&(off&&&16777215)≠0:=by (intro e;rw [e] at h15;simp at h15)
  refine jN 10 ?_
  refine WQ.ret (rs:=[.cell 4 50]) rfl (.cellN F.agg50 rfl jM rfl .nil) (fun w hS=>⟨⟨(.lf false,none,0),trivial,fun c=>(cubeB_clash hcl c).symm⟩,rfl,hS.drop.rowNil _ _⟩)
 have hcl:(on&&&16777215)&&&(off&&&16777215)=0:=by (simp at h15;omega)
 refine jN 5 ?_
 refine WL.call0 (β:=List Nat×Nat) (res:=fun x=> .returned (pp x.2)) (cs:=fun x=>[mkr x.1 x.2 []]) (ψ:=fun _=>True) F.fun75 (fun d h=>by cases h;rfl) rfl (fun w hS=>(newMaker_c w).mono (fun e w2 ⟨x,h1,h2⟩=>⟨x,trivial,h1,h2⟩)) (fun ⟨G0,bm⟩ _=>?_)
 refine WL.step ?_
 refine WL.assign rfl rfl ?_
 refine WL.nil ?_
 refine WQ.then_normal ?_
 refine WC.seq ?_
 refine WC.region ?_
 refine WL.step ?_
 refine WL.assign rfl rfl ?_
 refine WL.nil ?_
 refine WQ.then_normal ?_
 refine WC.seq ?_
 refine WC.seq ?_
 refine WC.region ?_
 refine WL.step ?_
 refine WL.assign rfl rfl ?_
 refine WL.nil ?_
 refine WQ.then_normal ?_
 refine WC.block ?_
 refine WC.loop (α:=CubeG) (fun g=>g.m≤24∧Mk g.l∧g.l.length+g.m≤24∧g.r<g.l.length+2∧(trs g.l g.r).ok g.m∧∀ c,(trs g.l g.r).ev c=cubeB (on&&&16777215) (off&&&16777215) g.m c) (fun g=>[(0,.int .u32 (((on&&&16777215):Nat):Int)),(1,.int .u32 (((off&&&16777215):Nat):Int)),(4,pp b4),(5,pp bm),(6,.int .i64 (g.r:Int)),(7,.int .i64 ((g.m:Int) - 1))]) (fun g=>[mkr g.G bm g.l,pt b4 [.slice none 0 0,.int .i64 0] 50]) (fun g=>g.m) (⟨24,G0,[],1⟩) ?_ ?_ ?_ ?_
 ·exact ⟨Nat.le_refl _,Mk.nil,(by show 0+24≤24;decide),(by show 1<0+2;decide),trivial,fun c=>(cubeB_end _ _ c).symm⟩
 ·exact ⟨rfl,rfl,rfl,rfl,rfl,rfl,trivial⟩
 ·rfl
 rintro ⟨m,G,l,r⟩ ⟨hm24,hm,hlm,hr,hok,hev⟩
 dsimp only at hm24 hm hlm hr hok hev
 show WC _ _ _ _ _ _ _ [(0,.int .u32 (((on&&&16777215):Nat):Int)),(1,.int .u32 (((off&&&16777215):Nat):Int)),(4,pp b4),(5,pp bm),(6,.int .i64 (r:Int)),(7,.int .i64 ((m:Int) - 1))] [mkr G bm l,pt b4 [.slice none 0 0,.int .i64 0] 50]
 refine jN 9 ?_
 refine WC.cond rfl (fun h19=>?_) (fun h19=>?_)
 ·obtain ⟨k,rfl⟩:∃ k,m=k+1:=⟨m - 1,by (simp at h19;omega)⟩
  have hki:(((k+1:Nat):Int) - 1)=(k:Int):=by omega
  refine jN 11 ?_
  refine WA.say 24 (.int .i64 (k:Int)) (by rw [← hki];rfl) ?_
  refine jN 1 ?_
  refine WL.bin rfl rfl rfl (fun w=>run_shr (by omega) _ _ _ w) ?_
  refine jN 1 ?_
  refine WL.bin rfl rfl rfl (fun w=>run_and (b:=1) (Nat.lt_of_le_of_lt (by rw [Nat.shiftRight_eq_div_pow];exact Nat.div_le_self _ _) hon1) (by decide) _ _ _ w) ?_
  refine jN 6 ?_
  refine WC.cond rfl (fun h22=>?_) (fun h22=>?_)
  ·rw [Fm.testBit_shift] at h22
   have hb1:(on&&&16777215).testBit k=true:=h22
   have hb2:(off&&&16777215).testBit k=false:=by
    have h0:((on&&&16777215)&&&(off&&&16777215)).testBit k=false:=by rw [hcl];simp
    rw [Nat.testBit_and,hb1] at h0;simpa using h0
   refine jN 5 ?_
   refine WA.say 29 (.int .i64 (k:Int)) (by rw [← hki];rfl) ?_
   refine jN 3 ?_
   refine WL.callC (β:={z:List Nat×List Dec×Nat // MadeN l z.2.1 z.2.2 (mkN k (trs l 0) (trs l r))∧z.2.1.length≤l.length+1}) (res:=fun z=> .int .i64 (z.1.2.2:Int)) (cs:=fun z=>[mkr z.1.1 bm z.1.2.1]) (Cs:=[mkr G bm l]) (C1:=[pt b4 [.slice none 0 0,.int .i64 0] 50]) (O':=G) F.fun76 (fun d h=>by cases h;rfl) rfl (List.Perm.refl _) bun_O1 bun_O2 (fun w hS hS2=>mnode_c G bm l k 0 r w (by omega) hm (by omega) hr (by omega) hS2) (fun ⟨⟨G2,l2,r2⟩,hm2,hl2⟩=>?_)
   dsimp only at hm2 hl2
   refine jN 9 ?_
   refine WA.say 20 (.int .i64 (k:Int)) (by rw [← hki];rfl) ?_
   refine jN 5 ?_
   refine WQ.chunks (C':=[mkr G2 bm l2,pt b4 [.slice none 0 0,.int .i64 0] 50]) (fun w hS=>(jK hS)) ?_
   refine WQ.back (⟨k,G2,l2,r2⟩) ?_ ?_ ?_ ?_
   ·exact ⟨by show k≤24;omega,hm2.ismk,by dsimp only;omega,hm2.lt,by show (trs l2 r2).ok k;rw [hm2.tree];exact mkN_ok (Nat.le_refl _) (by omega) (by rw [(trs_zero l).1];trivial) hok,fun c=>by (show (trs l2 r2).ev c=cubeB _ _ k c;rw [cubeB_step (m:=k) (by omega) c,hm2.tree,mkN_ev,(trs_zero l).1,hev,hb1,hb2];cases c k<;>simp [BT.ev])⟩
   ·(show k<k+1;omega)
   ·exact ⟨rfl,rfl,rfl,rfl,rfl,rfl,trivial⟩
   rfl
  rw [Fm.testBit_shift] at h22
  have hb1:(on&&&16777215).testBit k=false:=h22
  refine jN 6 ?_
  refine WA.say 34 (.int .i64 (k:Int)) (by rw [← hki];rfl) ?_
  refine jN 1 ?_
  refine WL.bin rfl rfl rfl (fun w=>run_shr (by omega) _ _ _ w) ?_
  refine jN 1 ?_
  refine WL.bin rfl rfl rfl (fun w=>run_and (b:=1) (Nat.lt_of_le_of_lt (by rw [Nat.shiftRight_eq_div_pow];exact Nat.div_le_self _ _) hoff1) (by decide) _ _ _ w) ?_
  refine jN 6 ?_
  refine WC.cond rfl (fun h32=>?_) (fun h32=>?_)
  ·rw [Fm.testBit_shift] at h32
   have hb2:(off&&&16777215).testBit k=true:=h32
   refine jN 5 ?_
   refine WA.say 39 (.int .i64 (k:Int)) (by rw [← hki];rfl) ?_
   refine jN 3 ?_
   refine WL.callC (β:={z:List Nat×List Dec×Nat // MadeN l z.2.1 z.2.2 (mkN k (trs l r) (trs l 0))∧z.2.1.length≤l.length+1}) (res:=fun z=> .int .i64 (z.1.2.2:Int)) (cs:=fun z=>[mkr z.1.1 bm z.1.2.1]) (Cs:=[mkr G bm l]) (C1:=[pt b4 [.slice none 0 0,.int .i64 0] 50]) (O':=G) F.fun76 (fun d h=>by cases h;rfl) rfl (List.Perm.refl _) bun_O1 bun_O2 (fun w hS hS2=>mnode_c G bm l k r 0 w (by omega) hm hr (by omega) (by omega) hS2) (fun ⟨⟨G2,l2,r2⟩,hm2,hl2⟩=>?_)
   dsimp only at hm2 hl2
   refine jN 9 ?_
   refine WA.say 20 (.int .i64 (k:Int)) (by rw [← hki];rfl) ?_
   refine jN 5 ?_
   refine WQ.chunks (C':=[mkr G2 bm l2,pt b4 [.slice none 0 0,.int .i64 0] 50]) (fun w hS=>(jK hS)) ?_
   refine WQ.back (⟨k,G2,l2,r2⟩) ?_ ?_ ?_ ?_
   ·exact ⟨by show k≤24;omega,hm2.ismk,by dsimp only;omega,hm2.lt,by show (trs l2 r2).ok k;rw [hm2.tree];exact mkN_ok (Nat.le_refl _) (by omega) hok (by rw [(trs_zero l).1];trivial),fun c=>by (show (trs l2 r2).ev c=cubeB _ _ k c;rw [cubeB_step (m:=k) (by omega) c,hm2.tree,mkN_ev,(trs_zero l).1,hev,hb1,hb2];cases c k<;>simp [BT.ev])⟩
   ·(show k<k+1;omega)
   ·exact ⟨rfl,rfl,rfl,rfl,rfl,rfl,trivial⟩
   rfl
  rw [Fm.testBit_shift] at h32
  have hb2:(off&&&16777215).testBit k=false:=h32
  refine jN 7 ?_
  refine WA.say 20 (.int .i64 (k:Int)) (by rw [← hki];rfl) ?_
  refine jN 5 ?_
  refine WQ.chunks (C':=[mkr G bm l,pt b4 [.slice none 0 0,.int .i64 0] 50]) (fun w hS=>(jK hS)) ?_
  refine WQ.back (⟨k,G,l,r⟩) ?_ ?_ ?_ ?_
  ·exact ⟨by show k≤24;omega,hm,by dsimp only;omega,hr,BT.ok_mono (n:=k+1) hok (Nat.le_succ _),fun c=>by (show (trs l r).ev c=cubeB _ _ k c;rw [cubeB_step (m:=k) (by omega) c,hev,hb1,hb2];simp)⟩
  ·(show k<k+1;omega)
  ·exact ⟨rfl,rfl,rfl,rfl,rfl,rfl,trivial⟩
  rfl
 have hm0:m=0:=by (simp at h19;omega)
 subst hm0
 refine jN 12 ?_
 refine WL.callC (β:=Option Addr×Nat) (res:=fun z=>dval (trs l r) z.1 z.2) (cs:=fun z=>[dC z.1 z.2 (trs l r)]) (Cs:=[mkr G bm l]) (C1:=[pt b4 [.slice none 0 0,.int .i64 0] 50]) (O':=G) F.fun77 (fun d h=>by cases h;rfl) rfl (List.Perm.refl _) bun_O1 bun_O2 (fun w hS hS2=>done_c G bm l r w hm hr hok (by omega) hS2) (fun z3=>?_)
 refine jN 5 ?_
 refine WQ.ret (rs:=[.cell 4 50]) rfl (.cellN F.agg50 rfl jM rfl .nil) (fun w hS=>⟨⟨(trs l r,z3),hok,fun c=>by rw [hev,cubeB_mask]⟩,rfl,(jK hS)⟩)
structure SetG where
 i:Nat
 t:BT
 ad:Option Addr
 ac:Nat
theorem setF_take {l:List QB} {i:Nat} {q:QB} (h:l[i]?=some q) (c:Cf):setF (l.take (i+1)) c=(setF (l.take i) c||cubeB q.1 q.2 0 c):=by
 unfold setF
 rw [List.take_add_one,h]
 simp
theorem set6_c (l:List QB) (a:Option Addr) (c:Nat) (hl:l.length≤1000000000000000) (w:World) (hr:RdSl qC 2 w l a) (hq:∀ q∈l,qOk q):
  Calls Tryz.prog 12 [.slice a l.length c].toArray w (DPost (setF l) w):=by
 refine enter Tryz.func12 rfl Tryz.ntmps12 rfl (St.init _) ?_
 refine jN 3 ?_
 refine WL.alloc F.zero50 rfl (fun b2=>?_)
 refine jN 5 ?_
 refine WL.call0 (β:=DRes (fun _=>false)) (res:=fun z=> .returned z.v) (cs:=fun z=>[z.ch]) (ψ:=fun _=>True) F.fun44 (fun d h=>by cases h;rfl) rfl (fun w hS=>(False_c w).mono (fun e w2 ⟨x,h1,h2⟩=>⟨x,trivial,h1,h2⟩)) (fun z5 _=>?_)
 refine WL.step ?_
 refine WL.alloc F.zero50 rfl (fun b3=>?_)
 refine jN 12 ?_
 refine WC.chunks (C':=[pt b3 [.slice z5.1.2.1 (canon z5.1.1).1.length z5.1.2.2,.int .i64 ((canon z5.1.1).2:Int)] 50,pt b2 [.slice none 0 0,.int .i64 0] 50,z5.ch]) (fun w hS=>(jK hS)) ?_
 refine WC.loop (α:=SetG) (fun g=>g.i≤l.length∧g.t.ok 0∧∀ cf,g.t.ev cf=setF (l.take g.i) cf) (fun g=>[(0,.slice a l.length c),(2,pp b2),(3,pp b3),(4,.int .i64 (g.i:Int))]) (fun g=>[pt b3 [.slice g.ad (canon g.t).1.length g.ac,.int .i64 ((canon g.t).2:Int)] 50,pt b2 [.slice none 0 0,.int .i64 0] 50,dC g.ad g.ac g.t]) (fun g=>l.length - g.i) (⟨0,z5.1.1,z5.1.2.1,z5.1.2.2⟩) ?_ ?_ ?_ ?_
 ·exact ⟨Nat.zero_le _,z5.2.1,fun cf=>by rw [z5.2.2];rfl⟩
 ·exact ⟨rfl,rfl,rfl,rfl,trivial⟩
 ·rfl
 rintro ⟨i,t,ad,ac⟩ ⟨hi,hok,hev⟩
 dsimp only at hi hok hev
 show WC _ _ _ _ _ _ _ [(0,.slice a l.length c),(2,pp b2),(3,pp b3),(4,.int .i64 (i:Int))] [pt b3 [.slice ad (canon t).1.length ac,.int .i64 ((canon t).2:Int)] 50,pt b2 [.slice none 0 0,.int .i64 0] 50,dC ad ac t]
 refine jN 13 ?_
 refine WC.cond rfl (fun h8=>?_) (fun h8=>?_)
 ·have hlt:i<l.length:=by simpa using h8
  obtain ⟨q,hx⟩:∃ z,l[i]?=some z:=⟨_,List.getElem?_eq_getElem hlt⟩
  obtain ⟨b,o,rfl,hcq⟩:=hr i q hx
  have hqq:=hq q (List.mem_of_getElem? hx)
  have hq1:=hqq.1
  have hq2:=hqq.2
  refine jN 4 ?_
  refine WC.draws [([12,13],fun w=>∀ j v,([.slice ad (canon t).1.length ac,.int .i64 ((canon t).2:Int)]:List Value)[j]?=some v→w.cell? ⟨b3,0+j,none⟩=some v),([11,12,13],fun w=>w.cell? ⟨b,o+i*2+0,none⟩=some (.int .u32 (q.1:Int))),([11,12,13],fun w=>w.cell? ⟨b,o+i*2+1,none⟩=some (.int .u32 (q.2:Int)))] (by kernel_rfl) (fun w hS=>facts_cons ((fun j v hv=>by rw [Nat.zero_add];exact hS.cell jM hv)) (facts_cons (hS.oldc (hcq 0 _ rfl) (by simp)) (facts_cons (hS.oldc (hcq 1 _ rfl) (by simp)) (facts_nil)))) ?_
  refine jF 0 0 rfl rfl (Yl.loadN F.agg50 rfl rfl) ?_
  refine jQ [1,2] ?_
  refine jT 3 rfl (Yl.indexAddr F.sl23 rfl rfl hlt) ?_
  refine jT 4 rfl (Yl.fieldAddr F.fld114_0 rfl) ?_
  refine jF 5 1 rfl rfl (Yl.load1 F.one24 rfl) ?_
  refine jQ [6,7] ?_
  refine jT 8 rfl (Yl.indexAddr F.sl23 rfl rfl hlt) ?_
  refine jT 9 rfl (Yl.fieldAddr F.fld114_1 rfl) ?_
  refine jF 10 2 rfl rfl (Yl.load1 F.one24 rfl) ?_
  refine jA 11 rfl ?_
  refine WL.call0 (β:=DRes (fun cf=>cubeB q.1 q.2 0 cf)) (res:=fun z=> .returned z.v) (cs:=fun z=>[z.ch]) (ψ:=fun _=>True) F.fun31 (fun d h=>by cases h;rfl) rfl (fun w hS=>(Cube_c q.1 q.2 hq1 hq2 w).mono (fun e w2 ⟨x,h1,h2⟩=>⟨x,trivial,h1,h2⟩)) (fun z23 _=>?_)
  refine WD.on (closed_of (by kernel_rfl)) (fun w hS=>Sx.keep ((fun j v hv=>by rw [Nat.zero_add];exact hS.cell jM hv)) (Sx.gone rfl (Sx.gone rfl (Sx.none)))) ?_
  refine jA 12 rfl ?_
  refine WL.call0 (β:=DRes (fun cf=>t.ev cf||z23.1.1.ev cf)) (res:=fun z=> .returned z.v) (cs:=fun z=>[z.ch]) (ψ:=fun _=>True) F.fun45 (fun d h=>by cases h;rfl) rfl (fun w hS=>(Or_c t z23.1.1 ad z23.1.2.1 ac z23.1.2.2 w (RdD.of_row hok (hS.ok (dC ad ac t) jM)) (z23.rd hS jM)).mono (fun e w2 ⟨x,h1,h2⟩=>⟨x,trivial,h1,h2⟩)) (fun z24 _=>?_)
  refine jG ?_
  refine jA 13 rfl ?_
  refine WL.storeN F.agg50 rfl rfl rfl jO jU jS ?_
  refine jG ?_
  refine jD ?_
  refine jN 10 ?_
  refine WQ.chunks (C':=[pt b3 [.slice z24.1.2.1 (canon z24.1.1).1.length z24.1.2.2,.int .i64 ((canon z24.1.1).2:Int)] 50,pt b2 [.slice none 0 0,.int .i64 0] 50,z24.ch]) (fun w hS=>(jK hS)) ?_
  refine WQ.back (⟨i+1,z24.1.1,z24.1.2.1,z24.1.2.2⟩) ?_ ?_ ?_ ?_
  ·exact ⟨by show i+1≤l.length;omega,z24.2.1,fun cf=>by (show z24.1.1.ev cf=_;rw [z24.2.2];dsimp only;rw [hev,z23.2.2,setF_take hx])⟩
  ·(show l.length - (i+1)<l.length - i;omega)
  ·exact ⟨rfl,rfl,rfl,rfl,trivial⟩
  rfl
 have hie:i=l.length:=by simp at h8;omega
 subst hie
 rw [List.take_length] at hev
 refine jN 14 ?_
 refine WQ.ret (rs:=[.cell 2 50]) rfl (.cellN F.agg50 rfl jM rfl .nil) (fun w hS=>⟨⟨(t,ad,ac),hok,hev⟩,rfl,(jK hS)⟩)
structure CfG where
 i:Nat
 a:Option Addr
 c:Nat
theorem cfgsN_len (v:Nat):∀ k,(cfgsN v k).length≤2 ^ k
 | 0=>by simp [cfgsN]
 | k+1=>by
  have ih:=cfgsN_len v k
  have hp:2 ^ (k+1)=2 ^ k+2 ^ k:=by rw [Nat.pow_succ];omega
  unfold cfgsN
  split
  ·rw [List.length_append,List.length_map];omega
  ·omega
theorem cfgsN_32 {v k:Nat} (hk:k≤32) {c:Nat} (h:c∈cfgsN v k):c<4294967296:=Nat.lt_of_lt_of_le (mem_cfgsN.1 h).1 (Nat.pow_le_pow_right (n:=2) (by decide) hk)
theorem bit_shr (v k:Nat):v.testBit k=decide (v>>>k&&&1≠0):=by
 rw [Nat.testBit,Nat.and_comm]
 by_cases h:v>>>k&&&1=0
 ·rw [h];rfl
 rw [decide_eq_true h]
 exact bne_iff_ne.2 h
theorem map_take_succ {α β:Type} (f:α→β) {l:List α} {k:Nat} {x:α} (h:l[k]?=some x):(l.take (k+1)).map f=(l.take k).map f++[f x]:=by
 rw [List.take_add_one,h];simp
theorem rConfigs_c (v:Nat) (hv:v<4294967296) (w:World):
  Calls Tryz.prog 47 [.int .u32 (v:Int)].toArray w fun e w'=>∃ x:Option Addr×Nat,e= .returned (.slice x.1 (cfgs v).length x.2)∧St w [] [rowc (.slice x.1 (cfgs v).length x.2) (cfgs v).length 24 1 ((cfgs v).flatMap nC)] w':=by
 refine enter Tryz.func47 rfl Tryz.ntmps47 rfl (St.init _) ?_
 refine jN 9 ?_
 refine WL.buildSlice F.sl53 F.ez53 rfl rfl rfl rfl jB rfl (fun b7=>?_)
 refine jN 12 ?_
 refine WC.chunks (C':=[jW b7 ([0]).length 1 24 1 (([0]).flatMap nC)]) (fun w hS=>(hS.rowOf rfl (by decide))) ?_
 refine WC.loop (α:=CfG) (fun g=>g.i≤32) (fun g=>[(0,.int .u32 (v:Int)),(3,.slice g.a (cfgsN v g.i).length g.c),(4,.int .i64 (g.i:Int))]) (fun g=>[rowc (.slice g.a (cfgsN v g.i).length g.c) (cfgsN v g.i).length 24 1 ((cfgsN v g.i).flatMap nC)]) (fun g=>32 - g.i) (⟨0,some ⟨b7,0,none⟩,1⟩) ?_ ?_ ?_ ?_
 ·exact by (show 0≤32);decide
 ·exact ⟨rfl,rfl,rfl,trivial⟩
 ·rfl
 rintro ⟨i,a,c⟩ hi
 dsimp only at hi ⊢
 refine jN 9 ?_
 refine WC.cond rfl (fun h9=>?_) (fun h9=>?_)
 ·have hlt:i<32:=by simp at h9;omega
  have hlen:=cfgsN_len v i
  have hp31:2 ^ i≤2147483648:=Nat.le_trans (Nat.pow_le_pow_right (by decide:2>0) (show i≤31 by omega)) (by decide)
  refine jN 12 ?_
  refine WL.bin (v:= .int .u32 ((v>>>i:Nat):Int)) rfl rfl rfl (fun w=>run_shr (by omega) _ _ _ w) ?_
  refine jN 1 ?_
  refine WL.bin (v:= .int .u32 ((v>>>i&&&1:Nat):Int)) rfl rfl rfl (fun w=>run_and (b:=1) (Nat.lt_of_le_of_lt (Nat.shiftRight_le v i) hv) (by decide) _ _ _ w) ?_
  refine jN 4 ?_
  refine WC.cond rfl (fun h16=>?_) (fun h16=>?_)
  ·have hbit:v.testBit i=false:=by rw [bit_shr,decide_eq_false_iff_not];intro hne;apply hne;have:=beq_iff_eq.1 h16;omega
   refine jN 12 ?_
   have hs:cfgsN v (i+1)=cfgsN v i:=by rw [cfgsN,if_neg (by rw [hbit];simp)]
   refine WQ.back (⟨i+1,a,c⟩) ?_ ?_ ?_ ?_
   ·show i+1≤32;omega
   ·show 32 - (i+1)<32 - i;omega
   ·simp only [hs];exact ⟨rfl,rfl,rfl,trivial⟩
   simp only [hs]
  have hbit:v.testBit i=true:=by rw [bit_shr,decide_eq_true_eq];intro he;rw [he] at h16;simp at h16
  refine jN 19 ?_
  refine WC.chunks (C':=[rowc (.slice a ((cfgsN v i++((cfgsN v i).take 0).map (fun c=>c|||2 ^ i))).length c) ((cfgsN v i++((cfgsN v i).take 0).map (fun c=>c|||2 ^ i))).length 24 1 (((cfgsN v i++((cfgsN v i).take 0).map (fun c=>c|||2 ^ i))).flatMap nC)]) (fun w hS=>(by rw [List.take_zero,List.map_nil,List.append_nil];exact hS)) ?_
  refine WC.loop (α:=CfG) (fun g=>g.i≤(cfgsN v i).length) (fun g=>[(0,.int .u32 (v:Int)),(3,.slice g.a ((cfgsN v i++((cfgsN v i).take g.i).map (fun c=>c|||2 ^ i))).length g.c),(4,.int .i64 (i:Int)),(5,.int .i64 ((cfgsN v i).length:Int)),(6,.int .i64 (g.i:Int))]) (fun g=>[rowc (.slice g.a ((cfgsN v i++((cfgsN v i).take g.i).map (fun c=>c|||2 ^ i))).length g.c) ((cfgsN v i++((cfgsN v i).take g.i).map (fun c=>c|||2 ^ i))).length 24 1 (((cfgsN v i++((cfgsN v i).take g.i).map (fun c=>c|||2 ^ i))).flatMap nC)]) (fun g=>(cfgsN v i).length - g.i) (⟨0,a,c⟩) ?_ ?_ ?_ ?_
  ·exact Nat.zero_le _
  ·simp only [List.take_zero,List.map_nil,List.append_nil];exact ⟨rfl,rfl,rfl,rfl,rfl,trivial⟩
  ·simp only [List.take_zero,List.map_nil,List.append_nil]
  rintro ⟨k,a2,c2⟩ hk
  dsimp only at hk ⊢
  refine jN 11 ?_
  refine WC.cond rfl (fun h21=>?_) (fun h21=>?_)
  ·have hkl:k<(cfgsN v i).length:=by simpa using h21
   obtain ⟨x,hx⟩:∃ x,(cfgsN v i)[k]?=some x:=⟨_,List.getElem?_eq_getElem hkl⟩
   have hx32:=cfgsN_32 (by omega) (List.mem_of_getElem? hx)
   have hxl:(cfgsN v i++((cfgsN v i).take k).map (fun c=>c|||2 ^ i))[k]?=some x:=by rw [List.getElem?_append_left hkl];exact hx
   have hll:((cfgsN v i++((cfgsN v i).take k).map (fun c=>c|||2 ^ i))).length=(cfgsN v i).length+k:=by rw [List.length_append,List.length_map,List.length_take,Nat.min_eq_left (by omega)]
   refine WC.know (φ:=∃ g,a2=some ⟨g,0,none⟩∧((cfgsN v i++((cfgsN v i).take k).map (fun c=>c|||2 ^ i))).length=((cfgsN v i++((cfgsN v i).take k).map (fun c=>c|||2 ^ i))).length∧((cfgsN v i++((cfgsN v i).take k).map (fun c=>c|||2 ^ i))).length≤c2) (fun w hS=>rowc_addr (hS.ok (rowc (.slice a2 ((cfgsN v i++((cfgsN v i).take k).map (fun c=>c|||2 ^ i))).length c2) ((cfgsN v i++((cfgsN v i).take k).map (fun c=>c|||2 ^ i))).length 24 1 (((cfgsN v i++((cfgsN v i).take k).map (fun c=>c|||2 ^ i))).flatMap nC)) jM) (by omega)) (fun ⟨g9,hg9,_,_⟩=>?_)
   subst hg9
   have hp2:2 ^ i<4294967296:=by omega
   refine jN 4 ?_
   refine WC.draws [([8,9],fun w=>w.cell? ⟨g9,0+k*1,none⟩=some (.int .u32 (x:Int)))] (by kernel_rfl) (fun w hS=>facts_cons ((by rw [Nat.zero_add];exact rowc_cells (hS.ok (jW g9 ((cfgsN v i++((cfgsN v i).take k).map (fun c=>c|||2 ^ i))).length c2 24 1 (((cfgsN v i++((cfgsN v i).take k).map (fun c=>c|||2 ^ i))).flatMap nC)) jM) (flat_at (cells:=nC) (sz:=1) (fun _ _=>rfl) hxl 0 _ rfl))) (facts_nil)) ?_
   refine jQ [0,1,2] ?_
   refine jT 3 rfl (Yl.indexAddr F.sl53 rfl rfl (by omega)) ?_
   refine jF 4 0 rfl rfl (Yl.load1 F.one24 rfl) ?_
   refine jQ [5] ?_
   refine jT 6 rfl (Yl.bin (v:= .int .u32 ((2 ^ i:Nat):Int)) rfl rfl (fun w=>run_shl1 hlt _ _ _ w)) ?_
   refine jT 7 rfl (Yl.bin (v:= .int .u32 ((x|||2 ^ i:Nat):Int)) rfl rfl (fun w=>run_or hx32 hp2 _ _ _ w)) ?_
   refine jA 8 rfl ?_
   refine WL.buildSlice F.sl53 F.ez53 rfl rfl rfl rfl jB rfl (fun b32=>?_)
   refine jG ?_
   refine jA 9 rfl ?_
   refine WL.appendE (news:=[.int .u32 ((x|||2 ^ i:Nat):Int)]) F.el53 rfl rfl rfl jR (fun w hS jj u hu=>by rw [Nat.zero_add];exact hS.cell (cs:=[.int .u32 ((x|||2 ^ i:Nat):Int)]) jM hu) rfl jO (Nat.le_trans (m:=8589934592) (by omega) (by decide)) (by omega) (fun a3 c3=>?_)
   refine jG ?_
   refine jQ [10] ?_
   refine jD ?_
   refine jN 10 ?_
   refine WQ.chunks (C':=[rowc (.slice a3 ((cfgsN v i++((cfgsN v i).take k).map (fun c=>c|||2 ^ i)).length+1) c3) ((cfgsN v i++((cfgsN v i).take k).map (fun c=>c|||2 ^ i)).length+1) 24 1 ((cfgsN v i++((cfgsN v i).take k).map (fun c=>c|||2 ^ i)).flatMap nC++[.int .u32 ((x|||2 ^ i:Nat):Int)])]) (fun w hS=>(jK hS)) ?_
   have hs:(cfgsN v i++((cfgsN v i).take (k+1)).map (fun c=>c|||2 ^ i))=(cfgsN v i++((cfgsN v i).take k).map (fun c=>c|||2 ^ i))++[x|||2 ^ i]:=by rw [map_take_succ _ hx,List.append_assoc]
   refine WQ.back (⟨k+1,a3,c3⟩) ?_ ?_ ?_ ?_
   ·show k+1≤(cfgsN v i).length;omega
   ·show (cfgsN v i).length - (k+1)<(cfgsN v i).length - k;omega
   ·simp only [hs,List.length_append,List.length_cons,List.length_nil];exact ⟨rfl,rfl,rfl,rfl,rfl,trivial⟩
   simp only [hs,List.length_append,List.length_cons,List.length_nil,List.flatMap_append];rfl
  have hke:k=(cfgsN v i).length:=by simp at h21;omega
  subst hke
  refine jN 14 ?_
  have hs:cfgsN v (i+1)=(cfgsN v i++((cfgsN v i).take (cfgsN v i).length).map (fun c=>c|||2 ^ i)):=by rw [cfgsN,if_pos hbit,List.take_length]
  refine WQ.back (⟨i+1,a2,c2⟩) ?_ ?_ ?_ ?_
  ·show i+1≤32;omega
  ·show 32 - (i+1)<32 - i;omega
  ·simp only [hs];exact ⟨rfl,rfl,rfl,trivial⟩
  simp only [hs]
 have hie:i=32:=by simp at h9;omega
 subst hie
 refine jN 14 ?_
 exact WQ.ret (rs:=[.tmp 2]) rfl (.tmp rfl .nil) (fun w hS=>⟨(a,c),rfl,hS⟩)
theorem filter_take_T {α:Type} (f:α→Bool) {l:List α} {k:Nat} {x:α} (h:l[k]?=some x) (hf:f x=true):(l.take (k+1)).filter f=(l.take k).filter f++[x]:=by
 rw [List.take_add_one,h,List.filter_append];simp [hf]
theorem filter_take_F {α:Type} (f:α→Bool) {l:List α} {k:Nat} {x:α} (h:l[k]?=some x) (hf:f x=false):(l.take (k+1)).filter f=(l.take k).filter f:=by
 rw [List.take_add_one,h,List.filter_append];simp [hf]
theorem cfgs_len (v:Nat):(cfgs v).length≤4294967296:=cfgsN_len v 32
theorem those_c (l:List QB) (a:Option Addr) (c:Nat) (hl:l.length≤1000000000000000) (v:Nat) (hv:v<4294967296) (w:World) (hr:RdSl qC 2 w l a) (hq:∀ q∈l,qOk q):
  Calls Tryz.prog 14 [.slice a l.length c,.int .u32 (v:Int)].toArray w fun e w'=>∃ x:Option Addr×Nat,e= .returned (.slice x.1 (thoseL l v).length x.2)∧St w [] [rowc (.slice x.1 (thoseL l v).length x.2) (thoseL l v).length 24 1 ((thoseL l v).flatMap nC)] w':=by
 refine enter Tryz.func14 rfl Tryz.ntmps14 rfl (St.init _) ?_
 refine jN 17 ?_
 refine WL.call0 (β:=Option Addr×Nat) (res:=fun x=> .returned (.slice x.1 (cfgs v).length x.2)) (cs:=fun x=>[rowc (.slice x.1 (cfgs v).length x.2) (cfgs v).length 24 1 ((cfgs v).flatMap nC)]) (ψ:=fun _=>True) F.fun47 (fun d h=>by cases h;rfl) rfl (fun w hS=>(rConfigs_c v hv w).mono (fun e w2 ⟨x,h1,h2⟩=>⟨x,trivial,h1,h2⟩)) (fun ⟨xa,xc⟩ _=>?_)
 refine WL.step ?_
 refine WL.assign rfl rfl ?_
 refine WL.nil ?_
 refine WQ.then_normal ?_
 refine WC.seq ?_
 refine WC.seq ?_
 refine WC.region ?_
 refine WL.step ?_
 refine WL.assign rfl rfl ?_
 refine WL.nil ?_
 refine WQ.then_normal ?_
 refine WC.block ?_
 refine WC.chunks (C':=[rowc (.slice none 0 0) 0 24 1 [],rowc (.slice xa (cfgs v).length xc) (cfgs v).length 24 1 ((cfgs v).flatMap nC)]) (fun w hS=>(jK (hS.rowNil 24 1))) ?_
 refine WC.loop (α:=CfG) (fun g=>g.i≤(cfgs v).length) (fun g=>[(0,.slice a l.length c),(5,.slice g.a (((cfgs v).take g.i).filter (inN l)).length g.c),(6,.slice xa (cfgs v).length xc),(7,.int .i64 (g.i:Int))]) (fun g=>[rowc (.slice g.a ((((cfgs v).take g.i).filter (inN l))).length g.c) ((((cfgs v).take g.i).filter (inN l))).length 24 1 (((((cfgs v).take g.i).filter (inN l))).flatMap nC),rowc (.slice xa (cfgs v).length xc) (cfgs v).length 24 1 ((cfgs v).flatMap nC)]) (fun g=>(cfgs v).length - g.i) (⟨0,none,0⟩) ?_ ?_ ?_ ?_
 ·exact Nat.zero_le _
 ·exact ⟨rfl,rfl,rfl,rfl,trivial⟩
 ·rfl
 rintro ⟨i,a2,c2⟩ hi
 dsimp only at hi ⊢
 refine jN 13 ?_
 refine WC.cond rfl (fun h13=>?_) (fun h13=>?_)
 ·have hlt:i<(cfgs v).length:=by simpa using h13
  obtain ⟨x,hx⟩:∃ x,(cfgs v)[i]?=some x:=⟨_,List.getElem?_eq_getElem hlt⟩
  have hx32:=cfgsN_32 (Nat.le_refl 32) (List.mem_of_getElem? hx)
  have hlen:=cfgs_len v
  have hpl:(((cfgs v).take i).filter (inN l)).length≤i:=Nat.le_trans (List.length_filter_le _ _) (List.length_take_le _ _)
  refine WC.know (φ:=∃ g,xa=some ⟨g,0,none⟩∧(cfgs v).length=(cfgs v).length∧(cfgs v).length≤xc) (fun w hS=>rowc_addr (hS.ok (rowc (.slice xa (cfgs v).length xc) (cfgs v).length 24 1 ((cfgs v).flatMap nC)) jM) (by omega)) (fun ⟨g9,hg9,_,_⟩=>?_)
  subst hg9
  refine jN 13 ?_
  refine WL.indexAddr F.sl53 rfl rfl rfl hlt ?_
  refine jN 1 ?_
  refine WL.load1 F.one24 rfl rfl (v:= .int .u32 (x:Int)) (fun w hS=>by rw [Nat.zero_add];exact rowc_cells (hS.ok (jW g9 (cfgs v).length xc 24 1 ((cfgs v).flatMap nC)) jM) (flat_at (cells:=nC) (sz:=1) (fun _ _=>rfl) hx 0 _ rfl)) ?_
  refine jN 1 ?_
  refine WL.callV F.fun48 rfl rfl (fun w hS=>in6_c l a c x hx32 hl w (hr.next hS) hq) ?_
  refine jN 2 ?_
  refine WC.cond rfl (fun h21=>?_) (fun h21=>?_)
  ·refine jN 8 ?_
   refine WL.indexAddr F.sl53 rfl rfl rfl hlt ?_
   refine jN 1 ?_
   refine WL.load1 F.one24 rfl rfl (v:= .int .u32 (x:Int)) (fun w hS=>by rw [Nat.zero_add];exact rowc_cells (hS.ok (jW g9 (cfgs v).length xc 24 1 ((cfgs v).flatMap nC)) jM) (flat_at (cells:=nC) (sz:=1) (fun _ _=>rfl) hx 0 _ rfl)) ?_
   refine jN 1 ?_
   refine WL.buildSlice F.sl53 F.ez53 rfl rfl rfl rfl jB rfl (fun b27=>?_)
   refine jN 1 ?_
   refine WL.appendE (news:=[.int .u32 (x:Int)]) F.el53 rfl rfl rfl jR (fun w hS jj u hu=>by rw [Nat.zero_add];exact hS.cell (cs:=[.int .u32 (x:Int)]) jM hu) rfl jO (Nat.le_trans (m:=8589934592) (by omega) (by decide)) (by omega) (fun a3 c3=>?_)
   refine jN 13 ?_
   refine WQ.chunks (C':=[rowc (.slice a3 ((((cfgs v).take i).filter (inN l)).length+1) c3) ((((cfgs v).take i).filter (inN l)).length+1) 24 1 ((((cfgs v).take i).filter (inN l)).flatMap nC++[.int .u32 (x:Int)]),jW g9 (cfgs v).length xc 24 1 ((cfgs v).flatMap nC)]) (fun w hS=>(jK hS)) ?_
   have hs:(((cfgs v).take (i+1)).filter (inN l))=(((cfgs v).take i).filter (inN l))++[x]:=filter_take_T _ hx h21
   refine WQ.back (⟨i+1,a3,c3⟩) ?_ ?_ ?_ ?_
   ·show i+1≤(cfgs v).length;omega
   ·show (cfgs v).length - (i+1)<(cfgs v).length - i;omega
   ·simp only [hs,List.length_append,List.length_cons,List.length_nil];exact ⟨rfl,rfl,rfl,rfl,trivial⟩
   simp only [hs,List.length_append,List.length_cons,List.length_nil,List.flatMap_append];rfl
  refine jN 11 ?_
  have hs:(((cfgs v).take (i+1)).filter (inN l))=(((cfgs v).take i).filter (inN l)):=filter_take_F _ hx h21
  refine WQ.back (⟨i+1,a2,c2⟩) ?_ ?_ ?_ ?_
  ·show i+1≤(cfgs v).length;omega
  ·show (cfgs v).length - (i+1)<(cfgs v).length - i;omega
  ·simp only [hs];exact ⟨rfl,rfl,rfl,rfl,trivial⟩
  simp only [hs]
 have hie:i=(cfgs v).length:=by simp at h13;omega
 subst hie
 rw [List.take_length]
 refine jN 14 ?_
 exact WQ.ret (rs:=[.tmp 4]) rfl (.tmp rfl .nil) (fun w hS=>⟨(a2,c2),rfl,(jK hS)⟩)
theorem Support_c (t:BT) (a:Option Addr) (c:Nat) (w:World) (ht:RdD w t a):Pure Tryz.prog 71 [dval t a c] w (.int .u32 (supT (canon t).1:Int)):=by
 have hmk:=canon_mk ht.1
 have hcl:=canon_len ht.1
 refine enter Tryz.func71 rfl Tryz.ntmps71 rfl (St.init _) ?_
 refine jN 3 ?_
 refine WL.boxN rfl rfl (fun b1=>?_)
 refine jN 24 ?_
 refine WC.chunks (C':=[]) (fun w hS=>hS.sublist (List.nil_sublist _)) ?_
 refine WC.loop (α:=Nat) (fun i=>i≤(canon t).1.length) (fun i=>[(3,.int .u32 (supT ((canon t).1.take i):Int)),(7,.slice a (canon t).1.length c),(8,.int .i64 ((canon t).1.length:Int)),(9,.int .i64 (i:Int))]) (fun _=>[]) (fun i=>(canon t).1.length - i) (0) ?_ ?_ ?_ ?_
 ·exact Nat.zero_le _
 ·exact ⟨rfl,rfl,rfl,rfl,trivial⟩
 ·rfl
 rintro i hi
 show WC _ _ _ _ _ _ _ [(3,.int .u32 (supT ((canon t).1.take i):Int)),(7,.slice a (canon t).1.length c),(8,.int .i64 ((canon t).1.length:Int)),(9,.int .i64 (i:Int))] []
 refine jN 7 ?_
 refine WC.cond rfl (fun h10=>?_) (fun h10=>?_)
 ·have hlt:i<(canon t).1.length:=by simpa using h10
  obtain ⟨x,hx⟩:∃ x,(canon t).1[i]?=some x:=⟨_,List.getElem?_eq_getElem hlt⟩
  have hkb:=hmk.kid i x hx
  obtain ⟨bl,off,rfl,hcx⟩:=ht.2.at hx
  have hsl:supT ((canon t).1.take i)<2 ^ 24:=sup_fold _ _ (fun y hy=>(by obtain ⟨j,hj⟩:=List.getElem?_of_mem (List.mem_of_mem_take hy);exact (hmk.kid j y hj).1)) (by decide)
  have hx32:2 ^ x.1<4294967296:=pow32 (by omega)
  refine jN 7 ?_
  refine WL.indexAddr F.sl48 rfl rfl rfl hlt ?_
  refine jN 1 ?_
  refine WL.loadN F.agg155 rfl rfl (vs:=[Value.int .i64 (x.1:Int),.int .i64 (x.2.1:Int),.int .i64 (x.2.2:Int)]) rfl (fun w hS j v hv=>hS.oldc (hcx j v hv) (by simp)) ?_
  refine jN 1 ?_
  refine WL.alloc F.zero155 rfl (fun b5=>?_)
  refine jN 12 ?_
  refine WL.bin rfl rfl rfl (fun w=>run_shl1 (by omega) _ _ _ w) ?_
  refine jN 1 ?_
  refine WL.bin rfl rfl rfl (fun w=>run_or (by omega) hx32 _ _ _ w) ?_
  refine jN 11 ?_
  refine WQ.chunks (C':=[]) (fun w hS=>hS.sublist (List.nil_sublist _)) ?_
  refine WQ.back (i+1) (by show i+1≤(canon t).1.length;omega) (by show (canon t).1.length - (i+1)<(canon t).1.length - i;omega) ?_ rfl
  simp only [supT_take hx]
  exact ⟨rfl,rfl,rfl,rfl,trivial⟩
 have hie:i=(canon t).1.length:=by simp at h10;omega
 subst hie
 rw [List.take_length]
 refine jN 14 ?_
 exact WQ.ret (rs:=[.tmp 2]) rfl (.tmp rfl .nil) (fun w hS=>⟨rfl,hS⟩)
def andN (a b:Nat):Nat:=((BitVec.ofNat 32 a)&&&~~~(BitVec.ofNat 32 b)).toNat
theorem andN_bit {a b j:Nat} (ha:a<4294967296):(andN a b).testBit j=(a.testBit j&& !b.testBit j):=by
 unfold andN
 rw [BitVec.testBit_toNat,BitVec.getLsbD_and,BitVec.getLsbD_not,BitVec.getLsbD_ofNat,BitVec.getLsbD_ofNat]
 by_cases hj:j<32
 ·simp [hj]
 have:a.testBit j=false:=Nat.testBit_lt_two_pow (Nat.lt_of_lt_of_le ha (by have:=Nat.pow_le_pow_right (n:=2) (by decide) (show 32≤j by omega);simpa using this))
 simp [hj,this]
theorem run_andN {a b:Nat} (t:TypeId) (x y:Operand) (w:World):
  (do eqGuard .andNot t x y (.int .u32 (a:Int)) (.int .u32 (b:Int));binOp .andNot t (.int .u32 (a:Int)) (.int .u32 (b:Int)):Sem Value).run Tryz.prog w= .ok (.int .u32 ((andN a b:Nat):Int)) w:=by
 have h1:andN a b<4294967296:=(_:BitVec 32).isLt
 simp only [eqGuard,binOp,Op.intBits,IntKind.bits]
 simp
 show IntKind.u32.wrap ((andN a b:Nat):Int)=_
 exact wrap_u32 h1
theorem und4r :Tryz.prog.underlying 4=some .bool:=by kernel_rfl
theorem run_neR {x y:Operand} (a b:Bool) (w:World):(do eqGuard .neq 4 x y (.bool a) (.bool b);binOp .neq 4 (.bool a) (.bool b):Sem Value).run Tryz.prog w= .ok (.bool (a != b)) w:=by
 have h:=run_neq_bool (P:=Tryz.prog) (w:=w) 4 a b und4r
 simp [eqGuard,h]
 cases a<;>cases b<;>rfl
theorem andN_sub {s v:Nat} (hs:s<4294967296) (hv:v<4294967296):andN s v=s&&&(4294967295 - v):=by
 refine Nat.eq_of_testBit_eq fun j=>?_
 rw [andN_bit hs,Nat.testBit_and,show 4294967295 - v=2 ^ 32 - (v+1) by omega,Nat.testBit_two_pow_sub_succ (by simpa using hv)]
 by_cases hj:j<32
 ·simp [hj]
 have:s.testBit j=false:=Nat.testBit_lt_two_pow (Nat.lt_of_lt_of_le hs (by have:=Nat.pow_le_pow_right (n:=2) (by decide) (show 32≤j by omega);simpa using this))
 simp [hj,this]
theorem al_split {f:Nat→Bool} {cs ls:List Nat} {i k c:Nat} (hc:cs[i]?=some c) (hi:ls.take k=(cs.take i).filter f) (e:ls=cs.filter f):ls.drop k=(c::cs.drop (i+1)).filter f:=by
 obtain ⟨hlt,he⟩:=List.getElem?_eq_some_iff.1 hc
 have h1:cs=cs.take i++c::cs.drop (i+1):=by
  rw [← he,← List.drop_eq_getElem_cons hlt,List.take_append_drop]
 have h2:ls.take k++ls.drop k=ls.take k++(c::cs.drop (i+1)).filter f:=by
  rw [List.take_append_drop,hi,← List.filter_append,← h1]
  exact e
 exact List.append_cancel_left h2
theorem al_head {ls:List Nat} {k:Nat}:ls[k]?=(ls.drop k)[0]?:=by rw [List.getElem?_drop,Nat.add_zero]
theorem al_T {f:Nat→Bool} {cs ls:List Nat} {i k c:Nat} (hc:cs[i]?=some c) (hi:ls.take k=(cs.take i).filter f) (e:ls=cs.filter f) (hf:f c=true):ls[k]?=some c:=by
 rw [al_head,al_split hc hi e,List.filter_cons_of_pos hf];rfl
theorem al_F {f:Nat→Bool} {cs ls:List Nat} {i k c:Nat} (hn:cs.Nodup) (hc:cs[i]?=some c) (hi:ls.take k=(cs.take i).filter f) (e:ls=cs.filter f) (hf:f c=false):ls[k]?≠some c:=by
 intro h
 rw [al_head,al_split hc hi e,List.filter_cons_of_neg (by simp [hf])] at h
 have hm:=(List.mem_filter.1 (List.mem_of_getElem? h)).1
 obtain ⟨hlt,he⟩:=List.getElem?_eq_some_iff.1 hc
 have h1:cs.drop i=c::cs.drop (i+1):=by rw [← he,← List.drop_eq_getElem_cons hlt]
 have h2:=hn.sublist (List.drop_sublist i cs)
 rw [h1,List.nodup_cons] at h2
 exact h2.1 hm
theorem take_snoc {l:List Nat} {k c:Nat} (h:l[k]?=some c):l.take (k+1)=l.take k++[c]:=by rw [List.take_add_one,h];rfl
theorem al_end {t:BT} {ls:List Nat} {v:Nat} (h:ls=thoseF v t.ev) (hs:supT (canon t).1<4294967296) (hv:v<4294967296):alikeF t ls v=(((andN (supT (canon t).1) v:Nat):Int)==0):=by
 unfold alikeF
 rw [decide_eq_true h,Bool.true_and,andN_sub hs hv,Bool.eq_iff_iff,decide_eq_true_eq,beq_iff_eq]
 omega
theorem alF_no {t:BT} {ls:List Nat} {v:Nat} (h:ls≠(cfgs v).filter (fun c=>t.ev (cfg c))):alikeF t ls v=false:=by
 unfold alikeF thoseF
 rw [decide_eq_false h];rfl
theorem alike_c (t:BT) (da:Option Addr) (dc:Nat) (ls:List Nat) (la:Option Addr) (lc:Nat) (v:Nat) (hv:v<4294967296) (hl32:∀ z∈ls,z<4294967296) (hll:ls.length≤1000000000000000) (w:World) (hd:RdD w t da) (hr:RdN w ls la):
  Pure Tryz.prog 21 [dval t da dc,.slice la ls.length lc,.int .u32 (v:Int)] w (.bool (alikeF t ls v)):=by
 have hcl:=canon_len hd.1
 have hmk:=canon_mk hd.1
 have hsl:supT (canon t).1<4294967296:=Nat.lt_of_lt_of_le (sup_fold (n:=24) _ _ (fun y hy=>(by obtain ⟨j,hj⟩:=List.getElem?_of_mem hy;exact (hmk.kid j y hj).1)) (by decide)) (by decide)
 refine enter Tryz.func21 rfl Tryz.ntmps21 rfl (St.init _) ?_
 refine jN 3 ?_
 refine WL.boxN rfl rfl (fun b3=>?_)
 refine jN 9 ?_
 refine WL.call0 (β:=Option Addr×Nat) (res:=fun x=> .returned (.slice x.1 (cfgs v).length x.2)) (cs:=fun x=>[rowc (.slice x.1 (cfgs v).length x.2) (cfgs v).length 24 1 ((cfgs v).flatMap nC)]) (ψ:=fun _=>True) F.fun47 (fun d h=>by cases h;rfl) rfl (fun w hS=>(rConfigs_c v hv w).mono (fun e w2 ⟨x,h1,h2⟩=>⟨x,trivial,h1,h2⟩)) (fun ⟨xa,xc⟩ _=>?_)
 refine WL.step ?_
 refine WL.assign rfl rfl ?_
 refine WL.nil ?_
 refine WQ.then_normal ?_
 refine WC.seq ?_
 refine WC.region ?_
 refine WL.step ?_
 refine WL.assign rfl rfl ?_
 refine WL.nil ?_
 refine WQ.then_normal ?_
 refine WC.seq ?_
 refine WC.seq ?_
 refine WC.region ?_
 refine WL.step ?_
 refine WL.assign rfl rfl ?_
 refine WL.nil ?_
 refine WQ.then_normal ?_
 refine WC.block ?_
 refine WC.chunks (C':=[pt b3 [.slice da (canon t).1.length dc,.int .i64 ((canon t).2:Int)] 50,rowc (.slice xa (cfgs v).length xc) (cfgs v).length 24 1 ((cfgs v).flatMap nC)]) (fun w hS=>(jK hS)) ?_
 refine WC.loop (α:=Nat×Nat) (fun g=>g.1≤(cfgs v).length∧g.2≤ls.length∧ls.take g.2=((cfgs v).take g.1).filter (fun c=>t.ev (cfg c))) (fun g=>[(1,.slice la ls.length lc),(2,.int .u32 (v:Int)),(3,pp b3),(7,.slice xa (cfgs v).length xc),(8,.int .i64 (g.2:Int)),(9,.int .i64 (g.1:Int))]) (fun _=>[pt b3 [.slice da (canon t).1.length dc,.int .i64 ((canon t).2:Int)] 50,rowc (.slice xa (cfgs v).length xc) (cfgs v).length 24 1 ((cfgs v).flatMap nC)]) (fun g=>(cfgs v).length - g.1) ((0,0)) ?_ ?_ ?_ ?_
 ·exact ⟨Nat.zero_le _,Nat.zero_le _,rfl⟩
 ·exact ⟨rfl,rfl,rfl,rfl,rfl,rfl,trivial⟩
 ·rfl
 rintro ⟨i,k⟩ ⟨hi,hk,hki⟩
 dsimp only at hi hk hki
 show WC _ _ _ _ _ _ _ [(1,.slice la ls.length lc),(2,.int .u32 (v:Int)),(3,pp b3),(7,.slice xa (cfgs v).length xc),(8,.int .i64 (k:Int)),(9,.int .i64 (i:Int))] [pt b3 [.slice da (canon t).1.length dc,.int .i64 ((canon t).2:Int)] 50,rowc (.slice xa (cfgs v).length xc) (cfgs v).length 24 1 ((cfgs v).flatMap nC)]
 refine jN 13 ?_
 refine WC.cond rfl (fun h16=>?_) (fun h16=>?_)
 ·have hlt:i<(cfgs v).length:=by simpa using h16
  obtain ⟨x,hx⟩:∃ x,(cfgs v)[i]?=some x:=⟨_,List.getElem?_eq_getElem hlt⟩
  have hx32:=cfgsN_32 (Nat.le_refl 32) (List.mem_of_getElem? hx)
  have hlen:=cfgs_len v
  refine WC.know (φ:=∃ g,xa=some ⟨g,0,none⟩∧(cfgs v).length=(cfgs v).length∧(cfgs v).length≤xc) (fun w hS=>rowc_addr (hS.ok (rowc (.slice xa (cfgs v).length xc) (cfgs v).length 24 1 ((cfgs v).flatMap nC)) jM) (by omega)) (fun ⟨g9,hg9,_,_⟩=>?_)
  subst hg9
  refine jN 5 ?_
  by_cases hkl:k<ls.length
  ·obtain ⟨z,hz⟩:∃ z,ls[k]?=some z:=⟨_,List.getElem?_eq_getElem hkl⟩
   have hz32:=hl32 z (List.mem_of_getElem? hz)
   obtain ⟨b1,o1,rfl,hcz⟩:=hr k z hz
   refine WC.draws [([],fun w=>w.cell? ⟨b1,o1+k*1,none⟩=some (.int .u32 (z:Int))),([],fun w=>w.cell? ⟨g9,0+i*1,none⟩=some (.int .u32 (x:Int)))] (by kernel_rfl) (fun w hS=>facts_cons (hS.oldc (hcz 0 _ rfl) (by simp)) (facts_cons ((by rw [Nat.zero_add];exact rowc_cells (hS.ok (jW g9 (cfgs v).length xc 24 1 ((cfgs v).flatMap nC)) jM) (flat_at (cells:=nC) (sz:=1) (fun _ _=>rfl) hx 0 _ rfl))) (facts_nil))) ?_
   refine jQ [0,1] ?_
   refine jT 2 rfl (Yl.lenSl F.und53 rfl) ?_
   refine jQ [3,4] ?_
   refine fun hcl=>WA.splitB (i:=23) rfl (fun g22=>?_) (fun g22=>?_)
   ·refine (show WD _ _ _ _ _ _ _ _ _ _ _ _ from ?_) hcl
    refine jQ [5,6] ?_
    refine WD.takeG (i:=7) rfl rfl rfl rfl rfl rfl (by kernel_rfl) (by kernel_rfl) (by kernel_rfl) (fun _ _ _ h=>h) (by kernel_rfl) need_none (Yl.indexAddr F.sl53 rfl rfl hkl) ?_
    refine WD.takeG (i:=8) rfl rfl rfl rfl rfl rfl (by kernel_rfl) (by kernel_rfl) (by kernel_rfl) (fun _ _ _ h=>h) (by kernel_rfl) (need_at 0 16 rfl (by kernel_rfl)) (Yl.load1 F.one24 rfl) ?_
    refine jQ [9,10] ?_
    refine WD.takeG (i:=11) rfl rfl rfl rfl rfl rfl (by kernel_rfl) (by kernel_rfl) (by kernel_rfl) (fun _ _ _ h=>h) (by kernel_rfl) need_none (Yl.indexAddr F.sl53 rfl rfl hlt) ?_
    refine WD.takeG (i:=12) rfl rfl rfl rfl rfl rfl (by kernel_rfl) (by kernel_rfl) (by kernel_rfl) (fun _ _ _ h=>h) (by kernel_rfl) (need_at 1 16 rfl (by kernel_rfl)) (Yl.load1 F.one24 rfl) ?_
    refine jQ [13,14,15] ?_
    refine jD ?_
    refine jN 8 ?_
    refine WC.cond rfl (fun h34=>?_) (fun h34=>?_)
    ·have hzx:x=z:=by have:=beq_iff_eq.1 h34;omega
     subst hzx
     refine jN 10 ?_
     refine WC.draws [([5],fun w=>∀ j u,([.slice da (canon t).1.length dc,.int .i64 ((canon t).2:Int)]:List Value)[j]?=some u→w.cell? ⟨b3,0+j,none⟩=some u),([5],fun w=>w.cell? ⟨g9,0+i*1,none⟩=some (.int .u32 (x:Int)))] (by kernel_rfl) (fun w hS=>facts_cons ((fun j u hu=>by rw [Nat.zero_add];exact hS.cell jM hu)) (facts_cons ((by rw [Nat.zero_add];exact rowc_cells (hS.ok (jW g9 (cfgs v).length xc 24 1 ((cfgs v).flatMap nC)) jM) (flat_at (cells:=nC) (sz:=1) (fun _ _=>rfl) hx 0 _ rfl))) (facts_nil))) ?_
     refine jF 0 0 rfl rfl (Yl.loadN F.agg50 rfl rfl) ?_
     refine jQ [1,2] ?_
     refine jT 3 rfl (Yl.indexAddr F.sl53 rfl rfl hlt) ?_
     refine jF 4 1 rfl rfl (Yl.load1 F.one24 rfl) ?_
     refine jQ [6] ?_
     refine jA 5 rfl ?_
     refine WL.callV (v:= .bool (t.ev (cfg x))) F.fun50 rfl rfl (fun w hS=>Has_c t da dc x hx32 w (hd.next0 hS)) ?_
     refine jG ?_
     refine jT 7 rfl (Yl.bin rfl rfl (fun w=>run_neR _ _ w)) ?_
     refine jD ?_
     refine jN 1 ?_
     refine WC.cond rfl (fun h44=>?_) (fun h44=>?_)
     ·refine jN 12 ?_
      have hf:t.ev (cfg x)=false:=by revert h44;rw [h34];cases t.ev (cfg x)<;>simp
      exact WQ.ret (rs:=[.tmp 6]) rfl (.tmp rfl .nil) (fun w hS=>⟨by rw [alF_no fun e=>al_F (cfgsN_nodup v 32) hx hki e hf hz];rfl,hS.sublist (List.nil_sublist _)⟩)
     refine jN 11 ?_
     have hf:t.ev (cfg x)=true:=by revert h44;rw [h34];cases t.ev (cfg x)<;>simp
     have hinv:i+1≤(cfgs v).length∧k+1≤ls.length∧ls.take (k+1)=((cfgs v).take (i+1)).filter (fun c=>t.ev (cfg c)):=⟨by omega,by omega,by rw [take_snoc hz,filter_take_T _ hx hf,hki]⟩
     refine WQ.chunks (C':=[pt b3 [.slice da (canon t).1.length dc,.int .i64 ((canon t).2:Int)] 50,jW g9 (cfgs v).length xc 24 1 ((cfgs v).flatMap nC)]) (fun w hS=>(jK hS)) ?_
     refine WQ.back (i+1,k+1) ?_ ?_ ?_ ?_
     ·exact hinv
     ·show (cfgs v).length - (i+1)<(cfgs v).length - i;omega
     ·exact ⟨rfl,rfl,rfl,rfl,rfl,rfl,trivial⟩
     rfl
    have hzx:z≠x:=by rintro rfl;simp at h34
    refine jN 3 ?_
    refine WC.draws [([5],fun w=>∀ j u,([.slice da (canon t).1.length dc,.int .i64 ((canon t).2:Int)]:List Value)[j]?=some u→w.cell? ⟨b3,0+j,none⟩=some u),([5],fun w=>w.cell? ⟨g9,0+i*1,none⟩=some (.int .u32 (x:Int)))] (by kernel_rfl) (fun w hS=>facts_cons ((fun j u hu=>by rw [Nat.zero_add];exact hS.cell jM hu)) (facts_cons ((by rw [Nat.zero_add];exact rowc_cells (hS.ok (jW g9 (cfgs v).length xc 24 1 ((cfgs v).flatMap nC)) jM) (flat_at (cells:=nC) (sz:=1) (fun _ _=>rfl) hx 0 _ rfl))) (facts_nil))) ?_
    refine jF 0 0 rfl rfl (Yl.loadN F.agg50 rfl rfl) ?_
    refine jQ [1,2] ?_
    refine jT 3 rfl (Yl.indexAddr F.sl53 rfl rfl hlt) ?_
    refine jF 4 1 rfl rfl (Yl.load1 F.one24 rfl) ?_
    refine jQ [6] ?_
    refine jA 5 rfl ?_
    refine WL.callV (v:= .bool (t.ev (cfg x))) F.fun50 rfl rfl (fun w hS=>Has_c t da dc x hx32 w (hd.next0 hS)) ?_
    refine jG ?_
    refine jT 7 rfl (Yl.bin rfl rfl (fun w=>run_neR _ _ w)) ?_
    refine jD ?_
    refine jN 1 ?_
    refine WC.cond rfl (fun h44=>?_) (fun h44=>?_)
    ·refine jN 12 ?_
     have hf:t.ev (cfg x)=true:=by revert h44;rw [h34];cases t.ev (cfg x)<;>simp
     exact WQ.ret (rs:=[.tmp 6]) rfl (.tmp rfl .nil) (fun w hS=>⟨by rw [alF_no fun e=>hzx (Option.some.inj (hz.symm.trans (al_T hx hki e hf)))];rfl,hS.sublist (List.nil_sublist _)⟩)
    refine jN 11 ?_
    have hf:t.ev (cfg x)=false:=by revert h44;rw [h34];cases t.ev (cfg x)<;>simp
    have hinv:i+1≤(cfgs v).length∧k≤ls.length∧ls.take k=((cfgs v).take (i+1)).filter (fun c=>t.ev (cfg c)):=⟨by omega,by omega,by rw [filter_take_F _ hx hf,hki]⟩
    refine WQ.chunks (C':=[pt b3 [.slice da (canon t).1.length dc,.int .i64 ((canon t).2:Int)] 50,jW g9 (cfgs v).length xc 24 1 ((cfgs v).flatMap nC)]) (fun w hS=>(jK hS)) ?_
    refine WQ.back (i+1,k) ?_ ?_ ?_ ?_
    ·exact hinv
    ·show (cfgs v).length - (i+1)<(cfgs v).length - i;omega
    ·exact ⟨rfl,rfl,rfl,rfl,rfl,rfl,trivial⟩
    rfl
   refine (show WD _ _ _ _ _ _ _ _ _ _ _ _ from ?_) hcl
   exfalso;simp at g22;omega
  have hke:k=ls.length:=by omega
  have hno:ls[k]?=none:=by rw [hke];simp
  refine WC.draws [] (by kernel_rfl) (fun w hS=>facts_nil) ?_
  refine jQ [0,1] ?_
  refine jT 2 rfl (Yl.lenSl F.und53 rfl) ?_
  refine jQ [3,4] ?_
  refine fun hcl=>WA.splitB (i:=23) rfl (fun g22=>?_) (fun g22=>?_)
  ·refine (show WD _ _ _ _ _ _ _ _ _ _ _ _ from ?_) hcl
   exfalso;simp at g22;omega
  refine (show WD _ _ _ _ _ _ _ _ _ _ _ _ from ?_) hcl
  refine jQ [5,6,7,8,9,10,11,12,13,14,15] ?_
  refine jD ?_
  refine jN 12 ?_
  refine WC.draws [([5],fun w=>∀ j u,([.slice da (canon t).1.length dc,.int .i64 ((canon t).2:Int)]:List Value)[j]?=some u→w.cell? ⟨b3,0+j,none⟩=some u),([5],fun w=>w.cell? ⟨g9,0+i*1,none⟩=some (.int .u32 (x:Int)))] (by kernel_rfl) (fun w hS=>facts_cons ((fun j u hu=>by rw [Nat.zero_add];exact hS.cell jM hu)) (facts_cons ((by rw [Nat.zero_add];exact rowc_cells (hS.ok (jW g9 (cfgs v).length xc 24 1 ((cfgs v).flatMap nC)) jM) (flat_at (cells:=nC) (sz:=1) (fun _ _=>rfl) hx 0 _ rfl))) (facts_nil))) ?_
  refine jF 0 0 rfl rfl (Yl.loadN F.agg50 rfl rfl) ?_
  refine jQ [1,2] ?_
  refine jT 3 rfl (Yl.indexAddr F.sl53 rfl rfl hlt) ?_
  refine jF 4 1 rfl rfl (Yl.load1 F.one24 rfl) ?_
  refine jQ [6] ?_
  refine jA 5 rfl ?_
  refine WL.callV (v:= .bool (t.ev (cfg x))) F.fun50 rfl rfl (fun w hS=>Has_c t da dc x hx32 w (hd.next0 hS)) ?_
  refine jG ?_
  refine jT 7 rfl (Yl.bin rfl rfl (fun w=>run_neR _ _ w)) ?_
  refine jD ?_
  refine jN 1 ?_
  refine WC.cond rfl (fun h44=>?_) (fun h44=>?_)
  ·refine jN 12 ?_
   have hf:t.ev (cfg x)=true:=by revert h44;cases t.ev (cfg x)<;>simp
   exact WQ.ret (rs:=[.tmp 6]) rfl (.tmp rfl .nil) (fun w hS=>⟨by rw [alF_no fun e=>by have h:=al_T hx hki e hf;rw [hno] at h;cases h];rfl,hS.sublist (List.nil_sublist _)⟩)
  refine jN 11 ?_
  have hf:t.ev (cfg x)=false:=by revert h44;cases t.ev (cfg x)<;>simp
  have hinv:i+1≤(cfgs v).length∧k≤ls.length∧ls.take k=((cfgs v).take (i+1)).filter (fun c=>t.ev (cfg c)):=⟨by omega,by omega,by rw [filter_take_F _ hx hf,hki]⟩
  refine WQ.chunks (C':=[pt b3 [.slice da (canon t).1.length dc,.int .i64 ((canon t).2:Int)] 50,jW g9 (cfgs v).length xc 24 1 ((cfgs v).flatMap nC)]) (fun w hS=>(jK hS)) ?_
  refine WQ.back (i+1,k) ?_ ?_ ?_ ?_
  ·exact hinv
  ·show (cfgs v).length - (i+1)<(cfgs v).length - i;omega
  ·exact ⟨rfl,rfl,rfl,rfl,rfl,rfl,trivial⟩
  rfl
 have hie:i=(cfgs v).length:=by simp at h16;omega
 subst hie
 rw [List.take_length] at hki
 refine jN 17 ?_
 refine WA.splitB (i:=49) rfl (fun g48=>?_) (fun g48=>?_)
 ·have hke:k=ls.length:=by simp at g48;omega
  have hls:ls=thoseF v t.ev:=by rw [hke,List.take_length] at hki;exact hki
  refine jN 2 ?_
  refine WL.loadN F.agg50 rfl rfl (vs:=[.slice da (canon t).1.length dc,.int .i64 ((canon t).2:Int)]) rfl (fun w hS j u hu=>by rw [Nat.zero_add];exact hS.cell jM hu) ?_
  refine jN 2 ?_
  refine WL.callV F.fun71 rfl rfl (fun w hS=>Support_c t da dc w (hd.next0 hS)) ?_
  refine jN 5 ?_
  refine WL.bin rfl rfl rfl (fun w=>run_andN _ _ _ w) ?_
  refine jN 10 ?_
  exact WQ.ret (rs:=[.tmp 6]) rfl (.tmp rfl .nil) (fun w hS=>⟨by rw [al_end hls hsl hv];rfl,hS.sublist (List.nil_sublist _)⟩)
 have hls: ¬ ls=thoseF v t.ev:=fun e=>by
  have h1:ls.take k=ls:=by rw [hki];exact e.symm
  have h2:=congrArg List.length h1
  rw [List.length_take] at h2
  have h3: ¬ k=ls.length:=by intro e2;rw [e2] at g48;simp at g48
  omega
 refine jN 17 ?_
 exact WQ.ret (rs:=[.tmp 6]) rfl (.tmp rfl .nil) (fun w hS=>⟨by rw [alF_no hls];rfl,hS.sublist (List.nil_sublist _)⟩)
end Go.Proofs.YtedbajbgnmaakaaGreatDoor
