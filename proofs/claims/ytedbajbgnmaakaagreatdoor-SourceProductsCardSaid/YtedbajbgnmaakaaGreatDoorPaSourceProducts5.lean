/- Parts of the walk, put together by a program. By an AI agent. -/
import Derived.Test.YtedbajbgnmaakaaGreatDoorPaSourceProducts4
import Derived.Laws.CopyRow
import Derived.Laws.IdiomStrings
import Derived.Lib.AppendZeros
import Derived.Maps.RangeRun
import Derived.Laws.RangeString
set_option linter.unusedSimpArgs false
set_option linter.unusedVariables false
namespace Go.Proofs.YtedbajbgnmaakaaGreatDoor
open Go Go.Eng Go.Proofs Dg
theorem srt_ext {α:Type} {r:α→α→Prop} (has:∀ a b,r a b→ ¬ r b a):∀ {l m:List α},l.Pairwise r→m.Pairwise r→(∀ x,x∈l↔x∈m)→l=m
 | [],[],_,_,_=>rfl
 | [],y::m,_,_,h=>by have:=(h y).2 (List.mem_cons_self ..);cases this
 | x::l,[],_,_,h=>by have:=(h x).1 (List.mem_cons_self ..);cases this
 | x::l,y::m,hl,hm,h=>by
  obtain ⟨l1,l2⟩:=List.pairwise_cons.1 hl
  obtain ⟨m1,m2⟩:=List.pairwise_cons.1 hm
  have hxy:x=y:=by
   rcases List.mem_cons.1 ((h x).1 (List.mem_cons_self ..)) with e | e
   ·exact e
   ·rcases List.mem_cons.1 ((h y).2 (List.mem_cons_self ..)) with e2 | e2
    ·exact e2.symm
    ·exact absurd (m1 x e) (has _ _ (l1 y e2))
  subst hxy
  congr 1
  refine srt_ext has l2 m2 fun z=>?_
  have irr: ¬ r x x:=fun e=>has x x e e
  constructor
  ·intro hz
   rcases List.mem_cons.1 ((h z).1 (List.mem_cons_of_mem _ hz)) with e | e
   ·rw [e] at hz;exact absurd (l1 x hz) irr
   ·exact e
  ·intro hz
   rcases List.mem_cons.1 ((h z).2 (List.mem_cons_of_mem _ hz)) with e | e
   ·rw [e] at hz;exact absurd (m1 x hz) irr
   ·exact e
section
variable {A : List TkV} {W : Cf → Bool} {cs : List Cf} {R : ClR} {done : List ClK} {o S : List PrV} {D : List Nat} {lst : PrV → Nat}
abbrev gpP (A:List TkV) (D:List Nat) (t:PrV):List UInt8×List Nat:=(t.x,D.filter fun n=>decide (wdA A (cfg n)=t.x))
theorem prod_order (h:PrG A W cs R done o) (hS:S.Perm o) (hD:D.Pairwise (· < ·)) (hW:∀ n∈D,W (cfg n)=true) (hl:∀ t∈o,(D.filter fun n=>decide (wdA A (cfg n)=t.x))≠[]∧lst t=(D.filter fun n=>decide (wdA A (cfg n)=t.x)).headD 0) (hs:S.Pairwise fun a b=>lst a<lst b):
  S.map (gpP A D)=grpN (fun n=>wdA A (cfg n)) D:=by
 have g:=grpN_I (f:=fun n=>wdA A (cfg n)) hD
 refine srt_ext (r:=fun p q:List UInt8×List Nat=>p.2.headD 0<q.2.headD 0) (fun a b h1 h2=>by omega) ?_ g.c fun p=>?_
 ·refine List.pairwise_map.2 (List.Pairwise.imp_of_mem (fun ha hb hab=>?_) hs)
  rw [(hl _ (hS.mem_iff.1 ha)).2,(hl _ (hS.mem_iff.1 hb)).2] at hab
  exact hab
 constructor
 ·intro hp
  obtain ⟨t,ht,rfl⟩:=List.mem_map.1 hp
  have hne:=(hl t (hS.mem_iff.1 ht)).1
  obtain ⟨n,hn⟩:=List.exists_mem_of_ne_nil _ hne
  obtain ⟨hnD,hnx⟩:=List.mem_filter.1 hn
  obtain ⟨p,hp,e⟩:=g.b n hnD
  have e2:p.1=t.x:=e.trans (by simpa using hnx)
  have e3:p=gpP A D t:=Prod.ext e2 (by rw [(g.a p hp).1,e2])
  rw [← e3];exact hp
 intro hp
 obtain ⟨h1,h2⟩:=g.a p hp
 obtain ⟨n,hn⟩:=List.exists_mem_of_ne_nil _ h2
 rw [h1] at hn
 obtain ⟨hnD,hnx⟩:=List.mem_filter.1 hn
 obtain ⟨t,ht,e⟩:=h.some_ (hW n hnD)
 have e2:t.x=p.1:=e.trans (by simpa using hnx)
 refine List.mem_map.2 ⟨t,hS.mem_iff.2 ht,?_⟩
 exact Prod.ext e2 (by rw [h1,← e2])
end
open Go Go.Eng Go.Proofs Dg
theorem least_head {t:BT} {u:Nat} (hu:u<2 ^ 32) (ho:t.ok 0) (hd:dep u t.ev) (hne:∃ c,t.ev c=true):(leastT t).2=true∧thoseF u t.ev≠[]∧(leastT t).1=(thoseF u t.ev).headD 0:=by
 have hb:=best_ok ho (by decide:0≤24)
 have h2:(bestT t).2=true:=by
  cases h:(bestT t).2 with
  | true=>rfl
  | false=>
   obtain ⟨c,hc⟩:=hne
   rw [hb.no h c] at hc
   cases hc
 obtain ⟨y1,y2⟩:=hb.yes h2
 have hl:leastT t=bestT t:=by unfold leastT;rw [if_pos h2]
 rw [hl]
 have hand:t.ev (cfg ((bestT t).1&&&u))=true:=by
  rw [← y1]
  refine hd _ _ fun k hk=>?_
  show ((bestT t).1&&&u).testBit k=(bestT t).1.testBit k
  rw [Nat.testBit_and,hk,Bool.and_true]
 have hle:=y2 _ hand
 have heq:(bestT t).1&&&u=(bestT t).1:=Nat.le_antisymm Nat.and_le_left hle
 have hmem:(bestT t).1∈thoseF u t.ev:=by
  unfold thoseF
  refine List.mem_filter.2 ⟨mem_cfgsN.2 ⟨Nat.lt_of_lt_of_le hb.lt (by decide),fun i hi=>?_⟩,y1⟩
  rw [← heq,Nat.testBit_and,Bool.and_eq_true] at hi
  exact hi.2
 refine ⟨h2,List.ne_nil_of_mem hmem,?_⟩
 have hs:(thoseF u t.ev).Pairwise (· < ·):=(cfgsN_up u 32).sublist (by unfold thoseF;exact List.filter_sublist)
 cases hL:thoseF u t.ev with
 | nil=>rw [hL] at hmem;cases hmem
 | cons m r=>
  show (bestT t).1=m
  have hm:m∈thoseF u t.ev:=by rw [hL];exact List.mem_cons_self ..
  have hme:t.ev (cfg m)=true:=by unfold thoseF at hm;exact (List.mem_filter.1 hm).2
  have h3:=y2 m hme
  rw [hL] at hmem hs
  rcases List.mem_cons.1 hmem with e | e
  ·exact e
  ·have:=(List.pairwise_cons.1 hs).1 _ e
   omega
theorem foldl_filter_if {α β:Type} {g:β→α→β} {q:α→Bool}:∀ (l:List α) (b:β),l.foldl (fun b x=>if q x then g b x else b) b=(l.filter q).foldl g b
 | [],_=>rfl
 | x::l,b=>by
  rw [List.foldl_cons,foldl_filter_if l]
  cases h:q x with
  | true=>rw [List.filter_cons_of_pos h,List.foldl_cons];rfl
  | false=>rw [List.filter_cons_of_neg (by simp [h])];rfl
theorem clsN_words (A:List TkV) (c:Cf):clsN A c A.length=((A.filter fun t=>t.d.ev c).map fun t=>t.x.t).foldl (fun k x=>nxW x k) ([],false):=by
 unfold clsN
 rw [List.take_length,List.foldl_map,← foldl_filter_if]
 rfl
theorem wdR_words (rs:List RtV):wdR rs=(rs.map fun r=>r.x.t).foldl (fun k x=>nxW x k) ([],false):=by
 unfold wdR
 rw [List.foldl_map]
 rfl
theorem mem_those7 {u n:Nat} {q:List QB} (hn:n∈cfgs u):decide (n∈thoseL q u)=setF q (cfg n):=by
 rw [← inN_set,Bool.eq_iff_iff,decide_eq_true_eq]
 unfold thoseL
 rw [List.mem_filter]
 exact ⟨fun h=>h.2,fun h=>⟨hn,h⟩⟩
theorem filter_map_eq7 {α β γ:Type} {f:α→γ} {g:β→γ} {p:α→Bool} {q:β→Bool} {r:γ→Bool}:∀ {l:List α} {m:List β},l.map f=m.map g→(∀ x∈l,p x=r (f x))→(∀ y∈m,q y=r (g y))→(l.filter p).map f=(m.filter q).map g
 | [],[],_,_,_=>rfl
 | [],_::_,h,_,_=>by simp at h
 | _::_,[],h,_,_=>by simp at h
 | x::l,y::m,e,hp,hq=>by
  simp only [List.map_cons,List.cons.injEq] at e
  have ih:=filter_map_eq7 e.2 (fun z hz=>hp z (by simp [hz])) (fun z hz=>hq z (by simp [hz]))
  have hpq:p x=q y:=by rw [hp x (by simp),hq y (by simp),e.1]
  cases hb:p x with
  | true=>rw [List.filter_cons_of_pos hb,List.filter_cons_of_pos (hpq▸hb),List.map_cons,List.map_cons,ih,e.1]
  | false=>rw [List.filter_cons_of_neg (by simp [hb]),List.filter_cons_of_neg (by simp [← hpq,hb]),ih]
theorem wd_same {u n:Nat} (hn:n∈cfgs u) {l:List ItV} {ts:List TkV} {ds:List DV} {rs:List RtV} {cs:List (List Nat×Option Addr)} (h1:TkG l ts ds) (h2:RtG u l rs cs):wdR (ofR n rs)=clsN ts (cfg n) ts.length:=by
 have e:=filter_map_eq7 (f:=fun r:RtV=>r.x) (g:=fun t:TkV=>t.x) (p:=fun r=>decide (n∈r.c)) (q:=fun t=>t.d.ev (cfg n)) (r:=fun x=>setF x.q (cfg n)) (l:=rs) (m:=ts) (h2.x.trans h1.x.symm)
  (fun r hr=>by rw [(h2.d r hr).1];exact mem_those7 hn) (fun t ht=>(h1.d t ht).2.1 _)
 have e2:=congrArg (fun z=>z.map fun x:ItV=>x.t) e
 simp only [List.map_map] at e2
 rw [wdR_words,clsN_words]
 exact congrArg (fun z=>z.foldl (fun k x=>nxW x k) ([],false)) e2
theorem stand_cfgs {u:Nat} (hu:u<16777216) {q:List QB} (hq:inU q u) {l:List ItV} {ts:List TkV} {ds:List DV} (h1:TkG l ts ds) (i1:∀ y∈l,inU y.q u):Stand ts (setF q) ((cfgs u).map cfg):=fun c=>by
 have hb:∀ k,u.testBit k=true→c k=cfg (onU u c 32) k:=fun k hk=>by
  have hk24:k<24:=by
   refine Classical.byContradiction fun hn=>?_
   have h2:(2:Nat) ^ 24≤2 ^ k:=Nat.pow_le_pow_right (by decide) (by omega)
   rw [Nat.testBit_lt_two_pow (Nat.lt_of_lt_of_le hu h2)] at hk
   cases hk
  show c k=(onU u c 32).testBit k
  rw [onU_bit,hk,decide_eq_true (by omega:k<32)]
  rfl
 refine ⟨cfg (onU u c 32),List.mem_map_of_mem (mem_cfgsN.2 ⟨onU_lt u c 32,fun i hi=>?_⟩),setF_dep hq c _ hb,fun t ht=>?_⟩
 ·rw [onU_bit,Bool.and_eq_true,Bool.and_eq_true] at hi
  exact hi.1.2
 ·rw [(h1.d t ht).2.1,(h1.d t ht).2.1]
  exact setF_dep (i1 _ (by rw [← h1.x];exact List.mem_map_of_mem ht)) c _ hb
theorem grpN_congr {f g:Nat→List UInt8} {d:List Nat} (h:∀ n∈d,f n=g n):grpN f d=grpN g d:=by
 have key:∀ (l:List Nat) (o:List (List UInt8×List Nat)),(∀ n∈l,f n=g n)→l.foldl (fun o n=>grp1 (f n) n o) o=l.foldl (fun o n=>grp1 (g n) n o) o:=by
  intro l
  induction l with
  | nil=>intro o _;rfl
  | cons n l ih=>intro o hl;rw [List.foldl_cons,List.foldl_cons,hl n (List.mem_cons_self ..)];exact ih _ fun m hm=>hl m (List.mem_cons_of_mem _ hm)
 exact key d [] h
theorem wdA_dep {u:Nat} {l:List ItV} {ts:List TkV} {ds:List DV} (h1:TkG l ts ds) (i1:∀ y∈l,inU y.q u) {c c':Cf} (hc:∀ k,u.testBit k=true→c k=c' k):wdA ts c=wdA ts c':=by
 unfold wdA
 rw [clsN_congr (c':=c') (fun t ht=>?_) ts.length]
 rw [(h1.d t ht).2.1,(h1.d t ht).2.1]
 exact setF_dep (i1 _ (by rw [← h1.x];exact List.mem_map_of_mem ht)) c c' hc
theorem thoseL_F {u:Nat} {q:List QB} {ts:List TkV} {x:List UInt8}:((thoseL q u).filter fun n=>decide (wdA ts (cfg n)=x))=thoseF u (fun c=>setF q c&&decide (wdA ts c=x)):=by
 unfold thoseL thoseF
 rw [List.filter_filter]
 refine List.filter_congr fun n hn=>?_
 rw [inN_set,Bool.and_comm]
section
variable {u : Nat} {q : List QB} {l : List ItV} {ts : List TkV} {ds : List DV} {rs : List RtV} {cs : List (List Nat × Option Addr)} {W : Cf → Bool} {cf : List Cf} {R : ClR} {done : List ClK} {o S : List PrV}
theorem pr_ev (hP:PrG ts W cf R done o) (hW:∀ c,W c=setF q c) {t:PrV} (ht:t∈o) (c:Cf):t.d.ev c=(setF q c&&decide (wdA ts c=t.x)):=by
 rw [hP.ev ht c,hW]
theorem pr_ok (hP:PrG ts W cf R done o) {t:PrV} (ht:t∈o):t.d.ok 0:=by
 obtain ⟨m,rfl,_,hg⟩:=hP.j
 exact (hg.d t ht).1
theorem pr_dep (hP:PrG ts W cf R done o) (hW:∀ c,W c=setF q c) (hq:inU q u) (h1:TkG l ts ds) (i1:∀ y∈l,inU y.q u) {t:PrV} (ht:t∈o):dep u t.d.ev:=fun c c' hc=>by
 rw [pr_ev hP hW ht,pr_ev hP hW ht,setF_dep hq c c' hc,wdA_dep h1 i1 hc]
theorem pr_those (hP:PrG ts W cf R done o) (hW:∀ c,W c=setF q c) {t:PrV} (ht:t∈o):thoseF u t.d.ev=(thoseL q u).filter fun n=>decide (wdA ts (cfg n)=t.x):=by
 rw [thoseL_F]
 congr 1
 funext c
 exact pr_ev hP hW ht c
theorem pr_least (hu:u<16777216) (hP:PrG ts W cf R done o) (hW:∀ c,W c=setF q c) (hq:inU q u) (h1:TkG l ts ds) (i1:∀ y∈l,inU y.q u) {t:PrV} (ht:t∈o):
  ((thoseL q u).filter fun n=>decide (wdA ts (cfg n)=t.x))≠[]∧(leastT t.d).1=((thoseL q u).filter fun n=>decide (wdA ts (cfg n)=t.x)).headD 0:=by
 have h:=least_head (Nat.lt_trans hu (by decide)) (pr_ok hP ht) (pr_dep hP hW hq h1 i1 ht) (hP.ne ht)
 rw [pr_those hP hW ht] at h
 exact h.2
theorem pr_strict (hu:u<16777216) (hP:PrG ts W cf R done o) (hW:∀ c,W c=setF q c) (hq:inU q u) (h1:TkG l ts ds) (i1:∀ y∈l,inU y.q u) (hS:S.Perm o) (hs:S.Pairwise fun a b=>(leastT a.d).1≤(leastT b.d).1):
  S.Pairwise fun a b=>(leastT a.d).1<(leastT b.d).1:=by
 have hw:(S.map fun t=>t.x).Nodup:=(hS.map _).nodup_iff.2 hP.words
 have hw2:S.Pairwise fun a b=>a.x≠b.x:=List.pairwise_map.1 hw
 refine List.Pairwise.imp_of_mem (fun {a b} ha hb hab=>?_) (hw2.and hs)
 obtain ⟨hne,hle⟩:=hab
 refine Nat.lt_of_le_of_ne hle fun e=>hne ?_
 obtain ⟨a1,a2⟩:=pr_least hu hP hW hq h1 i1 (hS.mem_iff.1 ha)
 obtain ⟨b1,b2⟩:=pr_least hu hP hW hq h1 i1 (hS.mem_iff.1 hb)
 obtain ⟨n,r,e1⟩:=List.exists_cons_of_ne_nil a1
 obtain ⟨m,s,e2⟩:=List.exists_cons_of_ne_nil b1
 have m1:n∈(thoseL q u).filter fun n=>decide (wdA ts (cfg n)=a.x):=by rw [e1];exact List.mem_cons_self ..
 have m2:m∈(thoseL q u).filter fun n=>decide (wdA ts (cfg n)=b.x):=by rw [e2];exact List.mem_cons_self ..
 rw [e1] at a2
 rw [e2] at b2
 have hnm:n=m:=a2.symm.trans (e.trans b2)
 subst hnm
 have k1:wdA ts (cfg n)=a.x:=by simpa using (List.mem_filter.1 m1).2
 have k2:wdA ts (cfg n)=b.x:=by simpa using (List.mem_filter.1 m2).2
 exact k1.symm.trans k2
theorem products_eq (hu:u<16777216) (hP:PrG ts W cf R done o) (hW:∀ c,W c=setF q c) (hq:inU q u) (h1:TkG l ts ds) (i1:∀ y∈l,inU y.q u) (h2:RtG u l rs cs) (hS:S.Perm o) (hs:S.Pairwise fun a b=>(leastT a.d).1≤(leastT b.d).1):
  S.map (gpP ts (thoseL q u))=grpN (fun n=>(wdR (ofR n rs)).1) (thoseL q u):=by
 have hcf:∀ n∈thoseL q u,n∈cfgs u:=fun n hn=>by unfold thoseL at hn;exact (List.mem_filter.1 hn).1
 rw [grpN_congr (g:=fun n=>wdA ts (cfg n)) fun n hn=>by rw [wd_same (hcf n hn) h1 h2]]
 refine prod_order hP hS ((cfgsN_up u 32).sublist (by unfold thoseL;exact List.filter_sublist)) (fun n hn=>?_) (lst:=fun t=>(leastT t.d).1) (fun t ht=>pr_least hu hP hW hq h1 i1 ht) (pr_strict hu hP hW hq h1 i1 hS hs)
 rw [hW,← mem_those7 (hcf n hn)]
 exact decide_eq_true hn
theorem products_len (hu:u<16777216) (hP:PrG ts W cf R done o) (hW:∀ c,W c=setF q c) (hq:inU q u) (h1:TkG l ts ds) (i1:∀ y∈l,inU y.q u) (h2:RtG u l rs cs):o.length=(grpN (fun n=>(wdR (ofR n rs)).1) (thoseL q u)).length:=by
 have hp:=List.mergeSort_perm o fun a b=>decide ((leastT a.d).1≤(leastT b.d).1)
 have hs:=List.pairwise_mergeSort (le:=fun a b:PrV=>decide ((leastT a.d).1≤(leastT b.d).1)) (fun a b c h1 h2=>by simp at h1 h2 ⊢;omega) (fun a b=>by simp;omega) o
 rw [← products_eq hu hP hW hq h1 i1 h2 hp (hs.imp fun h=>by simpa using h),List.length_map,hp.length_eq]
theorem products_alike (hu:u<16777216) (hP:PrG ts W cf R done o) (hW:∀ c,W c=setF q c) (hq:inU q u) (h1:TkG l ts ds) (i1:∀ y∈l,inU y.q u) {t:PrV} (ht:t∈o):
  alikeF t.d ((thoseL q u).filter fun n=>decide (wdA ts (cfg n)=t.x)) u=true:=by
 rw [thoseL_F]
 refine alike_good (pr_ok hP ht) (pr_ev hP hW ht) (fun c c' hc=>?_) (by omega)
 show (setF q c&&decide (wdA ts c=t.x))=(setF q c'&&decide (wdA ts c'=t.x))
 rw [setF_dep hq c c' hc,wdA_dep h1 i1 hc]
end
open Go Go.Eng Go.Proofs Dg
structure OneR (x:RwV) (u:Nat):Prop where
 uu:u<4294967296
 xi:x.i.length<300
 xn:x.n.length<300
 xp:∀ z∈x.i,z.p.length≤1000000000
 xq:∀ z∈x.n,z.p.length≤1000000000
 xu:∀ z∈x.i,inU z.q u
theorem OneR.of {x:RwV} {uu n:Nat} (hu:uu<16777216) (hn:n<300) (hx:RbR uu n x):OneR x uu:=by
 have nx:=hx.nn
 exact ⟨by omega,by omega,by omega,fun z hz=>by have:=(hx.i z hz).nn;omega,fun z hz=>by have:=(hx.o z hz).nn;omega,fun z hz=>(hx.i z hz).b.inU⟩
theorem pr_at {A:List TkV} {D:List Nat} {S:List PrV} {ro:List RpV} (h:ro.map rpK=S.map (gpP A D)) {i:Nat} {t:PrV} (ht:S[i]?=some t):∃ z,ro[i]?=some z∧z.w=t.x∧z.c=D.filter fun n=>decide (wdA A (cfg n)=t.x):=by
 have h1:(ro.map rpK)[i]?=(S.map (gpP A D))[i]?:=by rw [h]
 rw [List.getElem?_map,List.getElem?_map,ht] at h1
 cases hz:ro[i]? with
 | none=>rw [hz] at h1;cases h1
 | some z=>
  rw [hz] at h1
  injection h1 with h1
  exact ⟨z,rfl,congrArg Prod.fst h1,congrArg Prod.snd h1⟩
theorem rpF_rd {w0 w:World} {O:List Nat} {C:List Chunk} {ro:List RpV} {i:Nat} {z:RpV} (hS:St w0 O (rpF ro::C) w) (hz:ro[i]?=some z):RdN w z.c z.ca:=
 RdSl.of_row (fun _ _=>rfl) (fun h=>h) (Nat.le_refl _) ((rpF_open hS hz).ok (rpW z) (List.mem_cons_self ..))
theorem stand7 {A:List TkV} {W V:Cf→Bool} {cs:List Cf} (e:∀ c,W c=V c) (h:Stand A V cs):Stand A W cs:=fun c=>by
 obtain ⟨c',h1,h2,h3⟩:=h c
 exact ⟨c',h1,by rw [e,e];exact h2,h3⟩
theorem cfgs_ne {u:Nat}:cfgs u≠[]:=fun h=>by
 have h1:(cfgs u).length=2 ^ popN u 32:=cfgsN_pop u 32
 rw [h] at h1
 have:=Nat.pow_pos (n:=popN u 32) (show 0<2 by decide)
 rw [List.length_nil] at h1
 omega
theorem rd7 {w0 w:World} {O:List Nat} {C:List Chunk} {f:Cf→Bool} {zs:DRes f} {F:List Nat} {ds:List DV} {t:PrV} (h:(t.d,t.da,t.dc)∈ds∨((t.d,t.da,t.dc):DV)=(zs.1.1,zs.1.2.1,zs.1.2.2)) (hS:St w0 O C w) (h1:dsC F ds∈C) (h2:zs.ch∈C):RdD w t.d t.da:=by
 rcases h with h | h
 ·exact dsC_rd (hS.ok _ h1) h
 have e1:t.d=zs.1.1:=congrArg (fun z:DV=>z.1) h
 have e2:t.da=zs.1.2.1:=congrArg (fun z:DV=>z.2.1) h
 rw [e1,e2]
 exact zs.rd hS h2
set_option maxRecDepth 100000 in
theorem SourceProducts_c (x:RwV) (q:List QB) (qa:Option Addr) (qc:Nat) (most:Int) (w:World) (hl:LibW w) (hg:SgW w) (haw:∀ w,LibW w→SgW w→Pure Tryz.prog 6 [] w (.bool true)) (hx:RwR w x) (hql:q.length≤LM) (hq:RdSl qC 2 w q qa) (hqo:∀ z∈q,qOk z):
  Pure Tryz.prog 4 [.agg (rwC x).toArray,.slice qa q.length qc,.int .i64 most] w (.bool true):=by
 have hql9:q.length≤140737488351232:=hql
 refine enter Tryz.func4 rfl Tryz.ntmps4 rfl (St.init _) ?_
 refine jN 3 ?_
 refine WL.boxN rfl rfl (fun b3=>?_)
 refine jN 9 ?_
 refine WL.buildSlice F.sl22 F.ez22 rfl rfl rfl rfl jB rfl (fun b17=>?_)
 refine jN 3 ?_
 refine WL.call0 (β:=Nat×Nat×Bool) (res:=fun z=> .returned (.tuple #[.int .u32 (z.1:Int),.bool z.2.2])) (cs:=fun _=>[]) (ψ:=fun z=>z.1<16777216∧(z.2.2=true→z.2.1<300∧subN (bitsQ q) z.1∧(popN z.1 32:Int)≤6∧∀ a∈[x],RbR z.1 z.2.1 a)) F.fun5 (fun d h=>by cases h;rfl) rfl (fun w hS=>(rowBits7_c [x] (some ⟨b17,0,none⟩) 1 q qa qc 6 w (by (show 1≤LM);decide) (RdSl.of_pt (fun _ _=>rfl) (hS.ok (pt b17 ([x].flatMap rwC) 43) jM)) (fun a ha=>(by rw [List.mem_singleton.1 ha];exact hx.next hS)) hql (hq.next hS) hqo).mono (fun e w2 ⟨u,n,b,h1,h2,h3,h4⟩=>⟨(u,n,b),⟨h1,fun hb=>⟨(h2 hb).1,(h2 hb).2.2.2.1,(h2 hb).2.2.2.2.1,(h2 hb).2.2.2.2.2⟩⟩,h3,h4⟩)) (fun ⟨u,n,b⟩ ⟨hu,hub⟩=>?_)
 dsimp only at hu hub
 show WA _ _ _ _ _ ((19,.tuple #[.int .u32 (u:Int),.bool b])::_) _
 refine jN 21 ?_
 refine WC.cond rfl (fun h23=>?_) (fun h23=>?_)
 ·refine jN 3 ?_
  refine WL.callV F.fun6 rfl rfl (fun w hS=>haw w (hl.next hS) (hg.next hS)) ?_
  refine jN 6 ?_
  exact WQ.ret (rs:=[.tmp 6]) rfl (.tmp rfl .nil) (fun w hS=>⟨rfl,hS.sublist (List.nil_sublist _)⟩)
 have hb:b=true:=by simpa using h23
 obtain ⟨hn,hqu,hpop,hrb⟩:=hub hb
 have hrbx:=hrb x (List.mem_singleton.2 rfl)
 have htw:OneR x u:=OneR.of hu hn hrbx
 have huu:=htw.uu
 have hcf:(cfgs u).length≤64:=cfgs_few hpop
 have htl:(thoseL q u).length≤64:=Nat.le_trans (List.length_filter_le _ _) hcf
 refine jN 9 ?_
 refine WL.call0 (β:=MdV) (res:=fun m=> .returned (.tuple #[.agg (mdA m).toArray,.agg (mdB m).toArray])) (cs:=fun m=>[mdT m,mdR m,mdD m,mdH m,dsC m.F m.ds,insC m.G m.cs]) (ψ:=fun m=>MdG u x x.i.length x.n.length m) F.fun7 (fun d h=>by cases h;rfl) rfl (fun w hS=>(made_c x u htw.uu htw.xi htw.xn w (hx.next hS)).mono (fun e w2 ⟨m,h1,h2,h3⟩=>⟨m,h1,h2,h3⟩)) (fun ⟨ts,ta,tc,rs,ra,rc,gs,ga,gc,hs,ha,hc,F9,ds,G9,cs⟩ hm1=>?_)
 have t1:TkG x.i ts ds:=by have:=hm1.t;rwa [List.take_length] at this
 have r1:RtG u x.i rs cs:=by have:=hm1.r;rwa [List.take_length] at this
 have l1:ts.length=x.i.length:=by rw [← t1.x,List.length_map]
 have l2:rs.length=x.i.length:=by rw [← r1.x,List.length_map]
 have hx3:=htw.xi
 have hst:Stand ts (setF q) ((cfgs u).map cfg):=stand_cfgs hu hqu.inU t1 htw.xu
 have hBr:∀ t∈rs,t.x.t.length≤1000000:=fun t ht=>by have h9:=(hrbx.i t.x (hm1.rm ht)).nn;omega
 have hBt:∀ t∈ts,t.x.t.length≤1000000:=fun t ht=>by have h9:=(hrbx.i t.x (hm1.tm ht)).nn;omega
 show WA _ _ _ _ _ ((28,.tuple #[.agg [.slice ta ts.length tc,.slice ga gs.length gc].toArray,.agg [.slice ra rs.length rc,.slice ha hs.length hc].toArray])::_) ((rowc (.slice ta ts.length tc) ts.length 89 7 (ts.flatMap tkC))::(rowc (.slice ra rs.length rc) rs.length 93 6 (rs.flatMap rtC))::mdD (⟨ts,ta,tc,rs,ra,rc,gs,ga,gc,hs,ha,hc,F9,ds,G9,cs⟩:MdV)::mdH (⟨ts,ta,tc,rs,ra,rc,gs,ga,gc,hs,ha,hc,F9,ds,G9,cs⟩:MdV)::dsC F9 ds::insC G9 cs::_)
 refine jN 7 ?_
 refine WL.alloc F.zero33 rfl (fun b9=>?_)
 refine jN 1 ?_
 refine WL.alloc F.zero37 rfl (fun b10=>?_)
 refine jN 7 ?_
 refine WC.drawsL (by kernel_rfl) (FactsOk.cons (ds:=[5]) (LoadOk.one (t:=10) (off:=0) rfl jM rfl) (FactsOk.nil)) ?_
 refine jT 0 rfl (Yl.fieldAddr0 F.fld37_0 rfl) ?_
 refine jF 1 0 rfl rfl (Yl.load1 F.one34 rfl) ?_
 refine jQ [2,3] ?_
 refine jA 4 rfl ?_
 refine WL.call0 (β:=Option Addr×Nat) (res:=fun x=> .returned (.slice x.1 (thoseL q u).length x.2)) (cs:=fun x=>[rowc (.slice x.1 (thoseL q u).length x.2) (thoseL q u).length 24 1 ((thoseL q u).flatMap nC)]) (ψ:=fun _=>True) F.fun14 (fun d h=>by cases h;rfl) rfl (fun w hS=>(those_c q qa qc (Nat.le_trans hql (by decide)) u huu w (hq.next hS) hqo).mono (fun e w2 ⟨x,h1,h2⟩=>⟨x,trivial,h1,h2⟩)) (fun ⟨xa,xc⟩ _=>?_)
 refine WD.on (closed_of (by decide+kernel)) (fun w hS=>Sx.keep (hS.cell jM rfl) (Sx.none)) ?_
 refine jA 5 rfl ?_
 refine WL.call0 (β:=RpG) (res:=fun z=> .returned (.slice z.a z.o.length z.c)) (cs:=fun z=>[rowc (.slice z.a (z.o).length z.c) (z.o).length 69 2 ((z.o).flatMap rpC),rpF z.o]) (ψ:=fun z=>z.o.map rpK=grpN (fun n=>(wdR (ofR n rs)).1) (thoseL q u)) F.fun19 (fun d h=>by cases h;rfl) rfl (fun w hS=>(rProducts_c rs (by omega) ra rc (thoseL q u) (by omega) xa xc w (hm1.rsR hx htw.xp hS jM jM).r hBr (hm1.rsR hx htw.xp hS jM jM).d (RdSl.of_row (fun _ _=>rfl) (fun h=>h) (Nat.le_refl _) (hS.ok (rowc (.slice xa (thoseL q u).length xc) (thoseL q u).length 24 1 ((thoseL q u).flatMap nC)) jM))).mono (fun e w2 ⟨z,h1,h2,h3⟩=>⟨z,h1,h2,h3⟩)) (fun ⟨ri,ro,roa,roc⟩ hro=>?_)
 refine jG ?_
 dsimp only at hro
 have hrol:ro.length≤64:=by have h9:=congrArg List.length hro;rw [List.length_map] at h9;have h8:=grpN_len (f:=(fun n=>(wdR (ofR n rs)).1)) (d:=thoseL q u) (thoseL q u).length;rw [List.take_length] at h8;omega
 refine jQ [6] ?_
 refine jD ?_
 refine jN 2 ?_
 refine WC.drawsL (by kernel_rfl) (FactsOk.cons (ds:=[4]) (LoadOk.whole (t:=9) rfl jM) (FactsOk.nil)) ?_
 refine jF 0 0 rfl rfl (Yl.loadN F.agg33 rfl rfl) ?_
 refine jQ [1,3] ?_
 refine jA 2 rfl ?_
 refine WL.call0 (β:=DRes (setF q)) (res:=fun z=> .returned z.v) (cs:=fun z=>[z.ch]) (ψ:=fun _=>True) F.fun12 (fun d h=>by cases h;rfl) rfl (fun w hS=>(set6_c q qa qc (Nat.le_trans hql (by decide)) w (hq.next hS) hqo).mono (fun e w2 ⟨x,h1,h2⟩=>⟨x,trivial,h1,h2⟩)) (fun zs _=>?_)
 refine WD.on (closed_of (by decide+kernel)) (fun w hS=>Sx.keep ((fun j v hv=>by rw [Nat.zero_add];exact hS.cell jM hv)) (Sx.none)) ?_
 refine jA 4 rfl ?_
 refine WL.call0 (β:=PrY) (res:=fun y=> .returned (.tuple #[.slice y.a y.S.length y.c,.int .i64 (y.e:Int)])) (cs:=fun y=>[pyR y,dsC y.F y.ds]) (ψ:=fun y=>PrQ (fun v=>v=(zs.1.1,zs.1.2.1,zs.1.2.2)) ts zs.1.1.ev ((cfgs u).map cfg) most y) F.fun20 (fun d h=>by cases h;rfl) rfl (fun w hS=>(Products_c ts (by omega) hBt ta tc (.slice ga gs.length gc) rfl zs.1.1 zs.1.2.1 zs.1.2.2 most ((cfgs u).map cfg) (by rw [Ne,List.map_eq_nil_iff];exact cfgs_ne) (by rw [List.length_map];omega) (stand7 zs.2.2 hst) w (hm1.tsR hx htw.xp hS jM jM) (fun v=>v=(zs.1.1,zs.1.2.1,zs.1.2.2)) (fun v hv=>by rw [hv];exact zs.rd hS jM) rfl).mono (fun e w2 ⟨y,h1,h2,h3⟩=>⟨y,h1,h2,h3⟩)) (fun ⟨ye,yS,ya,yc,yF,yds⟩ hy=>?_)
 refine jG ?_
 obtain ⟨hyc,hyd⟩:=hy
 dsimp only at hyc hyd
 refine jQ [5] ?_
 refine jT 6 rfl (Yl.extract rfl rfl) ?_
 refine jT 7 rfl (Yl.extract rfl rfl) ?_
 refine jQ [8,9] ?_
 refine jD ?_
 refine jN 10 ?_
 refine WC.cond rfl (fun h46=>?_) (fun h46=>?_)
 ·have hmo:most<0:=by simpa using h46
  have hq9:ye=3∧yS=[]:=by rcases hyc with ⟨_,h1,h2⟩ | ⟨h1,_⟩;exact ⟨h1,h2⟩;omega
  obtain ⟨rfl,rfl⟩:=hq9
  refine jN 8 ?_
  refine WA.splitB (i:=49) rfl (fun g49=>?_) (fun g49=>?_)
  ·refine jN 13 ?_
   refine WA.splitB (i:=54) rfl (fun g54=>?_) (fun g54=>?_)
   ·refine jN 2 ?_
    refine WL.callV F.fun6 rfl rfl (fun w hS=>haw w (hl.next hS) (hg.next hS)) ?_
    refine jN 8 ?_
    exact WQ.ret (rs:=[.tmp 6]) rfl (.tmp rfl .nil) (fun w hS=>⟨rfl,hS.sublist (List.nil_sublist _)⟩)
   exfalso;simp at g54
  exfalso;simp at g49
 have hmo: ¬ most<0:=by simpa using h46
 obtain ⟨_,R,done,o,hPG,hcs⟩:0≤most∧∃ R done o,PrG ts zs.1.1.ev ((cfgs u).map cfg) R done o∧((most<o.length∧ye=5∧yS=[])∨(¬ most<o.length∧ye=0∧yS.Perm o∧yS.Pairwise fun a b=>(leastT a.d).1≤(leastT b.d).1)):=by rcases hyc with ⟨h1,_⟩ | h1;exact absurd h1 hmo;exact h1
 have hlen:o.length=ro.length:=by rw [products_len hu hPG (fun c=>zs.2.2 c) hqu.inU t1 htw.xu r1,← hro,List.length_map]
 refine jN 15 ?_
 refine WC.cond rfl (fun h60=>?_) (fun h60=>?_)
 ·have hgt:most<ro.length:=by simpa using h60
  have hq9:ye=5∧yS=[]:=by rcases hcs with ⟨_,h1,h2⟩ | ⟨h1,_⟩;exact ⟨h1,h2⟩;exact absurd hgt (by rw [← hlen];exact h1)
  obtain ⟨rfl,rfl⟩:=hq9
  refine jN 8 ?_
  refine WA.splitB (i:=63) rfl (fun g63=>?_) (fun g63=>?_)
  ·refine jN 13 ?_
   refine WA.splitB (i:=68) rfl (fun g68=>?_) (fun g68=>?_)
   ·refine jN 2 ?_
    refine WL.callV F.fun6 rfl rfl (fun w hS=>haw w (hl.next hS) (hg.next hS)) ?_
    refine jN 8 ?_
    exact WQ.ret (rs:=[.tmp 6]) rfl (.tmp rfl .nil) (fun w hS=>⟨rfl,hS.sublist (List.nil_sublist _)⟩)
   exfalso;simp at g68
  exfalso;simp at g63
 have hgt: ¬ most<ro.length:=by simpa using h60
 obtain ⟨rfl,hSp,hSs⟩:ye=0∧yS.Perm o∧yS.Pairwise fun a b=>(leastT a.d).1≤(leastT b.d).1:=by rcases hcs with ⟨h1,_⟩ | ⟨_,h1⟩;exact absurd h1 (by rw [hlen];exact hgt);exact h1
 have hmap:ro.map rpK=yS.map (gpP ts (thoseL q u)):=by rw [hro,products_eq hu hPG (fun c=>zs.2.2 c) hqu.inU t1 htw.xu r1 hSp hSs]
 have hSl:yS.length=ro.length:=by rw [← hlen];exact hSp.length_eq
 refine jN 11 ?_
 refine WA.splitB (i:=73) rfl (fun g73=>?_) (fun g73=>?_)
 ·exfalso;simp at g73
 refine jN 19 ?_
 refine WC.cond rfl (fun h79=>?_) (fun h79=>?_)
 ·exfalso;rw [hSl] at h79;simp at h79
 refine jN 10 ?_
 refine WC.chunks (C':=[rowc (.slice roa ro.length roc) ro.length 69 2 (ro.flatMap rpC),rpF ro,rowc (.slice ya yS.length yc) yS.length 67 3 (yS.flatMap prC),dsC yF yds,zs.ch]) (fun w hS=>(jK hS)) ?_
 refine WC.loop (α:=Nat) (fun i=>i≤yS.length) (fun i=>[(7,.int .u32 (u:Int)),(11,.slice roa ro.length roc),(12,.slice ya yS.length yc),(14,.int .i64 (i:Int))]) (fun i=>[rowc (.slice roa ro.length roc) ro.length 69 2 (ro.flatMap rpC),rpF ro,rowc (.slice ya yS.length yc) yS.length 67 3 (yS.flatMap prC),dsC yF yds,zs.ch]) (fun i=>yS.length - i) (0) ?_ ?_ ?_ ?_
 ·exact Nat.zero_le _
 ·exact ⟨rfl,rfl,rfl,rfl,trivial⟩
 ·rfl
 rintro i hi
 show WC _ _ _ _ _ _ _ [(7,.int .u32 (u:Int)),(11,.slice roa ro.length roc),(12,.slice ya yS.length yc),(14,.int .i64 (i:Int))] [rowc (.slice roa ro.length roc) ro.length 69 2 (ro.flatMap rpC),rpF ro,rowc (.slice ya yS.length yc) yS.length 67 3 (yS.flatMap prC),dsC yF yds,zs.ch]
 refine jN 13 ?_
 refine WC.cond rfl (fun h83=>?_) (fun h83=>?_)
 ·have hlt:i<yS.length:=by simpa using h83
  have hlt2:i<ro.length:=by omega
  obtain ⟨t,ht⟩:∃ z,yS[i]?=some z:=⟨_,List.getElem?_eq_getElem hlt⟩
  obtain ⟨z,hz,hzw,hzc⟩:=pr_at hmap ht
  have hto:t∈o:=hSp.mem_iff.1 (List.mem_of_getElem? ht)
  have hal:=products_alike hu hPG (fun c=>zs.2.2 c) hqu.inU t1 htw.xu hto
  have hzl:∀ n∈z.c,n<4294967296:=fun n hn=>thoseL_32 n (by rw [hzc] at hn;exact (List.mem_filter.1 hn).1)
  have hzn:z.c.length≤64:=by rw [hzc];exact Nat.le_trans (List.length_filter_le _ _) htl
  refine WC.know (φ:=∃ g,ya=some ⟨g,0,none⟩∧yS.length=yS.length∧yS.length≤yc) (fun w hS=>rowc_addr (hS.ok (rowc (.slice ya yS.length yc) yS.length 67 3 (yS.flatMap prC)) jM) (by omega)) (fun ⟨gy,hgy,_,_⟩=>?_)
  subst hgy
  refine WC.know (φ:=∃ g,roa=some ⟨g,0,none⟩∧ro.length=ro.length∧ro.length≤roc) (fun w hS=>rowc_addr (hS.ok (rowc (.slice roa ro.length roc) ro.length 69 2 (ro.flatMap rpC)) jM) (by omega)) (fun ⟨gr,hgr,_,_⟩=>?_)
  subst hgr
  refine jN 5 ?_
  refine WC.drawsL (by kernel_rfl) (FactsOk.cons (ds:=[23]) (LoadOk.by (Y:=fun w=>w.cell? ⟨gy,0+i*3,none⟩=some (.string (str t.x))) (fun w hS=>(by rw [Nat.zero_add];exact rowc_cells (hS.ok (jW gy yS.length yc 67 3 (yS.flatMap prC)) jM) (flat_at (cells:=prC) (sz:=3) (fun _ _=>rfl) ht 0 _ rfl)))) (FactsOk.cons (ds:=[23]) (LoadOk.by (Y:=fun w=>w.cell? ⟨gr,0+i*2,none⟩=some (.string (str z.w))) (fun w hS=>(by rw [Nat.zero_add];exact rowc_cells (hS.ok (jW gr ro.length roc 69 2 (ro.flatMap rpC)) jM) (flat_at (cells:=rpC) (sz:=2) (fun _ _=>rfl) hz 0 _ rfl)))) (FactsOk.cons (ds:=[23]) (LoadOk.by (Y:=fun w=>∀ j v,([.slice t.da (canon t.d).1.length t.dc,.int .i64 ((canon t.d).2:Int)]:List Value)[j]?=some v→w.cell? ⟨gy,0+i*3+1+j,none⟩=some v) (fun w hS=>(fun j v hv=>(by rw [Nat.zero_add,Nat.add_assoc];exact rowc_cells (hS.ok (jW gy yS.length yc 67 3 (yS.flatMap prC)) jM) (flat_at (cells:=prC) (sz:=3) (fun _ _=>rfl) ht (1+j) _ (by rw [Nat.add_comm];exact hv)))))) (FactsOk.cons (ds:=[23]) (LoadOk.by (Y:=fun w=>w.cell? ⟨gr,0+i*2+1,none⟩=some (.slice z.ca z.c.length z.cc)) (fun w hS=>(by rw [Nat.zero_add];exact rowc_cells (hS.ok (jW gr ro.length roc 69 2 (ro.flatMap rpC)) jM) (flat_at (cells:=rpC) (sz:=2) (fun _ _=>rfl) hz 1 _ rfl)))) (FactsOk.nil))))) ?_
  refine jQ [0,1] ?_
  refine jT 2 rfl (Yl.indexAddr F.sl62 rfl rfl hlt) ?_
  refine jT 3 rfl (Yl.fieldAddr F.fld67_0 rfl) ?_
  refine jF 4 0 rfl rfl (Yl.load1 F.one9 rfl) ?_
  refine jQ [5,6] ?_
  refine jT 7 rfl (Yl.indexAddr F.sl60 rfl rfl hlt2) ?_
  refine jT 8 rfl (Yl.fieldAddr F.fld69_0 rfl) ?_
  refine jF 9 1 rfl rfl (Yl.load1 F.one9 rfl) ?_
  refine jQ [10,11] ?_
  refine fun hcl=>WA.splitB (i:=97) rfl (fun g97=>?_) (fun g97=>?_)
  ·refine (show WD _ _ _ _ _ _ _ _ _ _ _ _ from ?_) hcl
   exfalso;rw [hzw] at g97;simp at g97
  refine (show WD _ _ _ _ _ _ _ _ _ _ _ _ from ?_) hcl
  refine jQ [12,13] ?_
  refine WD.takeG (i:=14) rfl rfl rfl rfl rfl rfl (by decide+kernel) (by decide+kernel) (by decide+kernel) (fun _ _ _ h=>h) (by kernel_rfl) need_none (Yl.indexAddr F.sl62 rfl rfl hlt) ?_
  refine WD.takeG (i:=15) rfl rfl rfl rfl rfl rfl (by decide+kernel) (by decide+kernel) (by decide+kernel) (fun _ _ _ h=>h) (by kernel_rfl) need_none (Yl.fieldAddr F.fld67_1 rfl) ?_
  refine WD.takeG (i:=16) rfl rfl rfl rfl rfl rfl (by decide+kernel) (by decide+kernel) (by decide+kernel) (fun _ _ _ h=>h) (by kernel_rfl) (need_at2 2 rfl (by decide+kernel)) (Yl.loadN F.agg50 rfl rfl) ?_
  refine jQ [17,18] ?_
  refine WD.takeG (i:=19) rfl rfl rfl rfl rfl rfl (by decide+kernel) (by decide+kernel) (by decide+kernel) (fun _ _ _ h=>h) (by kernel_rfl) need_none (Yl.indexAddr F.sl60 rfl rfl hlt2) ?_
  refine WD.takeG (i:=20) rfl rfl rfl rfl rfl rfl (by decide+kernel) (by decide+kernel) (by decide+kernel) (fun _ _ _ h=>h) (by kernel_rfl) need_none (Yl.fieldAddr F.fld69_1 rfl) ?_
  refine WD.takeG (i:=21) rfl rfl rfl rfl rfl rfl (by decide+kernel) (by decide+kernel) (by decide+kernel) (fun _ _ _ h=>h) (by kernel_rfl) (need_at2 3 rfl (by decide+kernel)) (Yl.load1 F.one53 rfl) ?_
  refine jQ [22] ?_
  refine jA 23 rfl ?_
  refine WL.guardT rfl rfl rfl ?_
  refine WL.callV F.fun21 rfl rfl (fun w hS=>alike_c t.d t.da t.dc z.c z.ca z.cc u huu hzl (by omega) w (rd7 (hyd t (List.mem_of_getElem? ht)) hS jM jM) (rpF_rd ((St.pick hS (c:=rpF ro) jR)) hz)) ?_
  refine jG ?_
  refine jQ [24,25] ?_
  refine jD ?_
  refine jN 1 ?_
  refine WC.cond rfl (fun h111=>?_) (fun h111=>?_)
  ·exfalso;rw [hzc,hal] at h111;simp at h111
  refine jN 11 ?_
  refine WQ.back (i+1:Nat) ?_ ?_ ?_ ?_
  ·show i+1≤yS.length;omega
  ·show yS.length - (i+1)<yS.length - i;omega
  ·exact ⟨rfl,rfl,rfl,rfl,trivial⟩
  rfl
 refine jN 8 ?_
 refine WL.callV F.fun6 rfl rfl (fun w hS=>haw w (hl.next hS) (hg.next hS)) ?_
 refine jN 5 ?_
 exact WQ.ret (rs:=[.tmp 6]) rfl (.tmp rfl .nil) (fun w hS=>⟨rfl,hS.sublist (List.nil_sublist _)⟩)
end Go.Proofs.YtedbajbgnmaakaaGreatDoor
namespace Go.Eng
open Go Go.RowKit
section
variable {P : Program} {w0 : World} {O : List Nat} {ops : Array Oper} {Q : Exit → Act → World → Prop} {N : Nat} {D : List Deferred} {L : FL} {C : List Chunk} {K : Act → World → Prop}
variable {d : Nat} {ty : TypeId} {pos : String} {af : Array Edge}
def fldTB (P:Program) (t:TypeId) (f:Nat):Option (TypeId×Nat):=match P.underlying t with
 | some (.struct fields)=>(fields[f]?).map fun fd=>(fd.type,fd.offset)
 | _=>none
theorem fldTB_some {t ft:TypeId} {f off:Nat} (h:fldTB P t f=some (ft,off)):∃ (fields:Array Field) (fd:Field),P.underlying t=some (.struct fields)∧fields[f]?=some fd∧fd.type=ft∧fd.offset=off:=by
 unfold fldTB at h
 split at h
 ·rename_i fields hu
  cases hq:fields[f]? with
  | none=>rw [hq] at h;cases h
  | some fd=>
   rw [hq] at h
   simp only [Option.map_some,Option.some.injEq,Prod.mk.injEq] at h
   exact ⟨fields,fd,hu,hq,h.1,h.2⟩
 cases h
end
end Go.Eng
namespace Go.X
open Go Go.Eng Go.RowKit Dg Go.Proofs.YtedbajbgnmaakaaGreatDoor
inductive SV where
 | int (k:IntKind) (i:Int)
 | bool (b:Bool)
 | str (l:List Nat)
 | ptr (s off:Nat)
 | nilp
 | sl (s i n sz:Nat) -- of a row,from element i on
 | slx (s off n cap:Nat) -- its capacity is known
 | nils
 | dg (t:BT) (s:Nat) -- a diagram's nodes
 | mp (s:Nat)
 | nilm
 | fn (f:Nat) (us cs:List SV)
 | nilf
 | ifc (t:Nat) (v:SV)
 | nili
 | agg (l:List SV)
 | tup (l:List SV)
 | opq (s:Nat) -- not known
 | yl (s:Nat) -- yield,of a loop's record
noncomputable def gAS (t:Fx (Option SV) 3) (k:Nat):Option SV:= @D8.rec (fun _=>Fx (Option SV) 1→Fx (Option SV) 0) (@P8.a0 (Fx (Option SV) 0)) (@P8.a1 (Fx (Option SV) 0)) (@P8.a2 (Fx (Option SV) 0)) (@P8.a3 (Fx (Option SV) 0)) (@P8.a4 (Fx (Option SV) 0)) (@P8.a5 (Fx (Option SV) 0)) (@P8.a6 (Fx (Option SV) 0)) (@P8.a7 (Fx (Option SV) 0)) (dg 64 k) (@D8.rec (fun _=>Fx (Option SV) 2→Fx (Option SV) 1) (@P8.a0 (Fx (Option SV) 1)) (@P8.a1 (Fx (Option SV) 1)) (@P8.a2 (Fx (Option SV) 1)) (@P8.a3 (Fx (Option SV) 1)) (@P8.a4 (Fx (Option SV) 1)) (@P8.a5 (Fx (Option SV) 1)) (@P8.a6 (Fx (Option SV) 1)) (@P8.a7 (Fx (Option SV) 1)) (dg 8 k) (@D8.rec (fun _=>Fx (Option SV) 3→Fx (Option SV) 2) (@P8.a0 (Fx (Option SV) 2)) (@P8.a1 (Fx (Option SV) 2)) (@P8.a2 (Fx (Option SV) 2)) (@P8.a3 (Fx (Option SV) 2)) (@P8.a4 (Fx (Option SV) 2)) (@P8.a5 (Fx (Option SV) 2)) (@P8.a6 (Fx (Option SV) 2)) (@P8.a7 (Fx (Option SV) 2)) (dg 1 k) t))
noncomputable def uAS (x:SV) (k:Nat) (t:Fx (Option SV) 3):Fx (Option SV) 3:=(@D8.rec (fun _=>(Fx (Option SV) 2→Fx (Option SV) 2)→Fx (Option SV) 3→Fx (Option SV) 3) (@up0 (Fx (Option SV) 2)) (@up1 (Fx (Option SV) 2)) (@up2 (Fx (Option SV) 2)) (@up3 (Fx (Option SV) 2)) (@up4 (Fx (Option SV) 2)) (@up5 (Fx (Option SV) 2)) (@up6 (Fx (Option SV) 2)) (@up7 (Fx (Option SV) 2)) (dg 1 k) (@D8.rec (fun _=>(Fx (Option SV) 1→Fx (Option SV) 1)→Fx (Option SV) 2→Fx (Option SV) 2) (@up0 (Fx (Option SV) 1)) (@up1 (Fx (Option SV) 1)) (@up2 (Fx (Option SV) 1)) (@up3 (Fx (Option SV) 1)) (@up4 (Fx (Option SV) 1)) (@up5 (Fx (Option SV) 1)) (@up6 (Fx (Option SV) 1)) (@up7 (Fx (Option SV) 1)) (dg 8 k) (@D8.rec (fun _=>(Fx (Option SV) 0→Fx (Option SV) 0)→Fx (Option SV) 1→Fx (Option SV) 1) (@up0 (Fx (Option SV) 0)) (@up1 (Fx (Option SV) 0)) (@up2 (Fx (Option SV) 0)) (@up3 (Fx (Option SV) 0)) (@up4 (Fx (Option SV) 0)) (@up5 (Fx (Option SV) 0)) (@up6 (Fx (Option SV) 0)) (@up7 (Fx (Option SV) 0)) (dg 64 k) (fun _=>some x)))) t
theorem gAS_eq (t:Fx (Option SV) 3) (k:Nat):gAS t k=leafN 1 3 t k:=rfl
theorem uAS_eq (x:SV) (k:Nat) (t:Fx (Option SV) 3):uAS x k t=updN (fun _=>some x) 1 3 k t:=rfl
noncomputable def gBS (t:Fx (Option SV) 5) (k:Nat):Option SV:= @D8.rec (fun _=>Fx (Option SV) 1→Fx (Option SV) 0) (@P8.a0 (Fx (Option SV) 0)) (@P8.a1 (Fx (Option SV) 0)) (@P8.a2 (Fx (Option SV) 0)) (@P8.a3 (Fx (Option SV) 0)) (@P8.a4 (Fx (Option SV) 0)) (@P8.a5 (Fx (Option SV) 0)) (@P8.a6 (Fx (Option SV) 0)) (@P8.a7 (Fx (Option SV) 0)) (dg 4096 k) (@D8.rec (fun _=>Fx (Option SV) 2→Fx (Option SV) 1) (@P8.a0 (Fx (Option SV) 1)) (@P8.a1 (Fx (Option SV) 1)) (@P8.a2 (Fx (Option SV) 1)) (@P8.a3 (Fx (Option SV) 1)) (@P8.a4 (Fx (Option SV) 1)) (@P8.a5 (Fx (Option SV) 1)) (@P8.a6 (Fx (Option SV) 1)) (@P8.a7 (Fx (Option SV) 1)) (dg 512 k) (@D8.rec (fun _=>Fx (Option SV) 3→Fx (Option SV) 2) (@P8.a0 (Fx (Option SV) 2)) (@P8.a1 (Fx (Option SV) 2)) (@P8.a2 (Fx (Option SV) 2)) (@P8.a3 (Fx (Option SV) 2)) (@P8.a4 (Fx (Option SV) 2)) (@P8.a5 (Fx (Option SV) 2)) (@P8.a6 (Fx (Option SV) 2)) (@P8.a7 (Fx (Option SV) 2)) (dg 64 k) (@D8.rec (fun _=>Fx (Option SV) 4→Fx (Option SV) 3) (@P8.a0 (Fx (Option SV) 3)) (@P8.a1 (Fx (Option SV) 3)) (@P8.a2 (Fx (Option SV) 3)) (@P8.a3 (Fx (Option SV) 3)) (@P8.a4 (Fx (Option SV) 3)) (@P8.a5 (Fx (Option SV) 3)) (@P8.a6 (Fx (Option SV) 3)) (@P8.a7 (Fx (Option SV) 3)) (dg 8 k) (@D8.rec (fun _=>Fx (Option SV) 5→Fx (Option SV) 4) (@P8.a0 (Fx (Option SV) 4)) (@P8.a1 (Fx (Option SV) 4)) (@P8.a2 (Fx (Option SV) 4)) (@P8.a3 (Fx (Option SV) 4)) (@P8.a4 (Fx (Option SV) 4)) (@P8.a5 (Fx (Option SV) 4)) (@P8.a6 (Fx (Option SV) 4)) (@P8.a7 (Fx (Option SV) 4)) (dg 1 k) t))))
noncomputable def uBS (x:SV) (k:Nat) (t:Fx (Option SV) 5):Fx (Option SV) 5:=(@D8.rec (fun _=>(Fx (Option SV) 4→Fx (Option SV) 4)→Fx (Option SV) 5→Fx (Option SV) 5) (@up0 (Fx (Option SV) 4)) (@up1 (Fx (Option SV) 4)) (@up2 (Fx (Option SV) 4)) (@up3 (Fx (Option SV) 4)) (@up4 (Fx (Option SV) 4)) (@up5 (Fx (Option SV) 4)) (@up6 (Fx (Option SV) 4)) (@up7 (Fx (Option SV) 4)) (dg 1 k) (@D8.rec (fun _=>(Fx (Option SV) 3→Fx (Option SV) 3)→Fx (Option SV) 4→Fx (Option SV) 4) (@up0 (Fx (Option SV) 3)) (@up1 (Fx (Option SV) 3)) (@up2 (Fx (Option SV) 3)) (@up3 (Fx (Option SV) 3)) (@up4 (Fx (Option SV) 3)) (@up5 (Fx (Option SV) 3)) (@up6 (Fx (Option SV) 3)) (@up7 (Fx (Option SV) 3)) (dg 8 k) (@D8.rec (fun _=>(Fx (Option SV) 2→Fx (Option SV) 2)→Fx (Option SV) 3→Fx (Option SV) 3) (@up0 (Fx (Option SV) 2)) (@up1 (Fx (Option SV) 2)) (@up2 (Fx (Option SV) 2)) (@up3 (Fx (Option SV) 2)) (@up4 (Fx (Option SV) 2)) (@up5 (Fx (Option SV) 2)) (@up6 (Fx (Option SV) 2)) (@up7 (Fx (Option SV) 2)) (dg 64 k) (@D8.rec (fun _=>(Fx (Option SV) 1→Fx (Option SV) 1)→Fx (Option SV) 2→Fx (Option SV) 2) (@up0 (Fx (Option SV) 1)) (@up1 (Fx (Option SV) 1)) (@up2 (Fx (Option SV) 1)) (@up3 (Fx (Option SV) 1)) (@up4 (Fx (Option SV) 1)) (@up5 (Fx (Option SV) 1)) (@up6 (Fx (Option SV) 1)) (@up7 (Fx (Option SV) 1)) (dg 512 k) (@D8.rec (fun _=>(Fx (Option SV) 0→Fx (Option SV) 0)→Fx (Option SV) 1→Fx (Option SV) 1) (@up0 (Fx (Option SV) 0)) (@up1 (Fx (Option SV) 0)) (@up2 (Fx (Option SV) 0)) (@up3 (Fx (Option SV) 0)) (@up4 (Fx (Option SV) 0)) (@up5 (Fx (Option SV) 0)) (@up6 (Fx (Option SV) 0)) (@up7 (Fx (Option SV) 0)) (dg 4096 k) (fun _=>some x)))))) t
theorem gBS_eq (t:Fx (Option SV) 5) (k:Nat):gBS t k=leafN 1 5 t k:=rfl
theorem uBS_eq (x:SV) (k:Nat) (t:Fx (Option SV) 5):uBS x k t=updN (fun _=>some x) 1 5 k t:=rfl
structure TrS where
 a:Fx (Option SV) 3
 b:Fx (Option SV) 5
 c:Tq SV
namespace TrS
def lf :TrS:=⟨allN none 3,allN none 5,.lf⟩
noncomputable def get (t:TrS) (k:Nat):Option SV:= @Bool.rec (fun _=>Option SV) (@Bool.rec (fun _=>Option SV) (t.c.get k) (gBS t.b k) (Nat.ble k 32767)) (gAS t.a k) (Nat.ble k 511)
noncomputable def set (t:TrS) (x:SV) (k:Nat):TrS:= @Bool.rec (fun _=>TrS) (@Bool.rec (fun _=>TrS) ⟨t.a,t.b,t.c.set x k⟩ ⟨t.a,uBS x k t.b,t.c⟩ (Nat.ble k 32767)) ⟨uAS x k t.a,t.b,t.c⟩ (Nat.ble k 511)
theorem get_eq (t:TrS) (k:Nat):t.get k=if k<512 then leafN 1 3 t.a k else if k<32768 then leafN 1 5 t.b k else t.c.get k:=by
 unfold get
 rw [ble_lt k 511,ble_lt k 32767]
 by_cases h:k<512
 ·rw [decide_eq_true h,if_pos h];exact gAS_eq _ _
 rw [decide_eq_false h,if_neg h]
 by_cases h2:k<32768
 ·rw [decide_eq_true h2,if_pos h2];exact gBS_eq _ _
 rw [decide_eq_false h2,if_neg h2]
theorem set_eq (t:TrS) (x:SV) (k:Nat):t.set x k=if k<512 then ⟨updN (fun _=>some x) 1 3 k t.a,t.b,t.c⟩ else if k<32768 then ⟨t.a,updN (fun _=>some x) 1 5 k t.b,t.c⟩ else ⟨t.a,t.b,t.c.set x k⟩:=by
 unfold set
 rw [ble_lt k 511,ble_lt k 32767]
 by_cases h:k<512
 ·rw [decide_eq_true h,if_pos h,← uAS_eq]
 rw [decide_eq_false h,if_neg h]
 by_cases h2:k<32768
 ·rw [decide_eq_true h2,if_pos h2,← uBS_eq]
 rw [decide_eq_false h2,if_neg h2]
theorem get_lf (k:Nat):lf.get k=none:=by
 rw [get_eq]
 split
 ·exact leaf_all ..
 split
 ·exact leaf_all ..
 exact Tq.get_lf k
theorem get_set (t:TrS) (x:SV) (k j:Nat) (h:k<2 ^ 40):(t.set x k).get j=if j=k then some x else t.get j:=by
 rw [get_eq,get_eq,set_eq]
 by_cases hk:k<512
 ·rw [if_pos hk]
  by_cases hj:j<512
  ·rw [if_pos hj,if_pos hj,leaf_upd,Nat.div_one,Nat.div_one,Nat.mod_eq_of_lt (a:=j) (by omega),Nat.mod_eq_of_lt (a:=k) (by omega)]
  rw [if_neg hj,if_neg hj,if_neg (show ¬ j=k by omega)]
 rw [if_neg hk]
 by_cases hk2:k<32768
 ·rw [if_pos hk2]
  by_cases hj:j<512
  ·rw [if_pos hj,if_pos hj,if_neg (show ¬ j=k by omega)]
  rw [if_neg hj,if_neg hj]
  by_cases hj2:j<32768
  ·rw [if_pos hj2,if_pos hj2,leaf_upd,Nat.div_one,Nat.div_one,Nat.mod_eq_of_lt (a:=j) (by omega),Nat.mod_eq_of_lt (a:=k) (by omega)]
  rw [if_neg hj2,if_neg hj2,if_neg (show ¬ j=k by omega)]
 rw [if_neg hk2]
 by_cases hj:j<512
 ·rw [if_pos hj,if_pos hj,if_neg (show ¬ j=k by omega)]
 rw [if_neg hj,if_neg hj]
 by_cases hj2:j<32768
 ·rw [if_pos hj2,if_pos hj2,if_neg (show ¬ j=k by omega)]
 rw [if_neg hj2,if_neg hj2,Tq.get_set _ _ _ _ h]
end TrS
structure As where
 b:Option Nat
 c:Nat
 v:Value
 o:Option Obj
 one:v.oneCell'=true
abbrev Rho :=Nat→As
def bl (ρ:Rho) (s:Nat):Nat:=(ρ s).b.getD 0
def ad (ρ:Rho) (s:Nat):Option Addr:=(ρ s).b.map fun b=>⟨b,0,none⟩
mutual
def dv (ρ:Rho):SV→Value
 | .int k i=> .int k i
 | .bool b=> .bool b
 | .str l=> .string (str (l.map UInt8.ofNat))
 | .ptr s off=> .pointer (some ⟨bl ρ s,off,none⟩)
 | .nilp=> .pointer none
 | .sl s i n sz=> .slice ((ρ s).b.map fun b=>⟨b,i*sz,none⟩) n ((ρ s).c - i)
 | .slx s off n cap=> .slice (some ⟨bl ρ s,off,none⟩) n cap
 | .nils=> .slice none 0 0
 | .dg t s=> .slice (ad ρ s) (canon t).1.length (ρ s).c
 | .mp s=> .map (some (bl ρ s))
 | .nilm=> .map none
 | .fn f us cs=> .func (.func f) (dvs ρ us).toArray (dvs ρ cs).toArray
 | .nilf=> .nilFunc
 | .ifc t v=> .iface t (dv ρ v)
 | .nili=> .nilIface
 | .agg l=> .agg (dvs ρ l).toArray
 | .tup l=> .tuple (dvs ρ l).toArray
 | .opq s=>(ρ s).v
 | .yl s=> .func (.yield (bl ρ s)) #[] #[]
def dvs (ρ:Rho):List SV→List Value
 | []=>[]
 | x::r=>dv ρ x::dvs ρ r
end
theorem dvs_map (ρ:Rho):∀ l:List SV,dvs ρ l=l.map (dv ρ)
 | []=>rfl
 | x::r=>by rw [dvs,dvs_map ρ r];rfl
theorem dvs_len (ρ:Rho) (l:List SV):(dvs ρ l).length=l.length:=by rw [dvs_map,List.length_map]
theorem dvs_get {ρ:Rho} {l:List SV} {i:Nat} {x:SV} (h:l[i]?=some x):(dvs ρ l)[i]?=some (dv ρ x):=by rw [dvs_map,List.getElem?_map,h];rfl
theorem dvs_append (ρ:Rho) (l m:List SV):dvs ρ (l++m)=dvs ρ l++dvs ρ m:=by simp [dvs_map]
inductive KK where
 | str | int | two | three
@[reducible] def KK.T:KK→Type
 | .str=>List UInt8
 | .int=>Nat
 | .two=>Nat×Nat
 | .three=>Nat×Nat×Nat
instance KK.dec :(k:KK)→DecidableEq k.T
 | .str=>inferInstanceAs (DecidableEq (List UInt8))
 | .int=>inferInstanceAs (DecidableEq Nat)
 | .two=>inferInstanceAs (DecidableEq (Nat×Nat))
 | .three=>inferInstanceAs (DecidableEq (Nat×Nat×Nat))
def KK.beq :KK→KK→Bool
 | .str,.str | .int,.int | .two,.two | .three,.three=>true
 | _,_=>false
theorem KK.beq_ok {k k':KK} (h:KK.beq k k'=true):k=k':=by cases k<;>cases k'<;>first | rfl | cases h
inductive Blk where
 | cells (cs:List SV) (e:TypeId)
 | row (xs:List SV) (n:Nat) (e:TypeId) (sz:Nat)
 | dgr (t:BT)
 | kv (k:KK) (l:List (List Nat×SV)) -- a map
 | ro (cs:List SV) -- a variable of the program's,to be read
 | dead
 | lp (N:Nat) (T:TrS) (ps:List Nat) (asg body:Code) (busy:Bool) -- the record of a loop over a function
 | dfd -- the block for deferred calls of such a loop's rounds
 | itr (t:Nat) (k:KK) (l:List (List Nat×SV)) (left:List (List Nat)) (cur:Option (List Nat)) -- an iterator over the map t
 | sit (l:List Nat) (pos:Nat) -- one over a string
 | rd (xs:List SV) -- cells to be read
 | hol (cs:List (Option SV)) (e:TypeId) -- cells of which some are not known
noncomputable def gAB (t:Fx (Option Blk) 3) (k:Nat):Option Blk:= @D8.rec (fun _=>Fx (Option Blk) 1→Fx (Option Blk) 0) (@P8.a0 (Fx (Option Blk) 0)) (@P8.a1 (Fx (Option Blk) 0)) (@P8.a2 (Fx (Option Blk) 0)) (@P8.a3 (Fx (Option Blk) 0)) (@P8.a4 (Fx (Option Blk) 0)) (@P8.a5 (Fx (Option Blk) 0)) (@P8.a6 (Fx (Option Blk) 0)) (@P8.a7 (Fx (Option Blk) 0)) (dg 64 k) (@D8.rec (fun _=>Fx (Option Blk) 2→Fx (Option Blk) 1) (@P8.a0 (Fx (Option Blk) 1)) (@P8.a1 (Fx (Option Blk) 1)) (@P8.a2 (Fx (Option Blk) 1)) (@P8.a3 (Fx (Option Blk) 1)) (@P8.a4 (Fx (Option Blk) 1)) (@P8.a5 (Fx (Option Blk) 1)) (@P8.a6 (Fx (Option Blk) 1)) (@P8.a7 (Fx (Option Blk) 1)) (dg 8 k) (@D8.rec (fun _=>Fx (Option Blk) 3→Fx (Option Blk) 2) (@P8.a0 (Fx (Option Blk) 2)) (@P8.a1 (Fx (Option Blk) 2)) (@P8.a2 (Fx (Option Blk) 2)) (@P8.a3 (Fx (Option Blk) 2)) (@P8.a4 (Fx (Option Blk) 2)) (@P8.a5 (Fx (Option Blk) 2)) (@P8.a6 (Fx (Option Blk) 2)) (@P8.a7 (Fx (Option Blk) 2)) (dg 1 k) t))
noncomputable def uAB (x:Blk) (k:Nat) (t:Fx (Option Blk) 3):Fx (Option Blk) 3:=(@D8.rec (fun _=>(Fx (Option Blk) 2→Fx (Option Blk) 2)→Fx (Option Blk) 3→Fx (Option Blk) 3) (@up0 (Fx (Option Blk) 2)) (@up1 (Fx (Option Blk) 2)) (@up2 (Fx (Option Blk) 2)) (@up3 (Fx (Option Blk) 2)) (@up4 (Fx (Option Blk) 2)) (@up5 (Fx (Option Blk) 2)) (@up6 (Fx (Option Blk) 2)) (@up7 (Fx (Option Blk) 2)) (dg 1 k) (@D8.rec (fun _=>(Fx (Option Blk) 1→Fx (Option Blk) 1)→Fx (Option Blk) 2→Fx (Option Blk) 2) (@up0 (Fx (Option Blk) 1)) (@up1 (Fx (Option Blk) 1)) (@up2 (Fx (Option Blk) 1)) (@up3 (Fx (Option Blk) 1)) (@up4 (Fx (Option Blk) 1)) (@up5 (Fx (Option Blk) 1)) (@up6 (Fx (Option Blk) 1)) (@up7 (Fx (Option Blk) 1)) (dg 8 k) (@D8.rec (fun _=>(Fx (Option Blk) 0→Fx (Option Blk) 0)→Fx (Option Blk) 1→Fx (Option Blk) 1) (@up0 (Fx (Option Blk) 0)) (@up1 (Fx (Option Blk) 0)) (@up2 (Fx (Option Blk) 0)) (@up3 (Fx (Option Blk) 0)) (@up4 (Fx (Option Blk) 0)) (@up5 (Fx (Option Blk) 0)) (@up6 (Fx (Option Blk) 0)) (@up7 (Fx (Option Blk) 0)) (dg 64 k) (fun _=>some x)))) t
theorem gAB_eq (t:Fx (Option Blk) 3) (k:Nat):gAB t k=leafN 1 3 t k:=rfl
theorem uAB_eq (x:Blk) (k:Nat) (t:Fx (Option Blk) 3):uAB x k t=updN (fun _=>some x) 1 3 k t:=rfl
noncomputable def gBB (t:Fx (Option Blk) 5) (k:Nat):Option Blk:= @D8.rec (fun _=>Fx (Option Blk) 1→Fx (Option Blk) 0) (@P8.a0 (Fx (Option Blk) 0)) (@P8.a1 (Fx (Option Blk) 0)) (@P8.a2 (Fx (Option Blk) 0)) (@P8.a3 (Fx (Option Blk) 0)) (@P8.a4 (Fx (Option Blk) 0)) (@P8.a5 (Fx (Option Blk) 0)) (@P8.a6 (Fx (Option Blk) 0)) (@P8.a7 (Fx (Option Blk) 0)) (dg 4096 k) (@D8.rec (fun _=>Fx (Option Blk) 2→Fx (Option Blk) 1) (@P8.a0 (Fx (Option Blk) 1)) (@P8.a1 (Fx (Option Blk) 1)) (@P8.a2 (Fx (Option Blk) 1)) (@P8.a3 (Fx (Option Blk) 1)) (@P8.a4 (Fx (Option Blk) 1)) (@P8.a5 (Fx (Option Blk) 1)) (@P8.a6 (Fx (Option Blk) 1)) (@P8.a7 (Fx (Option Blk) 1)) (dg 512 k) (@D8.rec (fun _=>Fx (Option Blk) 3→Fx (Option Blk) 2) (@P8.a0 (Fx (Option Blk) 2)) (@P8.a1 (Fx (Option Blk) 2)) (@P8.a2 (Fx (Option Blk) 2)) (@P8.a3 (Fx (Option Blk) 2)) (@P8.a4 (Fx (Option Blk) 2)) (@P8.a5 (Fx (Option Blk) 2)) (@P8.a6 (Fx (Option Blk) 2)) (@P8.a7 (Fx (Option Blk) 2)) (dg 64 k) (@D8.rec (fun _=>Fx (Option Blk) 4→Fx (Option Blk) 3) (@P8.a0 (Fx (Option Blk) 3)) (@P8.a1 (Fx (Option Blk) 3)) (@P8.a2 (Fx (Option Blk) 3)) (@P8.a3 (Fx (Option Blk) 3)) (@P8.a4 (Fx (Option Blk) 3)) (@P8.a5 (Fx (Option Blk) 3)) (@P8.a6 (Fx (Option Blk) 3)) (@P8.a7 (Fx (Option Blk) 3)) (dg 8 k) (@D8.rec (fun _=>Fx (Option Blk) 5→Fx (Option Blk) 4) (@P8.a0 (Fx (Option Blk) 4)) (@P8.a1 (Fx (Option Blk) 4)) (@P8.a2 (Fx (Option Blk) 4)) (@P8.a3 (Fx (Option Blk) 4)) (@P8.a4 (Fx (Option Blk) 4)) (@P8.a5 (Fx (Option Blk) 4)) (@P8.a6 (Fx (Option Blk) 4)) (@P8.a7 (Fx (Option Blk) 4)) (dg 1 k) t))))
noncomputable def uBB (x:Blk) (k:Nat) (t:Fx (Option Blk) 5):Fx (Option Blk) 5:=(@D8.rec (fun _=>(Fx (Option Blk) 4→Fx (Option Blk) 4)→Fx (Option Blk) 5→Fx (Option Blk) 5) (@up0 (Fx (Option Blk) 4)) (@up1 (Fx (Option Blk) 4)) (@up2 (Fx (Option Blk) 4)) (@up3 (Fx (Option Blk) 4)) (@up4 (Fx (Option Blk) 4)) (@up5 (Fx (Option Blk) 4)) (@up6 (Fx (Option Blk) 4)) (@up7 (Fx (Option Blk) 4)) (dg 1 k) (@D8.rec (fun _=>(Fx (Option Blk) 3→Fx (Option Blk) 3)→Fx (Option Blk) 4→Fx (Option Blk) 4) (@up0 (Fx (Option Blk) 3)) (@up1 (Fx (Option Blk) 3)) (@up2 (Fx (Option Blk) 3)) (@up3 (Fx (Option Blk) 3)) (@up4 (Fx (Option Blk) 3)) (@up5 (Fx (Option Blk) 3)) (@up6 (Fx (Option Blk) 3)) (@up7 (Fx (Option Blk) 3)) (dg 8 k) (@D8.rec (fun _=>(Fx (Option Blk) 2→Fx (Option Blk) 2)→Fx (Option Blk) 3→Fx (Option Blk) 3) (@up0 (Fx (Option Blk) 2)) (@up1 (Fx (Option Blk) 2)) (@up2 (Fx (Option Blk) 2)) (@up3 (Fx (Option Blk) 2)) (@up4 (Fx (Option Blk) 2)) (@up5 (Fx (Option Blk) 2)) (@up6 (Fx (Option Blk) 2)) (@up7 (Fx (Option Blk) 2)) (dg 64 k) (@D8.rec (fun _=>(Fx (Option Blk) 1→Fx (Option Blk) 1)→Fx (Option Blk) 2→Fx (Option Blk) 2) (@up0 (Fx (Option Blk) 1)) (@up1 (Fx (Option Blk) 1)) (@up2 (Fx (Option Blk) 1)) (@up3 (Fx (Option Blk) 1)) (@up4 (Fx (Option Blk) 1)) (@up5 (Fx (Option Blk) 1)) (@up6 (Fx (Option Blk) 1)) (@up7 (Fx (Option Blk) 1)) (dg 512 k) (@D8.rec (fun _=>(Fx (Option Blk) 0→Fx (Option Blk) 0)→Fx (Option Blk) 1→Fx (Option Blk) 1) (@up0 (Fx (Option Blk) 0)) (@up1 (Fx (Option Blk) 0)) (@up2 (Fx (Option Blk) 0)) (@up3 (Fx (Option Blk) 0)) (@up4 (Fx (Option Blk) 0)) (@up5 (Fx (Option Blk) 0)) (@up6 (Fx (Option Blk) 0)) (@up7 (Fx (Option Blk) 0)) (dg 4096 k) (fun _=>some x)))))) t
theorem gBB_eq (t:Fx (Option Blk) 5) (k:Nat):gBB t k=leafN 1 5 t k:=rfl
theorem uBB_eq (x:Blk) (k:Nat) (t:Fx (Option Blk) 5):uBB x k t=updN (fun _=>some x) 1 5 k t:=rfl
structure TrB where
 a:Fx (Option Blk) 3
 b:Fx (Option Blk) 5
 c:Tq Blk
namespace TrB
def lf :TrB:=⟨allN none 3,allN none 5,.lf⟩
noncomputable def get (t:TrB) (k:Nat):Option Blk:= @Bool.rec (fun _=>Option Blk) (@Bool.rec (fun _=>Option Blk) (t.c.get k) (gBB t.b k) (Nat.ble k 32767)) (gAB t.a k) (Nat.ble k 511)
noncomputable def set (t:TrB) (x:Blk) (k:Nat):TrB:= @Bool.rec (fun _=>TrB) (@Bool.rec (fun _=>TrB) ⟨t.a,t.b,t.c.set x k⟩ ⟨t.a,uBB x k t.b,t.c⟩ (Nat.ble k 32767)) ⟨uAB x k t.a,t.b,t.c⟩ (Nat.ble k 511)
theorem get_eq (t:TrB) (k:Nat):t.get k=if k<512 then leafN 1 3 t.a k else if k<32768 then leafN 1 5 t.b k else t.c.get k:=by
 unfold get
 rw [ble_lt k 511,ble_lt k 32767]
 by_cases h:k<512
 ·rw [decide_eq_true h,if_pos h];exact gAB_eq _ _
 rw [decide_eq_false h,if_neg h]
 by_cases h2:k<32768
 ·rw [decide_eq_true h2,if_pos h2];exact gBB_eq _ _
 rw [decide_eq_false h2,if_neg h2]
theorem set_eq (t:TrB) (x:Blk) (k:Nat):t.set x k=if k<512 then ⟨updN (fun _=>some x) 1 3 k t.a,t.b,t.c⟩ else if k<32768 then ⟨t.a,updN (fun _=>some x) 1 5 k t.b,t.c⟩ else ⟨t.a,t.b,t.c.set x k⟩:=by
 unfold set
 rw [ble_lt k 511,ble_lt k 32767]
 by_cases h:k<512
 ·rw [decide_eq_true h,if_pos h,← uAB_eq]
 rw [decide_eq_false h,if_neg h]
 by_cases h2:k<32768
 ·rw [decide_eq_true h2,if_pos h2,← uBB_eq]
 rw [decide_eq_false h2,if_neg h2]
theorem get_lf (k:Nat):lf.get k=none:=by
 rw [get_eq]
 split
 ·exact leaf_all ..
 split
 ·exact leaf_all ..
 exact Tq.get_lf k
theorem get_set (t:TrB) (x:Blk) (k j:Nat) (h:k<2 ^ 40):(t.set x k).get j=if j=k then some x else t.get j:=by
 rw [get_eq,get_eq,set_eq]
 by_cases hk:k<512
 ·rw [if_pos hk]
  by_cases hj:j<512
  ·rw [if_pos hj,if_pos hj,leaf_upd,Nat.div_one,Nat.div_one,Nat.mod_eq_of_lt (a:=j) (by omega),Nat.mod_eq_of_lt (a:=k) (by omega)]
  rw [if_neg hj,if_neg hj,if_neg (show ¬ j=k by omega)]
 rw [if_neg hk]
 by_cases hk2:k<32768
 ·rw [if_pos hk2]
  by_cases hj:j<512
  ·rw [if_pos hj,if_pos hj,if_neg (show ¬ j=k by omega)]
  rw [if_neg hj,if_neg hj]
  by_cases hj2:j<32768
  ·rw [if_pos hj2,if_pos hj2,leaf_upd,Nat.div_one,Nat.div_one,Nat.mod_eq_of_lt (a:=j) (by omega),Nat.mod_eq_of_lt (a:=k) (by omega)]
  rw [if_neg hj2,if_neg hj2,if_neg (show ¬ j=k by omega)]
 rw [if_neg hk2]
 by_cases hj:j<512
 ·rw [if_pos hj,if_pos hj,if_neg (show ¬ j=k by omega)]
 rw [if_neg hj,if_neg hj]
 by_cases hj2:j<32768
 ·rw [if_pos hj2,if_pos hj2,if_neg (show ¬ j=k by omega)]
 rw [if_neg hj2,if_neg hj2,Tq.get_set _ _ _ _ h]
end TrB
def noC :Chunk where
 fp _:=False
 ok _:=True
 loc _ _ _ h:=h
def sk (l:List Nat):List UInt8:=l.map UInt8.ofNat
abbrev encS (l:List UInt8):Value:= .string (str l)
def KK.enc :(k:KK)→k.T→Value
 | .str=>encS
 | .int=>encI
 | .two=>enc2
 | .three=>enc3
def KK.key :(k:KK)→List Nat→k.T
 | .str=>sk
 | .int=>fun l=>l.headD 0
 | .two=>fun l=>(l.headD 0,l.tail.headD 0)
 | .three=>fun l=>(l.headD 0,l.tail.headD 0,l.tail.tail.headD 0)
noncomputable def kvf (ρ:Rho) (k:KK) (l:List (List Nat×SV)):k.T→Option Value:=fun q=>(l.find? fun p=>decide (k.key p.1=q)).map fun p=>dv ρ p.2
def ItrOk {κ:Type} [DecidableEq κ] (bi bm:Nat) (enc:κ→Value) (f:κ→Option Value) (left:List κ) (cur:Option κ) (w:World):Prop:=
 bi≠bm∧∃ (es:Array MapEntry) (clock:Nat) (kvs:List (κ×Value)) (since c0:Nat) (seen:Array Nat),w.heap[bm]?=some (.map es clock)∧es.toList.map (fun e=>(e.key,e.val))=kvs.map (fun p=>(enc p.1,p.2))∧(∀ k,f k=kfind kvs k)∧MapInv es.toList clock (kvs.map Prod.fst)∧
  w.heap[bi]?=some (.mapIter (some bm) since seen c0)∧(∀ e∈es.toList,e.born<since)∧since≤c0∧since≤clock∧(∀ (i:Nat) e p,es.toList[i]?=some e→kvs[i]?=some p→(e.born∈seen↔p.1∉left))∧(∀ q,cur=some q→∃ (i:Nat) (e:MapEntry) (p:κ×Value) (s0:Array Nat),es.toList[i]?=some e∧kvs[i]?=some p∧p.1=q∧seen=s0.push e.born∧c0=clock)
theorem ItrOk.loc {κ:Type} [DecidableEq κ] {bi bm:Nat} {enc:κ→Value} {f:κ→Option Value} {left:List κ} {cur:Option κ} {w w':World} (h:ItrOk bi bm enc f left cur w) (h1:w'.heap[bi]?=w.heap[bi]?) (h2:w'.heap[bm]?=w.heap[bm]?):ItrOk bi bm enc f left cur w':=by
 obtain ⟨hn,es,clock,kvs,since,c0,seen,g1,g2,g3,g4,g5,g6⟩:=h
 exact ⟨hn,es,clock,kvs,since,c0,seen,h2.trans g1,g2,g3,g4,h1.trans g5,g6⟩
noncomputable def bch (ρ:Rho) (s:Nat):Blk→Chunk
 | .cells cs e=>pt (bl ρ s) (dvs ρ cs) e
 | .row xs n e sz=>rowc (.slice (ad ρ s) n (ρ s).c) n e sz (dvs ρ xs)
 | .dgr t=>dC (ad ρ s) (ρ s).c t
 | .kv k l=>mpg k.enc (bl ρ s) (kvf ρ k l)
 | .ro cs=>{fp:=fun k=>k=bl ρ s,ok:=fun w=>w.heap[bl ρ s]?=(ρ s).o∧∀ (j:Nat) (x:SV),cs[j]?=some x→w.cell? ⟨bl ρ s,j,none⟩=some (dv ρ x),loc:=fun w w' h ⟨h1,h2⟩=>⟨(h _ rfl).trans h1,fun j x hx=>by rw [World.cell?_of_block (w:=w) (w':=w') (a:=⟨bl ρ s,j,none⟩) (h _ rfl)];exact h2 j x hx⟩}
 | .dead=>noC
 | .lp N T ps asg body busy=>{fp:=fun k=>k=bl ρ s,ok:=fun w=>∃ r:Loop,w.heap[bl ρ s]?=some (.loop r)∧r.state=(if busy then .busy else .ready)∧r.pending=none∧r.params=ps.toArray∧r.assign=asg∧r.body=body∧r.tmps.size=N∧∀ i x,T.get i=some x→r.tmps[i]?=some (dv ρ x),loc:=fun w w' h ⟨r,h1,h2⟩=>⟨r,(h _ rfl).trans h1,h2⟩}
 | .dfd=>ob1 (bl ρ s) (.deferred (some []))
 | .itr t k l left cur=>{fp:=fun q=>q=bl ρ s∨q=bl ρ t,ok:=fun w=>ItrOk (bl ρ s) (bl ρ t) k.enc (kvf ρ k l) (left.map k.key) (cur.map k.key) w,loc:=fun w w' h hw=>hw.loc (h _ (.inl rfl)) (h _ (.inr rfl))}
 | .sit l pos=>ob1 (bl ρ s) (.stringIter (str (l.map UInt8.ofNat)) pos)
 | .rd xs=>{fp:=fun k=>k=bl ρ s,ok:=fun w=>(ρ s).b=some (bl ρ s)∧∀ (j:Nat) (x:SV),xs[j]?=some x→w.cell? ⟨bl ρ s,j,none⟩=some (dv ρ x),loc:=fun w w' h ⟨h1,h2⟩=>⟨h1,fun j x hx=>by rw [World.cell?_of_block (w:=w) (w':=w') (a:=⟨bl ρ s,j,none⟩) (h _ rfl)];exact h2 j x hx⟩}
 | .hol cs e=>{fp:=fun k=>k=bl ρ s,ok:=fun w=>∃ vs:List Value,w.heap[bl ρ s]?=some (.cells vs.toArray e (0,0))∧vs.length=cs.length∧∀ (j:Nat) (x:SV),cs[j]?=some (some x)→vs[j]?=some (dv ρ x),loc:=fun w w' h ⟨vs,h1,h2⟩=>⟨vs,(h _ rfl).trans h1,h2⟩}
noncomputable abbrev memC (ρ:Rho) (M:TrB):Chunk:=fam fun s=>(M.get s).map (bch ρ s)
abbrev Asg :=Nat→Option As
def Ext (σ:Asg) (ρ:Rho):Prop:=∀ s p,σ s=some p→ρ s=p
def Asg.le (σ τ:Asg):Prop:=∀ s p,σ s=some p→τ s=some p
theorem Asg.le.refl (σ:Asg):σ.le σ:=fun _ _ h=>h
theorem Asg.le.trans {σ τ υ:Asg} (h:σ.le τ) (h2:τ.le υ):σ.le υ:=fun s p hs=>h2 s p (h s p hs)
theorem Ext.le {σ τ:Asg} {ρ:Rho} (h:σ.le τ) (hE:Ext τ ρ):Ext σ ρ:=fun s p hs=>hE s p (h s p hs)
instance :Inhabited As:=⟨⟨none,0,.bool false,none,rfl⟩⟩
def Asg.rho (σ:Asg):Rho:=fun s=>(σ s).getD default
theorem Asg.rho_ext (σ:Asg):Ext σ σ.rho:=fun s p h=>by unfold Asg.rho;rw [h];rfl
def Asg.put (σ:Asg) (s:Nat) (p:As):Asg:=fun t=>if t=s then some p else σ t
theorem Asg.put_le {σ:Asg} {s:Nat} {p:As} (h:σ s=none):σ.le (σ.put s p):=fun t q ht=>by
 unfold Asg.put
 split
 ·rename_i e;subst e;rw [h] at ht;cases ht
 ·exact ht
theorem Asg.put_at {σ:Asg} {s:Nat} {p:As} {ρ:Rho} (h:Ext (σ.put s p) ρ):ρ s=p:=h s p (by unfold Asg.put;rw [if_pos rfl])
structure MemS (w0:World) (O:List Nat) (σ:Asg) (M:TrB) (w:World):Prop where
 st:∀ ρ,Ext σ ρ→St w0 O [memC ρ M] w
 dom:∀ s,M.get s=none↔σ s=none
inductive SD where
 | col (s:Nat)
 | fn (g:Nat) (us cs:List SV)
def dD (ρ:Rho):SD→Deferred
 | .col s=>{target:= .collected (bl ρ s),args:=#[]}
 | .fn g us cs=>{target:= .fn (.func g) (dvs ρ cs).toArray,args:=(dvs ρ us).toArray}
structure FrS (N:Nat) (D:List SD) (σ:Asg) (T:TrS) (a:Act):Prop where
 defers:∀ ρ,Ext σ ρ→a.defers=D.map (dD ρ)
 size:a.tmps.size=N
 get:∀ ρ,Ext σ ρ→∀ i x,T.get i=some x→a.tmps[i]?=some (dv ρ x)
theorem FrS.le {N:Nat} {D:List SD} {σ τ:Asg} {T:TrS} {a:Act} (h:FrS N D σ T a) (hl:σ.le τ):FrS N D τ T a:=⟨fun ρ hE=>h.defers ρ (hE.le hl),h.size,fun ρ hE=>h.get ρ (hE.le hl)⟩
theorem FrS.put {N:Nat} {D:List SD} {σ:Asg} {T:TrS} {a:Act} (h:FrS N D σ T a) {d:Nat} {v:Value} {x:SV} (hd:Nat.blt d N=true) (hN:Nat.ble N 1000000=true) (hv:∀ ρ,Ext σ ρ→v=dv ρ x):FrS N D σ (T.set x d) (a.put (some d) v):=by
 have hd':d<N:=Nat.le_of_ble_eq_true hd
 have hN':N≤1000000:=Nat.le_of_ble_eq_true hN
 refine ⟨h.defers,by simp [Act.put,h.size],fun ρ hE i y hy=>?_⟩
 rw [TrS.get_set _ _ _ _ (by omega)] at hy
 by_cases hi:i=d
 ·subst hi
  rw [if_pos rfl] at hy
  cases hy
  have:i<a.tmps.size:=by rw [h.size];exact hd'
  simp [Act.put,this,hv ρ hE]
 rw [if_neg hi] at hy
 simp [Act.put,Array.getElem?_setIfInBounds_ne (Ne.symm hi),h.get ρ hE i y hy]
def full (a:Act):FL:=(List.range a.tmps.size).map fun i=>(i,a.tmps.getD i undef)
theorem lk_map (f:Nat→Value):∀ (l:List Nat) (i:Nat),lk (l.map fun j=>(j,f j)) i=if i∈l then some (f i) else none
 | [],i=>rfl
 | j::l,i=>by
  simp only [List.map_cons,lk,lk_map f l i,List.mem_cons]
  by_cases h:j=i
  ·subst h;simp
  ·have:Nat.beq j i=false:=by
    cases hb:Nat.beq j i with
    | true=>exact absurd (Nat.eq_of_beq_eq_true hb) h
    | false=>rfl
   rw [this]
   simp [Ne.symm h]
theorem lk_full {a:Act} {i:Nat} {v:Value} (h:a.tmps[i]?=some v):lk (full a) i=some v:=by
 have hi:=(Array.getElem?_eq_some_iff.1 h).1
 unfold full
 rw [lk_map,if_pos (List.mem_range.2 hi),Array.getD_eq_getD_getElem?,h];rfl
theorem Fr.full (a:Act):Fr a.tmps.size a.defers (full a) a:=⟨rfl,rfl,fun i v h=>by
 unfold X.full at h
 rw [lk_map] at h
 split at h
 ·rename_i hm
  have hi:=List.mem_range.1 hm
  cases h
  rw [Array.getD_eq_getD_getElem?,Array.getElem?_eq_getElem hi];rfl
 ·cases h⟩
end Go.X
namespace Go.X
open Go Go.Eng Go.RowKit Dg Go.Proofs.YtedbajbgnmaakaaGreatDoor
def still {α:Type} (P:Program):Sem α→Option α
 | .pure a=>some a
 | .program k=>still P (k P)
 | _=>none
theorem still_ok {α:Type} {P:Program}:∀ {e:Sem α} {a:α},still P e=some a→∀ w,e.run P w= .ok a w
 | .pure b,a,h,w=>by
  simp only [still,Option.some.injEq] at h
  subst h
  rfl
 | .program k,a,h,w=>still_ok (e:=k P) h w
 | .load ..,_,h,_ | .store ..,_,h,_ | .new ..,_,h,_ | .shape ..,_,h,_ | .freeze ..,_,h,_ | .frozen ..,_,h,_ | .getObj ..,_,h,_ | .setObj ..,_,h,_ | .choose ..,_,h,_ | .sys ..,_,h,_ | .mark ..,_,h,_ | .halt _,_,h,_=>by simp [still] at h
def cv1 (v:Value):Option SV:=match v with
 | .int k i=>some (.int k i)
 | .bool b=>some (.bool b)
 | .string s=>some (.str (s.data.toList.map UInt8.toNat))
 | .pointer a=>match a with | none=>some .nilp | some _=>none
 | .slice a n c=>match a with | none=>(bif Nat.beq n 0&&Nat.beq c 0 then some .nils else none) | some _=>none
 | .map r=>match r with | none=>some .nilm | some _=>none
 | .nilFunc=>some .nilf
 | .nilIface=>some .nili
 | .func f us cs=>match f with | .func k=>(match us.toList,cs.toList with | [],[]=>some (.fn k [] []) | _,_=>none) | _=>none
 | _=>none
def cvs :List Value→Option (List SV)
 | []=>some []
 | v::r=>match cv1 v with | none=>none | some x=>match cvs r with | none=>none | some l=>some (x::l)
def cv (v:Value):Option SV:=match v with
 | .agg cs=>(match cvs cs.toList with | some l=>some (.agg l) | none=>none)
 | .tuple cs=>(match cvs cs.toList with | some l=>some (.tup l) | none=>none)
 | .int k i=>some (.int k i)
 | .bool b=>some (.bool b)
 | v=>cv1 v
theorem bytes_back (l:List UInt8):(l.map UInt8.toNat).map UInt8.ofNat=l:=by
 rw [List.map_map]
 have:(UInt8.ofNat∘UInt8.toNat)=id:=by funext c;simp
 rw [this,List.map_id]
theorem cv1_ok {v:Value} {x:SV} (h:cv1 v=some x) (ρ:Rho):dv ρ x=v:=by
 unfold cv1 at h
 split at h
 ·cases h;rfl
 ·cases h;rfl
 ·cases h;rw [dv,bytes_back];rename_i s;cases s;rfl
 ·split at h
  ·cases h;rfl
  cases h
 ·split at h
  ·rename_i n c _
   cases hb:(Nat.beq n 0&&Nat.beq c 0) with
   | false=>rw [hb] at h;cases h
   | true=>
    rw [hb] at h
    rw [Bool.and_eq_true] at hb
    have h1:=Nat.eq_of_beq_eq_true hb.1
    have h2:=Nat.eq_of_beq_eq_true hb.2
    subst h1;subst h2
    cases h;rfl
  cases h
 ·split at h
  ·cases h;rfl
  cases h
 ·cases h;rfl
 ·cases h;rfl
 ·rename_i f us cs
  cases f with
  | func k=>
   simp only at h
   split at h
   ·rename_i h1 h2
    cases h
    have e1:us=#[]:=by apply Array.ext';simpa using h1
    have e2:cs=#[]:=by apply Array.ext';simpa using h2
    rw [e1,e2];rfl
   ·cases h
  | _=>cases h
 cases h
theorem cvs_ok :∀ {vs:List Value} {l:List SV},cvs vs=some l→∀ ρ,dvs ρ l=vs
 | [],l,h,ρ=>by simp only [cvs,Option.some.injEq] at h;subst h;rfl
 | v::r,l,h,ρ=>by
  simp only [cvs] at h
  split at h
  ·cases h
  ·rename_i x hx
   split at h
   ·cases h
   ·rename_i m hm
    cases h
    rw [dvs,cv1_ok hx,cvs_ok hm]
theorem cv_ok {v:Value} {x:SV} (h:cv v=some x) (ρ:Rho):dv ρ x=v:=by
 unfold cv at h
 split at h
 ·split at h
  ·rename_i l hl
   cases h;rw [dv,cvs_ok hl]
  cases h
 ·split at h
  ·rename_i l hl
   cases h;rw [dv,cvs_ok hl]
  cases h
 ·cases h;rfl
 ·cases h;rfl
 exact cv1_ok h ρ
def gr1 (x:SV):Option Value:=match x with
 | .int k i=>some (.int k i)
 | .bool b=>some (.bool b)
 | .str l=>some (.string (str (l.map UInt8.ofNat)))
 | .nilp=>some (.pointer none)
 | .nils=>some (.slice none 0 0)
 | .nilm=>some (.map none)
 | .nilf=>some .nilFunc
 | .nili=>some .nilIface
 | _=>none
theorem gr1_ok {x:SV} {v:Value} (h:gr1 x=some v) (ρ:Rho):dv ρ x=v:=by
 unfold gr1 at h
 split at h<;>first | (cases h;rfl) | cases h
def grl :List SV→Option (List Value)
 | []=>some []
 | x::r=>match gr1 x with | none=>none | some v=>match grl r with | none=>none | some l=>some (v::l)
theorem grl_ok :∀ {l:List SV} {vs:List Value},grl l=some vs→∀ ρ,dvs ρ l=vs
 | [],vs,h,ρ=>by simp only [grl,Option.some.injEq] at h;subst h;rfl
 | x::r,vs,h,ρ=>by
  simp only [grl] at h
  split at h
  ·cases h
  ·rename_i v hv
   split at h
   ·cases h
   ·rename_i l hl
    cases h
    rw [dvs,gr1_ok hv,grl_ok hl]
def gr (x:SV):Option Value:=match x with
 | .agg l=>(match grl l with | some vs=>some (.agg vs.toArray) | none=>none)
 | x=>gr1 x
theorem gr_ok {x:SV} {v:Value} (h:gr x=some v) (ρ:Rho):dv ρ x=v:=by
 unfold gr at h
 split at h
 ·split at h
  ·rename_i vs hvs
   cases h;rw [dv,grl_ok hvs]
  cases h
 exact gr1_ok h ρ
noncomputable def evG (M:TrB) (g:Nat):Option SV:=match M.get g with
 | some (.ro _)=>some (.ptr g 0)
 | _=>none
noncomputable def evS (T:TrS) (M:TrB) (x:Operand):Option SV:=Operand.rec (motive:=fun _=>Option SV) (tmp:=fun t=>T.get t) (const:=fun v=>cv v) (global:=fun g=>evG M g) (func:=fun f=>some (.fn f [] [])) x
theorem evS_eq (T:TrS) (M:TrB) (x:Operand):evS T M x=match x with
 | .tmp t=>T.get t
 | .const v=>cv v
 | .func f=>some (.fn f [] [])
 | .global g=>evG M g:=by cases x<;>rfl
structure MemG (σ:Asg) (M:TrB):Prop where
 glo:∀ s cs,M.get s=some (.ro cs)→∃ p,σ s=some p∧p.b=some s
section
variable {P : Program} {w0 w : World} {O : List Nat} {N : Nat} {D : List SD} {σ : Asg} {T : TrS} {M : TrB} {a : Act} {ρ : Rho}
theorem evS_ok (hF:FrS N D σ T a) (hG:MemG σ M) (hE:Ext σ ρ) {x:Operand} {v:SV} (h:evS T M x=some v):Eng.ev (full a) x=some (dv ρ v):=by
 rw [evS_eq] at h
 split at h
 ·exact lk_full (hF.get ρ hE _ _ h)
 ·show some _=_
  rw [cv_ok h]
 ·cases h;rfl
 unfold evG at h
 split at h
 ·rename_i g _ cs hg
  cases h
  obtain ⟨p,h1,h2⟩:=hG.glo g cs hg
  have:=hE g p h1
  show some (Value.pointer (some ⟨g,0,none⟩))=_
  rw [dv,bl,this,h2];rfl
 cases h
theorem evS_eval (hF:FrS N D σ T a) (hG:MemG σ M) (hE:Ext σ ρ) {x:Operand} {v:SV} (h:evS T M x=some v):a.eval x=dv ρ v:=(Fr.full a).ev (evS_ok hF hG hE h)
def Sl (P:Program) (op:Op) (ty:TypeId) (a:Act) (w:World) (v:Value):Prop:=∀ dst pos af g,(execOp a.eval ⟨dst,op,ty,pos,af,g⟩).run P w= .ok (.value v) w
theorem Sl.of {op:Op} {ty:TypeId} {v:Value} {F:World→Prop} (h:∀ d pos af,Yl P a.tmps.size a.defers (full a) F ⟨some d,op,ty,pos,af,none⟩ v) (hF:F w):Sl P op ty a w v:=
 fun dst pos af g=>h 0 pos af a w (Fr.full a) hF
theorem Sl.one {op:Op} {ty:TypeId} {v u:Value} (h:Sl P op ty a w v) (h2:Sl P op ty a w u):v=u:=by
 have := (h none "" #[] none).symm.trans (h2 none "" #[] none)
 injection this with e _
 injection e
end
end Go.X
namespace Go.X
open Go Go.Eng Go.RowKit Dg Go.Proofs.YtedbajbgnmaakaaGreatDoor
noncomputable def nthS {α:Type} (l:List α):Nat→Option α:=List.rec (fun _=>none) (fun v _ ih i=>Nat.rec (some v) (fun j _=>ih j) i) l
theorem nthS_eq {α:Type}:∀ (l:List α) (i:Nat),nthS l i=l[i]?
 | [],i=>by cases i<;>rfl
 | v::l,0=>rfl
 | v::l,i+1=>by
  rw [List.getElem?_cons_succ,← nthS_eq l i];rfl
section
variable {P : Program} {w0 w : World} {O : List Nat} {N : Nat} {D : List SD} {σ : Asg} {T : TrS} {M : TrB} {a : Act} {ρ : Rho} {ty : TypeId}
def blkCells (b:Blk):Option (List SV):=match b with
 | .cells cs _=>some cs
 | .row xs _ _ _=>some xs
 | .ro cs=>some cs
 | .rd cs=>some cs
 | _=>none
theorem MemS.ok (h:MemS w0 O σ M w) (hE:Ext σ ρ) {s:Nat} {b:Blk} (hb:M.get s=some b):(bch ρ s b).ok w:=fam_get (h.st ρ hE) (by rw [hb];rfl)
theorem row_len {s:Nat} {xs:List SV} {n:Nat} {e:TypeId} {sz:Nat} (h:(bch ρ s (.row xs n e sz)).ok w):xs.length=n*sz:=by
 have:=(show w.ownsRow 0 e sz (.slice (ad ρ s) n (ρ s).c) n (dvs ρ xs) from h).1
 rwa [dvs_len] at this
theorem row_blk {s:Nat} {xs:List SV} {n:Nat} {e:TypeId} {sz:Nat} (h:(bch ρ s (.row xs n e sz)).ok w) (hn:0<n):(ρ s).b=some (bl ρ s)∧n≤(ρ s).c:=by
 obtain ⟨g,hg,_,hc⟩:=rowc_addr (show (rowc (.slice (ad ρ s) n (ρ s).c) n e sz (dvs ρ xs)).ok w from h) hn
 unfold ad at hg
 cases hb:(ρ s).b with
 | none=>rw [hb] at hg;cases hg
 | some b=>unfold bl;rw [hb];exact ⟨rfl,hc⟩
theorem blk_cell {s:Nat} {b:Blk} {cs:List SV} (h:(bch ρ s b).ok w) (hc:blkCells b=some cs) {j:Nat} {x:SV} (hx:cs[j]?=some x):w.cell? ⟨bl ρ s,j,none⟩=some (dv ρ x):=by
 unfold blkCells at hc
 split at hc
 ·cases hc
  rename_i e
  have h':w.heap[bl ρ s]?=some (.cells (dvs ρ cs).toArray e (0,0)):=h
  have:=dvs_get (ρ:=ρ) hx
  simp [World.cell?,h',this]
 ·cases hc
  rename_i n e sz
  have hl:=row_len h
  have hj:=(List.getElem?_eq_some_iff.1 hx).1
  have hn:0<n:=by
   rcases Nat.eq_zero_or_pos n with h0 | h0
   ·rw [h0,Nat.zero_mul] at hl;omega
   ·exact h0
  obtain ⟨hb,_⟩:=row_blk h hn
  have h2:(rowc (.slice (some ⟨bl ρ s,0,none⟩) n (ρ s).c) n e sz (dvs ρ cs)).ok w:=by
   have h3:(rowc (.slice (ad ρ s) n (ρ s).c) n e sz (dvs ρ cs)).ok w:=h
   unfold ad at h3
   rw [hb] at h3
   exact h3
  exact rowc_cells h2 (dvs_get hx)
 ·cases hc
  exact h.2 j x hx
 ·cases hc
  exact h.2 j x hx
 cases hc
theorem hol_cell {s:Nat} {cs:List (Option SV)} {e:TypeId} (h:(bch ρ s (.hol cs e)).ok w) {j:Nat} {x:SV} (hx:cs[j]?=some (some x)):w.cell? ⟨bl ρ s,j,none⟩=some (dv ρ x):=by
 obtain ⟨vs,h1,h2,h3⟩:=h
 have:=h3 j x hx
 simp [World.cell?,h1,this]
noncomputable def mapO {α β:Type} (f:α→Option β) (l:List α):Option (List β):=List.rec (some []) (fun x _ ih=>match f x with | none=>none | some y=>(match ih with | none=>none | some m=>some (y::m))) l
theorem mapO_cons {α β:Type} (f:α→Option β) (x:α) (l:List α):mapO f (x::l)=match f x with | none=>none | some y=>(match mapO f l with | none=>none | some m=>some (y::m)):=rfl
theorem mapO_at {α β:Type} {f:α→Option β}:∀ {l:List α} {m:List β},mapO f l=some m→∀ {j:Nat} {y:β},m[j]?=some y→∃ x,l[j]?=some x∧f x=some y
 | [],m,h,j,y,hy=>by
  have h':some []=some m:=h
  cases h'
  simp at hy
 | z::l,m,h,j,y,hy=>by
  rw [mapO_cons] at h
  split at h
  ·cases h
  ·rename_i y1 h1
   split at h
   ·cases h
   ·rename_i m2 h2
    cases h
    cases j with
    | zero=>
     simp only [List.getElem?_cons_zero,Option.some.injEq] at hy
     subst hy
     exact ⟨z,by simp,h1⟩
    | succ j=>
     simp only [List.getElem?_cons_succ] at hy ⊢
     exact mapO_at h2 hy
theorem mapO_ok {α β:Type} {f:α→Option β}:∀ {l:List α} {m:List β},mapO f l=some m→∀ x∈l,∃ y∈m,f x=some y
 | [],m,h,x,hx=>by cases hx
 | z::l,m,h,x,hx=>by
  rw [mapO_cons] at h
  split at h
  ·cases h
  ·rename_i y hy
   split at h
   ·cases h
   ·rename_i m2 hm
    cases h
    rcases List.mem_cons.1 hx with rfl | hx
    ·exact ⟨y,List.mem_cons_self ..,hy⟩
    ·obtain ⟨y2,h1,h2⟩:=mapO_ok hm x hx
     exact ⟨y2,List.mem_cons_of_mem _ h1,h2⟩
def holGet (b:Blk):Option (List (Option SV)):=match b with
 | .hol cs _=>some cs
 | _=>none
theorem holGet_ok {b:Blk} {cs:List (Option SV)} (h:holGet b=some cs):∃ e,b= .hol cs e:=by
 cases b<;>first | (cases h;done) | skip
 cases h
 exact ⟨_,rfl⟩
def idO (x:Option SV):Option SV:=x
noncomputable def sLoad (P:Program) (M:TrB) (t:TypeId) (x:SV):Option SV:=match x with
 | .ptr s off=>match M.get s with
  | some b=>match blkCells b with
   | some cs=>match aggB P t with
    | some true=>match sizeB P t with
     | some n=>let l:=(cs.drop off).take n;bif Nat.beq l.length n then some (.agg l) else none
     | none=>none
    | some false=>match sizeB P t with
     | some 1=>nthS cs off
     | _=>none
    | none=>none
   | none=>match holGet b with
    | some cs=>match aggB P t with
     | some true=>match sizeB P t with
      | some n=>(match mapO idO ((cs.drop off).take n) with | some l=>bif Nat.beq l.length n then some (.agg l) else none | none=>none)
      | none=>none
     | some false=>match sizeB P t with
      | some 1=>(match nthS cs off with | some (some x)=>some x | _=>none)
      | _=>none
     | none=>none
    | none=>none
  | none=>none
 | _=>none
theorem beq_true {a b:Nat} {α:Type} {x y:α} (h:(bif Nat.beq a b then some x else none)=some y):a=b∧x=y:=by
 cases hb:Nat.beq a b with
 | true=>rw [hb] at h;cases h;exact ⟨Nat.eq_of_beq_eq_true hb,rfl⟩
 | false=>rw [hb] at h;cases h
theorem sLoad_run (hM:MemS w0 O σ M w) (hE:Ext σ ρ) {t:TypeId} {x v:SV} (h:sLoad P M t x=some v):(Instr.loadAt t (dv ρ x)).run P w= .ok (dv ρ v) w:=by
 unfold sLoad at h
 split at h
 ·rename_i s off
  split at h
  ·rename_i b hb
   have hok:=hM.ok hE hb
   split at h
   ·rename_i cs hc
    split at h
    ·rename_i hag
     split at h
     ·rename_i n hn
      obtain ⟨hl,rfl⟩:=beq_true h
      have e:dv ρ (.agg ((cs.drop off).take n))= .agg (dvs ρ ((cs.drop off).take n)).toArray:=by rw [dv]
      rw [e]
      refine run_loadN ⟨hag,hn⟩ (by rw [dvs_len];exact hl) (fun j u hj=>?_)
      rw [add_blk]
      rw [dvs_map,List.getElem?_map] at hj
      cases hq:((cs.drop off).take n)[j]? with
      | none=>rw [hq] at hj;cases hj
      | some y=>
       rw [hq] at hj
       simp only [Option.map_some,Option.some.injEq] at hj
       rw [← hj]
       refine blk_cell hok hc ?_
       have h2:=hq
       rw [List.getElem?_take] at h2
       split at h2
       ·rwa [List.getElem?_drop] at h2
       ·cases h2
     cases h
    ·rename_i hag
     split at h
     ·rename_i hn
      rw [nthS_eq] at h
      exact run_load1 ⟨hag,hn⟩ (blk_cell hok hc h)
     cases h
    cases h
   split at h
   ·rename_i cs hc
    obtain ⟨e9,rfl⟩:=holGet_ok hc
    split at h
    ·rename_i hag
     split at h
     ·rename_i n hn
      split at h
      ·rename_i l hl0
       obtain ⟨hl,rfl⟩:=beq_true h
       have e:dv ρ (.agg l)= .agg (dvs ρ l).toArray:=by rw [dv]
       rw [e]
       refine run_loadN ⟨hag,hn⟩ (by rw [dvs_len];exact hl) (fun j u hj=>?_)
       rw [add_blk]
       rw [dvs_map,List.getElem?_map] at hj
       cases hq:l[j]? with
       | none=>rw [hq] at hj;cases hj
       | some y=>
        rw [hq] at hj
        simp only [Option.map_some,Option.some.injEq] at hj
        rw [← hj]
        obtain ⟨z,h2,hz⟩:=mapO_at hl0 hq
        have hz:z=some y:=hz
        subst hz
        refine hol_cell hok ?_
        rw [List.getElem?_take] at h2
        split at h2
        ·rwa [List.getElem?_drop] at h2
        ·cases h2
      cases h
     cases h
    ·rename_i hag
     split at h
     ·rename_i hn
      split at h
      ·rename_i x hx
       rw [nthS_eq] at hx
       cases h
       exact run_load1 ⟨hag,hn⟩ (hol_cell hok hx)
      cases h
     cases h
    cases h
   cases h
  cases h
 cases h
theorem Sl.load {t:TypeId} {x:Operand} {vx v:SV} (hM:MemS w0 O σ M w) (hE:Ext σ ρ) (hx:a.eval x=dv ρ vx) (h:sLoad P M t vx=some v):Sl P (.load t x) ty a w (dv ρ v):=fun dst pos af g=>by
 have:=sLoad_run (P:=P) hM hE h
 simp [execOp,hx,this]
end
end Go.X
namespace Go.X
open Go Go.Eng Go.RowKit Dg Go.Proofs.YtedbajbgnmaakaaGreatDoor
section
variable {P : Program} {w0 w : World} {O : List Nat} {N : Nat} {D : List SD} {σ : Asg} {T : TrS} {M : TrB} {a : Act} {ρ : Rho} {ty : TypeId}
noncomputable def evsS (T:TrS) (M:TrB) (l:List Operand):Option (List SV):=
 List.rec (some []) (fun x _ ih=>match evS T M x with | none=>none | some v=>match ih with | none=>none | some vs=>some (v::vs)) l
theorem evsS_cons (x:Operand) (l:List Operand):evsS T M (x::l)=match evS T M x with | none=>none | some v=>match evsS T M l with | none=>none | some vs=>some (v::vs):=rfl
theorem evsS_ok (hF:FrS N D σ T a) (hG:MemG σ M) (hE:Ext σ ρ):∀ {l:List Operand} {vs:List SV},evsS T M l=some vs→Eng.evs (full a) l=some (dvs ρ vs)
 | [],vs,h=>by cases h;rfl
 | x::l,vs,h=>by
  rw [evsS_cons] at h
  split at h
  ·cases h
  ·rename_i v hv
   split at h
   ·cases h
   ·rename_i us hus
    cases h
    simp only [Eng.evs,evS_ok hF hG hE hv,evsS_ok hF hG hE hus,dvs]
def litNil (x:SV):Bool:=match x with
 | .nilp | .nils | .nilm | .nilf | .nili=>true
 | _=>false
def nilOf (P:Program) (t:TypeId) (x:SV):Bool:=match P.underlying t,x with
 | some (.pointer _),.nilp | some (.pointer _),.ptr _ _=>true
 | some (.slice _),.nils | some (.slice _),.slx _ _ _ _=>true
 | some (.map _ _),.nilm | some (.map _ _),.mp _=>true
 | some (.func _ _ _),.nilf | some (.func _ _ _),.fn _ _ _=>true
 | some (.interface _),.nili | some (.interface _),.ifc _ _=>true
 | _,_=>false
theorem equal_nil {t:TypeId} {x y:SV} {b:Bool} (hx:nilOf P t x=true) (hy:nilOf P t y=true) (hl:(litNil x||litNil y)=true) (hb:b=(litNil x&&litNil y)):(Op.equal t (dv ρ x) (dv ρ y)).run P w= .ok b w:=by
 subst hb
 show (Op.equalIn (9999+1) t (dv ρ x) (dv ρ y)).run P w=_
 generalize 9999=q
 cases hu:P.underlying t with
 | none=>unfold nilOf at hx;rw [hu] at hx;cases hx
 | some d=>
  unfold nilOf at hx hy
  rw [hu] at hx hy
  cases d<;>cases x<;>first | (cases hx;done) | skip
  all_goals cases y<;>first | (cases hy;done) | (cases hl;done) | (simp [Op.equalIn,run_underlying hu,dv,litNil])
noncomputable def sEq (P:Program) (t:TypeId) (x y:SV):Option Bool:=
 bif nilOf P t x&&nilOf P t y&&(litNil x||litNil y) then some (litNil x&&litNil y) else none
theorem sEq_ok {t:TypeId} {x y:SV} {b:Bool} (h:sEq P t x y=some b):(Op.equal t (dv ρ x) (dv ρ y)).run P w= .ok b w:=by
 unfold sEq at h
 cases hc:(nilOf P t x&&nilOf P t y&&(litNil x||litNil y)) with
 | false=>rw [hc] at h;cases h
 | true=>
  rw [hc] at h
  simp only [Bool.and_eq_true] at hc
  cases h
  exact equal_nil hc.1.1 hc.1.2 hc.2 rfl
end
end Go.X
namespace Go.X
open Go Go.Eng Go.RowKit Dg Go.Proofs.YtedbajbgnmaakaaGreatDoor
section
variable {P : Program} {w0 w : World} {O : List Nat} {N : Nat} {D : List SD} {σ : Asg} {T : TrS} {M : TrB} {a : Act} {ρ : Rho} {ty : TypeId}
noncomputable def ob {α β:Type} (x:Option α) (f:α→Option β):Option β:=Option.rec (motive:=fun _=>Option β) none f x
theorem ob_some {α β:Type} {x:Option α} {f:α→Option β} {b:β} (h:ob x f=some b):∃ a,x=some a∧f a=some b:=by
 cases x with
 | none=>cases h
 | some a=>exact ⟨a,rfl,h⟩
noncomputable def must {β:Type} (b:Bool) (x:Option β):Option β:=Bool.rec (motive:=fun _=>Option β) none x b
theorem must_some {β:Type} {b:Bool} {x:Option β} {y:β} (h:must b x=some y):b=true∧x=some y:=by
 cases b with
 | true=>exact ⟨rfl,h⟩
 | false=>cases h
noncomputable def sPart (P:Program) (t:TypeId) (l:List SV) (off:Nat):Option SV:=ob (aggB P t) fun g=>match g with
 | true=>ob (sizeB P t) fun n=>let r:=(l.drop off).take n;must (Nat.beq r.length n) (some (.agg r))
 | false=>ob (sizeB P t) fun n=>must (Nat.beq n 1) (nthS l off)
noncomputable def sIndexAddr (P:Program) (M:TrB) (t:TypeId) (x i:SV):Option SV:=match i with
 | .int _ (.ofNat j)=>match x with
  | .sl s k n sz=>must (Nat.blt j n) (match P.underlying t with
   | some (.slice e)=>must (match sizeB P e with | some z=>Nat.beq z sz | none=>false) (match M.get s with
    | some (.row _ m _ _)=>must (Nat.blt 0 m) (some (.ptr s (k*sz+j*sz)))
    | some (.rd _)=>some (.ptr s (k*sz+j*sz))
    | _=>none)
   | _=>none)
  | .slx s off n _=>must (Nat.blt j n) (match P.underlying t with
   | some (.slice e)=>ob (sizeB P e) fun sz=>some (.ptr s (off+j*sz))
   | _=>none)
  | .ptr s off=>match P.underlying t with
   | some (.array n e)=>must (Nat.blt j n) (ob (sizeB P e) fun sz=>ob (zeroB P t) fun _=>some (.ptr s (off+j*sz)))
   | _=>none
  | _=>none
 | _=>none
noncomputable def sIndex (P:Program) (t:TypeId) (x i:SV):Option SV:=match x,i with
 | .agg l,.int _ (.ofNat j)=>(match P.underlying t with
  | some (.array n e)=>must (Nat.blt j n) (ob (sizeB P e) fun sz=>sPart P e l (j*sz))
  | _=>none)
 | .str l,.int _ (.ofNat j)=>(match P.underlying t with
  | some .string=>ob (nthS l j) fun c=>some (.int .u8 (.ofNat (Nat.mod c 256)))
  | _=>none)
 | _,_=>none
noncomputable def sLen (P:Program) (t:TypeId) (x:SV):Option SV:=match P.underlying t,x with
 | some .string,.str l=>some (.int .i64 (.ofNat l.length))
 | some (.slice _),.sl _ _ n _=>some (.int .i64 (.ofNat n))
 | some (.slice _),.slx _ _ n _=>some (.int .i64 (.ofNat n))
 | some (.slice _),.nils=>some (.int .i64 (.ofNat 0))
 | _,_=>none
theorem sPart_run {t:TypeId} {l:List SV} {off:Nat} {v:SV} (h:sPart P t l off=some v):(part t (dvs ρ l).toArray off).run P w= .ok (dv ρ v) w:=by
 unfold sPart at h
 obtain ⟨g,hg,h⟩:=ob_some h
 cases g with
 | true=>
  obtain ⟨n,hn,h⟩:=ob_some h
  obtain ⟨h1,h2⟩:=must_some h
  cases h2
  simp [part,Eng.run_isAgg hg,Eng.run_sizeOf hn,dv,dvs_map,List.map_take,List.map_drop]
 | false=>
  obtain ⟨n,hn,h⟩:=ob_some h
  obtain ⟨h1,h2⟩:=must_some h
  rw [nthS_eq] at h2
  have:=dvs_get (ρ:=ρ) h2
  simp [part,Eng.run_isAgg hg,this]
theorem Sl.indexAddr {w':World} {t:TypeId} {x i:Operand} {vx vi v:SV} (hM:MemS w0 O σ M w) (hE:Ext σ ρ) (hx:Eng.ev (full a) x=some (dv ρ vx)) (hi:Eng.ev (full a) i=some (dv ρ vi)) (h:sIndexAddr P M t vx vi=some v):Sl P (.indexAddr t x i) ty a w' (dv ρ v):=by
 unfold sIndexAddr at h
 split at h
 ·rename_i k j
  split at h
  ·rename_i s q n sz
   obtain ⟨hj,h⟩:=must_some h
   split at h
   ·rename_i e hu
    obtain ⟨hz,h⟩:=must_some h
    split at h
    ·rename_i xs m e' sz' hb
     obtain ⟨hm,h⟩:=must_some h
     cases h
     have hsz:sizeB P e=some sz:=by
      cases hq:sizeB P e with
      | none=>rw [hq] at hz;cases hz
      | some z=>rw [hq] at hz;rw [Nat.eq_of_beq_eq_true hz]
     obtain ⟨hb1,_⟩:=row_blk (hM.ok hE hb) (Nat.le_of_ble_eq_true hm)
     have hx':Eng.ev (full a) x=some (.slice (some ⟨bl ρ s,q*sz,none⟩) n ((ρ s).c - q)):=by
      rw [hx,dv,hb1];rfl
     exact Sl.of (F:=fun _=>True) (fun d pos af=>Yl.indexAddr ⟨hu,hsz⟩ hx' hi (Nat.le_of_ble_eq_true hj)) trivial
    ·rename_i xs hb
     cases h
     have hsz:sizeB P e=some sz:=by
      cases hq:sizeB P e with
      | none=>rw [hq] at hz;cases hz
      | some z=>rw [hq] at hz;rw [Nat.eq_of_beq_eq_true hz]
     obtain ⟨hb1,_⟩:=(show (bch ρ s (.rd xs)).ok w from hM.ok hE hb)
     have hx':Eng.ev (full a) x=some (.slice (some ⟨bl ρ s,q*sz,none⟩) n ((ρ s).c - q)):=by
      rw [hx,dv,hb1];rfl
     exact Sl.of (F:=fun _=>True) (fun d pos af=>Yl.indexAddr ⟨hu,hsz⟩ hx' hi (Nat.le_of_ble_eq_true hj)) trivial
    cases h
   cases h
  ·rename_i s off n cap
   obtain ⟨hj,h⟩:=must_some h
   split at h
   ·rename_i e hu
    obtain ⟨sz,hsz,h⟩:=ob_some h
    cases h
    exact Sl.of (F:=fun _=>True) (fun d pos af=>Yl.indexAddr ⟨hu,hsz⟩ hx hi (Nat.le_of_ble_eq_true hj)) trivial
   cases h
  ·rename_i s off
   split at h
   ·rename_i n e hu
    obtain ⟨hj,h⟩:=must_some h
    obtain ⟨sz,hsz,h⟩:=ob_some h
    obtain ⟨zs,hzs,h⟩:=ob_some h
    cases h
    exact Sl.of (F:=fun _=>True) (fun d pos af=>Yl.indexAddrA ⟨hu,hzs,hsz⟩ hx hi (Nat.le_of_ble_eq_true hj)) trivial
   cases h
  cases h
 cases h
theorem Sl.index {t:TypeId} {x i:Operand} {vx vi v:SV} (hx:Eng.ev (full a) x=some (dv ρ vx)) (hi:Eng.ev (full a) i=some (dv ρ vi)) (h:sIndex P t vx vi=some v):Sl P (.index t x i) ty a w (dv ρ v):=by
 unfold sIndex at h
 split at h
 ·rename_i l k j
  split at h
  ·rename_i n e hu
   obtain ⟨hj,h⟩:=must_some h
   obtain ⟨sz,hsz,h⟩:=ob_some h
   intro dst pos af g
   have hp:=sPart_run (P:=P) (ρ:=ρ) (w:=w) h
   have h1:(0:Int)≤(j:Int)∧(j:Int)<(n:Int):=by have:=Nat.le_of_ble_eq_true hj;omega
   have e1:=(Fr.full a).ev hx
   have e2:=(Fr.full a).ev hi
   simp only [dv] at e1 e2
   have hjn:j<n:=Nat.le_of_ble_eq_true hj
   have hnj: ¬ n≤j:=by omega
   simp [execOp,e1,e2,Instr.index,run_underlying hu,asIntOf,h1,hjn,hnj,Eng.run_sizeOf hsz,hp]
  cases h
 ·rename_i l k j
  split at h
  ·rename_i hu
   obtain ⟨c,hc,h⟩:=ob_some h
   cases h
   rw [nthS_eq] at hc
   have hc':(l.map UInt8.ofNat)[j]?=some (UInt8.ofNat c):=by rw [List.getElem?_map,hc];rfl
   have:=Sl.of (a:=a) (w:=w) (ty:=ty) (F:=fun _=>True) (fun d pos af=>Yl.indexS (P:=P) hu hx hi hc') trivial
   have e3:(Value.int .u8 ((UInt8.ofNat c).toNat:Int))=dv ρ (.int .u8 (.ofNat (Nat.mod c 256))):=by
    rw [dv];simp;rfl
   rw [← e3];exact this
  cases h
 cases h
end
end Go.X
namespace Go.X
open Go Go.Eng Go.RowKit Dg Go.Proofs.YtedbajbgnmaakaaGreatDoor
section
variable {P : Program} {w0 w : World} {O : List Nat} {N : Nat} {D : List SD} {σ : Asg} {T : TrS} {M : TrB} {a : Act} {ρ : Rho} {ty : TypeId}
noncomputable def eqN (l:List Nat):List Nat→Bool:=List.rec (fun m=>List.rec true (fun _ _ _=>false) m) (fun x _ ih m=>List.rec false (fun y r _=>bif Nat.beq (Nat.mod x 256) (Nat.mod y 256) then ih r else false) m) l
theorem eqN_eq :∀ l m:List Nat,eqN l m=(sk l==sk m)
 | [],[]=>rfl
 | [],y::m=>rfl
 | x::l,[]=>rfl
 | x::l,y::m=>by
  show (bif Nat.beq (x % 256) (y % 256) then eqN l m else false)=_
  rw [eqN_eq l m]
  unfold sk
  rw [List.map_cons,List.map_cons,List.cons_beq_cons]
  have e:(UInt8.ofNat x==UInt8.ofNat y)=Nat.beq (x % 256) (y % 256):=by
   rw [Bool.eq_iff_iff,beq_iff_eq,← UInt8.toNat_inj]
   simp
  rw [e]
  cases Nat.beq (x % 256) (y % 256)<;>rfl
def isC (x:Operand):Bool:=match x with | .const _=>true | _=>false
def bothNili (x y:SV):Bool:=match x,y with | .nili,.nili=>true | _,_=>false
def sameK :IntKind→IntKind→Bool
 | .i8,.i8 | .i16,.i16 | .i32,.i32 | .i64,.i64 | .u8,.u8 | .u16,.u16 | .u32,.u32 | .u64,.u64=>true
 | _,_=>false
theorem sameK_ok {k k':IntKind} (h:sameK k k'=true):k=k':=by cases k<;>cases k'<;>first | rfl | cases h
def ilt :Int→Int→Bool
 | .ofNat a,.ofNat b=>Nat.blt a b
 | .negSucc _,.ofNat _=>true
 | .ofNat _,.negSucc _=>false
 | .negSucc a,.negSucc b=>Nat.blt b a
theorem ilt_eq (i j:Int):ilt i j=decide (i<j):=by
 have hb:∀ a b:Nat,Nat.blt a b=decide (a<b):=fun a b=>by
  rw [Bool.eq_iff_iff,decide_eq_true_eq]
  exact ⟨fun h=>Nat.le_of_ble_eq_true h,fun h=>Nat.ble_eq_true_of_le h⟩
 cases i with
 | ofNat a=>cases j with
  | ofNat b=>rw [show ilt (.ofNat a) (.ofNat b)=Nat.blt a b from rfl,hb,Bool.eq_iff_iff,decide_eq_true_eq,decide_eq_true_eq];exact Int.ofNat_lt.symm
  | negSucc b=>rw [show ilt (.ofNat a) (.negSucc b)=false from rfl,eq_comm,decide_eq_false_iff_not];have:Int.negSucc b<0:=Int.negSucc_lt_zero b;simp only [Int.ofNat_eq_natCast];omega
 | negSucc a=>cases j with
  | ofNat b=>rw [show ilt (.negSucc a) (.ofNat b)=true from rfl,eq_comm,decide_eq_true_eq];have:Int.negSucc a<0:=Int.negSucc_lt_zero a;simp only [Int.ofNat_eq_natCast];omega
  | negSucc b=>rw [show ilt (.negSucc a) (.negSucc b)=Nat.blt b a from rfl,hb,Bool.eq_iff_iff,decide_eq_true_eq,decide_eq_true_eq];omega
def ieq :Int→Int→Bool
 | .ofNat a,.ofNat b=>Nat.beq a b
 | .negSucc a,.negSucc b=>Nat.beq a b
 | _,_=>false
theorem ieq_eq (i j:Int):ieq i j=(i==j):=by
 have hb:∀ a b:Nat,Nat.beq a b=decide (a=b):=fun a b=>by
  rw [Bool.eq_iff_iff,decide_eq_true_eq,Nat.beq_eq]
 rw [Bool.eq_iff_iff,beq_iff_eq]
 cases i with
 | ofNat a=>cases j with
  | ofNat b=>rw [show ieq (.ofNat a) (.ofNat b)=Nat.beq a b from rfl,Nat.beq_eq];exact ⟨fun h=>by rw [h],fun h=>Int.ofNat.inj h⟩
  | negSucc b=>exact ⟨fun h=>(by cases h),fun h=>(by cases h)⟩
 | negSucc a=>cases j with
  | ofNat b=>exact ⟨fun h=>(by cases h),fun h=>(by cases h)⟩
  | negSucc b=>rw [show ieq (.negSucc a) (.negSucc b)=Nat.beq a b from rfl,Nat.beq_eq];exact ⟨fun h=>by rw [h],fun h=>Int.negSucc.inj h⟩
def isI64 :IntKind→Bool
 | .i64=>true
 | _=>false
theorem isI64_ok {k:IntKind} (h:isI64 k=true):k= .i64:=by cases k<;>first | rfl | cases h
noncomputable def addI:Int→Int→Option SV
 | .ofNat a,.ofNat b=>bif Nat.ble (Nat.add a b) 4611686018427387904 then some (.int .i64 (.ofNat (Nat.add a b))) else none
 | _,_=>none
noncomputable def sBinI (b:BinOp) (k k':IntKind) (i j:Int):Option SV:=bif sameK k k' then (match b with
  | .eql=>some (.bool (ieq i j))
  | .neq=>some (.bool (!ieq i j))
  | .lss=>some (.bool (ilt i j))
  | .gtr=>some (.bool (ilt j i))
  | .leq=>some (.bool (!ilt j i))
  | .geq=>some (.bool (!ilt i j))
  | .add=>bif isI64 k then addI i j else none
  | _=>none) else none
noncomputable def sBinG (P:Program) (b:BinOp) (t:TypeId) (x y:Operand) (u1 u2:Value):Option SV:=ob (still P (do eqGuard b t x y u1 u2;binOp b t u1 u2)) cv
noncomputable def sBin (P:Program) (b:BinOp) (t:TypeId) (x y:Operand) (vx vy:SV):Option SV:=match vx,vy with
 | .str l,.str m=>(match b with
  | .add=>must (Nat.ble (l.length+m.length) 1000000) (some (.str (l++m)))
  | .eql=>some (.bool (eqN l m))
  | .neq=>some (.bool (!eqN l m))
  | _=>ob (still P (do eqGuard b t x y (.string (str (sk l))) (.string (str (sk m)));binOp b t (.string (str (sk l))) (.string (str (sk m))))) cv)
 | .int k i,.int k' j=>(match sBinI b k k' i j with | some v=>some v | none=>sBinG P b t x y (.int k i) (.int k' j))
 | .bool p,.bool q=>ob (still P (do eqGuard b t x y (.bool p) (.bool q);binOp b t (.bool p) (.bool q))) cv
 | .agg l1,.agg l2=>ob (grl l1) fun g1=>ob (grl l2) fun g2=>ob (still P (do eqGuard b t x y (.agg g1.toArray) (.agg g2.toArray);binOp b t (.agg g1.toArray) (.agg g2.toArray))) cv
 | .ifc t1 v1,.ifc t2 v2=>ob (gr v1) fun g1=>ob (gr v2) fun g2=>ob (still P (do eqGuard b t x y (.iface t1 g1) (.iface t2 g2);binOp b t (.iface t1 g1) (.iface t2 g2))) cv
 | _,_=>match b with
  | .eql=>ob (sEq P t vx vy) fun c=>must (!bothNili vx vy||isC x||isC y) (some (.bool c))
  | .neq=>ob (sEq P t vx vy) fun c=>must (!bothNili vx vy||isC x||isC y) (some (.bool (!c)))
  | _=>none
theorem nil_guard {b:BinOp} {t:TypeId} {x y:Operand} {vx vy:SV} {c:Bool} (h:sEq P t vx vy=some c) (hn:(!bothNili vx vy||isC x||isC y)=true):(eqGuard b t x y (dv ρ vx) (dv ρ vy)).run P w= .ok () w:=by
 unfold sEq at h
 cases hc:(nilOf P t vx&&nilOf P t vy&&(litNil vx||litNil vy)) with
 | false=>rw [hc] at h;cases h
 | true=>
  simp only [Bool.and_eq_true] at hc
  obtain ⟨⟨hx,hy⟩,hl⟩:=hc
  cases hu:P.underlying t with
  | none=>unfold nilOf at hx;rw [hu] at hx;cases hx
  | some d=>
   unfold nilOf at hx hy
   rw [hu] at hx hy
   cases d<;>cases vx<;>first | (cases hx;done) | skip
   all_goals cases vy<;>first | (cases hy;done) | (cases hl;done) | (cases b<;>(first | (simp [eqGuard,dv];done) | (simp only [bothNili,Bool.not_true,Bool.false_or,Bool.or_eq_true] at hn;rcases hn with hn | hn<;>(unfold isC at hn;split at hn<;>first | (cases hn;done) | (simp [eqGuard,dv])))))
theorem nil_bin {t:TypeId} {vx vy:SV} {c:Bool} (h:sEq P t vx vy=some c):(binOp .eql t (dv ρ vx) (dv ρ vy)).run P w= .ok (.bool c) w∧(binOp .neq t (dv ρ vx) (dv ρ vy)).run P w= .ok (.bool (!c)) w:=by
 have hq:=sEq_ok (P:=P) (ρ:=ρ) (w:=w) h
 unfold sEq at h
 cases hc:(nilOf P t vx&&nilOf P t vy&&(litNil vx||litNil vy)) with
 | false=>rw [hc] at h;cases h
 | true=>
  simp only [Bool.and_eq_true] at hc
  obtain ⟨⟨hx,hy⟩,hl⟩:=hc
  have key:binOp .eql t (dv ρ vx) (dv ρ vy)=(do pure (.bool (← Op.equal t (dv ρ vx) (dv ρ vy))))∧binOp .neq t (dv ρ vx) (dv ρ vy)=(do pure (.bool (!(← Op.equal t (dv ρ vx) (dv ρ vy))))):=by
   cases hu:P.underlying t with
   | none=>unfold nilOf at hx;rw [hu] at hx;cases hx
   | some d=>
    unfold nilOf at hx hy
    rw [hu] at hx hy
    cases d<;>cases vx<;>first | (cases hx;done) | skip
    all_goals cases vy<;>first | (cases hy;done) | (cases hl;done) | exact ⟨rfl,rfl⟩
  rw [key.1,key.2]
  simp [hq]
end
end Go.X
namespace Go.X
open Go Go.Eng Go.RowKit Dg Go.Proofs.YtedbajbgnmaakaaGreatDoor
section
variable {P : Program} {w0 w : World} {O : List Nat} {N : Nat} {D : List SD} {σ : Asg} {T : TrS} {M : TrB} {a : Act} {ρ : Rho} {ty : TypeId}
theorem Sl.bin {b:BinOp} {t t2:TypeId} {x y:Operand} {vx vy v:SV} (hx:Eng.ev (full a) x=some (dv ρ vx)) (hy:Eng.ev (full a) y=some (dv ρ vy)) (h:sBin P b t x y vx vy=some v):Sl P (.binOp b t x y t2) ty a w (dv ρ v):=by
 have gen:∀ {u1 u2:Value},dv ρ vx=u1→dv ρ vy=u2→ob (still P (do eqGuard b t x y u1 u2;binOp b t u1 u2)) cv=some v→Sl P (.binOp b t x y t2) ty a w (dv ρ v):=by
  intro u1 u2 h1 h2 h
  obtain ⟨u,hu,hc⟩:=ob_some h
  rw [h1] at hx;rw [h2] at hy
  have hr:=still_ok hu
  rw [cv_ok hc]
  exact Sl.of (F:=fun _=>True) (fun d pos af=>Yl.bin hx hy hr) trivial
 have nil:∀ c,sEq P t vx vy=some c→((b= .eql∧v= .bool c)∨(b= .neq∧v= .bool (!c)))→(!bothNili vx vy||isC x||isC y)=true→Sl P (.binOp b t x y t2) ty a w (dv ρ v):=by
  intro c hc hb hn
  have hb1:=fun w=>nil_bin (P:=P) (ρ:=ρ) (w:=w) hc
  have hg:=fun w=>nil_guard (P:=P) (ρ:=ρ) (w:=w) (b:=b) hc hn
  refine Sl.of (F:=fun _=>True) (fun d pos af=>Yl.bin hx hy (fun w=>?_)) trivial
  simp only [Sem.run_bind,hg w,Result.andThen_ok]
  rcases hb with ⟨rfl,rfl⟩ | ⟨rfl,rfl⟩
  ·exact (hb1 w).1
  ·exact (hb1 w).2
 unfold sBin at h
 split at h
 ·rename_i l m
  split at h
  ·obtain ⟨hl,h⟩:=must_some h
   cases h
   have:=Nat.le_of_ble_eq_true hl
   have e:=Sl.of (P:=P) (a:=a) (w:=w) (ty:=ty) (F:=fun _=>True) (fun d pos af=>Yl.addS (t:=t) (t':=t2) hx hy (by simp;omega)) trivial
   rw [dv,List.map_append];exact e
  ·cases h
   have e:=Sl.of (P:=P) (a:=a) (w:=w) (ty:=ty) (F:=fun _=>True) (fun d pos af=>Yl.eqS (t:=t) (t':=t2) hx hy) trivial
   rw [dv,eqN_eq];exact e
  ·cases h
   have e:=Sl.of (P:=P) (a:=a) (w:=w) (ty:=ty) (F:=fun _=>True) (fun d pos af=>Yl.neS (t:=t) (t':=t2) hx hy) trivial
   rw [dv,eqN_eq];exact e
  exact gen rfl rfl h
 ·rename_i k i k' j
  split at h
  ·rename_i v9 h9
   cases h
   unfold sBinI at h9
   cases hk:sameK k k' with
   | false=>rw [hk] at h9;cases h9
   | true=>
    rw [hk,cond_true] at h9
    have:=sameK_ok hk
    subst this
    simp only [dv] at hx hy
    split at h9
    ·cases h9
     rw [dv,ieq_eq]
     exact Sl.of (F:=fun _=>True) (fun d pos af=>Yl.eqI (t:=t) (t':=t2) hx hy) trivial
    ·cases h9
     rw [dv,ieq_eq]
     exact Sl.of (F:=fun _=>True) (fun d pos af=>Yl.neI (t:=t) (t':=t2) hx hy) trivial
    ·cases h9
     rw [dv,ilt_eq]
     exact Sl.of (F:=fun _=>True) (fun d pos af=>Yl.ltI (t:=t) (t':=t2) hx hy) trivial
    ·cases h9
     rw [dv,ilt_eq]
     exact Sl.of (F:=fun _=>True) (fun d pos af=>Yl.gtI (t:=t) (t':=t2) hx hy) trivial
    ·cases h9
     rw [dv,ilt_eq,show (!decide (j<i))=decide (i≤j) by rw [← decide_not];exact decide_eq_decide.2 Int.not_lt]
     exact Sl.of (F:=fun _=>True) (fun d pos af=>Yl.leI (t:=t) (t':=t2) hx hy) trivial
    ·cases h9
     rw [dv,ilt_eq,show (!decide (i<j))=decide (j≤i) by rw [← decide_not];exact decide_eq_decide.2 Int.not_lt]
     exact Sl.of (F:=fun _=>True) (fun d pos af=>Yl.geI (t:=t) (t':=t2) hx hy) trivial
    ·cases hk9:isI64 k with
     | false=>rw [hk9] at h9;cases h9
     | true=>
      rw [hk9,cond_true] at h9
      have:=isI64_ok hk9
      subst this
      unfold addI at h9
      split at h9
      ·rename_i a1 b1
       cases hb:Nat.ble (Nat.add a1 b1) 4611686018427387904 with
       | false=>rw [hb] at h9;cases h9
       | true=>
        rw [hb] at h9;cases h9
        have hle:=Nat.le_of_ble_eq_true hb
        have hle':a1+b1≤4611686018427387904:=hle
        have e:=Sl.of (P:=P) (a:=a) (w:=w) (ty:=ty) (F:=fun _=>True) (fun d pos af=>Yl.add (t:=t) (t':=t2) hx hy (by simp only [Int.ofNat_eq_natCast];omega)) trivial
        have e2:(Int.ofNat a1+Int.ofNat b1)=Int.ofNat (Nat.add a1 b1):=rfl
        rw [dv,← e2];exact e
      ·cases h9
    ·cases h9
  exact gen rfl rfl h
 ·exact gen rfl rfl h
 ·obtain ⟨g1,h1,h2⟩:=ob_some h
  obtain ⟨g2,h3,h4⟩:=ob_some h2
  exact gen (by rw [dv,grl_ok h1]) (by rw [dv,grl_ok h3]) h4
 ·obtain ⟨g1,h1,h2⟩:=ob_some h
  obtain ⟨g2,h3,h4⟩:=ob_some h2
  exact gen (by rw [dv,gr_ok h1]) (by rw [dv,gr_ok h3]) h4
 split at h
 ·obtain ⟨c,hc,h⟩:=ob_some h
  obtain ⟨hn,h⟩:=must_some h
  cases h
  exact nil c hc (.inl ⟨rfl,rfl⟩) hn
 ·obtain ⟨c,hc,h⟩:=ob_some h
  obtain ⟨hn,h⟩:=must_some h
  cases h
  exact nil c hc (.inr ⟨rfl,rfl⟩) hn
 cases h
theorem Sl.grd {op:Op} {s:Sem Value} {v:SV} (hs:∀ dst pos af g,execOp a.eval ⟨dst,op,ty,pos,af,g⟩=(do pure (.value (← s)))) (h:ob (still P s) cv=some v):Sl P op ty a w (dv ρ v):=fun dst pos af g=>by
 obtain ⟨u,hu,hc⟩:=ob_some h
 rw [hs,cv_ok hc]
 simp [still_ok hu]
def isStrT (P:Program) (t:TypeId):Bool:=match P.underlying t with | some .string=>true | _=>false
def sameConv (P:Program) (s d:TypeId) (x:SV):Bool:=match P.underlying s,P.underlying d,x with
 | some .string,some .string,.str _=>true
 | _,_,_=>false
noncomputable def sConv (P:Program) (s d:TypeId) (vx:SV):Option SV:=match vx with
 | .str l=>must (sameConv P s d (.str l)) (some (.str l))
 | _=>ob (gr vx) fun u=>ob (still P (Go.convert s d u)) cv
theorem Sl.conv {s d:TypeId} {x:Operand} {vx v:SV} (hx:a.eval x=dv ρ vx) (h:sConv P s d vx=some v):Sl P (.convert s d x) ty a w (dv ρ v):=by
 unfold sConv at h
 split at h
 ·rename_i l
  obtain ⟨hc,h⟩:=must_some h
  cases h
  unfold sameConv at hc
  split at hc
  ·rename_i h1 h2 h3
   intro dst pos af g
   simp [execOp,hx,Go.convert,run_underlying h1,run_underlying h2,dv]
  cases hc
 obtain ⟨u,hu,h⟩:=ob_some h
 rw [gr_ok hu] at hx
 exact Sl.grd (s:=Go.convert s d u) (fun dst pos af g=>by simp only [execOp,hx]) h
end
end Go.X
namespace Go.X
open Go Go.Eng Go.RowKit Dg Go.Proofs.YtedbajbgnmaakaaGreatDoor
section
variable {P : Program} {w0 w : World} {O : List Nat} {N : Nat} {D : List SD} {σ : Asg} {T : TrS} {M : TrB} {a : Act} {ρ : Rho} {ty : TypeId}
def oneS (x:SV):Bool:=match x with
 | .agg _ | .tup _=>false
 | _=>true
theorem oneS_ok {x:SV} (h:oneS x=true):(dv ρ x).oneCell'=true:=by
 cases x<;>first | (cases h;done) | rfl | exact (ρ _).one
theorem oneAll {l:List SV} (h:l.all oneS=true):∀ u∈dvs ρ l,u.oneCell'=true:=fun u hu=>by
 rw [dvs_map] at hu
 obtain ⟨x,hx,rfl⟩:=List.mem_map.1 hu
 exact oneS_ok (List.all_eq_true.1 h x hx)
def natS (x:SV):Option Nat:=match x with
 | .int _ (.ofNat n)=>some n
 | _=>none
noncomputable def optS (T:TrS) (M:TrB) (x:Option Operand) (d:Nat):Option Nat:=match x with
 | none=>some d
 | some x=>ob (evS T M x) natS
theorem natS_ok {x:SV} {n:Nat} (h:natS x=some n):∃ k,dv ρ x= .int k (n:Int):=by
 unfold natS at h
 split at h
 ·cases h;exact ⟨_,rfl⟩
 cases h
theorem bound_run {x:Option Operand} {d n y:Nat} {code:BoundsCode} (hF:FrS N D σ T a) (hG:MemG σ M) (hE:Ext σ ρ) (h:optS T M x d=some n):(∃ z,x=some z∧(n≤y→(Instr.sliceBound (a.eval z) y code).run P w= .ok n w))∨(x=none∧n=d):=by
 unfold optS at h
 cases x with
 | none=>cases h;exact .inr ⟨rfl,rfl⟩
 | some z=>
  obtain ⟨v,hv,hn⟩:=ob_some h
  obtain ⟨k,hk⟩:=natS_ok (ρ:=ρ) hn
  refine .inl ⟨z,rfl,fun hle=>?_⟩
  rw [evS_eval hF hG hE hv,hk]
  exact run_bound hle
theorem bounds_run {b:Bool} {len cap l h m:Nat} {lo hi mx:Option Operand} (hF:FrS N D σ T a) (hG:MemG σ M) (hE:Ext σ ρ) (hl:optS T M lo 0=some l) (hh:optS T M hi len=some h) (hm:optS T M mx cap=some m) (h1:l≤h) (h2:h≤m) (h3:m≤cap) (hx:mx.isSome=true→hi.isSome=true):
  (Instr.sliceBounds b len cap (lo.map a.eval) (hi.map a.eval) (mx.map a.eval)).run P w= .ok (l,h,m) w:=by
 unfold Instr.sliceBounds
 rcases bound_run (P:=P) (w:=w) (y:=cap) (code:=if b then .slice3Acap else .slice3Alen) hF hG hE hm with ⟨z,rfl,hz⟩ | ⟨rfl,rfl⟩
 ·obtain ⟨zh,rfl⟩:=Option.isSome_iff_exists.1 (hx rfl)
  rcases bound_run (P:=P) (w:=w) (y:=m) (code:= .slice3B) hF hG hE hh with ⟨z2,h4,hz2⟩ | ⟨h4,_⟩
  ·cases h4
   rcases bound_run (P:=P) (w:=w) (y:=h) (code:= .slice3C) hF hG hE hl with ⟨z3,rfl,hz3⟩ | ⟨rfl,rfl⟩
   ·simp [hz h3,hz2 h2,hz3 h1]
   simp [hz h3,hz2 h2]
  cases h4
 rcases bound_run (P:=P) (w:=w) (y:=m) (code:=if b then .sliceAcap else .sliceAlen) hF hG hE hh with ⟨z2,rfl,hz2⟩ | ⟨rfl,rfl⟩
 ·rcases bound_run (P:=P) (w:=w) (y:=h) (code:= .sliceB) hF hG hE hl with ⟨z3,rfl,hz3⟩ | ⟨rfl,rfl⟩
  ·simp [hz2 h2,hz3 h1]
  simp [hz2 h2]
 rcases bound_run (P:=P) (w:=w) (y:=h) (code:= .sliceB) hF hG hE hl with ⟨z3,rfl,hz3⟩ | ⟨rfl,rfl⟩
 ·simp [hz3 h1]
 simp
end
end Go.X
namespace Go.X
open Go Go.Eng Go.RowKit Dg Go.Proofs.YtedbajbgnmaakaaGreatDoor
section
variable {P : Program} {w0 w : World} {O : List Nat} {N : Nat} {D : List SD} {σ : Asg} {T : TrS} {M : TrB} {a : Act} {ρ : Rho} {ty : TypeId}
noncomputable def sSlice (P:Program) (T:TrS) (M:TrB) (t:TypeId) (vx:SV) (lo hi mx:Option Operand):Option SV:=match vx with
 | .str l=>must (isStrT P t&&mx.isNone) (ob (optS T M lo 0) fun i=>ob (optS T M hi l.length) fun j=>must (Nat.ble i j&&Nat.ble j l.length) (some (.str ((l.drop i).take (j - i)))))
 | .nils=>(match P.underlying t with
  | some (.slice e)=>ob (sizeB P e) fun sz=>ob (optS T M lo 0) fun i=>ob (optS T M hi 0) fun j=>ob (optS T M mx 0) fun m=>must (Nat.beq i 0&&Nat.beq j 0&&Nat.beq m 0&&(mx.isNone||hi.isSome)) (some .nils)
  | _=>none)
 | .slx s off n cap=>(match P.underlying t with
  | some (.slice e)=>ob (sizeB P e) fun sz=>ob (optS T M lo 0) fun i=>ob (optS T M hi n) fun j=>ob (optS T M mx cap) fun m=>
    must (Nat.ble i j&&Nat.ble j m&&Nat.ble m cap&&(mx.isNone||hi.isSome)) (some (.slx s (bif Nat.beq m i then off else off+i*sz) (j - i) (m - i)))
  | _=>none)
 | .sl s k n sz=>(match P.underlying t with
  | some (.slice e)=>ob (sizeB P e) fun z=>must (Nat.beq z sz) (match M.get s with
   | some (.row _ m0 _ _)=>must (Nat.ble (k+n) m0&&Nat.blt 0 m0) (ob (optS T M lo 0) fun i=>ob (optS T M hi n) fun j=>(match mx with
    | none=>must (Nat.ble i j&&Nat.ble j n&&(Nat.beq i 0||Nat.blt i n)) (some (.sl s (k+i) (j - i) sz))
    | some _=>ob (optS T M mx 0) fun m=>must (Nat.beq i 0&&Nat.ble j m&&Nat.ble m n&&hi.isSome) (some (.slx s (k*sz) j m))))
   | _=>none)
  | _=>none)
 | .ptr s off=>(match P.underlying t with
  | some (.array n e)=>must (lo.isNone&&hi.isNone&&mx.isNone) (ob (sizeB P e) fun sz=>ob (zeroB P t) fun _=>some (.slx s off n n))
  | _=>none)
 | _=>none
theorem slice_run {t e:TypeId} {a0:Option Addr} {n cap i j m sz:Nat} {lo hi mx:Option Operand} (hF:FrS N D σ T a) (hG:MemG σ M) (hE:Ext σ ρ) (hu:P.underlying t=some (.slice e)) (hs:sizeB P e=some sz)
  (hl:optS T M lo 0=some i) (hh:optS T M hi n=some j) (hm:optS T M mx cap=some m) (h1:i≤j) (h2:j≤m) (h3:m≤cap) (hx:mx.isSome=true→hi.isSome=true):
  (Instr.sliceAt t (.slice a0 n cap) (lo.map a.eval) (hi.map a.eval) (mx.map a.eval)).run P w= .ok (.slice (if m=i then a0 else a0.map (·.add (i*sz))) (j - i) (m - i)) w:=by
 have hb:=bounds_run (P:=P) (w:=w) (b:=true) hF hG hE hl hh hm h1 h2 h3 hx
 simp [Instr.sliceAt,Instr.slice,run_underlying hu,hb,Eng.run_sizeOf hs]
theorem Sl.slice {w':World} {t:TypeId} {x:Operand} {vx v:SV} {lo hi mx:Option Operand} (hF:FrS N D σ T a) (hM:MemS w0 O σ M w) (hG:MemG σ M) (hE:Ext σ ρ) (hx:a.eval x=dv ρ vx) (h:sSlice P T M t vx lo hi mx=some v):Sl P (.slice t x lo hi mx) ty a w' (dv ρ v):=by
 have mk:∀ {u:Value},(Instr.sliceAt t (dv ρ vx) (lo.map a.eval) (hi.map a.eval) (mx.map a.eval)).run P w'= .ok u w'→u=dv ρ v→Sl P (.slice t x lo hi mx) ty a w' (dv ρ v):=by
  intro u hr hu dst pos af g
  subst hu
  simp [execOp,hx,hr]
 unfold sSlice at h
 split at h
 ·rename_i l
  obtain ⟨hc,h⟩:=must_some h
  obtain ⟨i,hi',h⟩:=ob_some h
  obtain ⟨j,hj',h⟩:=ob_some h
  obtain ⟨hb,h⟩:=must_some h
  cases h
  rw [Bool.and_eq_true] at hc hb
  have hb1:=Nat.le_of_ble_eq_true hb.1
  have hb2:=Nat.le_of_ble_eq_true hb.2
  have hmx:mx=none:=by simpa using hc.2
  subst hmx
  have hu:P.underlying t=some .string:=by
   have:=hc.1
   unfold isStrT at this
   split at this
   ·assumption
   ·cases this
  have hbr:=bounds_run (P:=P) (w:=w') (b:=false) (cap:=l.length) hF hG hE hi' hj' (mx:=none) (m:=l.length) rfl hb1 hb2 (Nat.le_refl _) (by simp)
  refine mk (u:= .string (str (((sk l).drop i).take (j - i)))) ?_ ?_
  ·have hsz:(str (l.map UInt8.ofNat)).size=l.length:=by rw [str_size,List.length_map]
   simp only [Option.map_none] at hbr
   simp [Instr.sliceAt,Instr.slice,run_underlying hu,dv,hsz,hbr,str_extract,sk]
  simp [dv,sk,List.map_take,List.map_drop]
 ·split at h
  ·rename_i e hu
   obtain ⟨sz,hs,h⟩:=ob_some h
   obtain ⟨i,hi',h⟩:=ob_some h
   obtain ⟨j,hj',h⟩:=ob_some h
   obtain ⟨m,hm',h⟩:=ob_some h
   obtain ⟨hb,h⟩:=must_some h
   cases h
   simp only [Bool.and_eq_true] at hb
   obtain ⟨⟨⟨h1,h2⟩,h3⟩,h4⟩:=hb
   have h1:=Nat.eq_of_beq_eq_true h1
   have h2:=Nat.eq_of_beq_eq_true h2
   have h3:=Nat.eq_of_beq_eq_true h3
   subst h1;subst h2;subst h3
   refine mk (slice_run hF hG hE hu hs hi' hj' hm' (Nat.le_refl _) (Nat.le_refl _) (Nat.le_refl _) (fun h=>by cases mx<;>simp_all)) ?_
   simp [dv]
  cases h
 ·rename_i s off n cap
  split at h
  ·rename_i e hu
   obtain ⟨sz,hs,h⟩:=ob_some h
   obtain ⟨i,hi',h⟩:=ob_some h
   obtain ⟨j,hj',h⟩:=ob_some h
   obtain ⟨m,hm',h⟩:=ob_some h
   obtain ⟨hb,h⟩:=must_some h
   cases h
   simp only [Bool.and_eq_true] at hb
   obtain ⟨⟨⟨h1,h2⟩,h3⟩,h4⟩:=hb
   have h1:=Nat.le_of_ble_eq_true h1
   have h2:=Nat.le_of_ble_eq_true h2
   have h3:=Nat.le_of_ble_eq_true h3
   refine mk (slice_run hF hG hE hu hs hi' hj' hm' h1 h2 h3 (fun h=>by cases mx<;>simp_all)) ?_
   by_cases hmi:m=i
   ·subst hmi
    simp [dv]
   have:Nat.beq m i=false:=by
    cases hq:Nat.beq m i with
    | true=>exact absurd (Nat.eq_of_beq_eq_true hq) hmi
    | false=>rfl
   simp [dv,hmi,this,add_blk]
  cases h
 ·rename_i s k n sz
  split at h
  ·rename_i e hu
   obtain ⟨z,hs,h⟩:=ob_some h
   obtain ⟨hz,h⟩:=must_some h
   have hz:=Nat.eq_of_beq_eq_true hz
   subst hz
   split at h
   ·rename_i xs m0 e0 s0 hmem
    obtain ⟨hk,h⟩:=must_some h
    rw [Bool.and_eq_true] at hk
    have hk1:=Nat.le_of_ble_eq_true hk.1
    obtain ⟨hb,hc⟩:=row_blk (hM.ok hE hmem) (Nat.le_of_ble_eq_true hk.2)
    obtain ⟨i,hi',h⟩:=ob_some h
    obtain ⟨j,hj',h⟩:=ob_some h
    cases mx with
    | none=>
     dsimp only at h
     obtain ⟨hb2,h⟩:=must_some h
     cases h
     simp only [Bool.and_eq_true] at hb2
     obtain ⟨⟨h1,h2⟩,h3⟩:=hb2
     have h1:=Nat.le_of_ble_eq_true h1
     have h2:=Nat.le_of_ble_eq_true h2
     refine mk (slice_run (mx:=none) hF hG hE hu hs hi' hj' rfl h1 (by omega) (Nat.le_refl _) (by simp)) ?_
     simp only [dv,hb,Option.map_some]
     rw [Bool.or_eq_true] at h3
     rcases h3 with h3 | h3
     ·have h3:=Nat.eq_of_beq_eq_true h3
      subst h3
      simp [add_blk]
     ·have h3:i<n:=Nat.le_of_ble_eq_true h3
      rw [if_neg (by omega)]
      simp only [add_blk,Option.map_some]
      rw [Nat.add_mul,Nat.sub_sub]
    | some zz=>
     dsimp only at h
     obtain ⟨m,hm',h⟩:=ob_some h
     obtain ⟨hb2,h⟩:=must_some h
     cases h
     simp only [Bool.and_eq_true] at hb2
     obtain ⟨⟨⟨h1,h2⟩,h3⟩,h4⟩:=hb2
     have h1:=Nat.eq_of_beq_eq_true h1
     have h2:=Nat.le_of_ble_eq_true h2
     have h3:=Nat.le_of_ble_eq_true h3
     subst h1
     have hm2:optS T M (some zz) ((ρ s).c - k)=some m:=hm'
     refine mk (slice_run hF hG hE hu hs hi' hj' hm2 (Nat.zero_le _) h2 (by omega) (fun _=>h4)) ?_
     simp [dv,hb,add_blk]
   cases h
  cases h
 ·rename_i s off
  split at h
  ·rename_i n e hu
   obtain ⟨hc,h⟩:=must_some h
   obtain ⟨sz,hs,h⟩:=ob_some h
   obtain ⟨zs,hzs,h⟩:=ob_some h
   cases h
   simp only [Bool.and_eq_true,Option.isNone_iff_eq_none] at hc
   obtain ⟨⟨rfl,rfl⟩,rfl⟩:=hc
   refine mk (u:= .slice (some ⟨bl ρ s,off,none⟩) n n) ?_ rfl
   simp [Instr.sliceAt,Instr.sureAddr,Instr.sliceBounds,dv,run_underlying hu,Eng.run_sizeOf hs,Addr.add]
  cases h
 cases h
end
end Go.X
namespace Go.X
open Go Go.Eng Go.RowKit Dg Go.Proofs.YtedbajbgnmaakaaGreatDoor
section
variable {P : Program} {w0 w : World} {O : List Nat} {N : Nat} {D : List SD} {σ : Asg} {T : TrS} {M : TrB} {a : Act} {ρ : Rho} {ty : TypeId}
def lay (cs vs:List SV) (off:Nat):List SV:=cs.take off++vs++cs.drop (off+vs.length)
theorem setN_lay :∀ (cs vs:List Value) (off:Nat),off+vs.length≤cs.length→SetN cs off vs (cs.take off++vs++cs.drop (off+vs.length))
 | [],vs,off,h=>by
  have h1:off=0:=by simp at h;exact h.1
  have h2:vs=[]:=by simp at h;exact h.2
  subst h1;subst h2
  exact .nil
 | c::cs,[],0,h=>by simpa using SetN.done
 | c::cs,v::vs,0,h=>by
  have:=setN_lay cs vs 0 (by simp at h ⊢;omega)
  simp only [List.take_zero,List.nil_append,Nat.zero_add,List.length_cons,List.cons_append,List.drop_succ_cons] at this ⊢
  exact .put this
 | c::cs,vs,off+1,h=>by
  have:=setN_lay cs vs off (by simp at h;omega)
  simp only [List.take_succ_cons,List.cons_append,Nat.add_right_comm,List.drop_succ_cons] at this ⊢
  exact .skip this
theorem dvs_lay (cs vs:List SV) (off:Nat):dvs ρ (lay cs vs off)=(dvs ρ cs).take off++dvs ρ vs++(dvs ρ cs).drop (off+(dvs ρ vs).length):=by
 simp [lay,dvs_map,List.map_take,List.map_drop]
def cellsS (x:SV):Option (List SV):=match x with
 | .agg l=>some l
 | .tup _=>none
 | x=>some [x]
noncomputable def builtS (pl:Nat→Option (Nat×Nat)) (ps:List (Nat×SV)):List SV→Option (List SV):=
 List.rec (fun cs=>some cs) (fun p _ ih cs=>ob (pl p.1) fun q=>ob (cellsS p.2) fun vs=>must (Nat.beq vs.length q.2&&Nat.ble (q.1+q.2) cs.length) (ih (lay cs vs q.1))) ps
theorem builtS_cons (pl:Nat→Option (Nat×Nat)) (p:Nat×SV) (ps:List (Nat×SV)) (cs:List SV):builtS pl (p::ps) cs=ob (pl p.1) fun q=>ob (cellsS p.2) fun vs=>must (Nat.beq vs.length q.2&&Nat.ble (q.1+q.2) cs.length) (builtS pl ps (lay cs vs q.1)):=rfl
theorem builtS_ok {pl:Nat→Option (Nat×Nat)}:∀ {ps:List (Nat×SV)} {cs cs':List SV},builtS pl ps cs=some cs'→Built pl (dvs ρ cs) (ps.map fun p=>(p.1,dv ρ p.2)) (dvs ρ cs')
 | [],cs,cs',h=>by cases h;exact .nil
 | p::ps,cs,cs',h=>by
  rw [builtS_cons] at h
  obtain ⟨⟨off,n⟩,hp,h⟩:=ob_some h
  obtain ⟨vs,hv,h⟩:=ob_some h
  obtain ⟨hb,h⟩:=must_some h
  rw [Bool.and_eq_true] at hb
  have h1:=Nat.eq_of_beq_eq_true hb.1
  have h2:=Nat.le_of_ble_eq_true hb.2
  dsimp only at h1 h2 h
  have hs:=setN_lay (dvs ρ cs) (dvs ρ vs) off (by rw [dvs_len,dvs_len];omega)
  rw [← dvs_lay] at hs
  have ih:=builtS_ok h
  obtain ⟨i,x⟩:=p
  have one:∀ y:SV,oneS y=true→vs=[y]→Built pl (dvs ρ cs) ((i,dv ρ y)::ps.map fun p=>(p.1,dv ρ p.2)) (dvs ρ cs'):=fun y hy he=>by
   subst he
   refine .one (off:=off) ?_ (oneS_ok hy) hs ih
   rw [hp];simp at h1;rw [h1]
  cases x with
  | agg l=>
   cases hv
   exact .agg (off:=off) (n:=n) hp (by rw [dvs_len];exact h1) hs ih
  | tup l=>cases hv
  | _=>cases hv;exact one _ rfl rfl
noncomputable def partsS (T:TrS) (M:TrB) (l:List (Nat×Operand)):Option (List (Nat×SV)):=
 List.rec (some []) (fun p _ ih=>ob (evS T M p.2) fun v=>ob ih fun vs=>some ((p.1,v)::vs)) l
theorem partsS_ok (hF:FrS N D σ T a) (hG:MemG σ M) (hE:Ext σ ρ):∀ {l:List (Nat×Operand)} {ps:List (Nat×SV)},partsS T M l=some ps→evp (full a) l=some (ps.map fun p=>(p.1,dv ρ p.2))
 | [],ps,h=>by cases h;rfl
 | (i,x)::l,ps,h=>by
  have h':(ob (evS T M x) fun v=>ob (partsS T M l) fun vs=>some ((i,v)::vs))=some ps:=h
  obtain ⟨v,hv,h'⟩:=ob_some h'
  obtain ⟨vs,hvs,h'⟩:=ob_some h'
  cases h'
  simp only [evp,evS_ok hF hG hE hv,partsS_ok hF hG hE hvs,List.map_cons]
noncomputable def sBuild (P:Program) (T:TrS) (M:TrB) (t:TypeId) (parts:List (Nat×Operand)):Option SV:=
 ob (zeroB P t) fun zs=>ob (cvs zs) fun cs=>ob (partsS T M parts) fun ps=>match placesB P t with
  | some pl=>ob (builtS (fun i=>pl[i]?) ps cs) fun r=>some (.agg r)
  | none=>match P.underlying t with
   | some (.array n e)=>ob (sizeB P e) fun sz=>ob (builtS (fun i=>some (i*sz,sz)) ps cs) fun r=>some (.agg r)
   | _=>none
theorem Sl.build {t:TypeId} {parts:Array (Nat×Operand)} {v:SV} (hF:FrS N D σ T a) (hG:MemG σ M) (hE:Ext σ ρ) (h:sBuild P T M t parts.toList=some v):Sl P (.build t parts) ty a w (dv ρ v):=by
 unfold sBuild at h
 obtain ⟨zs,hz,h⟩:=ob_some h
 obtain ⟨cs,hc,h⟩:=ob_some h
 obtain ⟨ps,hp,h⟩:=ob_some h
 have hcs:=cvs_ok hc ρ
 have hpa:parts=parts.toList.toArray:=by simp
 split at h
 ·rename_i pl hpl
  obtain ⟨r,hr,h⟩:=ob_some h
  cases h
  have:=builtS_ok (ρ:=ρ) hr
  rw [hcs] at this
  rw [hpa]
  exact Sl.of (F:=fun _=>True) (fun d pos af=>Yl.build ⟨hz,hpl⟩ (partsS_ok hF hG hE hp) this) trivial
 split at h
 ·rename_i n e hu
  obtain ⟨sz,hs,h⟩:=ob_some h
  obtain ⟨r,hr,h⟩:=ob_some h
  cases h
  have:=builtS_ok (ρ:=ρ) hr
  rw [hcs] at this
  rw [hpa]
  exact Sl.of (F:=fun _=>True) (fun d pos af=>Yl.buildA ⟨hu,hz,hs⟩ (partsS_ok hF hG hE hp) this) trivial
 cases h
end
end Go.X
namespace Go.X
open Go Go.Eng Go.RowKit Dg Go.Proofs.YtedbajbgnmaakaaGreatDoor
section
variable {P : Program} {w0 w : World} {O : List Nat} {N : Nat} {D : List SD} {σ : Asg} {T : TrS} {M : TrB} {a : Act} {ρ : Rho} {ty : TypeId}
noncomputable def sCap (P:Program) (t:TypeId) (x:SV):Option SV:=match P.underlying t,x with
 | some (.slice _),.slx _ _ _ c=>some (.int .i64 (.ofNat c))
 | some (.slice _),.nils=>some (.int .i64 (.ofNat 0))
 | _,_=>none
noncomputable def mm2 (b:Builtin) (x y:SV):Option SV:=match b,x,y with
 | .min,.int k m,.int _ n=>some (.int k (if n<m then n else m))
 | .max,.int k m,.int _ n=>some (.int k (if m<n then n else m))
 | _,_,_=>none
noncomputable def sCallB (P:Program) (T:TrS) (M:TrB) (b:Builtin) (xs:List Operand) (ts:List TypeId):Option SV:=match b with
 | .len=>(match xs,ts with | [x],[t]=>ob (evS T M x) fun v=>sLen P t v | _,_=>none)
 | .cap=>(match xs,ts with | [x],[t]=>ob (evS T M x) fun v=>sCap P t v | _,_=>none)
 | .min=>(match xs with | [x,y]=>ob (evS T M x) fun v=>ob (evS T M y) fun u=>mm2 .min v u | [x,y,z]=>ob (evS T M x) fun v=>ob (evS T M y) fun u=>ob (evS T M z) fun t=>ob (mm2 .min v u) fun m=>mm2 .min m t | _=>none)
 | .max=>(match xs with | [x,y]=>ob (evS T M x) fun v=>ob (evS T M y) fun u=>mm2 .max v u | _=>none)
 | _=>none
noncomputable def bPick (T:TrS) (M:TrB) (x y:Operand) (v:SV):Option SV:=match v with | .bool true=>evS T M x | .bool false=>evS T M y | _=>none
noncomputable def bExtract (i:Nat) (v:SV):Option SV:=match v with | .tup l=>nthS l i | _=>none
noncomputable def bNil (v:SV):Option SV:=match v with | .ptr s o=>some (.ptr s o) | .fn f us cs=>some (.fn f us cs) | .ifc t u=>some (.ifc t u) | .yl s=>some (.yl s) | _=>none
noncomputable def bFld (P:Program) (t:TypeId) (f:Nat) (v:SV):Option SV:=match v with | .ptr s o=>ob (fldB P t f) fun k=>some (.ptr s (o+k)) | _=>none
noncomputable def bField (P:Program) (t:TypeId) (f:Nat) (v:SV):Option SV:=match v with | .agg l=>ob (fldTB P t f) fun q=>sPart P q.1 l q.2 | _=>none
noncomputable def sPick (T:TrS) (M:TrB) (c x y:Operand):Option SV:=ob (evS T M c) (bPick T M x y)
noncomputable def sExtract (T:TrS) (M:TrB) (x:Operand) (i:Nat):Option SV:=ob (evS T M x) (bExtract i)
noncomputable def sNilC (T:TrS) (M:TrB) (x:Operand):Option SV:=ob (evS T M x) bNil
noncomputable def sFld (P:Program) (T:TrS) (M:TrB) (t:TypeId) (x:Operand) (f:Nat):Option SV:=ob (evS T M x) (bFld P t f)
noncomputable def sField (P:Program) (T:TrS) (M:TrB) (t:TypeId) (x:Operand) (f:Nat):Option SV:=ob (evS T M x) (bField P t f)
noncomputable def sIxA (P:Program) (T:TrS) (M:TrB) (t:TypeId) (x i:Operand):Option SV:=ob (evS T M x) fun v=>ob (evS T M i) (sIndexAddr P M t v)
noncomputable def sIx (P:Program) (T:TrS) (M:TrB) (t:TypeId) (x i:Operand):Option SV:=ob (evS T M x) fun v=>ob (evS T M i) (sIndex P t v)
noncomputable def sLd (P:Program) (T:TrS) (M:TrB) (t:TypeId) (x:Operand):Option SV:=ob (evS T M x) (sLoad P M t)
noncomputable def bIfc (t:TypeId) (v:SV):Option SV:=some (.ifc t v)
noncomputable def sMkI (P:Program) (T:TrS) (M:TrB) (t:TypeId) (x:Operand):Option SV:=must (P.concrete t) (ob (evS T M x) (bIfc t))
noncomputable def sMkF (T:TrS) (M:TrB) (fn:Fn) (us cs:Array Operand):Option SV:=match fn with | .func f=>ob (evsS T M us.toList) fun u=>ob (evsS T M cs.toList) fun c=>some (.fn f u c) | _=>none
noncomputable def rowNon (M:TrB) (u:SV):Bool:=match u with
 | .sl s _ _ _=>(match M.get s with | some (.row _ m _ _)=>Nat.blt 0 m | _=>false)
 | _=>false
def isNils (u:SV):Bool:=match u with | .nils=>true | _=>false
theorem rowNon_ok (hM:MemS w0 O σ M w) (hE:Ext σ ρ) {u:SV} (h:rowNon M u=true):∃ a n c,dv ρ u= .slice (some a) n c:=by
 unfold rowNon at h
 split at h
 ·split at h
  ·rename_i s k n z xs m e z0 hs
   have:=(row_blk (hM.ok hE hs) (Nat.le_of_ble_eq_true h)).1
   exact ⟨_,_,_,by rw [dv,this];rfl⟩
  cases h
 cases h
noncomputable def sNilRow (P:Program) (M:TrB) (b:BinOp) (t:TypeId) (u v:SV):Option SV:=match P.underlying t with
 | some (.slice _)=>must ((rowNon M u&&isNils v)||(isNils u&&rowNon M v)) (match b with | .eql=>some (.bool false) | .neq=>some (.bool true) | _=>none)
 | _=>none
theorem sl_ne {t e:TypeId} {a:Addr} {n c:Nat} (hu:P.underlying t=some (.slice e)) {b:BinOp} {x y:Operand} {r:Bool} (hb:(b= .eql∧r=false)∨(b= .neq∧r=true)):
  (do eqGuard b t x y (.slice (some a) n c) (.slice none 0 0);binOp b t (.slice (some a) n c) (.slice none 0 0)).run P w= .ok (.bool r) w∧
  (do eqGuard b t x y (.slice none 0 0) (.slice (some a) n c);binOp b t (.slice none 0 0) (.slice (some a) n c)).run P w= .ok (.bool r) w:=by
 have h1:(Op.equal t (.slice (some a) n c) (.slice none 0 0)).run P w= .ok false w:=by
  show (Op.equalIn (9999+1) t _ _).run P w=_
  generalize 9999=q
  simp [Op.equalIn,run_underlying hu]
 have h2:(Op.equal t (.slice none 0 0) (.slice (some a) n c)).run P w= .ok false w:=by
  show (Op.equalIn (9999+1) t _ _).run P w=_
  generalize 9999=q
  simp [Op.equalIn,run_underlying hu]
 rcases hb with ⟨rfl,rfl⟩ | ⟨rfl,rfl⟩
 ·exact ⟨by simp [eqGuard,show binOp .eql t (.slice (some a) n c) (.slice none 0 0)=(do pure (.bool (← Op.equal t (.slice (some a) n c) (.slice none 0 0)))) from rfl,h1],by simp [eqGuard,show binOp .eql t (.slice none 0 0) (.slice (some a) n c)=(do pure (.bool (← Op.equal t (.slice none 0 0) (.slice (some a) n c)))) from rfl,h2]⟩
 exact ⟨by simp [eqGuard,show binOp .neq t (.slice (some a) n c) (.slice none 0 0)=(do pure (.bool (!(← Op.equal t (.slice (some a) n c) (.slice none 0 0))))) from rfl,h1],by simp [eqGuard,show binOp .neq t (.slice none 0 0) (.slice (some a) n c)=(do pure (.bool (!(← Op.equal t (.slice none 0 0) (.slice (some a) n c))))) from rfl,h2]⟩
theorem Sl.nilRow {w':World} {b:BinOp} {t t2:TypeId} {x y:Operand} {vx vy v:SV} (hM:MemS w0 O σ M w) (hE:Ext σ ρ) (hx:Eng.ev (full a) x=some (dv ρ vx)) (hy:Eng.ev (full a) y=some (dv ρ vy)) (h:sNilRow P M b t vx vy=some v):Sl P (.binOp b t x y t2) ty a w' (dv ρ v):=by
 unfold sNilRow at h
 split at h
 ·rename_i e hu
  obtain ⟨hc,h⟩:=must_some h
  obtain ⟨r,rfl,hb⟩:∃ r,v= .bool r∧((b= .eql∧r=false)∨(b= .neq∧r=true)):=by
   split at h<;>cases h
   ·exact ⟨_,rfl,.inl ⟨rfl,rfl⟩⟩
   ·exact ⟨_,rfl,.inr ⟨rfl,rfl⟩⟩
  rw [Bool.or_eq_true,Bool.and_eq_true,Bool.and_eq_true] at hc
  rcases hc with ⟨h1,h2⟩ | ⟨h1,h2⟩
  ·obtain ⟨a1,n1,c1,e1⟩:=rowNon_ok hM hE h1
   have e2:vy= .nils:=by unfold isNils at h2;split at h2<;>first | rfl | cases h2
   subst e2
   rw [e1] at hx
   exact Sl.of (F:=fun _=>True) (fun d pos af=>Yl.bin hx hy (fun w=>(sl_ne hu hb).1)) trivial
  obtain ⟨a1,n1,c1,e1⟩:=rowNon_ok hM hE h2
  have e2:vx= .nils:=by unfold isNils at h1;split at h1<;>first | rfl | cases h1
  subst e2
  rw [e1] at hy
  exact Sl.of (F:=fun _=>True) (fun d pos af=>Yl.bin hx hy (fun w=>(sl_ne hu hb).2)) trivial
 cases h
noncomputable def orE {α:Type} (x y:Option α):Option α:=Option.rec y (fun v=>some v) x
theorem orE_ok {α:Type} {x y:Option α} {v:α} (h:orE x y=some v):x=some v∨y=some v:=by
 cases x with
 | none=>exact .inr h
 | some u=>cases h;exact .inl rfl
noncomputable def sBn (P:Program) (T:TrS) (M:TrB) (b:BinOp) (t:TypeId) (x y:Operand):Option SV:=ob (evS T M x) fun vx=>ob (evS T M y) fun vy=>orE (sBin P b t x y vx vy) (sNilRow P M b t vx vy)
noncomputable def sUn (P:Program) (T:TrS) (M:TrB) (u:UnOp) (x:Operand):Option SV:=ob (evS T M x) fun v=>ob (gr v) fun g=>ob (still P (Op.unary u g)) cv
noncomputable def sCv (P:Program) (T:TrS) (M:TrB) (s d:TypeId) (x:Operand):Option SV:=ob (evS T M x) (sConv P s d)
noncomputable def sSl (P:Program) (T:TrS) (M:TrB) (t:TypeId) (x:Operand) (lo hi mx:Option Operand):Option SV:=ob (evS T M x) fun v=>sSlice P T M t v lo hi mx
noncomputable def sCl (P:Program) (T:TrS) (M:TrB) (c:Call):Option SV:=match c.callee with | .builtin b=>sCallB P T M b c.args.toList c.argTypes.toList | _=>none
noncomputable def sop (P:Program) (T:TrS) (M:TrB) (op:Op):Option SV:=match op with
 | .move x=>evS T M x
 | .assign x=>evS T M x
 | .pick c x y=>sPick T M c x y
 | .extract x i=>sExtract T M x i
 | .nilCheck x=>sNilC T M x
 | .fieldAddr t x f=>sFld P T M t x f
 | .field t x f=>sField P T M t x f
 | .indexAddr t x i=>sIxA P T M t x i
 | .index t x i=>sIx P T M t x i
 | .load t x=>sLd P T M t x
 | .makeInterface t x=>sMkI P T M t x
 | .makeFunc fn us cs=>sMkF T M fn us cs
 | .build t parts=>sBuild P T M t parts.toList
 | .binOp b t x y _=>sBn P T M b t x y
 | .unOp u _ x=>sUn P T M u x
 | .convert s d x=>sCv P T M s d x
 | .slice t x lo hi mx=>sSl P T M t x lo hi mx
 | .call c=>sCl P T M c
 | _=>none
theorem sCallB_ok {b:Builtin} {args:Array Operand} {tys:Array TypeId} {v:SV} (hF:FrS N D σ T a) (hG:MemG σ M) (hE:Ext σ ρ) (h:sCallB P T M b args.toList tys.toList=some v):Sl P (.call {callee:= .builtin b,args:=args,argTypes:=tys}) ty a w (dv ρ v):=by
 have ea:args=args.toList.toArray:=by simp
 have et:tys=tys.toList.toArray:=by simp
 unfold sCallB at h
 split at h
 ·split at h
  ·rename_i x t h1 h2
   obtain ⟨vx,hx,h⟩:=ob_some h
   rw [ea,et,h1,h2]
   have hx':=evS_ok hF hG hE hx
   unfold sLen at h
   split at h
   ·rename_i l hu
    cases h
    have:=Sl.of (P:=P) (a:=a) (w:=w) (ty:=ty) (F:=fun _=>True) (fun d pos af=>Yl.lenS hu hx') trivial
    rw [List.length_map] at this
    exact this
   ·rename_i e s k n sz hu
    cases h
    exact Sl.of (F:=fun _=>True) (fun d pos af=>Yl.lenSl hu hx') trivial
   ·rename_i e s k n sz hu
    cases h
    exact Sl.of (F:=fun _=>True) (fun d pos af=>Yl.lenSl hu hx') trivial
   ·rename_i e hu
    cases h
    exact Sl.of (F:=fun _=>True) (fun d pos af=>Yl.lenSl hu hx') trivial
   cases h
  cases h
 ·split at h
  ·rename_i x t h1 h2
   obtain ⟨vx,hx,h⟩:=ob_some h
   rw [ea,et,h1,h2]
   have hx':=evS_eval hF hG hE hx
   unfold sCap at h
   split at h
   ·rename_i e s k n c hu
    cases h
    intro dst pos af g
    simp [execOp,resolve,invoke,builtin,hx',Builtin.cap_,run_underlying hu,goInt,dv]
   ·rename_i e hu
    cases h
    intro dst pos af g
    simp [execOp,resolve,invoke,builtin,hx',Builtin.cap_,run_underlying hu,goInt,dv]
   cases h
  cases h
 ·split at h
  ·rename_i x y h1
   obtain ⟨vx,hx,h⟩:=ob_some h
   obtain ⟨vy,hy,h⟩:=ob_some h
   rw [ea,h1]
   have hx':=evS_eval hF hG hE hx
   have hy':=evS_eval hF hG hE hy
   unfold mm2 at h
   split at h
   ·cases h
    intro dst pos af g
    simp [execOp,resolve,invoke,builtin,hx',hy',Builtin.min_,Builtin.min2,dv]
   ·contradiction
   cases h
  ·rename_i x y z h1
   obtain ⟨vx,hx,h⟩:=ob_some h
   obtain ⟨vy,hy,h⟩:=ob_some h
   obtain ⟨vz,hz,h⟩:=ob_some h
   obtain ⟨m,hm,h⟩:=ob_some h
   rw [ea,h1]
   have hx':=evS_eval hF hG hE hx
   have hy':=evS_eval hF hG hE hy
   have hz':=evS_eval hF hG hE hz
   unfold mm2 at hm
   split at hm
   ·cases hm
    cases vz<;>first | (cases h;done) | skip
    cases h
    intro dst pos af g
    simp [execOp,resolve,invoke,builtin,hx',hy',hz',Builtin.min_,Builtin.min2,dv]
   ·contradiction
   cases hm
  cases h
 ·split at h
  ·rename_i x y h1
   obtain ⟨vx,hx,h⟩:=ob_some h
   obtain ⟨vy,hy,h⟩:=ob_some h
   rw [ea,h1]
   have hx':=evS_eval hF hG hE hx
   have hy':=evS_eval hF hG hE hy
   unfold mm2 at h
   split at h
   ·contradiction
   ·cases h
    intro dst pos af g
    simp [execOp,resolve,invoke,builtin,hx',hy',Builtin.max_,Builtin.max2,dv]
   cases h
  cases h
 cases h
def isLoad (op:Op):Bool:=match op with
 | .load _ _=>true
 | _=>false
theorem sop_any {w':World} {op:Op} {v:SV} (hF:FrS N D σ T a) (hM:MemS w0 O σ M w) (hG:MemG σ M) (hE:Ext σ ρ) (hl:isLoad op=false) (h:sop P T M op=some v):Sl P op ty a w' (dv ρ v):=by
 have E:∀ {x:Operand} {u:SV},evS T M x=some u→Eng.ev (full a) x=some (dv ρ u):=fun h=>evS_ok hF hG hE h
 have V:∀ {x:Operand} {u:SV},evS T M x=some u→a.eval x=dv ρ u:=fun h=>evS_eval hF hG hE h
 unfold sop at h
 split at h
 ·intro dst pos af g;simp [execOp,V h]
 ·intro dst pos af g;simp [execOp,V h]
 ·unfold sPick at h
  obtain ⟨b,hb,h⟩:=ob_some h
  have e1:=V hb
  unfold bPick at h
  split at h
  ·intro dst pos af g;simp [execOp,e1,dv,asBool,V h]
  ·intro dst pos af g;simp [execOp,e1,dv,asBool,V h]
  cases h
 ·unfold sExtract at h
  obtain ⟨u,hu,h⟩:=ob_some h
  have e1:=V hu
  unfold bExtract at h
  split at h
  ·rename_i l
   rw [nthS_eq] at h
   have:=dvs_get (ρ:=ρ) h
   intro dst pos af g;simp [execOp,e1,dv,Instr.extract,this]
  cases h
 ·unfold sNilC at h
  obtain ⟨u,hu,h⟩:=ob_some h
  have e1:=V hu
  unfold bNil at h
  split at h
  ·cases h;intro dst pos af g;simp [execOp,e1,dv]
  ·cases h;intro dst pos af g;simp [execOp,e1,dv]
  ·cases h;intro dst pos af g;simp [execOp,e1,dv]
  ·cases h;intro dst pos af g;simp [execOp,e1,dv]
  cases h
 ·unfold sFld at h
  obtain ⟨u,hu,h⟩:=ob_some h
  have e1:=E hu
  unfold bFld at h
  split at h
  ·obtain ⟨k,hk,h⟩:=ob_some h
   cases h
   exact Sl.of (F:=fun _=>True) (fun d pos af=>Yl.fieldAddr hk e1) trivial
  cases h
 ·unfold sField at h
  obtain ⟨u,hu,h⟩:=ob_some h
  have e1:=V hu
  unfold bField at h
  split at h
  ·rename_i l
   obtain ⟨⟨ft,off⟩,hk,h⟩:=ob_some h
   obtain ⟨fields,fd,hu2,hq,h3,h4⟩:=fldTB_some hk
   have hp:=sPart_run (P:=P) (ρ:=ρ) (w:=w') h
   dsimp only at hp
   rw [← h3,← h4] at hp
   intro dst pos af g;simp [execOp,e1,dv,Instr.field,run_underlying hu2,hq,asAgg,hp]
  cases h
 ·unfold sIxA at h
  obtain ⟨u,hu,h⟩:=ob_some h
  obtain ⟨u2,hu2,h⟩:=ob_some h
  exact Sl.indexAddr hM hE (E hu) (E hu2) h
 ·unfold sIx at h
  obtain ⟨u,hu,h⟩:=ob_some h
  obtain ⟨u2,hu2,h⟩:=ob_some h
  exact Sl.index (E hu) (E hu2) h
 ·obtain ⟨u,hu,h⟩:=ob_some h
  cases hl
 ·unfold sMkI at h
  obtain ⟨hc,h⟩:=must_some h
  obtain ⟨u,hu,h⟩:=ob_some h
  unfold bIfc at h
  cases h
  exact Sl.of (F:=fun _=>True) (fun d pos af=>Yl.makeIface hc (E hu)) trivial
 ·rename_i fn us cs
  unfold sMkF at h
  split at h
  ·obtain ⟨u,hu,h⟩:=ob_some h
   obtain ⟨c,hc,h⟩:=ob_some h
   cases h
   have e1:us=us.toList.toArray:=by simp
   have e2:cs=cs.toList.toArray:=by simp
   rw [e1,e2]
   exact Sl.of (F:=fun _=>True) (fun d pos af=>Yl.makeFunc (evsS_ok hF hG hE hu) (evsS_ok hF hG hE hc)) trivial
  cases h
 ·exact Sl.build hF hG hE h
 ·unfold sBn at h
  obtain ⟨u,hu,h⟩:=ob_some h
  obtain ⟨u2,hu2,h⟩:=ob_some h
  rcases orE_ok h with h | h
  ·exact Sl.bin (E hu) (E hu2) h
  exact Sl.nilRow hM hE (E hu) (E hu2) h
 ·unfold sUn at h
  obtain ⟨u,hu,h⟩:=ob_some h
  obtain ⟨g,hg,h⟩:=ob_some h
  have e1:=V hu
  rw [gr_ok hg] at e1
  refine Sl.grd (fun dst pos af g=>?_) h
  simp only [execOp,e1]
 ·unfold sCv at h
  obtain ⟨u,hu,h⟩:=ob_some h
  exact Sl.conv (V hu) h
 ·unfold sSl at h
  obtain ⟨u,hu,h⟩:=ob_some h
  exact Sl.slice hF hM hG hE (V hu) h
 ·rename_i c
  obtain ⟨callee,args,tys⟩:=c
  unfold sCl at h
  dsimp only at h
  split at h
  ·exact sCallB_ok hF hG hE h
  cases h
 cases h
theorem sop_ok {op:Op} {v:SV} (hF:FrS N D σ T a) (hM:MemS w0 O σ M w) (hG:MemG σ M) (hE:Ext σ ρ) (h:sop P T M op=some v):Sl P op ty a w (dv ρ v):=by
 cases hl:isLoad op with
 | false=>exact sop_any hF hM hG hE hl h
 | true=>
  cases op with
  | load t x=>
   obtain ⟨u,hu,h⟩:=ob_some h
   exact Sl.load hM hE (evS_eval hF hG hE hu) h
  | _=>cases hl
end
end Go.X
namespace Go.X
open Go Go.Eng Go.RowKit Dg Go.Proofs.YtedbajbgnmaakaaGreatDoor
section
variable {P : Program} {w0 w : World} {O : List Nat} {N : Nat} {D : List SD} {σ : Asg} {T : TrS} {M : TrB} {a : Act} {ρ : Rho} {ty : TypeId}
theorem memC_set {s:Nat} {b:Blk} (hlt:s<2 ^ 40) {c:Nat→Option Chunk} (hc:∀ t,t≠s→c t=(M.get t).map (bch ρ t)) {x:Chunk} (hx:x=bch ρ s b) {C:List Chunk} (h:St w0 O (fam (fun t=>if t=s then some x else c t)::C) w):St w0 O (memC ρ (M.set b s)::C) w:=by
 refine fam_eq (fun t=>?_) h
 rw [TrB.get_set _ _ _ _ hlt]
 by_cases ht:t=s
 ·subst ht;rw [if_pos rfl,if_pos rfl,hx];rfl
 rw [if_neg ht,if_neg ht,hc t ht]
theorem mem_out {s:Nat} {b:Blk} (hb:M.get s=some b) {C:List Chunk} (h:St w0 O (memC ρ M::C) w):St w0 O (bch ρ s b::fam (fun t=>if t=s then none else (M.get t).map (bch ρ t))::C) w:=
 fam_split h (by rw [hb];rfl)
theorem mem_in {s:Nat} {b:Blk} (hlt:s<2 ^ 40) {C:List Chunk} (h:St w0 O (bch ρ s b::fam (fun t=>if t=s then none else (M.get t).map (bch ρ t))::C) w):St w0 O (memC ρ (M.set b s)::C) w:=
 memC_set hlt (fun t ht=>by rw [if_neg ht]) rfl (fam_join (by rw [if_pos rfl]) h)
theorem mem_new {s:Nat} {b:Blk} (hlt:s<2 ^ 40) (hs:M.get s=none) {x:Chunk} (hx:x=bch ρ s b) {C:List Chunk} (h:St w0 O (x::memC ρ M::C) w):St w0 O (memC ρ (M.set b s)::C) w:=
 memC_set hlt (c:=fun t=>(M.get t).map (bch ρ t)) (fun t ht=>rfl) hx (fam_join (by rw [hs];rfl) h)
theorem MemG.set {b:Blk} {s:Nat} (hG:MemG σ M) (hlt:s<2 ^ 40) (hb:∀ cs,b≠ .ro cs) {τ:Asg} (hle:σ.le τ):MemG τ (M.set b s):=⟨fun t cs ht=>by
 rw [TrB.get_set _ _ _ _ hlt] at ht
 split at ht
 ·cases ht;exact absurd rfl (hb cs)
 ·obtain ⟨p,h1,h2⟩:=hG.glo t cs ht
  exact ⟨p,hle t p h1,h2⟩⟩
abbrev asB (b:Nat):As:=⟨some b,0,.bool false,none,rfl⟩
theorem MemS.alloc (hM:MemS w0 O σ M w) {s:Nat} (hs:M.get s=none) (hlt:s<2 ^ 40) {cs:List SV} {us:List Value} (hc:∀ ρ,Ext σ ρ→dvs ρ cs=us) (e:TypeId):
  MemS w0 O (σ.put s (asB w.heap.size)) (M.set (.cells cs e) s) (w.alloc (.cells us.toArray e)):=by
 refine ⟨fun ρ hE=>?_,fun t=>?_⟩
 ·have hE':=hE.le (Asg.put_le ((hM.dom s).1 hs))
  have hr:=Asg.put_at hE
  refine mem_new hlt hs ?_ ((hM.st ρ hE').alloc us e)
  show pt _ us e=pt (bl ρ s) (dvs ρ cs) e
  rw [hc ρ hE',bl,hr];rfl
 rw [TrB.get_set _ _ _ _ hlt]
 unfold Asg.put
 split
 ·simp
 exact hM.dom t
structure Nw (P:Program) (w0:World) (O:List Nat) (σ:Asg) (op:Op) (ty:TypeId) (a:Act) (w:World) (v:Option SV) (M':TrB):Prop where
 run:∃ (τ:Asg) (w':World),σ.le τ∧MemS w0 O τ M' w'∧MemG τ M'∧∀ dst pos af g,match v with
  | some x=>∃ u,(∀ ρ,Ext τ ρ→u=dv ρ x)∧(execOp a.eval ⟨dst,op,ty,pos,af,g⟩).run P w= .ok (.value u) w'
  | none=>(execOp a.eval ⟨dst,op,ty,pos,af,g⟩).run P w= .ok .skip w'
theorem Nw.new (hM:MemS w0 O σ M w) (hG:MemG σ M) {op:Op} {s:Nat} (hs:M.get s=none) (hlt:s<2 ^ 40) {cs:List SV} {us:List Value} (hc:∀ ρ,Ext σ ρ→dvs ρ cs=us) {e:TypeId} {x:SV} {u:Value}
  (hx:∀ ρ:Rho,ρ s=asB w.heap.size→u=dv ρ x)
  (hr:∀ dst pos af g,(execOp a.eval ⟨dst,op,ty,pos,af,g⟩).run P w= .ok (.value u) (w.alloc (.cells us.toArray e))):
  Nw P w0 O σ op ty a w (some x) (M.set (.cells cs e) s):=⟨⟨_,_,Asg.put_le ((hM.dom s).1 hs),hM.alloc hs hlt hc e,hG.set hlt (fun _ h=>by cases h) (Asg.put_le ((hM.dom s).1 hs)),fun dst pos af g=>⟨u,fun ρ hE=>hx ρ (Asg.put_at hE),hr dst pos af g⟩⟩⟩
noncomputable def newS (M:TrB) (n:Nat):Option Nat:=match M.get n with
 | none=>must (Nat.blt n 1000000000) (some n)
 | some _=>none
theorem newS_ok {n m:Nat} (h:newS M n=some m):m=n∧M.get n=none∧n<2 ^ 40:=by
 unfold newS at h
 split at h
 ·rename_i hn
  obtain ⟨h1,h⟩:=must_some h
  cases h
  exact ⟨rfl,hn,Nat.lt_trans (Nat.le_of_ble_eq_true h1) (by decide)⟩
 cases h
abbrev NR :=Option SV×TrB×Nat
noncomputable def nAlloc (P:Program) (M:TrB) (n:Nat) (e:TypeId):Option NR:=ob (newS M n) fun s=>ob (zeroB P e) fun zs=>ob (cvs zs) fun cs=>some (some (.ptr s 0),M.set (.cells cs e) s,Nat.succ n)
theorem nAlloc_ok {n n':Nat} {e:TypeId} {v:Option SV} {M':TrB} (hM:MemS w0 O σ M w) (hG:MemG σ M) (h:nAlloc P M n e=some (v,M',n')):Nw P w0 O σ (.alloc e) ty a w v M':=by
 obtain ⟨s,hs,h⟩:=ob_some h
 obtain ⟨zs,hz,h⟩:=ob_some h
 obtain ⟨cs,hc,h⟩:=ob_some h
 cases h
 obtain ⟨rfl,h1,h2⟩:=newS_ok hs
 obtain ⟨z,hz1,hz2⟩:=run_zeroValue hz w
 refine Nw.new hM hG h1 h2 (fun ρ _=>cvs_ok hc ρ) (u:= .pointer (some ⟨w.heap.size,0,none⟩)) (fun ρ hr=>by rw [dv,bl,hr];rfl) (fun dst pos af g=>?_)
 simp [execOp,Instr.alloc,hz1,newVar,newRow,hz2]
noncomputable def nBox (T:TrS) (M:TrB) (n:Nat) (e:TypeId) (x:Operand):Option NR:=ob (newS M n) fun s=>ob (evS T M x) fun v=>ob (cellsS v) fun cs=>some (some (.ptr s 0),M.set (.cells cs e) s,Nat.succ n)
theorem cellsS_dv {x:SV} {cs:List SV} (h:cellsS x=some cs) (ρ:Rho):(dv ρ x).cells=(dvs ρ cs).toArray:=by
 have one:∀ y:SV,oneS y=true→(dv ρ y).cells=(dvs ρ [y]).toArray:=fun y hy=>by
  rw [cells_one (oneS_ok hy)];rfl
 cases x with
 | agg l=>cases h;rfl
 | tup l=>cases h
 | _=>cases h;exact one _ rfl
theorem nBox_ok {n n':Nat} {e:TypeId} {x:Operand} {v:Option SV} {M':TrB} (hF:FrS N D σ T a) (hM:MemS w0 O σ M w) (hG:MemG σ M) (h:nBox T M n e x=some (v,M',n')):Nw P w0 O σ (.box e x) ty a w v M':=by
 obtain ⟨s,hs,h⟩:=ob_some h
 obtain ⟨vx,hx,h⟩:=ob_some h
 obtain ⟨cs,hc,h⟩:=ob_some h
 cases h
 obtain ⟨rfl,h1,h2⟩:=newS_ok hs
 have key:∀ ρ,Ext σ ρ→dvs ρ cs=(a.eval x).cells.toList:=fun ρ hE=>by
  rw [evS_eval hF hG hE hx,cellsS_dv hc]
 refine Nw.new hM hG h1 h2 key (u:= .pointer (some ⟨w.heap.size,0,none⟩)) (fun ρ hr=>by rw [dv,bl,hr];rfl) (fun dst pos af g=>?_)
 simp [execOp,Instr.box,newVar,newRow]
end
end Go.X
namespace Go.X
open Go Go.Eng Go.RowKit Dg Go.Proofs.YtedbajbgnmaakaaGreatDoor
section
variable {P : Program} {w0 w : World} {O : List Nat} {N : Nat} {D : List Deferred} {σ : Asg} {T : TrS} {M : TrB} {a : Act} {ρ : Rho} {ty : TypeId} {L : FL} {C : List Chunk} {K : Act → World → Prop} {d : Nat} {pos : String} {af : Array Edge} {op : Op}
abbrev noQ :Exit→Act→World→Prop:=fun _ _ _=>False
theorem noQ_out : ¬ LetsOut noQ:=fun ⟨_,_,h⟩=>h
theorem grabV {s:Sem Value} (hs:execOp a.eval ⟨some d,op,ty,pos,af,none⟩=(do pure (.value (← s)))) (h:WK P w0 O #[] noQ ⟨some d,op,ty,pos,af,none⟩ K N D L C) (hF:Fr N D L a) (hS:St w0 O C w):
  ∃ u w',s.run P w= .ok u w'∧K (a.put (some d) u) w':=by
 have h1:=h a w hF hS
 unfold wpO at h1
 rw [if_pos (by simp [Region.wanted])] at h1
 rcases h1 with h1 | ⟨_,h1⟩
 ·unfold Oper.wp at h1
  rw [hs] at h1
  cases hr:s.run P w with
  | ok u w'=>
   simp only [Sem.run_bind,hr,Result.andThen_ok,Sem.run_pure,Oper.upon_value] at h1
   exact ⟨u,w',rfl,h1⟩
  | halt e w'=>
   exfalso
   simp only [Sem.run_bind,hr,Result.andThen_halt] at h1
   unfold Oper.upon at h1
   split at h1<;>first | exact h1 | (rename_i he;cases he;done) | skip
 exact absurd h1 noQ_out
theorem grabU {s:Sem Unit} (hs:execOp a.eval ⟨none,op,ty,pos,af,none⟩=(do s;pure .skip)) (h:WK P w0 O #[] noQ ⟨none,op,ty,pos,af,none⟩ K N D L C) (hF:Fr N D L a) (hS:St w0 O C w):
  ∃ w',s.run P w= .ok () w'∧K (a.put none undef) w':=by
 have h1:=h a w hF hS
 unfold wpO at h1
 rw [if_pos (by simp [Region.wanted])] at h1
 rcases h1 with h1 | ⟨_,h1⟩
 ·unfold Oper.wp at h1
  rw [hs] at h1
  cases hr:s.run P w with
  | ok u w'=>
   simp only [Sem.run_bind,hr,Result.andThen_ok,Sem.run_pure,Oper.upon_skip] at h1
   exact ⟨w',rfl,h1⟩
  | halt e w'=>
   exfalso
   simp only [Sem.run_bind,hr,Result.andThen_halt] at h1
   unfold Oper.upon at h1
   split at h1<;>first | exact h1 | (rename_i he;cases he;done) | skip
 exact absurd h1 noQ_out
end
end Go.X
namespace Go.X
open Go Go.Eng Go.RowKit Dg Go.Proofs.YtedbajbgnmaakaaGreatDoor
section
variable {P : Program} {w0 w : World} {O : List Nat} {N : Nat} {D : List SD} {σ : Asg} {T : TrS} {M M' : TrB} {a : Act} {ρ : Rho} {ty : TypeId} {op : Op}
theorem Nw.per (hM:MemS w0 O σ M w) {s0:Nat} (hs0:M.get s0=none) (f:Value→As) (hd:∀ t,M'.get t=none↔M.get t=none∧t≠s0) (hG:∀ τ,σ.le τ→MemG τ M') {s:Sem Value} {x:SV}
  (hs:∀ dst pos af g,execOp a.eval ⟨dst,op,ty,pos,af,g⟩=(do pure (.value (← s)))) (per:∀ ρ,Ext σ ρ→∃ u w',s.run P w= .ok u w'∧(ρ s0=f u→u=dv ρ x∧St w0 O [memC ρ M'] w')):Nw P w0 O σ op ty a w (some x) M':=by
 obtain ⟨u,w',hr,_⟩:=per σ.rho σ.rho_ext
 have hle:σ.le (σ.put s0 (f u)):=Asg.put_le ((hM.dom s0).1 hs0)
 have key:∀ ρ,Ext (σ.put s0 (f u)) ρ→u=dv ρ x∧St w0 O [memC ρ M'] w':=fun ρ hE=>by
  obtain ⟨u2,w2,hr2,h2⟩:=per ρ (hE.le hle)
  rw [hr] at hr2
  cases hr2
  exact h2 (Asg.put_at hE)
 refine ⟨⟨σ.put s0 (f u),w',hle,⟨fun ρ hE=>(key ρ hE).2,fun t=>?_⟩,hG _ hle,fun dst pos af g=>⟨u,fun ρ hE=>(key ρ hE).1,by rw [hs];simp [hr]⟩⟩⟩
 rw [hd t]
 unfold Asg.put
 by_cases h2:t=s0
 ·subst h2;simp
 rw [if_neg h2,hM.dom t];simp [h2]
theorem Nw.perV (hM:MemS w0 O σ M w) (hd:∀ t,M'.get t=none↔M.get t=none) (hG:MemG σ M') {s:Sem Value} {x:SV}
  (hs:∀ dst pos af g,execOp a.eval ⟨dst,op,ty,pos,af,g⟩=(do pure (.value (← s)))) (per:∀ ρ,Ext σ ρ→∃ u w',s.run P w= .ok u w'∧u=dv ρ x∧St w0 O [memC ρ M'] w'):Nw P w0 O σ op ty a w (some x) M':=by
 obtain ⟨u,w',hr,_⟩:=per σ.rho σ.rho_ext
 have key:∀ ρ,Ext σ ρ→u=dv ρ x∧St w0 O [memC ρ M'] w':=fun ρ hE=>by
  obtain ⟨u2,w2,hr2,h2⟩:=per ρ hE
  rw [hr] at hr2
  cases hr2
  exact h2
 exact ⟨⟨σ,w',Asg.le.refl σ,⟨fun ρ hE=>(key ρ hE).2,fun t=>(hd t).trans (hM.dom t)⟩,hG,fun dst pos af g=>⟨u,fun ρ hE=>(key ρ hE).1,by rw [hs];simp [hr]⟩⟩⟩
theorem Nw.perU (hM:MemS w0 O σ M w) (hd:∀ t,M'.get t=none↔M.get t=none) (hG:MemG σ M') {s:Sem Unit}
  (hs:∀ dst pos af g,execOp a.eval ⟨dst,op,ty,pos,af,g⟩=(do s;pure .skip)) (per:∀ ρ,Ext σ ρ→∃ w',s.run P w= .ok () w'∧St w0 O [memC ρ M'] w'):Nw P w0 O σ op ty a w none M':=by
 obtain ⟨w',hr,_⟩:=per σ.rho σ.rho_ext
 have key:∀ ρ,Ext σ ρ→St w0 O [memC ρ M'] w':=fun ρ hE=>by
  obtain ⟨w2,hr2,h2⟩:=per ρ hE
  rw [hr] at hr2
  cases hr2
  exact h2
 exact ⟨⟨σ,w',Asg.le.refl σ,⟨fun ρ hE=>key ρ hE,fun t=>(hd t).trans (hM.dom t)⟩,hG,fun dst pos af g=>by dsimp only;rw [hs];simp [hr]⟩⟩
theorem set_dom {b b0:Blk} {s:Nat} (hlt:s<2 ^ 40) (hs:M.get s=some b0):∀ t,(M.set b s).get t=none↔M.get t=none:=fun t=>by
 rw [TrB.get_set _ _ _ _ hlt]
 split
 ·rename_i e;subst e;simp [hs]
 ·exact Iff.rfl
theorem set_dom2 {b:Blk} {s:Nat} (hlt:s<2 ^ 40):∀ t,(M.set b s).get t=none↔M.get t=none∧t≠s:=fun t=>by
 rw [TrB.get_set _ _ _ _ hlt]
 split
 ·rename_i h;simp [h]
 ·rename_i h;simp [h]
theorem hol_lay {cs:List (Option SV)} {us:List Value} {vs:List SV} {off:Nat} (hl:us.length=cs.length) (h:∀ (j:Nat) (x:SV),cs[j]?=some (some x)→us[j]?=some (dv ρ x)) (hle:off+vs.length≤cs.length) (j:Nat) (x:SV)
  (hx:(cs.take off++vs.map some++cs.drop (off+vs.length))[j]?=some (some x)):(us.take off++dvs ρ vs++us.drop (off+(dvs ρ vs).length))[j]?=some (dv ρ x):=by
 have l1:(cs.take off).length=off:=by rw [List.length_take];omega
 have l2:(us.take off).length=off:=by rw [List.length_take];omega
 rw [dvs_len]
 rw [List.append_assoc] at hx ⊢
 by_cases h1:j<off
 ·rw [List.getElem?_append_left (by rw [l1];exact h1),List.getElem?_take_of_lt h1] at hx
  rw [List.getElem?_append_left (by rw [l2];exact h1),List.getElem?_take_of_lt h1]
  exact h j x hx
 rw [List.getElem?_append_right (by rw [l1];omega),l1] at hx
 rw [List.getElem?_append_right (by rw [l2];omega),l2]
 by_cases h2:j - off<vs.length
 ·rw [List.getElem?_append_left (by rw [List.length_map];exact h2),List.getElem?_map] at hx
  rw [List.getElem?_append_left (by rw [dvs_len];exact h2)]
  cases hq:vs[j - off]? with
  | none=>rw [hq] at hx;cases hx
  | some y=>
   rw [hq] at hx
   simp only [Option.map_some,Option.some.injEq] at hx
   subst hx
   exact dvs_get hq
 rw [List.getElem?_append_right (by rw [List.length_map];omega),List.length_map,List.getElem?_drop] at hx
 rw [List.getElem?_append_right (by rw [dvs_len];omega),dvs_len,List.getElem?_drop]
 exact h _ x hx
noncomputable def nStore (P:Program) (T:TrS) (M:TrB) (n:Nat) (t:TypeId) (x y:Operand):Option NR:=
 ob (evS T M x) fun p=>ob (evS T M y) fun v=>match p with
 | .ptr s off=>must (Nat.blt s 1000000000) (ob (aggB P t) fun g=>ob (sizeB P t) fun z=>ob (cellsS v) fun vs=>must (Nat.beq vs.length z&&vs.all oneS&&(match v with | .agg _=>g | _=> !g)) (ob (M.get s) fun b=>match b with
  | .cells cs e=>must (Nat.ble (off+z) cs.length) (some (none,M.set (.cells (lay cs vs off) e) s,n))
  | .row xs m e sz=>must (Nat.ble (off+z) xs.length&&Nat.blt 0 m) (some (none,M.set (.row (lay xs vs off) m e sz) s,n))
  | .hol cs e=>must (Nat.ble (off+z) cs.length) (some (none,M.set (.hol (cs.take off++vs.map some++cs.drop (off+vs.length)) e) s,n))
  | _=>none))
 | _=>none
theorem nStore_ok {n n':Nat} {t:TypeId} {x y:Operand} {v:Option SV} (hF:FrS N D σ T a) (hM:MemS w0 O σ M w) (hG:MemG σ M) (h:nStore P T M n t x y=some (v,M',n')):Nw P w0 O σ (.store t x y) ty a w v M':=by
 obtain ⟨p,hp,h⟩:=ob_some h
 obtain ⟨u,hu,h⟩:=ob_some h
 cases p with
 | ptr s off=>
  dsimp only at h
  obtain ⟨hlt,h⟩:=must_some h
  have hlt:s<2 ^ 40:=Nat.lt_trans (Nat.le_of_ble_eq_true hlt) (by decide)
  obtain ⟨g,hg,h⟩:=ob_some h
  obtain ⟨z,hz,h⟩:=ob_some h
  obtain ⟨vs,hvs,h⟩:=ob_some h
  obtain ⟨hb,h⟩:=must_some h
  simp only [Bool.and_eq_true] at hb
  obtain ⟨⟨hlen,hone⟩,hag⟩:=hb
  have hlen:=Nat.eq_of_beq_eq_true hlen
  obtain ⟨b,hbk,h⟩:=ob_some h
  have hs9:∀ dst pos af g,execOp a.eval ⟨dst,.store t x y,ty,pos,af,g⟩=(do Instr.storeAt t (a.eval x) (a.eval y);pure .skip):=fun _ _ _ _=>rfl
  split at h
  ·rename_i cs e
   obtain ⟨hle,h⟩:=must_some h
   have hle:=Nat.le_of_ble_eq_true hle
   cases h
   refine Nw.perU hM (set_dom hlt hbk) (hG.set hlt (fun _ h=>by cases h) (Asg.le.refl σ)) hs9 (fun ρ hE=>?_)
   have hS:=mem_out hbk (hM.st ρ hE)
   have hx:=evS_eval hF hG hE hp
   have hy:=evS_eval hF hG hE hu
   have hsn:=setN_lay (dvs ρ cs) (dvs ρ vs) off (by rw [dvs_len,dvs_len];omega)
   rw [← dvs_lay] at hsn
   have hr:=run_storeN (P:=P) (t:=t) (v:=dv ρ u) (by rw [hz,dvs_len,hlen]) (cellsS_dv hvs ρ) (oneAll hone) (hS.heap (List.mem_cons_self ..)) hsn
   refine ⟨_,by rw [hx,hy];exact hr,mem_in hlt (hS.row (Upd.here))⟩
  ·rename_i xs m e sz
   obtain ⟨hle,h⟩:=must_some h
   rw [Bool.and_eq_true] at hle
   have hm:0<m:=Nat.le_of_ble_eq_true hle.2
   have hle:=Nat.le_of_ble_eq_true hle.1
   cases h
   refine Nw.perU hM (set_dom hlt hbk) (hG.set hlt (fun _ h=>by cases h) (Asg.le.refl σ)) hs9 (fun ρ hE=>?_)
   have hok:=hM.ok hE hbk
   have hS:=mem_out hbk (hM.st ρ hE)
   obtain ⟨hbb,_⟩:=row_blk hok hm
   have hch:∀ ys:List SV,bch ρ s (.row ys m e sz)=rowc (.slice (some ⟨bl ρ s,0,none⟩) m (ρ s).c) m e sz (dvs ρ ys):=fun ys=>by
    show rowc (.slice (ad ρ s) m (ρ s).c) m e sz (dvs ρ ys)=_
    unfold ad;rw [hbb];rfl
   rw [hch] at hS
   have hx:=evS_ok hF hG hE hp
   have hy:=evS_ok hF hG hE hu
   have hsn:=setN_lay (dvs ρ xs) (dvs ρ vs) off (by rw [dvs_len,dvs_len];omega)
   rw [← dvs_lay] at hsn
   have fin:∀ {w'},St w0 O [rowc (.slice (some ⟨bl ρ s,0,none⟩) m (ρ s).c) m e sz (dvs ρ (lay xs vs off)),fam (fun t=>if t=s then none else (M.get t).map (bch ρ t))] w'→St w0 O [memC ρ (M.set (.row (lay xs vs off) m e sz) s)] w':=fun h=>by
    rw [← hch] at h
    exact mem_in hlt h
   have hex:∀ pos af,execOp a.eval ⟨none,.store t x y,ty,pos,af,none⟩=(do Instr.storeAt t (a.eval x) (a.eval y);pure .skip):=fun _ _=>rfl
   cases u with
   | agg l=>
    have hg1:g=true:=hag
    cases hvs
    subst hg1
    obtain ⟨w', hr, hK⟩ := grabU (hex "" #[]) (WL.storeRow (K := fun _ w' => St w0 O [memC ρ (M.set (.row (lay xs vs off) m e sz) s)] w') ⟨hg, hz⟩ hx hy (by rw [dvs_len]; exact hlen) (oneAll hone) hm Upd.here hsn (fun a2 w2 _ h2 => fin h2)) (Fr.full a) hS
    exact ⟨w',hr,hK⟩
   | tup l=>cases hvs
   | _=>
    have hg1:g=false:=by revert hag;cases g<;>simp
    cases hvs
    subst hg1
    have hz1:sizeB P t=some 1:=by rw [hz,← hlen];rfl
    obtain ⟨w', hr, hK⟩ := grabU (hex "" #[]) (WL.storeRow1 (K := fun _ w' => St w0 O [memC ρ (M.set (.row (lay xs _ off) m e sz) s)] w') ⟨hg, hz1⟩ hx hy (oneS_ok rfl) Upd.here hsn (fun a2 w2 _ h2 => fin h2)) (Fr.full a) hS
    exact ⟨w',hr,hK⟩
  ·rename_i cs e
   obtain ⟨hle,h⟩:=must_some h
   have hle:=Nat.le_of_ble_eq_true hle
   cases h
   refine Nw.perU hM (set_dom hlt hbk) (hG.set hlt (fun _ h=>by cases h) (Asg.le.refl σ)) hs9 (fun ρ hE=>?_)
   obtain ⟨us,k1,k2,k3⟩:=(show (bch ρ s (.hol cs e)).ok w from hM.ok hE hbk)
   have hS:=(mem_out hbk (hM.st ρ hE)).swap (c':=pt (bl ρ s) us e) (fun _=>k1) (fun k hk=>hk)
   have hx:=evS_eval hF hG hE hp
   have hy:=evS_eval hF hG hE hu
   have hsn:=setN_lay us (dvs ρ vs) off (by rw [dvs_len,k2,hlen];exact hle)
   have hr:=run_storeN (P:=P) (t:=t) (v:=dv ρ u) (by rw [hz,dvs_len,hlen]) (cellsS_dv hvs ρ) (oneAll hone) (hS.heap (List.mem_cons_self ..)) hsn
   refine ⟨_,by rw [hx,hy];exact hr,mem_in hlt ((hS.row (Upd.here)).swap (c':=bch ρ s (.hol (cs.take off++vs.map some++cs.drop (off+vs.length)) e)) (fun hok=>⟨_,hok,?_,fun j x hx=>hol_lay k2 k3 (by rw [hlen];exact hle) j x hx⟩) (fun k hk=>hk))⟩
   simp only [List.length_append,List.length_take,List.length_drop,dvs_len,List.length_map,k2]
  ·cases h
 | _=>cases h
end
end Go.X
namespace Go.X
open Go Go.Eng Go.RowKit Dg Go.Proofs.YtedbajbgnmaakaaGreatDoor
section
variable {P : Program} {w0 w : World} {O : List Nat} {N : Nat} {D : List SD} {σ : Asg} {T : TrS} {M M' : TrB} {a : Act} {ρ : Rho} {ty : TypeId} {op : Op} {C : List Chunk}
theorem grabR {s:Sem Value} {R:Value→World→Prop} (hN:0<a.tmps.size) (hs:∀ dst pos af g,execOp a.eval ⟨dst,op,ty,pos,af,g⟩=(do pure (.value (← s))))
  (h : WK P w0 O #[] noQ ⟨some 0, op, ty, "", #[], none⟩ (fun a' w' => ∃ u, a'.tmps[0]? = some u ∧ R u w') a.tmps.size a.defers (full a) C) (hS : St w0 O C w) : ∃ u w', s.run P w = .ok u w' ∧ R u w' := by
 obtain ⟨u,w',hr,u2,h1,h2⟩:=grabV (hs _ _ _ _) h (Fr.full a) hS
 have:(a.put (some 0) u).tmps[0]?=some u:=by simp [Act.put,hN]
 rw [this] at h1
 cases h1
 exact ⟨u,w',hr,h2⟩
theorem blt0 {n:Nat} (h:0<n):Nat.blt 0 n=true:=by unfold Nat.blt;rw [Nat.ble_eq];exact h
theorem fr_at {d:Nat} {v:Value} {L:FL} {D:List Deferred} {a:Act} (h:Fr N D ((d,v)::L) a):a.tmps[d]?=some v:=h.get d v (by simp [lk])
def asOf (u:Value):As:=match u with
 | .slice (some x) _ c=>⟨some x.block,c,.bool false,none,rfl⟩
 | .slice none _ c=>⟨none,c,.bool false,none,rfl⟩
 | .map (some b)=>asB b
 | _=>default
noncomputable def nBuildS (P:Program) (T:TrS) (M:TrB) (n:Nat) (t:TypeId) (len:Nat) (parts:List (Nat×Operand)):Option NR:=match P.underlying t with
 | some (.slice e)=>ob (newS M n) fun s=>ob (sizeB P e) fun sz=>ob (zeroB P e) fun zs=>must (Nat.beq zs.length sz&&Nat.blt 0 (len*sz)&&Nat.ble (len*sz) 16777216) (ob (cvs zs) fun zc=>ob (partsS T M parts) fun ps=>
   ob (builtS (fun i=>some (i*sz,sz)) ps (List.replicate len zc).flatten) fun cs=>some (some (.slx s 0 len len),M.set (.cells cs e) s,Nat.succ n))
 | _=>none
theorem dvs_rep (l:List SV):∀ n:Nat,dvs ρ (List.replicate n l).flatten=(List.replicate n (dvs ρ l)).flatten
 | 0=>rfl
 | n+1=>by rw [List.replicate_succ,List.flatten_cons,dvs_append,dvs_rep l n,List.replicate_succ,List.flatten_cons]
theorem nBuildS_ok {n n':Nat} {t:TypeId} {len:Nat} {parts:Array (Nat×Operand)} {v:Option SV} (hN:0<a.tmps.size) (hF:FrS N D σ T a) (hM:MemS w0 O σ M w) (hG:MemG σ M) (h:nBuildS P T M n t len parts.toList=some (v,M',n')):Nw P w0 O σ (.buildSlice t len parts) ty a w v M':=by
 obtain ⟨pl⟩:=parts
 replace h:nBuildS P T M n t len pl=some (v,M',n'):=h
 show Nw P w0 O σ (.buildSlice t len pl.toArray) ty a w v M'
 unfold nBuildS at h
 split at h
 ·rename_i e hu
  obtain ⟨s,hs,h⟩:=ob_some h
  obtain ⟨sz,hsz,h⟩:=ob_some h
  obtain ⟨zs,hzs,h⟩:=ob_some h
  obtain ⟨hb,h⟩:=must_some h
  obtain ⟨zc,hzc,h⟩:=ob_some h
  obtain ⟨ps,hps,h⟩:=ob_some h
  obtain ⟨cs,hcs,h⟩:=ob_some h
  cases h
  obtain ⟨rfl,h1,h2⟩:=newS_ok hs
  simp only [Bool.and_eq_true] at hb
  have hzl:=Nat.eq_of_beq_eq_true hb.1.1
  obtain ⟨s9,hs9⟩:∃ s9:Sem Value,∀ dst pos af g,execOp a.eval ⟨dst,.buildSlice t len pl.toArray,ty,pos,af,g⟩=(do pure (.value (← s9))):=⟨_,fun _ _ _ _=>rfl⟩
  refine Nw.per hM h1 asOf (set_dom2 h2) (fun τ hle=>hG.set h2 (fun _ h=>by cases h) hle) hs9 (fun ρ hE=>?_)
  have hbt:=builtS_ok (ρ:=ρ) hcs
  rw [dvs_rep,cvs_ok hzc] at hbt
  obtain ⟨u,w',hr,b,hu2,hS⟩:=grabR (op:= .buildSlice t len pl.toArray) (ty:=ty) (s:=s9) (R:=fun u w'=>∃ b,u= .slice (some ⟨b,0,none⟩) len len∧St w0 O [pt b (dvs ρ cs) e,memC ρ M] w') hN hs9
   (WL.buildSlice ⟨hu,hsz⟩ hzs hzl hb.1.2 hb.2 (partsS_ok hF hG hE hps) hbt (blt0 hN) (fun b a2 w2 hF2 hS2=>⟨_,fr_at hF2,b,rfl,hS2⟩)) (hM.st ρ hE)
  refine ⟨u,w',hr,fun hρ=>?_⟩
  subst hu2
  have hbl:bl ρ s=b:=by unfold bl;rw [hρ];rfl
  refine ⟨by rw [dv,hbl],mem_new h2 h1 ?_ hS⟩
  show pt b (dvs ρ cs) e=pt (bl ρ s) (dvs ρ cs) e
  rw [hbl]
 cases h
noncomputable def nBuild0 (P:Program) (M:TrB) (n:Nat) (t:TypeId):Option NR:=match P.underlying t with
 | some (.slice e)=>ob (newS M n) fun s=>ob (sizeB P e) fun _=>some (some (.slx s 0 0 0),M.set (.cells [] e) s,Nat.succ n)
 | _=>none
theorem nBuild0_ok {n n':Nat} {t:TypeId} {v:Option SV} (hM:MemS w0 O σ M w) (hG:MemG σ M) (h:nBuild0 P M n t=some (v,M',n')):Nw P w0 O σ (.buildSlice t 0 #[]) ty a w v M':=by
 unfold nBuild0 at h
 split at h
 ·rename_i e hu
  obtain ⟨s,hs,h2⟩:=ob_some h
  obtain ⟨sz,hsz,h3⟩:=ob_some h2
  clear h h2
  cases h3
  obtain ⟨rfl,h1,h2⟩:=newS_ok hs
  refine Nw.new hM hG h1 h2 (us:=[]) (fun _ _=>rfl) (u:= .slice (some ⟨w.heap.size,0,none⟩) 0 0) (fun ρ hr=>by rw [dv,bl,hr];rfl) (fun dst pos af g=>?_)
  simp [execOp,Instr.buildSlice,run_underlying hu,Eng.run_sizeOf hsz,Instr.fill,newRow,Array.range_zero']
 cases h
noncomputable def nMakeS (P:Program) (T:TrS) (M:TrB) (n:Nat) (t:TypeId) (x y:Operand):Option NR:=match P.underlying t with
 | some (.slice e)=>ob (P.info? e) fun i=>ob i.zero fun z=>ob (newS M n) fun s=>ob (evS T M x) fun vl=>ob (evS T M y) fun vc=>(match vl,vc with
  | .int _ (.ofNat l),.int _ (.ofNat c)=>must (Nat.ble l c&&Nat.ble (i.bytes*c) 281474976710656&&Nat.ble c 1000000) (ob (cvs (madeCells z.cells (c*i.size)).toList) fun cs=>some (some (.slx s 0 l c),M.set (.cells cs e) s,Nat.succ n))
  | _,_=>none)
 | _=>none
theorem nMakeS_ok {n n':Nat} {t:TypeId} {x y:Operand} {v:Option SV} (hF:FrS N D σ T a) (hM:MemS w0 O σ M w) (hG:MemG σ M) (h:nMakeS P T M n t x y=some (v,M',n')):Nw P w0 O σ (.makeSlice t x y) ty a w v M':=by
 unfold nMakeS at h
 split at h
 ·rename_i e hu
  obtain ⟨i,hi,h2⟩:=ob_some h
  obtain ⟨z,hz,h3⟩:=ob_some h2
  obtain ⟨s,hs,h4⟩:=ob_some h3
  obtain ⟨vl,hl,h5⟩:=ob_some h4
  obtain ⟨vc,hc,h6⟩:=ob_some h5
  clear h h2 h3 h4 h5
  split at h6
  ·rename_i kl l kc c
   obtain ⟨hb,h7⟩:=must_some h6
   obtain ⟨cs,hcs,h8⟩:=ob_some h7
   clear h6 h7
   cases h8
   obtain ⟨rfl,g1,g2⟩:=newS_ok hs
   simp only [Bool.and_eq_true] at hb
   have b1:=Nat.le_of_ble_eq_true hb.1.1
   have b2:=Nat.le_of_ble_eq_true hb.1.2
   have b3:=Nat.le_of_ble_eq_true hb.2
   have hx:=evS_eval hF hG σ.rho_ext hl
   have hy:=evS_eval hF hG σ.rho_ext hc
   simp only [dv] at hx hy
   have hr:=run_make (P:=P) w t e i z hu hi hz kl kc (l:Int) (c:Int) (by omega) (by omega) (by rw [← Int.natCast_mul];omega) (by omega)
   refine Nw.new hM hG g1 g2 (us:=(madeCells z.cells (c*i.size)).toList) (fun ρ _=>cvs_ok hcs ρ) (u:= .slice (some ⟨w.heap.size,0,none⟩) l c) (fun ρ hr=>by rw [dv,bl,hr];rfl) (fun dst pos af g=>?_)
   have hx':a.eval x= .int kl (l:Int):=hx
   have hy':a.eval y= .int kc (c:Int):=hy
   simp only [Int.toNat_natCast] at hr
   simp only [execOp,hx',hy',Sem.run_bind,hr,Result.andThen_ok,Sem.run_pure]
  cases h6
 cases h
theorem cell_of {w:World} {b j:Nat} {cs:Array Value} {e:TypeId} {fz:Nat×Nat} {u:Value} (h:w.heap[b]?=some (.cells cs e fz)) (hj:cs[j]?=some u):w.cell? ⟨b,j,none⟩=some u:=by
 simp [World.cell?,h,hj]
noncomputable def byteSV (l:List Nat):List SV:=l.map fun c=> .int .u8 (.ofNat (Nat.mod c 256))
def isU8 (P:Program) (t:TypeId):Bool:=match P.underlying t with
 | some (.int .u8)=>true
 | _=>false
noncomputable def nConv (P:Program) (T:TrS) (M:TrB) (n:Nat) (src dst:TypeId) (x:Operand):Option NR:=match P.underlying dst with
 | some (.slice e)=>must (isStrT P src&&isU8 P e) (ob (evS T M x) fun v=>(match v with
  | .str l=>ob (newS M n) fun s=>some (some (.sl s 0 l.length 1),M.set (.rd (byteSV l)) s,Nat.succ n)
  | _=>none))
 | _=>none
theorem isStrT_eq {t:TypeId} (h:isStrT P t=true):P.underlying t=some .string:=by
 unfold isStrT at h
 split at h
 ·assumption
 cases h
theorem isU8_eq {t:TypeId} (h:isU8 P t=true):P.underlying t=some (.int .u8):=by
 unfold isU8 at h
 split at h
 ·assumption
 cases h
theorem nConv_ok {n n':Nat} {src dst:TypeId} {x:Operand} {v:Option SV} (hF:FrS N D σ T a) (hM:MemS w0 O σ M w) (hG:MemG σ M) (h:nConv P T M n src dst x=some (v,M',n')):Nw P w0 O σ (.convert src dst x) ty a w v M':=by
 unfold nConv at h
 split at h
 ·rename_i e hu
  obtain ⟨hb,h2⟩:=must_some h
  obtain ⟨vx,hx,h3⟩:=ob_some h2
  clear h h2
  cases vx with
  | str l=>
   dsimp only at h3
   obtain ⟨s,hs,h4⟩:=ob_some h3
   cases h4
   obtain ⟨rfl,g1,g2⟩:=newS_ok hs
   rw [Bool.and_eq_true] at hb
   have hs9:∀ dst9 pos af g,execOp a.eval ⟨dst9,.convert src dst x,ty,pos,af,g⟩=(do pure (.value (← convert src dst (a.eval x)))):=fun _ _ _ _=>rfl
   refine Nw.per hM g1 asOf (set_dom2 g2) (fun τ hle=>hG.set g2 (fun _ h=>by cases h) hle) hs9 (fun ρ hE=>?_)
   have hx':=evS_eval hF hG hE hx
   rw [dv] at hx'
   have hr:=run_bytes_of_string (P:=P) w src dst e (str (l.map UInt8.ofNat)) (isStrT_eq hb.1) hu (isU8_eq hb.2)
   rw [← hx'] at hr
   have hsz:(str (l.map UInt8.ofNat)).size=l.length:=by rw [str_size,List.length_map]
   refine ⟨_,_,hr,fun hρ=>?_⟩
   have hbl:(ρ s).b=some w.heap.size:=by rw [hρ];rfl
   have hc:(ρ s).c=grownCap w (str (l.map UInt8.ofNat)).size 0 e:=by rw [hρ];rfl
   have hbb:bl ρ s=w.heap.size:=by unfold bl;rw [hbl];rfl
   refine ⟨by rw [dv,hbl,hc,hsz];simp,mem_new g2 g1 rfl (((hM.st ρ hE).drew.allocO _).swap (c':=bch ρ s (.rd (byteSV l))) (fun hok=>⟨by rw [hbb];exact hbl,fun j y hj=>?_⟩) (fun k hk=>?_))⟩
   ·have hok':(w.drew.alloc (.cells (bytesRow (str (l.map UInt8.ofNat)) (grownCap w (str (l.map UInt8.ofNat)).size 0 e)) e ((bytesRow (str (l.map UInt8.ofNat)) (grownCap w (str (l.map UInt8.ofNat)).size 0 e)).size,(bytesRow (str (l.map UInt8.ofNat)) (grownCap w (str (l.map UInt8.ofNat)).size 0 e)).size+1))).heap[w.heap.size]?=some (.cells (bytesRow (str (l.map UInt8.ofNat)) (grownCap w (str (l.map UInt8.ofNat)).size 0 e)) e ((bytesRow (str (l.map UInt8.ofNat)) (grownCap w (str (l.map UInt8.ofNat)).size 0 e)).size,(bytesRow (str (l.map UInt8.ofNat)) (grownCap w (str (l.map UInt8.ofNat)).size 0 e)).size+1)):=hok
    unfold byteSV at hj
    rw [List.getElem?_map] at hj
    cases hq:l[j]? with
    | none=>rw [hq] at hj;cases hj
    | some c=>
     rw [hq] at hj
     simp only [Option.map_some,Option.some.injEq] at hj
     subst hj
     have hjl:j<l.length:=(List.getElem?_eq_some_iff.1 hq).1
     obtain ⟨_,e2⟩:=List.getElem?_eq_some_iff.1 hq
     have hcell:(bytesRow (str (l.map UInt8.ofNat)) (grownCap w (str (l.map UInt8.ofNat)).size 0 e))[j]?=some (dv ρ (.int .u8 (.ofNat (Nat.mod c 256)))):=by
      unfold bytesRow
      rw [Array.getElem?_append_left (by simpa [str] using hjl)]
      simp only [str,List.map_toArray,List.map_map,List.getElem?_toArray,List.getElem?_map,hq,Option.map_some,Function.comp]
      rw [dv];simp;rfl
     rw [hbb]
     exact cell_of hok' hcell
   ·have hk':k=bl ρ s:=hk
    rw [hbb] at hk'
    exact hk'
  | _=>cases h3
 cases h
end
end Go.X
namespace Go.X
open Go Go.Eng Go.RowKit Dg Go.Proofs.YtedbajbgnmaakaaGreatDoor
section
variable {P : Program} {w0 w : World} {O : List Nat} {N : Nat} {D : List SD} {σ : Asg} {T : TrS} {M M' : TrB} {a : Act} {ρ : Rho} {ty : TypeId} {op : Op} {C : List Chunk}
noncomputable def elems (M:TrB) (v:SV) (sz:Nat):Option (Nat×List SV):=match v with
 | .nils=>some (0,[])
 | .sl s k m z=>ob (M.get s) fun b=>match b with
  | .row xs m0 _ _=>must (Nat.beq z sz&&Nat.blt 0 m0) (let l:=(xs.drop (k*sz)).take (m*sz);must (Nat.beq l.length (m*sz)) (some (m,l)))
  | _=>none
 | .slx s off m _=>ob (M.get s) fun b=>ob (blkCells b) fun cs=>let l:=(cs.drop off).take (m*sz);must (Nat.beq l.length (m*sz)) (some (m,l))
 | _=>none
theorem take_drop_get {α:Type} {cs:List α} {off n j:Nat} {y:α} (h:((cs.drop off).take n)[j]?=some y):cs[off+j]?=some y:=by
 rw [List.getElem?_take] at h
 split at h
 ·rwa [List.getElem?_drop] at h
 cases h
theorem elems_ok (hM:MemS w0 O σ M w) (hE:Ext σ ρ) {v:SV} {sz m:Nat} {l:List SV} (h:elems M v sz=some (m,l)):∃ a0 c,dv ρ v= .slice a0 m c∧l.length=m*sz∧(m≠0→∃ bx ox,a0=some ⟨bx,ox,none⟩∧∀ j u,(dvs ρ l)[j]?=some u→w.cell? ⟨bx,ox+j,none⟩=some u):=by
 have cell:∀ {s off:Nat} {b:Blk} {cs:List SV},M.get s=some b→blkCells b=some cs→∀ j u,(dvs ρ ((cs.drop off).take (m*sz)))[j]?=some u→w.cell? ⟨bl ρ s,off+j,none⟩=some u:=by
  intro s off b cs hb hc j u hu
  rw [dvs_map,List.getElem?_map] at hu
  cases hq:((cs.drop off).take (m*sz))[j]? with
  | none=>rw [hq] at hu;cases hu
  | some y=>
   rw [hq] at hu
   simp only [Option.map_some,Option.some.injEq] at hu
   rw [← hu]
   exact blk_cell (hM.ok hE hb) hc (take_drop_get hq)
 unfold elems at h
 split at h
 ·cases h
  exact ⟨none,0,rfl,by simp,fun h=>absurd rfl h⟩
 ·rename_i s k m1 z
  obtain ⟨b,hb,h⟩:=ob_some h
  split at h
  ·rename_i xs m0 e0 z0
   obtain ⟨h1,h⟩:=must_some h
   obtain ⟨h2,h⟩:=must_some h
   cases h
   rw [Bool.and_eq_true] at h1
   have hz:=Nat.eq_of_beq_eq_true h1.1
   subst hz
   obtain ⟨hbb,_⟩:=row_blk (hM.ok hE hb) (Nat.le_of_ble_eq_true h1.2)
   refine ⟨some ⟨bl ρ s,k*z,none⟩,(ρ s).c - k,by rw [dv,hbb];rfl,Nat.eq_of_beq_eq_true h2,fun _=>⟨_,_,rfl,cell hb rfl⟩⟩
  cases h
 ·rename_i s off m1 cap
  obtain ⟨b,hb,h⟩:=ob_some h
  obtain ⟨cs,hc,h⟩:=ob_some h
  obtain ⟨h2,h⟩:=must_some h
  cases h
  exact ⟨_,_,rfl,Nat.eq_of_beq_eq_true h2,fun _=>⟨_,_,rfl,cell hb hc⟩⟩
 cases h
theorem rowc_short {a0:Option Addr} {m n c e sz:Nat} {xs:List SV} (h:(rowc (.slice a0 m c) m e sz (dvs ρ xs)).ok w) (hle:n≤m):(rowc (.slice a0 n c) n e sz (dvs ρ (xs.take (n*sz)))).ok w:=by
 have hl:n*sz≤m*sz:=Nat.mul_le_mul_right _ hle
 obtain ⟨h1,h2⟩:=h
 rw [dvs_len] at h1
 refine ⟨by rw [dvs_len,List.length_take];omega,?_⟩
 rcases h2 with ⟨hv,h0⟩ | ⟨g,cap,cur,hv,h3,h4,h5,h6,h7,h8⟩
 ·injection hv with e1 _ e2
  subst e1;subst e2
  exact .inl ⟨by rw [show n=0 by omega],by omega⟩
 injection hv with e1 _ e2
 subst e1;subst e2
 refine .inr ⟨g,_,cur,rfl,h3,h4,by omega,h6,h7,?_⟩
 have e3:dvs ρ (xs.take (n*sz))=(dvs ρ xs).take (n*sz):=by simp [dvs_map,List.map_take]
 rw [e3,← h8,List.take_take]
 congr 1
 omega
noncomputable def ownRow (M:TrB) (v:SV) (e sz:Nat):Option (Option Nat×Nat×List SV):=match v with
 | .nils=>some (none,0,[])
 | .sl s k n z=>ob (M.get s) fun b=>match b with
  | .row xs m0 e0 z0=>must (Nat.beq k 0&&Nat.beq z sz&&Nat.ble n m0&&Nat.beq e0 e&&Nat.beq z0 sz&&Nat.blt s 1000000000) (some (some s,n,xs.take (n*sz)))
  | _=>none
 | .slx s off n cap=>ob (M.get s) fun b=>match b with
  | .cells cs e0=>must (Nat.beq off 0&&Nat.beq e0 e&&Nat.beq cs.length (cap*sz)&&Nat.ble n cap&&Nat.ble cap 1000000&&Nat.blt s 1000000000) (some (some s,n,cs.take (n*sz)))
  | _=>none
 | _=>none
noncomputable def deadS (M:TrB) (s:Option Nat):TrB:=match s with
 | none=>M
 | some s=>M.set .dead s
theorem St.noC (h:St w0 O C w):St w0 O (noC::C) w:=
 ⟨h.os,h.tape,h.output,h.size,h.old,fun c hc=>by
  rcases List.mem_cons.1 hc with rfl | hc
  ·trivial
  ·exact h.ok c hc,fun c hc k hk=>by
  rcases List.mem_cons.1 hc with rfl | hc
  ·cases hk
  ·exact h.bnd c hc k hk,List.Pairwise.cons (fun _ _ _ hk=>by cases hk) h.disj⟩
theorem ownRow_ok (hM:MemS w0 O σ M w) (hE:Ext σ ρ) {v:SV} {e sz n:Nat} {s:Option Nat} {xs:List SV} (h:ownRow M v e sz=some (s,n,xs)):
  ∃ C1,St w0 O (rowc (dv ρ v) n e sz (dvs ρ xs)::C1) w∧∀ {w':World} {c:Chunk},St w0 O (c::C1) w'→St w0 O (c::[memC ρ (deadS M s)]) w':=by
 have close:∀ {s:Nat},s<2 ^ 40→∀ {w':World} {c:Chunk},St w0 O (c::[fam (fun t=>if t=s then none else (M.get t).map (bch ρ t))]) w'→St w0 O (c::[memC ρ (M.set .dead s)]) w':=by
  intro s hlt w' c h
  have h1:=h.perm (List.Perm.swap _ _ [])
  have h2:=mem_in (b:= .dead) hlt (show St w0 O (bch ρ s .dead::_) w' from St.noC h1)
  exact h2.perm (List.Perm.swap _ _ [])
 unfold ownRow at h
 split at h
 ·cases h
  exact ⟨_,(hM.st ρ hE).rowNil e sz,fun h=>h⟩
 ·rename_i s1 k n1 z
  obtain ⟨b,hb,h⟩:=ob_some h
  split at h
  ·rename_i xs1 m0 e0 z0
   obtain ⟨h1,h⟩:=must_some h
   cases h
   simp only [Bool.and_eq_true] at h1
   obtain ⟨⟨⟨⟨⟨h1,h2⟩,h3⟩,h4⟩,h5⟩,h6⟩:=h1
   have h1:=Nat.eq_of_beq_eq_true h1
   have h2:=Nat.eq_of_beq_eq_true h2
   have h3:=Nat.le_of_ble_eq_true h3
   have h4:=Nat.eq_of_beq_eq_true h4
   have h5:=Nat.eq_of_beq_eq_true h5
   subst h1;subst h2;subst h4;subst h5
   refine ⟨_,?_,fun h=>close (Nat.lt_trans (Nat.le_of_ble_eq_true h6) (by decide)) h⟩
   have hS:=mem_out hb (hM.st ρ hE)
   have e1:∀ q,dv ρ (.sl s1 0 q z0)= .slice (ad ρ s1) q (ρ s1).c:=fun q=>by simp [dv,ad]
   rw [e1]
   refine hS.swap (c':=rowc (.slice (ad ρ s1) n (ρ s1).c) n e0 z0 (dvs ρ (xs1.take (n*z0)))) (fun hok=>rowc_short hok h3) (fun k hk=>?_)
   revert hk
   show Value.ownBlock _=_→Value.ownBlock _=_
   cases ad ρ s1<;>exact fun h=>h
  cases h
 ·rename_i s1 off n1 cap
  obtain ⟨b,hb,h⟩:=ob_some h
  split at h
  ·rename_i cs e0
   obtain ⟨h1,h⟩:=must_some h
   cases h
   simp only [Bool.and_eq_true] at h1
   obtain ⟨⟨⟨⟨⟨h1,h2⟩,h3⟩,h4⟩,h5⟩,h6⟩:=h1
   have h1:=Nat.eq_of_beq_eq_true h1
   have h2:=Nat.eq_of_beq_eq_true h2
   have h3:=Nat.eq_of_beq_eq_true h3
   have h4:=Nat.le_of_ble_eq_true h4
   have h5:=Nat.le_of_ble_eq_true h5
   subst h1;subst h2
   refine ⟨_,?_,fun h=>close (Nat.lt_trans (Nat.le_of_ble_eq_true h6) (by decide)) h⟩
   have hS:=mem_out hb (hM.st ρ hE)
   refine hS.swap (c':=rowc (.slice (some ⟨bl ρ s1,0,none⟩) n cap) n e0 sz (dvs ρ (cs.take (n*sz)))) (fun hok=>?_) (fun k hk=>(Option.some.inj hk).symm)
   have hok':w.heap[bl ρ s1]?=some (.cells (dvs ρ cs).toArray e0 (0,0)):=hok
   have hle:n*sz≤cap*sz:=Nat.mul_le_mul_right _ h4
   refine ⟨by rw [dvs_len,List.length_take];omega,.inr ⟨bl ρ s1,cap,(dvs ρ cs).toArray,rfl,Nat.zero_le _,hok',h4,by simp only [maxLen];omega,by simp [dvs_len,h3],?_⟩⟩
   simp [dvs_map,List.map_take]
  cases h
 cases h
end
end Go.X
namespace Go.X
open Go Go.Eng Go.RowKit Dg Go.Proofs.YtedbajbgnmaakaaGreatDoor
section
variable {P : Program} {w0 w : World} {O : List Nat} {N : Nat} {D : List SD} {σ : Asg} {T : TrS} {M M' : TrB} {a : Act} {ρ : Rho} {ty : TypeId} {op : Op} {C : List Chunk}
theorem row_as {s:Nat} {a2:Option Addr} {n c sz:Nat} {e:TypeId} {xs:List Value} (h:(rowc (.slice a2 n c) n e sz xs).ok w) (hρ:ρ s=asOf (.slice a2 n c)):ad ρ s=a2∧(ρ s).c=c:=by
 rcases h.2 with ⟨h1,_⟩ | ⟨g,cap,cur,hv,_⟩
 ·injection h1 with h1 _ h3
  subst h1
  unfold ad;rw [hρ];exact ⟨rfl,rfl⟩
 injection hv with h1 _ h3
 subst h1
 unfold ad;rw [hρ];exact ⟨rfl,rfl⟩
theorem dead_get {M:TrB} {s:Option Nat} (hs:∀ t,s=some t→t<2 ^ 40∧∃ b,M.get t=some b) (t:Nat):(deadS M s).get t=none↔M.get t=none:=by
 cases s with
 | none=>exact Iff.rfl
 | some q=>
  unfold deadS
  obtain ⟨h1,b,h2⟩:=hs q rfl
  exact set_dom h1 h2 t
theorem ownRow_lt {v:SV} {e sz n:Nat} {s:Option Nat} {xs:List SV} (h:ownRow M v e sz=some (s,n,xs)):∀ t,s=some t→t<2 ^ 40∧∃ b,M.get t=some b:=by
 intro t ht
 unfold ownRow at h
 split at h
 ·cases h;cases ht
 ·obtain ⟨b,hb,h⟩:=ob_some h
  split at h
  ·obtain ⟨h1,h⟩:=must_some h
   cases h;cases ht
   simp only [Bool.and_eq_true] at h1
   exact ⟨Nat.lt_trans (Nat.le_of_ble_eq_true h1.2) (by decide),_,hb⟩
  cases h
 ·obtain ⟨b,hb,h⟩:=ob_some h
  split at h
  ·obtain ⟨h1,h⟩:=must_some h
   cases h;cases ht
   simp only [Bool.and_eq_true] at h1
   exact ⟨Nat.lt_trans (Nat.le_of_ble_eq_true h1.2) (by decide),_,hb⟩
  cases h
 cases h
theorem MemG.dead {s:Option Nat} (hG:MemG σ M) (hs:∀ t,s=some t→t<2 ^ 40):MemG σ (deadS M s):=by
 cases s with
 | none=>exact hG
 | some q=>exact hG.set (hs q rfl) (fun _ h=>by cases h) (Asg.le.refl σ)
noncomputable def nAppend (P:Program) (T:TrS) (M:TrB) (n:Nat) (x y:Operand) (t:TypeId):Option NR:=
 ob (elB P t) fun q=>match q with
 | (e,sz,bytes,z2)=>must (Nat.beq z2 sz&&Nat.blt 0 sz) (ob (evS T M x) fun vx=>ob (evS T M y) fun vy=>ob (elems M vy sz) fun p=>match p with
  | (m,news)=>ob (ownRow M vx e sz) fun r=>match r with
   | (s,n0,xs)=>match Nat.beq m 0 with
    | true=>some (some vx,M,n)
    | false=>must (Nat.ble (n0+m) 1000000&&Nat.ble ((n0+m)*bytes) 140737488355328&&news.all oneS) (ob (newS (deadS M s) n) fun s1=>
     some (some (.sl s1 0 (n0+m) sz),(deadS M s).set (.row (xs++news) (n0+m) e sz) s1,Nat.succ n)))
theorem nAppend_ok {n n':Nat} {x y:Operand} {t:TypeId} {v:Option SV} (hN:0<a.tmps.size) (hF:FrS N D σ T a) (hM:MemS w0 O σ M w) (hG:MemG σ M) (h:nAppend P T M n x y t=some (v,M',n')):
  Nw P w0 O σ (.call {callee:= .builtin .append,args:=#[x,y],argTypes:=#[t,t]}) ty a w v M':=by
 unfold nAppend at h
 obtain ⟨⟨e,sz,bytes,z2⟩,hq,h⟩:=ob_some h
 dsimp only at h
 obtain ⟨hb,h⟩:=must_some h
 rw [Bool.and_eq_true] at hb
 have hz:=Nat.eq_of_beq_eq_true hb.1
 subst hz
 have hE9:ElT P t e z2 bytes:=ElT.of hq (Nat.le_of_ble_eq_true hb.2)
 obtain ⟨vx,hx,h⟩:=ob_some h
 obtain ⟨vy,hy,h⟩:=ob_some h
 obtain ⟨⟨m,news⟩,hp,h⟩:=ob_some h
 dsimp only at h
 obtain ⟨⟨s,n0,xs⟩,hr,hh⟩:=ob_some h
 clear h
 dsimp only at hh
 have hs9:∀ dst pos af g,execOp a.eval ⟨dst,.call {callee:= .builtin .append,args:=#[x,y],argTypes:=#[t,t]},ty,pos,af,g⟩=(do pure (.value (← Builtin.append_ #[t,t] ty #[a.eval x,a.eval y]))):=fun _ _ _ _=>by
  simp [execOp,resolve,invoke,builtin]
 cases hm0:Nat.beq m 0 with
 | true=>
  rw [hm0] at hh
  cases hh
  have hm:=Nat.eq_of_beq_eq_true hm0
  subst hm
  refine Nw.perV hM (fun _=>Iff.rfl) hG hs9 (fun ρ hE=>?_)
  obtain ⟨C1,hS,hcl⟩:=ownRow_ok hM hE hr
  obtain ⟨a0,c,e1,e2,e3⟩:=elems_ok hM hE hp
  have hx':=evS_eval hF hG hE hx
  have hy':=evS_eval hF hG hE hy
  rw [e1] at hy'
  obtain ⟨i9,z9,h1',h2',h3',h4',h5'⟩:=hE9.row
  have hown:w.ownsRow 0 e z2 (dv ρ vx) n0 (dvs ρ xs):=hS.ok _ (List.mem_cons_self ..)
  obtain ⟨a1,cap1,hv1⟩:=ownsRow_slice hown
  have hle:n0≤cap1:=by
   rcases hown.2 with ⟨hv,h0⟩ | ⟨g,cp,cur,hv,_,_,hle,_⟩
   ·omega
   ·rw [hv1] at hv;injection hv with _ _ h2;omega
  have hsz:sizeB P e=some z2:=by unfold sizeB;rw [h1'];simp [h3']
  refine ⟨_,w,?_,rfl,hM.st ρ hE⟩
  rw [hx',hy',hv1]
  exact run_append_zero hE9.und hsz hle w
 | false=>
 rw [hm0] at hh
 dsimp only at hh
 obtain ⟨hb2,h⟩:=must_some hh
 clear hh
 obtain ⟨s1,hs1,h⟩:=ob_some h
 cases h
 obtain ⟨rfl,g1,g2⟩:=newS_ok hs1
 simp only [Bool.and_eq_true] at hb2
 obtain ⟨⟨k1,k2⟩,k3⟩:=hb2
 have k1:=Nat.le_of_ble_eq_true k1
 have k2:=Nat.le_of_ble_eq_true k2
 have hlt:=ownRow_lt hr
 have hfr:M.get s1=none:=(dead_get hlt s1).1 g1
 refine Nw.per hM hfr asOf (fun t=>?_) (fun τ hle=>((hG.dead fun t ht=>(hlt t ht).1).set g2 (fun _ h=>by cases h) hle)) hs9 (fun ρ hE=>?_)
 ·rw [set_dom2 g2 t,dead_get hlt t]
 obtain ⟨C1,hS,hcl⟩:=ownRow_ok hM hE hr
 obtain ⟨a0,c,e1,e2,e3⟩:=elems_ok hM hE hp
 have hx':=evS_eval hF hG hE hx
 have hy':=evS_eval hF hG hE hy
 rw [e1] at hy'
 obtain ⟨i9,z9,h1',h2',h3',h4',h5'⟩:=hE9.row
 obtain ⟨a2,c2,w',hrun,hS2⟩:∃ a2 c2 w',(Builtin.append_ #[t,t] ty #[a.eval x,a.eval y]).run P w= .ok (.slice a2 (n0+m) c2) w'∧St w0 O (rowc (.slice a2 (n0+m) c2) (n0+m) e z2 (dvs ρ xs++dvs ρ news)::C1) w':=by
  rw [hx',hy']
  by_cases hm:m=0
  ·subst hm
   have hn0:news=[]:=List.eq_nil_of_length_eq_zero (by simpa using e2)
   subst hn0
   have hown:w.ownsRow 0 e z2 (dv ρ vx) n0 (dvs ρ xs):=hS.ok _ (List.mem_cons_self ..)
   obtain ⟨a1,cap1,hv1⟩:=ownsRow_slice hown
   have hle:n0≤cap1:=by
    rcases hown.2 with ⟨hv,h0⟩ | ⟨g,cp,cur,hv,_,_,hle,_⟩
    ·omega
    ·rw [hv1] at hv;injection hv with _ _ h2;omega
   have hsz:sizeB P e=some z2:=by unfold sizeB;rw [h1'];simp [h3']
   rw [hv1] at hS ⊢
   refine ⟨a1,cap1,w,run_append_zero hE9.und hsz hle w,?_⟩
   simpa [dvs] using hS
  ·obtain ⟨bx,ox,rfl,hcell⟩:=e3 hm
   exact append_st hE9.und h1' h2' h3' h4' h5' hE9.pos hS hcell (by rw [dvs_len];exact e2) (oneAll k3) (by simp only [maxLen];omega) k2
 refine ⟨_,w',hrun,fun hρ=>?_⟩
 have hok:(rowc (.slice a2 (n0+m) c2) (n0+m) e z2 (dvs ρ xs++dvs ρ news)).ok w':=hS2.ok _ (List.mem_cons_self ..)
 obtain ⟨f1,f2⟩:=row_as hok hρ
 have hch:bch ρ s1 (.row (xs++news) (n0+m) e z2)=rowc (.slice a2 (n0+m) c2) (n0+m) e z2 (dvs ρ xs++dvs ρ news):=by
  show rowc (.slice (ad ρ s1) (n0+m) (ρ s1).c) (n0+m) e z2 (dvs ρ (xs++news))=_
  rw [f1,f2,dvs_append]
 refine ⟨?_,mem_new g2 g1 hch.symm (hcl hS2)⟩
 rw [← f1,← f2];simp [dv,ad]
def isIntT (P:Program) (t:TypeId):Bool:=match P.underlying t with
 | some (.int _)=>true
 | _=>false
noncomputable def nAppZ (P:Program) (T:TrS) (M:TrB) (n:Nat) (x y:Operand) (t tn:TypeId):Option NR:=match P.underlying t with
 | some (.slice e)=>must (isIntT P tn) (ob (P.info? e) fun i=>ob i.zero fun z=>ob (evS T M x) fun vx=>ob (evS T M y) fun vy=>(match vx,vy with
  | .nils,.int _ (.ofNat m)=>must (Nat.blt 0 m&&Nat.ble m 1000000&&Nat.blt 0 i.size&&Nat.ble (m*i.bytes) 281474976710656&&Nat.beq z.cells.size i.size) (ob (newS M n) fun s=>ob (cvs (Builtin.zeroCells z.cells m).toList) fun cs=>some (some (.sl s 0 m i.size),M.set (.row cs m e i.size) s,Nat.succ n))
  | _,_=>none))
 | _=>none
theorem nAppZ_ok {n n':Nat} {x y:Operand} {t tn:TypeId} {v:Option SV} (hF:FrS N D σ T a) (hM:MemS w0 O σ M w) (hG:MemG σ M) (h:nAppZ P T M n x y t tn=some (v,M',n')):
  Nw P w0 O σ (.call {callee:= .builtin .append,args:=#[x,y],argTypes:=#[t,tn]}) ty a w v M':=by
 unfold nAppZ at h
 split at h
 ·rename_i e hu
  obtain ⟨hi,h1⟩:=must_some h
  obtain ⟨i,hinf,h2⟩:=ob_some h1
  obtain ⟨z,hz,h3⟩:=ob_some h2
  obtain ⟨vx,hx,h4⟩:=ob_some h3
  obtain ⟨vy,hy,h5⟩:=ob_some h4
  clear h h1 h2 h3 h4
  split at h5
  ·rename_i k m
   obtain ⟨hb,h6⟩:=must_some h5
   obtain ⟨s,hs,h7⟩:=ob_some h6
   obtain ⟨cs,hcs,h8⟩:=ob_some h7
   clear h5 h6 h7
   cases h8
   obtain ⟨rfl,g1,g2⟩:=newS_ok hs
   simp only [Bool.and_eq_true] at hb
   obtain ⟨⟨⟨⟨b1,b2⟩,b3⟩,b4⟩,b5⟩:=hb
   have b1:=Nat.le_of_ble_eq_true b1
   have b2:=Nat.le_of_ble_eq_true b2
   have b3:=Nat.le_of_ble_eq_true b3
   have b4:=Nat.le_of_ble_eq_true b4
   have b5:=Nat.eq_of_beq_eq_true b5
   obtain ⟨kn,htn⟩:∃ kn,P.underlying tn=some (.int kn):=by
    unfold isIntT at hi
    split at hi
    ·exact ⟨_,by assumption⟩
    ·cases hi
   have hs9:∀ dst pos af g,execOp a.eval ⟨dst,.call {callee:= .builtin .append,args:=#[x,y],argTypes:=#[t,tn]},ty,pos,af,g⟩=(do pure (.value (← Builtin.append_ #[t,tn] ty #[a.eval x,a.eval y]))):=fun _ _ _ _=>by
    simp [execOp,resolve,invoke,builtin]
   refine Nw.per hM g1 asOf (set_dom2 g2) (fun τ hle=>hG.set g2 (fun _ h=>by cases h) hle) hs9 (fun ρ hE=>?_)
   have hx':=evS_eval hF hG hE hx
   have hy':=evS_eval hF hG hE hy
   simp only [dv] at hx' hy'
   have hr:=Lib.run_append_nil_zeros (P:=P) w t tn ty e i z k kn hu htn hinf hz m b1 b3 (by omega) b4
   have hy2:a.eval y= .int k (m:Int):=hy'
   rw [← hx',← hy2] at hr
   refine ⟨_,_,hr,fun hρ=>?_⟩
   have hbl:ad ρ s=some ⟨w.heap.size,0,none⟩:=by unfold ad;rw [hρ];rfl
   have hc:(ρ s).c=grownCap w m 0 e:=by rw [hρ];rfl
   have hbb:(ρ s).b=some w.heap.size:=by rw [hρ];rfl
   refine ⟨by rw [dv,hbb,hc];simp,mem_new g2 g1 rfl (((hM.st ρ hE).drew.allocO _).swap (c':=bch ρ s (.row cs m e i.size)) (fun hok=>?_) (fun q hq=>?_))⟩
   ·have hok':(w.drew.alloc (.cells (Builtin.zeroCells z.cells m++Builtin.zeroCells z.cells (grownCap w m 0 e - m)) e)).heap[w.heap.size]?=some (.cells (Builtin.zeroCells z.cells m++Builtin.zeroCells z.cells (grownCap w m 0 e - m)) e (0,0)):=hok
    show (rowc (.slice (ad ρ s) m (ρ s).c) m e i.size (dvs ρ cs)).ok _
    rw [hbl,hc,cvs_ok hcs]
    have hge:=grownCap_ge w m 0 e
    have hcm:grownCap w m 0 e≤maxLen:=grownCap_le_maxLen w m 0 e (by simp only [maxLen];omega)
    have hz0:=size_zeroCells z.cells m
    have hz1:=size_zeroCells z.cells (grownCap w m 0 e - m)
    rw [b5] at hz0 hz1
    refine ⟨by rw [Array.length_toList];exact hz0,.inr ⟨w.heap.size,grownCap w m 0 e,_,rfl,Nat.zero_le _,hok',hge,hcm,?_,?_⟩⟩
    ·rw [Array.size_append,hz0,hz1,← Nat.add_mul,Nat.add_sub_cancel' hge]
    rw [Array.toList_append,List.take_append_of_le_length (by rw [Array.length_toList,hz0];exact Nat.le_refl _),List.take_of_length_le (by rw [Array.length_toList,hz0];exact Nat.le_refl _)]
   have hq':(Value.slice (ad ρ s) m (ρ s).c).ownBlock=some q:=hq
   rw [hbl] at hq'
   simp only [Value.ownBlock,Option.some.injEq] at hq'
   exact hq'.symm
  cases h5
 cases h
end
end Go.X
namespace Go.X
open Go Go.Eng Go.RowKit Dg Go.Proofs.YtedbajbgnmaakaaGreatDoor
section
variable {P : Program} {w0 w : World} {O : List Nat} {N : Nat} {D : List SD} {σ : Asg} {T : TrS} {M M' : TrB} {a : Act} {ρ : Rho} {ty : TypeId} {op : Op} {C : List Chunk}
theorem KeyT.str {kt:TypeId} (hu:P.underlying kt=some .string):KeyT P kt encS where
 check e w k:=by unfold encS;exact MapKept.run_checkKey hu (by simp [MapKept.IsKey]) e 9999
 find w k es kvs h:=MapKept.run_findKey hu (findNow_kidx (d:= .string) (fun a b=>by
  simp only [Instr.sameNow,encS,Option.some.injEq]
  rw [str_beq,Bool.eq_iff_iff,beq_iff_eq,decide_eq_true_eq];exact eq_comm) k es kvs 0 h)
 stays w k:=MapKept.run_keyThatStays (d:= .string) (by simp [MapKept.IsKey,encS])
noncomputable def beqK:KK→List Nat→List Nat→Bool
 | .str,a,b=>eqN a b
 | .int,a,b=>Nat.beq (a.headD 0) (b.headD 0)
 | .two,a,b=>Nat.beq (a.headD 0) (b.headD 0)&&Nat.beq (a.tail.headD 0) (b.tail.headD 0)
 | .three,a,b=>Nat.beq (a.headD 0) (b.headD 0)&&Nat.beq (a.tail.headD 0) (b.tail.headD 0)&&Nat.beq (a.tail.tail.headD 0) (b.tail.tail.headD 0)
theorem beqK_iff {k:KK} {a b:List Nat}:beqK k a b=true↔k.key a=k.key b:=by
 cases k with
 | str=>show eqN a b=true↔sk a=sk b;rw [eqN_eq];simp
 | int=>show Nat.beq _ _=true↔a.headD 0=b.headD 0;rw [Nat.beq_eq]
 | two=>show (Nat.beq _ _&&Nat.beq _ _)=true↔(a.headD 0,a.tail.headD 0)=(b.headD 0,b.tail.headD 0);rw [Bool.and_eq_true,Nat.beq_eq,Nat.beq_eq,Prod.mk.injEq]
 | three=>show (Nat.beq _ _&&Nat.beq _ _&&Nat.beq _ _)=true↔(a.headD 0,a.tail.headD 0,a.tail.tail.headD 0)=(b.headD 0,b.tail.headD 0,b.tail.tail.headD 0);rw [Bool.and_eq_true,Bool.and_eq_true,Nat.beq_eq,Nat.beq_eq,Nat.beq_eq,Prod.mk.injEq,Prod.mk.injEq,and_assoc]
theorem beqK_eq (k:KK) (a b:List Nat):beqK k a b=decide (k.key a=k.key b):=by rw [Bool.eq_iff_iff,beqK_iff,decide_eq_true_eq]
def ofI :Int→Option Nat
 | .ofNat n=>some n
 | .negSucc _=>none
theorem ofI_ok {i:Int} {n:Nat} (h:ofI i=some n):i=(n:Int):=by cases i<;>cases h;rfl
def is64 :IntKind→Bool
 | .i64=>true
 | _=>false
theorem is64_ok {k:IntKind} (h:is64 k=true):k= .i64:=by cases k<;>first | rfl | cases h
noncomputable def keyK:KK→SV→Option (List Nat)
 | .str,.str l=>some l
 | .int,.int k i=>must (is64 k) (ob (ofI i) fun n=>some [n])
 | .two,.agg [.int k i,.int k' j]=>must (is64 k&&is64 k') (ob (ofI i) fun n=>ob (ofI j) fun m=>some [n,m])
 | .three,.agg [.int k i,.int k' j,.int k2 r]=>must (is64 k&&is64 k'&&is64 k2) (ob (ofI i) fun n=>ob (ofI j) fun m=>ob (ofI r) fun q=>some [n,m,q])
 | _,_=>none
theorem keyK_ok {k:KK} {v:SV} {l:List Nat} (h:keyK k v=some l):dv ρ v=k.enc (k.key l):=by
 unfold keyK at h
 split at h
 ·cases h;rfl
 ·obtain ⟨h1,h⟩:=must_some h
  obtain ⟨n,hn,h⟩:=ob_some h
  cases h
  rw [is64_ok h1,ofI_ok hn];rfl
 ·obtain ⟨h1,h⟩:=must_some h
  obtain ⟨n,hn,h⟩:=ob_some h
  obtain ⟨m,hm,h⟩:=ob_some h
  cases h
  rw [Bool.and_eq_true] at h1
  rw [is64_ok h1.1,is64_ok h1.2,ofI_ok hn,ofI_ok hm];rfl
 ·obtain ⟨h1,h⟩:=must_some h
  obtain ⟨n,hn,h⟩:=ob_some h
  obtain ⟨m,hm,h⟩:=ob_some h
  obtain ⟨q,hq,h⟩:=ob_some h
  cases h
  rw [Bool.and_eq_true,Bool.and_eq_true] at h1
  rw [is64_ok h1.1.1,is64_ok h1.1.2,is64_ok h1.2,ofI_ok hn,ofI_ok hm,ofI_ok hq];rfl
 cases h
noncomputable def putKV (kk:KK) (l:List (List Nat×SV)) (k:List Nat) (v:SV):List (List Nat×SV):=List.rec [(k,v)] (fun p r ih=>bif beqK kk p.1 k then (p.1,v)::r else p::ih) l
theorem putKV_cons (kk:KK) (p:List Nat×SV) (r:List (List Nat×SV)) (k:List Nat) (v:SV):putKV kk (p::r) k v=bif beqK kk p.1 k then (p.1,v)::r else p::putKV kk r k v:=rfl
theorem kvf_cons (kk:KK) (p:List Nat×SV) (r:List (List Nat×SV)) (q:kk.T):kvf ρ kk (p::r) q=if kk.key p.1=q then some (dv ρ p.2) else kvf ρ kk r q:=by
 unfold kvf
 rw [List.find?_cons]
 by_cases h:kk.key p.1=q
 ·rw [decide_eq_true h,if_pos h];rfl
 rw [decide_eq_false h,if_neg h]
theorem kvf_put (kk:KK) (k:List Nat) (v:SV):∀ l:List (List Nat×SV),kvf ρ kk (putKV kk l k v)=fun q=>if q=kk.key k then some (dv ρ v) else kvf ρ kk l q
 | []=>by
  funext q
  show kvf ρ kk [(k,v)] q=_
  rw [kvf_cons]
  by_cases h:q=kk.key k
  ·rw [if_pos h.symm,if_pos h]
  ·rw [if_neg (Ne.symm h),if_neg h]
 | p::r=>by
  funext q
  rw [putKV_cons,beqK_eq]
  by_cases h:kk.key p.1=kk.key k
  ·rw [decide_eq_true h,cond_true,kvf_cons,kvf_cons]
   dsimp only
   by_cases hq:q=kk.key k
   ·subst hq;rw [if_pos h,if_pos rfl]
   ·rw [if_neg (by rw [h];exact Ne.symm hq),if_neg hq,if_neg (by rw [h];exact Ne.symm hq)]
  ·rw [decide_eq_false h,cond_false,kvf_cons,kvf_put kk k v r,kvf_cons]
   by_cases hq:q=kk.key k
   ·subst hq;rw [if_neg h]
    simp
   ·simp [hq]
noncomputable def getKV (kk:KK) (l:List (List Nat×SV)) (k:List Nat):Option SV:=List.rec none (fun p _ ih=>bif beqK kk p.1 k then some p.2 else ih) l
theorem getKV_eq (kk:KK) (k:List Nat):∀ l:List (List Nat×SV),kvf ρ kk l (kk.key k)=(getKV kk l k).map (dv ρ)
 | []=>rfl
 | p::r=>by
  show _=(bif beqK kk p.1 k then some p.2 else getKV kk r k).map (dv ρ)
  rw [kvf_cons,beqK_eq]
  by_cases h:kk.key p.1=kk.key k
  ·rw [decide_eq_true h,if_pos h];rfl
  ·rw [decide_eq_false h,if_neg h,cond_false,getKV_eq kk k r]
def isI64T (P:Program) (t:TypeId):Bool:=match P.underlying t with
 | some (.int k)=>is64 k
 | _=>false
def kkOf (P:Program) (kt:TypeId):Option KK:=bif isStrT P kt then some .str else bif isI64T P kt then some .int else bif threeB P kt then some .three else bif twoB P kt then some .two else none
theorem kkOf_ok {kt:TypeId} {k:KK} (h:kkOf P kt=some k):KeyT P kt k.enc:=by
 unfold kkOf at h
 cases h1:isStrT P kt with
 | true=>
  rw [h1] at h;cases h
  refine KeyT.str ?_
  unfold isStrT at h1
  split at h1
  ·assumption
  ·cases h1
 | false=>
  rw [h1,cond_false] at h
  cases h2:isI64T P kt with
  | true=>
   rw [h2] at h;cases h
   unfold isI64T at h2
   split at h2
   ·rename_i k hk
    rw [is64_ok h2] at hk
    exact KeyT.nat hk
   ·cases h2
  | false=>
   rw [h2,cond_false] at h
   cases h3:threeB P kt with
   | true=>rw [h3] at h;cases h;exact KeyT.threeOf h3
   | false=>
    rw [h3,cond_false] at h
    cases h4:twoB P kt with
    | true=>rw [h4] at h;cases h;exact KeyT.twoOf h4
    | false=>rw [h4] at h;cases h
noncomputable def mapT (P:Program) (t:TypeId):Option (KK×TypeId):=match P.underlying t with
 | some (.map kt et)=>ob (kkOf P kt) fun k=>some (k,et)
 | _=>none
theorem mapT_ok {t:TypeId} {ke:KK×TypeId} (h:mapT P t=some ke):∃ kt,P.underlying t=some (.map kt ke.2)∧KeyT P kt ke.1.enc:=by
 unfold mapT at h
 split at h
 ·rename_i kt et' hu
  obtain ⟨k,hk,h⟩:=ob_some h
  cases h
  exact ⟨kt,hu,kkOf_ok hk⟩
 cases h
noncomputable def nMakeMap (P:Program) (M:TrB) (n:Nat) (t:TypeId):Option NR:=ob (mapT P t) fun ke=>ob (newS M n) fun s=>some (some (.mp s),M.set (.kv ke.1 []) s,Nat.succ n)
theorem nMakeMap_ok {n n':Nat} {t:TypeId} {v:Option SV} (hN:0<a.tmps.size) (hM:MemS w0 O σ M w) (hG:MemG σ M) (h:nMakeMap P M n t=some (v,M',n')):Nw P w0 O σ (.makeMap t none) ty a w v M':=by
 obtain ⟨ke,het,h⟩:=ob_some h
 obtain ⟨s,hs,h⟩:=ob_some h
 cases h
 obtain ⟨rfl,h1,h2⟩:=newS_ok hs
 have hs9:∀ dst pos af g,execOp a.eval ⟨dst,.makeMap t none,ty,pos,af,g⟩=(do pure (.value (← Instr.makeMap t none))):=fun _ _ _ _=>rfl
 refine Nw.per hM h1 asOf (set_dom2 h2) (fun τ hle=>hG.set h2 (fun _ h=>by cases h) hle) hs9 (fun ρ hE=>?_)
 obtain ⟨u,w',hr,b,hu2,hS⟩:=grabR (op:= .makeMap t none) (ty:=ty) (s:=Instr.makeMap t none) (R:=fun u w'=>∃ b,u= .map (some b)∧St w0 O [mpg ke.1.enc b (fun _=>none),memC ρ M] w') hN hs9
  (WL.makeMapG ke.1.enc (blt0 hN) (fun b a2 w2 hF2 hS2=>⟨_,fr_at hF2,b,rfl,hS2⟩)) (hM.st ρ hE)
 refine ⟨u,w',hr,fun hρ=>?_⟩
 subst hu2
 have hbl:bl ρ s=b:=by unfold bl;rw [hρ];rfl
 refine ⟨by rw [dv,hbl],mem_new h2 h1 ?_ hS⟩
 show mpg ke.1.enc b (fun _=>none)=mpg ke.1.enc (bl ρ s) (kvf ρ ke.1 [])
 rw [hbl];rfl
noncomputable def nPut (P:Program) (T:TrS) (M:TrB) (n:Nat) (t:TypeId) (m k v:Operand):Option NR:=ob (mapT P t) fun ke=>ob (evS T M m) fun vm=>ob (evS T M k) fun vk=>ob (evS T M v) fun vv=>ob (keyK ke.1 vk) fun l=>match vm with
 | .mp s=>must (Nat.blt s 1000000000) (ob (M.get s) fun b=>match b with
  | .kv k9 kvs=>must (KK.beq k9 ke.1) (some (none,M.set (.kv ke.1 (putKV ke.1 kvs l vv)) s,n))
  | _=>none)
 | _=>none
theorem nPut_ok {n n':Nat} {t:TypeId} {m k x:Operand} {v:Option SV} (hF:FrS N D σ T a) (hM:MemS w0 O σ M w) (hG:MemG σ M) (h:nPut P T M n t m k x=some (v,M',n')):
  Nw P w0 O σ (.mapUpdate t m k x) ty a w v M'∧Nw P w0 O σ (.insert t m k x) ty a w v M':=by
 obtain ⟨ke,het,h⟩:=ob_some h
 obtain ⟨kt,hu,hk⟩:=mapT_ok het
 obtain ⟨vm,hm,h⟩:=ob_some h
 obtain ⟨vk,hvk,h⟩:=ob_some h
 obtain ⟨vv,hvv,h⟩:=ob_some h
 obtain ⟨l,hl,h⟩:=ob_some h
 cases vm with
 | mp s=>
  dsimp only at h
  obtain ⟨hlt,h⟩:=must_some h
  obtain ⟨b,hb,h⟩:=ob_some h
  split at h
  ·rename_i k9 kvs
   obtain ⟨hk9,h8⟩:=must_some (b:=KK.beq k9 ke.1) h
   clear h
   have h7:=KK.beq_ok hk9
   clear hk9
   subst h7
   have h:=h8
   clear h8
   cases h
   have per:∀ {op:Op},(∀ dst pos af g,execOp a.eval ⟨dst,op,ty,pos,af,g⟩=(do Instr.mapUpdate t (a.eval m) (a.eval k) (a.eval x);pure .skip))→(op= .mapUpdate t m k x∨op= .insert t m k x)→s<2 ^ 40→Nw P w0 O σ op ty a w none (M.set (.kv ke.1 (putKV ke.1 kvs l vv)) s):=by
    intro op hs9 hop hlt
    refine Nw.perU hM (set_dom hlt hb) (hG.set hlt (fun _ h=>by cases h) (Asg.le.refl σ)) hs9 (fun ρ hE=>?_)
    have hS:=mem_out hb (hM.st ρ hE)
    have e1:=evS_ok hF hG hE hm
    have e2:=evS_ok hF hG hE hvk
    rw [keyK_ok hl] at e2
    have e3:=evS_ok hF hG hE hvv
    have fin:∀ {w'},St w0 O [mpg ke.1.enc (bl ρ s) (fun q=>if q=ke.1.key l then some (dv ρ vv) else kvf ρ ke.1 kvs q),fam (fun t=>if t=s then none else (M.get t).map (bch ρ t))] w'→St w0 O [memC ρ (M.set (.kv ke.1 (putKV ke.1 kvs l vv)) s)] w':=fun h=>by
     rw [← kvf_put] at h
     exact mem_in hlt h
    have hS':St w0 O [mpg ke.1.enc (bl ρ s) (kvf ρ ke.1 kvs),fam (fun t=>if t=s then none else (M.get t).map (bch ρ t))] w:=hS
    rcases hop with rfl | rfl
    ·obtain ⟨w', hr, hK⟩ := grabU (hs9 none "" #[] none) (WL.mapPutG (K := fun _ w' => St w0 O [memC ρ (M.set (.kv ke.1 (putKV ke.1 kvs l vv)) s)] w') (ke.1.key l) hu hk e1 e2 rfl e3 Upd.here (fun a2 w2 _ h2 => fin h2)) (Fr.full a) hS'
     exact ⟨w',hr,hK⟩
    ·obtain ⟨w', hr, hK⟩ := grabU (hs9 none "" #[] none) (WL.insertG (K := fun _ w' => St w0 O [memC ρ (M.set (.kv ke.1 (putKV ke.1 kvs l vv)) s)] w') (ke.1.key l) hu hk e1 e2 rfl e3 Upd.here (fun a2 w2 _ h2 => fin h2)) (Fr.full a) hS'
     exact ⟨w',hr,hK⟩
   have hlt':=Nat.lt_trans (Nat.le_of_ble_eq_true hlt) (show (1000000000:Nat)<2 ^ 40 by decide)
   exact ⟨per (fun _ _ _ _=>rfl) (.inl rfl) hlt',per (fun _ _ _ _=>rfl) (.inr rfl) hlt'⟩
  ·cases h
 | _=>cases h
noncomputable def sLookup (P:Program) (T:TrS) (M:TrB) (t:TypeId) (m k:Operand) (ok:Bool):Option SV:=ob (mapT P t) fun ke=>ob (still P (zeroValue ke.2)) fun z=>ob (cv z) fun zs=>ob (evS T M m) fun vm=>ob (evS T M k) fun vk=>ob (keyK ke.1 vk) fun l=>(match vm with
  | .mp s=>ob (M.get s) fun b=>(match b with
   | .kv k9 kvs=>must (KK.beq k9 ke.1) (match getKV ke.1 kvs l with
    | some v=>some (bif ok then .tup [v,.bool true] else v)
    | none=>some (bif ok then .tup [zs,.bool false] else zs))
   | _=>none)
  | .nilm=>some (bif ok then .tup [zs,.bool false] else zs)
  | _=>none)
theorem Sl.lookup {t:TypeId} {m k:Operand} {ok:Bool} {v:SV} (hF:FrS N D σ T a) (hM:MemS w0 O σ M w) (hG:MemG σ M) (hE:Ext σ ρ) (h:sLookup P T M t m k ok=some v):Sl P (.lookup t m k ok) ty a w (dv ρ v):=by
 obtain ⟨ke,het,h⟩:=ob_some h
 obtain ⟨z,hz,h⟩:=ob_some h
 obtain ⟨zs,hzs,h⟩:=ob_some h
 obtain ⟨vm,hm,h⟩:=ob_some h
 obtain ⟨vk,hvk,h⟩:=ob_some h
 obtain ⟨l,hl,h⟩:=ob_some h
 have hzz:=cv_ok hzs ρ
 have hu0:∃ kt,P.underlying t=some (.map kt ke.2)∧KeyT P kt ke.1.enc:=mapT_ok het
 obtain ⟨kt,hu,hk⟩:=hu0
 have e1:=evS_ok hF hG hE hm
 have e2:=evS_ok hF hG hE hvk
 rw [keyK_ok hl] at e2
 cases vm with
  | mp s=>
   dsimp only at h
   obtain ⟨b,hb,h⟩:=ob_some h
   split at h
   ·rename_i k9 kvs
    obtain ⟨hk9,h8⟩:=must_some (b:=KK.beq k9 ke.1) h
    clear h
    have h7:=KK.beq_ok hk9
    clear hk9
    subst h7
    have h:=h8
    clear h8
    have hok:(mpg ke.1.enc (bl ρ s) (kvf ρ ke.1 kvs)).ok w:=hM.ok hE hb
    have hg:=getKV_eq (ρ:=ρ) ke.1 l kvs
    have gen:=Sl.of (P:=P) (a:=a) (w:=w) (ty:=ty) (F:=fun w=>(mpg ke.1.enc (bl ρ s) (kvf ρ ke.1 kvs)).ok w) (fun d pos af=>Yl.lookupG (cm:=ok) (ke.1.key l) hu hk (still_ok hz) e1 e2 rfl rfl) hok
    have fin:(bif ok then Value.tuple #[(kvf ρ ke.1 kvs (ke.1.key l)).getD z,.bool (kvf ρ ke.1 kvs (ke.1.key l)).isSome] else (kvf ρ ke.1 kvs (ke.1.key l)).getD z)=dv ρ v:=by
     rw [hg]
     split at h
     ·rename_i u hu2
      rw [hu2];cases h;cases ok<;>simp [dv,dvs]
     ·rename_i hu2
      rw [hu2];cases h;cases ok<;>simp [dv,dvs,hzz]
    rw [← fin];exact gen
   ·cases h
  | nilm=>
   cases h
   have e1':=(Fr.full a).ev e1
   have e2':=(Fr.full a).ev e2
   simp only [dv] at e1'
   intro dst pos af g
   have hf:=hk.find w (ke.1.key l) [] [] rfl
   have hc:=hk.check true w (ke.1.key l)
   cases ok<;>simp [execOp,e1',e2',Instr.lookup,run_underlying hu,hc,hf,kidx,still_ok hz,dv,dvs,hzz]
  | _=>cases h
end
end Go.X
namespace Go.X
open Go Go.Eng Go.RowKit Dg Go.Proofs.YtedbajbgnmaakaaGreatDoor
section
variable {P : Program} {w0 w : World} {O : List Nat} {N : Nat} {D : List SD} {σ : Asg} {T T' : TrS} {M M' : TrB} {a : Act} {ρ : Rho} {ty : TypeId} {op : Op} {C : List Chunk} {ops : Array Oper} {Q : Exit → Act → World → Prop} {K : Act → World → Prop}
theorem St.merge {c d e:Chunk} (h:St w0 O (c::d::C) w) (hok:c.ok w→d.ok w→e.ok w) (hfp:∀ k,e.fp k→c.fp k∨d.fp k):St w0 O (e::C) w:=by
 have hc:=List.mem_cons_self (a:=c) (l:=d::C)
 have hd:d∈c::d::C:=List.mem_cons_of_mem _ (List.mem_cons_self ..)
 have hr:∀ x∈C,x∈c::d::C:=fun x hx=>List.mem_cons_of_mem _ (List.mem_cons_of_mem _ hx)
 obtain ⟨p1,p2⟩:=List.pairwise_cons.1 h.disj
 obtain ⟨p3,p4⟩:=List.pairwise_cons.1 p2
 refine ⟨h.os,h.tape,h.output,h.size,h.old,fun x hx=>?_,fun x hx k hk=>?_,List.Pairwise.cons (fun x hx k hk=>?_) p4⟩
 ·rcases List.mem_cons.1 hx with rfl | hx
  ·exact hok (h.ok c hc) (h.ok d hd)
  exact h.ok x (hr x hx)
 ·rcases List.mem_cons.1 hx with rfl | hx
  ·rcases hfp k hk with hk | hk
   ·exact h.bnd c hc k hk
   exact h.bnd d hd k hk
  exact h.bnd x (hr x hx) k hk
 rcases hfp k hk with hk | hk
 ·exact p1 x (List.mem_cons_of_mem _ hx) k hk
 exact p3 x hx k hk
theorem MemS.blk (hM:MemS w0 O σ M w) {s:Nat} {b:Blk} (hs:M.get s=some b) {ρ':Rho} (h1:Ext σ ρ) (h2:Ext σ ρ'):ρ s=ρ' s:=by
 cases hp:σ s with
 | none=>rw [(hM.dom s).2 hp] at hs;cases hs
 | some p=>rw [h1 s p hp,h2 s p hp]
theorem MemS.bl_eq (hM:MemS w0 O σ M w) {s:Nat} {b:Blk} (hs:M.get s=some b) {ρ':Rho} (h1:Ext σ ρ) (h2:Ext σ ρ'):bl ρ s=bl ρ' s:=by unfold bl;rw [hM.blk hs h1 h2]
theorem hset_same {w:World} {b:Nat} {o:Obj} (h:b<w.heap.size):(ChangeMaps.setBlock w b o).heap[b]?=some o:=by simp [ChangeMaps.setBlock,h]
theorem _root_.Go.Eng.St.setB {b:Nat} {o:Obj} {c c':Chunk} (h:St w0 O (c::C) w) (hb:c.fp b) (hok:c.ok w→c'.ok (ChangeMaps.setBlock w b o)) (hfp:∀ k,c'.fp k→c.fp k):St w0 O (c'::C) (ChangeMaps.setBlock w b o):=by
 have hm:=List.mem_cons_self (a:=c) (l:=C)
 have hbn:=h.bnd c hm b hb
 have hd:=List.pairwise_cons.1 h.disj
 have hoth:∀ k,k≠b→(ChangeMaps.setBlock w b o).heap[k]?=w.heap[k]?:=fun k hk=>World.putObj_heap_other (w:=w) (o:=o) hk
 have hsz:(ChangeMaps.setBlock w b o).heap.size=w.heap.size:=by simp [ChangeMaps.setBlock]
 refine ⟨h.os,h.tape,h.output,by rw [hsz];exact h.size,fun k hk ho=>?_,fun x hx=>?_,fun x hx k hk=>?_,List.Pairwise.cons (fun x hx k hk=>hd.1 x hx k (hfp k hk)) hd.2⟩
 ·rw [hoth k (fun e=>by subst e;exact ho (hbn.2 hk))];exact h.old k hk ho
 ·rcases List.mem_cons.1 hx with rfl | hx
  ·exact hok (h.ok c hm)
  exact x.loc w _ (fun k hk=>hoth k (fun e=>hd.1 x hx b hb (e▸hk))) (h.ok x (List.mem_cons_of_mem _ hx))
 rw [hsz]
 rcases List.mem_cons.1 hx with rfl | hx
 ·exact h.bnd c hm k (hfp k hk)
 exact h.bnd x (List.mem_cons_of_mem _ hx) k hk
noncomputable def nRange (P:Program) (T:TrS) (M:TrB) (n:Nat) (t:TypeId) (x:Operand):Option NR:=ob (newS M n) fun s=>ob (evS T M x) fun v=>match v with
 | .str l=>must (isStrT P t) (some (some (.ptr s 0),M.set (.sit l 0) s,Nat.succ n))
 | .mp s0=>ob (mapT P t) fun ke=>ob (M.get s0) fun b=>(match b with
  | .kv k l=>must (KK.beq k ke.1&&Nat.blt s0 1000000000) (some (some (.ptr s 0),(M.set .dead s0).set (.itr s0 k l (l.map (·.1)) none) s,Nat.succ n))
  | _=>none)
 | _=>none
theorem isStrT_und {t:TypeId} (h:isStrT P t=true):P.underlying t=some .string:=by
 unfold isStrT at h
 split at h
 ·assumption
 cases h
theorem kvf_mem {k:KK} {l:List (List Nat×SV)} {q:k.T} (h:(kvf ρ k l q).isSome=true):q∈(l.map (·.1)).map k.key:=by
 unfold kvf at h
 cases hf:l.find? (fun p=>decide (k.key p.1=q)) with
 | none=>rw [hf] at h;cases h
 | some p=>
  have h1:=List.find?_some hf
  have h2:=List.mem_of_find?_eq_some hf
  simp only [decide_eq_true_eq] at h1
  rw [← h1,List.map_map]
  exact List.mem_map.2 ⟨p,h2,rfl⟩
theorem kfind_at {κ:Type} [DecidableEq κ]:∀ {kvs:List (κ×Value)},(kvs.map Prod.fst).Nodup→∀ {i:Nat} {p:κ×Value},kvs[i]?=some p→kfind kvs p.1=some p.2
 | [],_,i,p,h=>by simp at h
 | q::r,hn,0,p,h=>by
  simp only [List.getElem?_cons_zero,Option.some.injEq] at h
  subst h;simp [kfind]
 | q::r,hn,i+1,p,h=>by
  simp only [List.getElem?_cons_succ] at h
  simp only [List.map_cons,List.nodup_cons] at hn
  have h1:=kfind_at hn.2 h
  unfold kfind
  rw [if_neg (fun e=>hn.1 (by rw [e];exact List.mem_map.2 ⟨p,List.mem_of_getElem? h,rfl⟩))]
  exact h1
theorem nRange_ok {n n':Nat} {t:TypeId} {x:Operand} {v:Option SV} (hF:FrS N D σ T a) (hM:MemS w0 O σ M w) (hG:MemG σ M) (h:nRange P T M n t x=some (v,M',n')):Nw P w0 O σ (.range t x) ty a w v M':=by
 obtain ⟨s,hs,h⟩:=ob_some h
 obtain ⟨u,hu,h⟩:=ob_some h
 obtain ⟨rfl,h1,h2⟩:=newS_ok hs
 have hs9:∀ dst pos af g,execOp a.eval ⟨dst,.range t x,ty,pos,af,g⟩=(do pure (.value (← Instr.range t (a.eval x)))):=fun _ _ _ _=>rfl
 cases u with
 | str l=>
  obtain ⟨hst,h⟩:=must_some h
  cases h
  refine Nw.per hM h1 (fun u=>match u with | .pointer (some x)=>asB x.block | _=>default) (set_dom2 h2) (fun τ hle=>hG.set h2 (fun _ h=>by cases h) hle) hs9 (fun ρ hE=>?_)
  have hx:=evS_eval hF hG hE hu
  refine ⟨.pointer (some ⟨w.heap.size,0,none⟩),w.alloc (.stringIter (str (l.map UInt8.ofNat)) 0),?_,fun hρ=>?_⟩
  ·rw [hx,dv];exact run_range_string w t _ (isStrT_und hst)
  ·have hbl:bl ρ s=w.heap.size:=by unfold bl;rw [hρ];rfl
   refine ⟨by rw [dv,hbl],mem_new h2 h1 ?_ ((hM.st ρ hE).allocO _)⟩
   show ob1 _ _=ob1 (bl ρ s) _
   rw [hbl]
 | mp s0=>
  obtain ⟨ke,het,h⟩:=ob_some h
  obtain ⟨kt,hut,hk⟩:=mapT_ok het
  obtain ⟨b,hb,h⟩:=ob_some h
  split at h
  ·rename_i k l
   obtain ⟨hc,h⟩:=must_some h
   cases h
   rw [Bool.and_eq_true] at hc
   have hlt:=Nat.lt_trans (Nat.le_of_ble_eq_true hc.2) (show (1000000000:Nat)<2 ^ 40 by decide)
   refine Nw.per hM h1 (fun u=>match u with | .pointer (some x)=>asB x.block | _=>default) (fun t=>?_) (fun τ hle=>(hG.set hlt (fun _ h=>by cases h) (Asg.le.refl σ)).set h2 (fun _ h=>by cases h) hle) hs9 (fun ρ hE=>?_)
   ·rw [set_dom2 h2 t,set_dom hlt hb t]
   ·have hx:=evS_eval hF hG hE hu
    have hS:=mem_out hb (hM.st ρ hE)
    obtain ⟨es,clock,kvs,g1,g2,g3,g4⟩:=(show (mpg k.enc (bl ρ s0) (kvf ρ k l)).ok w from hS.ok _ (List.mem_cons_self ..))
    refine ⟨.pointer (some ⟨w.heap.size,0,none⟩),w.alloc (.mapIter (some (bl ρ s0)) clock #[] clock),?_,fun hρ=>?_⟩
    ·rw [hx,dv]
     simp only [Instr.range,Sem.run_bind,run_underlying hut,getObj,Sem.run,g1,newObj,Result.andThen]
     rfl
    ·have hbl:bl ρ s=w.heap.size:=by unfold bl;rw [hρ];rfl
     refine ⟨by rw [dv,hbl],?_⟩
     have hlen:es.toList.length=kvs.length:=by have:=congrArg List.length g2;simpa using this
     have hlt0:bl ρ s0<w.heap.size:=lt_of_heap g1
     have hS2:St w0 O [bch ρ s (.itr s0 k l (l.map (·.1)) none),fam (fun t=>if t=s0 then none else (M.get t).map (bch ρ t))] (w.alloc (.mapIter (some (bl ρ s0)) clock #[] clock)):=by
      refine St.merge (hS.allocO (.mapIter (some (bl ρ s0)) clock #[] clock)) (fun k1 k2=>?_) (fun q hq=>?_)
      ·obtain ⟨es2,clock2,kvs2,f1,f2,f3,f4⟩:=(show (mpg k.enc (bl ρ s0) (kvf ρ k l)).ok _ from k2)
       have:(w.alloc (.mapIter (some (bl ρ s0)) clock #[] clock)).heap[bl ρ s0]?=w.heap[bl ρ s0]?:=Below.heap_alloc w _ _ hlt0
       rw [this,g1] at f1
       cases f1
       refine ⟨by rw [hbl];omega,es,clock,kvs2,clock,clock,#[],by rw [this,g1],f2,f3,f4,?_,f4.past,Nat.le_refl _,Nat.le_refl _,fun i e p he hp=>?_,fun q hq=>by cases hq⟩
       ·rw [hbl];exact World.alloc_heap_new w _
       ·simp only [List.not_mem_nil,Array.not_mem_empty,false_iff,Classical.not_not]
        have:=kfind_at f4.keys hp
        rw [← f3] at this
        exact kvf_mem (by rw [this];rfl)
      ·rcases hq with hq | hq
       ·exact .inl (by rw [hq,hbl];rfl)
       ·exact .inr hq
     have hS3:=hS2.perm (List.Perm.swap _ _ [])
     have hS4:=mem_in (b:= .dead) hlt (show St w0 O (bch ρ s0 .dead::_) _ from St.noC hS3)
     exact mem_new h2 (by rw [TrB.get_set _ _ _ _ hlt,if_neg (fun e=>by subst e;rw [hb] at h1;cases h1)];exact h1) rfl (hS4.perm (List.Perm.swap _ _ []))
  ·cases h
 | _=>cases h
end
end Go.X
namespace Go.X
open Go Go.Eng Go.RowKit Dg Go.Proofs.YtedbajbgnmaakaaGreatDoor
section
variable {P : Program} {w0 w : World} {O : List Nat} {N : Nat} {D : List SD} {σ : Asg} {T T' : TrS} {M M' : TrB} {a : Act} {ρ : Rho} {ty : TypeId} {op : Op} {C : List Chunk} {ops : Array Oper} {Q : Exit → Act → World → Prop} {K : Act → World → Prop}
def keyV :KK→List Nat→SV
 | .str,l=> .str l
 | .int,l=> .int .i64 (.ofNat (l.headD 0))
 | .two,l=> .agg [.int .i64 (.ofNat (l.headD 0)),.int .i64 (.ofNat (l.tail.headD 0))]
 | .three,l=> .agg [.int .i64 (.ofNat (l.headD 0)),.int .i64 (.ofNat (l.tail.headD 0)),.int .i64 (.ofNat (l.tail.tail.headD 0))]
theorem keyV_ok (k:KK) (l:List Nat):dv ρ (keyV k l)=k.enc (k.key l):=by
 cases k<;>rfl
theorem enc2_inj :∀ {p q:Nat×Nat},enc2 p=enc2 q→p=q
 | (a,b),(c,d),h=>by
  simp only [enc2,Value.agg.injEq,Array.mk.injEq,List.cons.injEq,Value.int.injEq,true_and,and_true] at h
  obtain ⟨h1,h2⟩:=h
  rw [Int.ofNat.inj h1,Int.ofNat.inj h2]
theorem enc3_inj :∀ {p q:Nat×Nat×Nat},enc3 p=enc3 q→p=q
 | (a,b,e),(c,d,f),h=>by
  simp only [enc3,Value.agg.injEq,Array.mk.injEq,List.cons.injEq,Value.int.injEq,true_and,and_true] at h
  obtain ⟨h1,h2,h3⟩:=h
  rw [Int.ofNat.inj h1,Int.ofNat.inj h2,Int.ofNat.inj h3]
theorem enc_inj :∀ {k:KK} {p q:k.T},k.enc p=k.enc q→p=q:=by
 intro k p q h
 cases k with
 | str=>
  have h1:str p=str q:=by injection h
  have:(str p).data.toList=(str q).data.toList:=by rw [h1]
  simpa [str] using this
 | int=>
  have h1:((show Nat from p):Int)=((show Nat from q):Int):=by injection h
  exact Int.ofNat.inj h1
 | two=>exact enc2_inj h
 | three=>exact enc3_inj h
abbrev NL :=List (SV×TrB)
def NxOk (P:Program) (w0:World) (O:List Nat) (σ:Asg) (op:Op) (ty:TypeId) (a:Act) (w:World) (L:NL):Prop:=∀ dst pos af g,∃ x∈L,∃ (τ:Asg) (w':World) (u:Value),σ.le τ∧MemS w0 O τ x.2 w'∧MemG τ x.2∧(∀ ρ,Ext τ ρ→u=dv ρ x.1)∧(execOp a.eval ⟨dst,op,ty,pos,af,g⟩).run P w= .ok (.value u) w'
noncomputable def nextM (M:TrB) (s t:Nat) (k:KK) (l:List (List Nat×SV)) (left:List (List Nat)) (q:List Nat):Option (SV×TrB):=
 ob (getKV k l q) fun v=>some (.tup [.bool true,keyV k q,v],M.set (.itr t k l (left.filter fun r=> !beqK k r q) (some q)) s)
noncomputable def nNext (T:TrS) (M:TrB) (it:Operand) (isS:Bool):Option NL:=ob (evS T M it) fun v=>match v with
 | .ptr s off=>must (Nat.beq off 0&&Nat.blt s 1000000000) (ob (M.get s) fun b=>match b with
  | .sit l pos=>must isS (match nthS l pos with
   | some c=>must (Nat.blt c 128) (some [(.tup [.bool true,.int .i64 (.ofNat pos),.int .i32 (.ofNat c)],M.set (.sit l (Nat.succ pos)) s)])
   | none=>some [(.tup [.bool false],M)])
  | .itr t k l left _=>must (!isS&&Nat.blt t 1000000000) (ob (M.get t) fun _=>match left with
   | []=>some [(.tup [.bool false],(M.set .dead s).set (.kv k l) t)]
   | q::r=>mapO (nextM M s t k l (q::r)) (q::r))
  | _=>none)
 | _=>none
noncomputable def sEntry (T:TrS) (M:TrB) (it:Operand):Option SV:=ob (evS T M it) fun v=>match v with
 | .ptr s off=>must (Nat.beq off 0) (ob (M.get s) fun b=>match b with
  | .itr _ k l _ cur=>ob cur fun q=>ob (getKV k l q) fun v=>some (.tup [keyV k q,v])
  | _=>none)
 | _=>none
theorem lt_bil {n:Nat} (h:Nat.blt n 1000000000=true):n<2 ^ 40:=Nat.lt_trans (Nat.le_of_ble_eq_true h) (by decide)
theorem itr_found {κ:Type} [DecidableEq κ] {bi bm:Nat} {enc:κ→Value} {f:κ→Option Value} {left:List κ} {cur:Option κ} {es:Array MapEntry} {clock since c0:Nat} {seen:Array Nat} {e:MapEntry} {i:Nat}
  (h:ItrOk bi bm enc f left cur w) (h1:w.heap[bm]?=some (.map es clock)) (h2:w.heap[bi]?=some (.mapIter (some bm) since seen c0)) (he:es.toList[i]?=some e) (hs:e.born∉seen):
  ∃ q∈left,e.key=enc q∧f q=some e.val∧∀ {w':World} {left':List κ},w'.heap[bm]?=some (.map es clock)→w'.heap[bi]?=some (.mapIter (some bm) since (seen.push e.born) clock)→(∀ c,c∈left'↔c∈left∧c≠q)→ItrOk bi bm enc f left' (some q) w':=by
 obtain ⟨hn,es2,clock2,kvs,since2,c2,seen2,g1,g2,g3,g4,g5,g6,g7,g8,g9,g10⟩:=h
 rw [h1] at g1
 cases g1
 rw [h2] at g5
 cases g5
 have hlen:es.toList.length=kvs.length:=by have:=congrArg List.length g2;simpa using this
 have hi:i<kvs.length:=by rw [← hlen];exact (List.getElem?_eq_some_iff.1 he).1
 obtain ⟨p,hp⟩:∃ p,kvs[i]?=some p:=⟨_,List.getElem?_eq_getElem hi⟩
 have hq:p.1∈left:=Classical.byContradiction fun hc=>hs ((g9 i e p he hp).2 hc)
 have hkv:(e.key,e.val)=(enc p.1,p.2):=by
  have e1:(es.toList.map (fun e=>(e.key,e.val)))[i]?=some (e.key,e.val):=by rw [List.getElem?_map,he];rfl
  rw [g2,List.getElem?_map,hp] at e1
  exact (Option.some.inj e1).symm
 injection hkv with hk hv
 refine ⟨p.1,hq,hk,by rw [g3,kfind_at g4.keys hp,hv],fun {w' left'} k1 k2 k3=>⟨hn,es,clock,kvs,since,clock,seen.push e.born,k1,g2,g3,g4,k2,g6,g8,g8,fun j e2 p2 he2 hp2=>?_,fun q hq2=>?_⟩⟩
 ·rw [k3,Array.mem_push,g9 j e2 p2 he2 hp2]
  have hej:e2.born=e.born↔j=i:=by
   constructor
   ·intro hb
    have b1:(es.toList.map (·.born))[j]?=some e2.born:=by rw [List.getElem?_map,he2];rfl
    have b2:(es.toList.map (·.born))[i]?=some e.born:=by rw [List.getElem?_map,he];rfl
    have hj:j<(es.toList.map (·.born)).length:=(List.getElem?_eq_some_iff.1 b1).1
    exact (List.getElem?_inj hj g4.born).1 (by rw [b1,b2,hb])
   ·intro hb;subst hb;rw [he] at he2;cases he2;rfl
  have hpj:p2.1=p.1↔j=i:=by
   constructor
   ·intro hb
    have b1:(kvs.map Prod.fst)[j]?=some p2.1:=by rw [List.getElem?_map,hp2];rfl
    have b2:(kvs.map Prod.fst)[i]?=some p.1:=by rw [List.getElem?_map,hp];rfl
    have hj:j<(kvs.map Prod.fst).length:=(List.getElem?_eq_some_iff.1 b1).1
    exact (List.getElem?_inj hj g4.keys).1 (by rw [b1,b2,hb])
   ·intro hb;subst hb;rw [hp] at hp2;cases hp2;rfl
  rw [hej,← hpj]
  by_cases hc:p2.1=p.1
  ·simp [hc]
  simp [hc]
 cases hq2
 exact ⟨i,e,p,seen,he,hp,rfl,rfl,rfl⟩
theorem mem_leftOf {es:Array MapEntry} {seen:Array Nat} {e:MapEntry}:e∈(leftOf es seen).toList↔e∈es.toList∧e.born∉seen:=by
 unfold leftOf
 simp
theorem nNext_ok {it:Operand} {isS:Bool} {L:NL} (hF:FrS N D σ T a) (hM:MemS w0 O σ M w) (hG:MemG σ M) (h:nNext T M it isS=some L):NxOk P w0 O σ (.next it isS) ty a w L:=by
 obtain ⟨v,hv,h1⟩:=ob_some h
 cases v with
 | ptr s off=>
  dsimp only at h1
  obtain ⟨hc,h2⟩:=must_some h1
  rw [Bool.and_eq_true] at hc
  have hoff:=Nat.eq_of_beq_eq_true hc.1
  subst hoff
  have hlt:=lt_bil hc.2
  obtain ⟨b,hb,h3⟩:=ob_some h2
  clear h h1 h2
  have ev:∀ ρ,Ext σ ρ→a.eval it= .pointer (some ⟨bl ρ s,0,none⟩):=fun ρ hE=>by rw [evS_eval hF hG hE hv,dv]
  cases b with
  | sit l pos=>
   dsimp only at h3
   obtain ⟨hi,h4⟩:=must_some h3
   clear h3
   subst hi
   have ok:∀ ρ,Ext σ ρ→w.heap[bl ρ s]?=some (.stringIter (str (l.map UInt8.ofNat)) pos):=fun ρ hE=>hM.ok hE hb
   have hsz:(str (l.map UInt8.ofNat)).size=l.length:=by rw [str_size,List.length_map]
   split at h4
   ·rename_i c hcn
    obtain ⟨hc8,h5⟩:=must_some h4
    clear h4
    cases h5
    rw [nthS_eq] at hcn
    have hpl:pos<l.length:=(List.getElem?_eq_some_iff.1 hcn).1
    have hc8:=Nat.le_of_ble_eq_true hc8
    have hps:pos<(str (l.map UInt8.ofNat)).size:=by rw [hsz];exact hpl
    have hby:(((str (l.map UInt8.ofNat))[pos]'hps)).toNat=c:=by
     have e1:(str (l.map UInt8.ofNat))[pos]'hps=(l.map UInt8.ofNat)[pos]'(by simpa using hpl):=by
      have:=str_get (l.map UInt8.ofNat) pos (by simpa using hpl)
      rw [getElem?_pos (str (l.map UInt8.ofNat)) pos hps] at this
      exact Option.some.inj this
     rw [e1]
     obtain ⟨_,e2⟩:=List.getElem?_eq_some_iff.1 hcn
     simp only [List.getElem_map,e2]
     simp;omega
    intro dst pos9 af g
    refine ⟨_,List.mem_singleton.2 rfl,σ,ChangeMaps.setBlock w (bl σ.rho s) (.stringIter (str (l.map UInt8.ofNat)) (pos+1)),.tuple #[.bool true,.int .i64 (pos:Int),.int .i32 (c:Int)],Asg.le.refl σ,⟨fun ρ hE=>?_,fun t=>(set_dom hlt hb t).trans (hM.dom t)⟩,hG.set hlt (fun _ h=>by cases h) (Asg.le.refl σ),fun ρ hE=>by simp [dv,dvs],?_⟩
    ·refine mem_in (C:=[]) hlt ?_
     have hS:=mem_out hb (hM.st ρ hE)
     have hbl:bl ρ s=bl σ.rho s:=hM.bl_eq hb hE σ.rho_ext
     rw [← hbl]
     exact hS.setB (c':=bch ρ s (.sit l (Nat.succ pos))) rfl (fun _=>hset_same (lt_of_heap (ok ρ hE))) (fun k hk=>hk)
    ·have e0:=ok σ.rho σ.rho_ext
     have ha8:((str (l.map UInt8.ofNat))[pos]'hps).toNat<128:=by rw [hby];exact hc8
     simp only [execOp,ev σ.rho σ.rho_ext,Instr.next,getObj,setObj,Sem.run_bind,Sem.run,e0,Result.andThen,hps,if_true,decode_ascii _ pos hps ha8,hby,goInt]
     rfl
   ·rename_i hcn
    cases h4
    rw [nthS_eq] at hcn
    have hpl:l.length≤pos:=List.getElem?_eq_none_iff.1 hcn
    intro dst pos9 af g
    refine ⟨_,List.mem_singleton.2 rfl,σ,w,.tuple #[.bool false],Asg.le.refl σ,hM,hG,fun ρ hE=>by simp [dv,dvs],?_⟩
    have e0:=ok σ.rho σ.rho_ext
    have hps: ¬ pos<(str (l.map UInt8.ofNat)).size:=by rw [hsz];omega
    simp only [execOp,ev σ.rho σ.rho_ext,Instr.next,getObj,setObj,Sem.run_bind,Sem.run,e0,Result.andThen,hps,if_false]
    rfl
  | itr t k l left cur=>
   dsimp only at h3
   obtain ⟨hi,h4⟩:=must_some h3
   clear h3
   rw [Bool.and_eq_true,Bool.not_eq_true'] at hi
   obtain ⟨hi,hlt2⟩:=hi
   subst hi
   have hlt2:=lt_bil hlt2
   obtain ⟨bt,hbt,h5⟩:=ob_some h4
   clear h4
   have ok:∀ ρ,Ext σ ρ→ItrOk (bl ρ s) (bl ρ t) k.enc (kvf ρ k l) (left.map k.key) (cur.map k.key) w:=fun ρ hE=>hM.ok hE hb
   have bls:∀ ρ,Ext σ ρ→bl ρ s=bl σ.rho s:=fun ρ hE=>hM.bl_eq hb hE σ.rho_ext
   have blt:∀ ρ,Ext σ ρ→bl ρ t=bl σ.rho t:=fun ρ hE=>hM.bl_eq hbt hE σ.rho_ext
   obtain ⟨hn,es,clock,kvs,since,c0,seen,g1,g2,g3,g4,g5,g6,g7,g8,g9,g10⟩:=ok σ.rho σ.rho_ext
   have hlen:es.toList.length=kvs.length:=by have:=congrArg List.length g2;simpa using this
   intro dst pos9 af g
   have ex:∀ {r:Result Value},(Instr.next (.pointer (some ⟨bl σ.rho s,0,none⟩)) false ty).run P w=r→(execOp a.eval ⟨dst,.next it false,ty,pos9,af,g⟩).run P w=r.andThen fun v w=> .ok (.value v) w:=fun hr=>by
    simp only [execOp,ev σ.rho σ.rho_ext,Sem.run_bind,hr,Sem.run_pure]
   rcases run_next_at (P:=P) w ty (bl σ.rho s) (bl σ.rho t) since c0 seen es clock g5 g1 g6 g7 with ⟨h0,hr⟩ | ⟨e,he,w1,hw1,hr⟩
   ·have hr:=ex hr
    cases left with
    | nil=>
     cases h5
     refine ⟨_,List.mem_singleton.2 rfl,σ,w,.tuple #[.bool false],Asg.le.refl σ,⟨fun ρ hE=>?_,fun q=>?_⟩,(hG.set hlt (fun _ h=>by cases h) (Asg.le.refl σ)).set hlt2 (fun _ h=>by cases h) (Asg.le.refl σ),fun ρ hE=>by simp [dv,dvs],hr⟩
     ·have hS:=(mem_out hb (hM.st ρ hE)).perm (List.Perm.swap _ _ [])
      have hS2:=(mem_in (b:= .dead) hlt (show St w0 O (bch ρ s .dead::_) _ from St.noC hS))
      have hgt:(M.set .dead s).get t=some (if t=s then .dead else bt):=by
       rw [TrB.get_set _ _ _ _ hlt]
       split
       ·rfl
       ·exact hbt
      have hS3:=(mem_out hgt hS2).sublist (List.sublist_cons_self ..)
      have hS4:=hS3.perm (List.Perm.swap _ _ [])
      refine mem_in (b:= .kv k l) hlt2 (hS4.swap (c':=bch ρ t (.kv k l)) (fun hok=>?_) (fun q hq=> .inr hq))
      obtain ⟨_,es,clock,kvs,since,c0,seen,g1,g2,g3,g4,_⟩:=(show ItrOk (bl ρ s) (bl ρ t) k.enc (kvf ρ k l) _ _ w from hok)
      exact ⟨es,clock,kvs,g1,g2,g3,g4⟩
     ·have hgt:(M.set .dead s).get t=some (if t=s then .dead else bt):=by
       rw [TrB.get_set _ _ _ _ hlt]
       split
       ·rfl
       ·exact hbt
      rw [set_dom hlt2 hgt q,set_dom hlt hb q,hM.dom q]
    | cons q r=>
     exfalso
     obtain ⟨y,_,hy⟩:=mapO_ok h5 q (List.mem_cons_self ..)
     obtain ⟨v9,hv9,_⟩:=ob_some hy
     have hf:kvf σ.rho k l (k.key q)=some (dv σ.rho v9):=by rw [getKV_eq,hv9];rfl
     rw [g3] at hf
     have hm:k.key q∈kvs.map Prod.fst:=Classical.byContradiction fun hc=>by
      have:kfind kvs (k.key q)=none:=by
       cases hk:kfind kvs (k.key q) with
       | none=>rfl
       | some u=>
        exfalso
        apply hc
        clear hf hr h0 g9 g10 g4 g3 g2 hlen hc
        induction kvs with
        | nil=>simp [kfind] at hk
        | cons p r ih=>
         unfold kfind at hk
         by_cases hp:p.1=k.key q
         ·simp [hp]
         ·rw [if_neg hp] at hk
          simp only [List.map_cons,List.mem_cons]
          exact .inr (ih hk)
      rw [this] at hf;cases hf
     obtain ⟨p,hp,hpk⟩:=List.mem_map.1 hm
     obtain ⟨i,hi,hip⟩:=List.mem_iff_getElem.1 hp
     have hie:i<es.toList.length:=by rw [hlen];exact hi
     have h9:=g9 i es.toList[i] p (List.getElem?_eq_getElem hie) (by rw [List.getElem?_eq_getElem hi,hip])
     have hns:es.toList[i].born∉seen:=fun hb=>h9.1 hb (by rw [hpk];simp)
     have:=mem_leftOf.2 ⟨List.getElem_mem hie,hns⟩
     have hnil:(leftOf es seen).toList=[]:=by
      have:(leftOf es seen)=#[]:=Array.eq_empty_of_size_eq_zero h0
      rw [this]
     rw [hnil] at this
     cases this
   ·have hr:=ex hr
    obtain ⟨hme,hse⟩:=mem_leftOf.1 he
    obtain ⟨i,hi,hie⟩:=List.mem_iff_getElem.1 hme
    have hei:es.toList[i]?=some e:=by rw [List.getElem?_eq_getElem hi,hie]
    obtain ⟨c,hc,hkey,hval,_⟩:=itr_found (ok σ.rho σ.rho_ext) g1 g5 hei hse
    obtain ⟨q,hq,rfl⟩:=List.mem_map.1 hc
    have h':∃ y∈L,nextM M s t k l left q=some y:=by
     cases left with
     | nil=>cases hq
     | cons q0 r=>exact mapO_ok h5 q hq
    obtain ⟨y,hy,hn2⟩:=h'
    obtain ⟨v,hv2,hn2⟩:=ob_some hn2
    cases hn2
    have hMw:MemS w0 O σ M w1:=by
     rcases hw1 with rfl | rfl
     ·exact hM
     ·exact ⟨fun ρ hE=>(hM.st ρ hE).drew,hM.dom⟩
    have hh1:∀ b:Nat,w1.heap[b]?=w.heap[b]?:=by rcases hw1 with rfl | rfl<;>(intro b;rfl)
    refine ⟨_,hy,σ,ChangeMaps.setBlock w1 (bl σ.rho s) (.mapIter (some (bl σ.rho t)) since (seen.push e.born) clock),.tuple #[.bool true,e.key,e.val],Asg.le.refl σ,⟨fun ρ hE=>?_,fun t=>(set_dom hlt hb t).trans (hM.dom t)⟩,hG.set hlt (fun _ h=>by cases h) (Asg.le.refl σ),fun ρ hE=>?_,hr⟩
    ·refine mem_in (C:=[]) hlt ?_
     have hS:=mem_out hb (hMw.st ρ hE)
     rw [← bls ρ hE,← blt ρ hE] at*
     refine hS.setB (c':=bch ρ s (.itr t k l (left.filter fun r=> !beqK k r q) (some q))) (.inl rfl) (fun hok=>?_) (fun k hk=>hk)
     obtain ⟨c2,hc2,hkey2,hval2,hnew⟩:=itr_found (ok ρ hE) g1 g5 hei hse
     have hcc:c2=k.key q:=enc_inj (hkey2.symm.trans hkey)
     subst hcc
     have hlt9:bl ρ s<w1.heap.size:=lt_of_heap ((hh1 _).trans g5)
     refine hnew ?_ (hset_same hlt9) (fun c=>?_)
     ·rw [show (ChangeMaps.setBlock w1 (bl ρ s) _).heap[bl ρ t]?=w1.heap[bl ρ t]? from World.putObj_heap_other (w:=w1) (Ne.symm hn),hh1]
      exact g1
     ·simp only [List.mem_map,List.mem_filter,beqK_eq,Bool.not_eq_true',decide_eq_false_iff_not]
      constructor
      ·rintro ⟨x,⟨h1,h2⟩,rfl⟩;exact ⟨⟨x,h1,rfl⟩,h2⟩
      ·rintro ⟨⟨x,h1,rfl⟩,h2⟩;exact ⟨x,⟨h1,h2⟩,rfl⟩
    ·have hf:kvf ρ k l (k.key q)=some (dv ρ v):=by rw [getKV_eq,hv2];rfl
     obtain ⟨c2,hc2,hkey2,hval2,_⟩:=itr_found (ok ρ hE) (by rw [blt ρ hE];exact g1) (by rw [bls ρ hE,blt ρ hE];exact g5) hei hse
     have hcc:c2=k.key q:=enc_inj (hkey2.symm.trans hkey)
     subst hcc
     rw [hf] at hval2
     have hval3:=Option.some.inj hval2
     simp [dv,dvs,keyV_ok,hkey,hval3]
  | _=>cases h3
 | _=>cases h1
theorem Sl.entry {it:Operand} {v:SV} (hF:FrS N D σ T a) (hM:MemS w0 O σ M w) (hG:MemG σ M) (hE:Ext σ ρ) (h:sEntry T M it=some v):Sl P (.entry it) ty a w (dv ρ v):=by
 obtain ⟨x,hx,h⟩:=ob_some h
 cases x with
 | ptr s off=>
  dsimp only at h
  have hm:=must_some h
  clear h
  obtain ⟨hc,h⟩:=hm
  have hoff:=Nat.eq_of_beq_eq_true hc
  subst hoff
  obtain ⟨b,hb,h⟩:=ob_some h
  cases b with
  | itr t k l left cur=>
   dsimp only at h
   obtain ⟨q,hq,h⟩:=ob_some h
   obtain ⟨u,hu,h⟩:=ob_some h
   cases h
   subst hq
   obtain ⟨hn,es,clock,kvs,since,c0,seen,g1,g2,g3,g4,g5,g6,g7,g8,g9,g10⟩:=(show ItrOk (bl ρ s) (bl ρ t) k.enc (kvf ρ k l) (left.map k.key) (some (k.key q)) w from hM.ok hE hb)
   obtain ⟨i,e,p,s0,he,hp,hpq,hse,hcl⟩:=g10 _ rfl
   subst hse
   subst hcl
   have hx':=evS_eval hF hG hE hx
   have hr:=run_entry_at (P:=P) w (bl ρ s) (bl ρ t) since s0 es c0 e g5 g1 (List.mem_of_getElem? he) g4.born
   have hkv:(e.key,e.val)=(k.enc p.1,p.2):=by
    have e1:(es.toList.map (fun e=>(e.key,e.val)))[i]?=some (e.key,e.val):=by rw [List.getElem?_map,he];rfl
    rw [g2,List.getElem?_map,hp] at e1
    exact (Option.some.inj e1).symm
   injection hkv with hk hv
   have hf:kvf ρ k l (k.key q)=some (dv ρ u):=by rw [getKV_eq,hu];rfl
   rw [g3,← hpq,kfind_at g4.keys hp] at hf
   have e9:dv ρ (.tup [keyV k q,u])= .tuple #[e.key,e.val]:=by
    simp only [dv,dvs,keyV_ok]
    rw [hk,hv,hpq]
    injection hf with hf
    rw [hf]
   intro dst pos af g
   rw [e9]
   simp only [execOp,hx',dv,Sem.run_bind,hr,Result.andThen_ok,Sem.run_pure]
  | _=>cases h
 | _=>cases h
end
end Go.X
