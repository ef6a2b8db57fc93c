/- Parts of the walk, put together by a program. By an AI agent. -/
import Derived.Test.YtedbajbgnmaakaaGreatDoorPaSourceLists2
import Init
import Derived.Lib.Split
import Derived.Lib.AtoiAll
import Derived.Lib.ItoaNum
import Derived.Lib.ItoaMem
import Derived.Shelf.LaysM
import Derived.Shelf.Strconv.Itoa3
import Derived.Shelf.Strconv.AtoiAll
import Derived.Lib.ItoaLen
import Derived.Lib.AtoiErrMem
set_option linter.unusedSimpArgs false
set_option linter.unusedVariables false
namespace Go.Proofs.YtedbajbgnmaakaaGreatDoor
open Go Go.Eng Go.Proofs Dg
structure TkG (its:List ItV) (ts:List TkV) (ds:List DV):Prop where
 x:ts.map (·.x)=its
 d:∀ t∈ts,t.d.ok 0∧(∀ c,t.d.ev c=setF t.x.q c)∧(t.d,t.da,t.dc)∈ds
structure RtG (u:Nat) (its:List ItV) (rs:List RtV) (cs:List (List Nat×Option Addr)):Prop where
 x:rs.map (·.x)=its
 d:∀ r∈rs,r.c=thoseL r.x.q u∧(r.c,r.ca)∈cs
structure DgG (its:List NoV) (ts:List DgV) (ds:List DV):Prop where
 x:ts.map (·.x)=its
 d:∀ t∈ts,t.d.ok 0∧(∀ c,t.d.ev c=setF t.x.q c)∧(t.d,t.da,t.dc)∈ds
structure RgG (u:Nat) (its:List NoV) (rs:List RgV) (cs:List (List Nat×Option Addr)):Prop where
 x:rs.map (·.x)=its
 d:∀ r∈rs,r.c=thoseL r.x.q u∧(r.c,r.ca)∈cs
theorem TkG.mono {its:List ItV} {ts:List TkV} {ds e:List DV} (h:TkG its ts ds) (hs:∀ z∈ds,z∈e):TkG its ts e:=⟨h.x,fun t ht=>⟨(h.d t ht).1,(h.d t ht).2.1,hs _ (h.d t ht).2.2⟩⟩
theorem RtG.mono {u:Nat} {its:List ItV} {ts:List RtV} {ds e:List (List Nat×Option Addr)} (h:RtG u its ts ds) (hs:∀ z∈ds,z∈e):RtG u its ts e:=⟨h.x,fun t ht=>⟨(h.d t ht).1,hs _ (h.d t ht).2⟩⟩
theorem TkG.snoc {l:List ItV} {i:Nat} {y:ItV} {ts:List TkV} {ds:List DV} (h:TkG (l.take i) ts ds) (hy:l[i]?=some y) (z:DRes (setF y.q)):TkG (l.take (i+1)) (ts++[⟨y,z.1.1,z.1.2.1,z.1.2.2⟩]) (ds++[(z.1.1,z.1.2.1,z.1.2.2)]):=by
 refine ⟨by rw [List.map_append,h.x,List.take_add_one,hy];rfl,fun t ht=>?_⟩
 rcases List.mem_append.1 ht with ht | ht
 ·exact ⟨(h.d t ht).1,(h.d t ht).2.1,List.mem_append_left _ (h.d t ht).2.2⟩
 rw [List.mem_singleton.1 ht];exact ⟨z.2.1,z.2.2,by simp⟩
theorem DgG.snoc {l:List NoV} {i:Nat} {y:NoV} {ts:List DgV} {ds:List DV} (h:DgG (l.take i) ts ds) (hy:l[i]?=some y) (z:DRes (setF y.q)):DgG (l.take (i+1)) (ts++[⟨y,z.1.1,z.1.2.1,z.1.2.2⟩]) (ds++[(z.1.1,z.1.2.1,z.1.2.2)]):=by
 refine ⟨by rw [List.map_append,h.x,List.take_add_one,hy];rfl,fun t ht=>?_⟩
 rcases List.mem_append.1 ht with ht | ht
 ·exact ⟨(h.d t ht).1,(h.d t ht).2.1,List.mem_append_left _ (h.d t ht).2.2⟩
 rw [List.mem_singleton.1 ht];exact ⟨z.2.1,z.2.2,by simp⟩
theorem RtG.snoc {u:Nat} {l:List ItV} {i:Nat} {y:ItV} {ts:List RtV} {ds:List (List Nat×Option Addr)} (h:RtG u (l.take i) ts ds) (hy:l[i]?=some y) (a:Option Addr) (c:Nat):RtG u (l.take (i+1)) (ts++[⟨y,thoseL y.q u,a,c⟩]) (ds++[(thoseL y.q u,a)]):=by
 refine ⟨by rw [List.map_append,h.x,List.take_add_one,hy];rfl,fun t ht=>?_⟩
 rcases List.mem_append.1 ht with ht | ht
 ·exact ⟨(h.d t ht).1,List.mem_append_left _ (h.d t ht).2⟩
 rw [List.mem_singleton.1 ht];exact ⟨rfl,by simp⟩
theorem RgG.snoc {u:Nat} {l:List NoV} {i:Nat} {y:NoV} {ts:List RgV} {ds:List (List Nat×Option Addr)} (h:RgG u (l.take i) ts ds) (hy:l[i]?=some y) (a:Option Addr) (c:Nat):RgG u (l.take (i+1)) (ts++[⟨y,thoseL y.q u,a,c⟩]) (ds++[(thoseL y.q u,a)]):=by
 refine ⟨by rw [List.map_append,h.x,List.take_add_one,hy];rfl,fun t ht=>?_⟩
 rcases List.mem_append.1 ht with ht | ht
 ·exact ⟨(h.d t ht).1,List.mem_append_left _ (h.d t ht).2⟩
 rw [List.mem_singleton.1 ht];exact ⟨rfl,by simp⟩
theorem map_take_len {α β:Type} {f:α→β} {ts:List α} {l:List β} {i:Nat} (h:ts.map f=l.take i) (hi:i≤l.length):ts.length=i:=by
 have:=congrArg List.length h
 rw [List.length_map,List.length_take] at this
 omega
structure MdV where
 ts:List TkV
 ta:Option Addr
 tc:Nat
 rs:List RtV
 ra:Option Addr
 rc:Nat
 gs:List DgV
 ga:Option Addr
 gc:Nat
 hs:List RgV
 ha:Option Addr
 hc:Nat
 F:List Nat
 ds:List DV
 G:List Nat
 cs:List (List Nat×Option Addr)
structure MdG (u:Nat) (x:RwV) (i k:Nat) (m:MdV):Prop where
 t:TkG (x.i.take i) m.ts m.ds
 r:RtG u (x.i.take i) m.rs m.cs
 g:DgG (x.n.take k) m.gs m.ds
 h:RgG u (x.n.take k) m.hs m.cs
abbrev mdT (m:MdV):Chunk:=rowc (.slice m.ta m.ts.length m.tc) m.ts.length 89 7 (m.ts.flatMap tkC)
abbrev mdR (m:MdV):Chunk:=rowc (.slice m.ra m.rs.length m.rc) m.rs.length 93 6 (m.rs.flatMap rtC)
abbrev mdD (m:MdV):Chunk:=rowc (.slice m.ga m.gs.length m.gc) m.gs.length 95 6 (m.gs.flatMap dgC)
abbrev mdH (m:MdV):Chunk:=rowc (.slice m.ha m.hs.length m.hc) m.hs.length 97 5 (m.hs.flatMap rgC)
abbrev mdC (m:MdV):List Chunk:=[mdT m,mdR m,mdD m,mdH m,dsC m.F m.ds,insC m.G m.cs]
abbrev mdA (m:MdV):List Value:=[.slice m.ta m.ts.length m.tc,.slice m.ga m.gs.length m.gc]
abbrev mdB (m:MdV):List Value:=[.slice m.ra m.rs.length m.rc,.slice m.ha m.hs.length m.hc]
set_option maxRecDepth 100000 in
theorem made_c (x:RwV) (u:Nat) (hu:u<4294967296) (hi3:x.i.length<300) (hn3:x.n.length<300) (w:World) (hr:RwR w x):
  Calls Tryz.prog 7 [.agg (rwC x).toArray,.int .u32 (u:Int)].toArray w fun e w'=>∃ m:MdV,MdG u x x.i.length x.n.length m∧e= .returned (.tuple #[.agg (mdA m).toArray,.agg (mdB m).toArray])∧St w [] (mdC m) w':=by
 obtain ⟨its,ia,ic,nts,na,nc⟩:=x
 dsimp only at hi3 hn3
 refine enter Tryz.func7 rfl Tryz.ntmps7 rfl (St.init _) ?_
 refine jN 3 ?_
 refine WL.boxN rfl rfl (fun b2=>?_)
 refine jN 1 ?_
 refine WL.alloc F.zero33 rfl (fun b4=>?_)
 refine jN 1 ?_
 refine WL.alloc F.zero37 rfl (fun b5=>?_)
 refine jN 5 ?_
 refine WL.alloc F.zero33 rfl (fun b6=>?_)
 refine jN 5 ?_
 refine WL.alloc F.zero37 rfl (fun b7=>?_)
 refine jN 10 ?_
 refine WC.chunks (C':=[pt b2 [.slice ia its.length ic,.slice na nts.length nc] 43,pt b4 [.slice none 0 0,.slice none 0 0] 33,pt b5 [.slice none 0 0,.slice none 0 0] 37,pt b6 [.slice none 0 0,.slice none 0 0] 33,pt b7 [.slice none 0 0,.slice none 0 0] 37,rowc (.slice none 0 0) 0 89 7 [],rowc (.slice none 0 0) 0 93 6 [],rowc (.slice none 0 0) 0 95 6 [],rowc (.slice none 0 0) 0 97 5 [],dsC [] [],insC [] []]) (fun w hS=>(jK (St.rowNil (St.rowNil (St.rowNil (St.rowNil (St.dsNil (St.insNil hS)) 97 5) 95 6) 93 6) 89 7))) ?_
 refine WC.loop (α:=Nat×MdV) (fun g=>g.1≤its.length∧MdG u (⟨its,ia,ic,nts,na,nc⟩:RwV) g.1 0 g.2) (fun g=>[(1,.int .u32 (u:Int)),(2,pp b2),(4,pp b4),(5,pp b5),(6,pp b6),(7,pp b7),(8,.int .i64 (g.1:Int))]) (fun g=>[pt b2 [.slice ia its.length ic,.slice na nts.length nc] 43,pt b4 [.slice none 0 0,.slice none 0 0] 33,pt b5 [.slice none 0 0,.slice none 0 0] 37,pt b6 (mdA g.2) 33,pt b7 (mdB g.2) 37,mdT g.2,mdR g.2,mdD g.2,mdH g.2,dsC g.2.F g.2.ds,insC g.2.G g.2.cs]) (fun g=>its.length - g.1) ((0,(⟨[],none,0,[],none,0,[],none,0,[],none,0,[],[],[],[]⟩:MdV))) ?_ ?_ ?_ ?_
 ·exact ⟨Nat.zero_le _,⟨rfl,by simp⟩,⟨rfl,by simp⟩,⟨rfl,by simp⟩,⟨rfl,by simp⟩⟩
 ·exact ⟨rfl,rfl,rfl,rfl,rfl,rfl,rfl,trivial⟩
 ·rfl
 rintro ⟨i,m⟩ ⟨hi,hm⟩
 dsimp only at hi hm
 show WC _ _ _ _ _ _ _ [(1,.int .u32 (u:Int)),(2,pp b2),(4,pp b4),(5,pp b5),(6,pp b6),(7,pp b7),(8,.int .i64 (i:Int))] [pt b2 [.slice ia its.length ic,.slice na nts.length nc] 43,pt b4 [.slice none 0 0,.slice none 0 0] 33,pt b5 [.slice none 0 0,.slice none 0 0] 37,pt b6 (mdA m) 33,pt b7 (mdB m) 37,mdT m,mdR m,mdD m,mdH m,dsC m.F m.ds,insC m.G m.cs]
 refine jN 15 ?_
 refine WC.cond rfl (fun h16=>?_) (fun h16=>?_)
 ·have hlt:i<its.length:=by simpa using h16
  obtain ⟨y,hy⟩:∃ y,its[i]?=some y:=⟨_,List.getElem?_eq_getElem hlt⟩
  obtain ⟨b,o,hia,hcy⟩:=hr.i i y hy
  dsimp only at hia
  subst hia
  have hyr:=hr.io y (List.mem_of_getElem? hy)
  have htl:=map_take_len hm.t.x hi
  have hrl:=map_take_len hm.r.x hi
  refine jN 13 ?_
  refine WL.indexAddr F.sl40 rfl rfl rfl hlt ?_
  refine jN 1 ?_
  refine WL.loadN F.agg75 rfl rfl (vs:=itC y) rfl (fun w hS j v hv=>hS.oldc (hcy j v hv) (by simp)) ?_
  refine jN 1 ?_
  refine WL.alloc F.zero75 rfl (fun b9=>?_)
  refine jN 5 ?_
  refine WC.drawsL (by kernel_rfl) (FactsOk.cons (ds:=[17,19]) (LoadOk.one (t:=6) (off:=0) rfl jM rfl) (FactsOk.cons (ds:=[16,17,19]) (LoadOk.one (t:=9) (off:=0) rfl jM rfl) (FactsOk.cons (ds:=[16,17,19]) (LoadOk.one (t:=9) (off:=1) rfl jM rfl) (FactsOk.cons (ds:=[16,17,19]) (LoadOk.one (t:=9) (off:=2) rfl jM rfl) (FactsOk.cons (ds:=[16,17,19]) (LoadOk.one (t:=9) (off:=3) rfl jM rfl) (FactsOk.cons (ds:=[16,17,19]) (LoadOk.one (t:=9) (off:=4) rfl jM rfl) (FactsOk.cons (ds:=[14,16,17,19]) (LoadOk.one (t:=9) (off:=5) rfl jM rfl) (FactsOk.nil)))))))) ?_
  refine jT 0 rfl (Yl.fieldAddr0 F.fld33_0 rfl) ?_
  refine jF 1 0 rfl rfl (Yl.load1 F.one30 rfl) ?_
  refine jT 2 rfl (Yl.fieldAddr0 F.fld75_0 rfl) ?_
  refine jF 3 1 rfl rfl (Yl.load1 F.one5 rfl) ?_
  refine jT 4 rfl (Yl.fieldAddr0 F.fld75_1 rfl) ?_
  refine jF 5 2 rfl rfl (Yl.load1 F.one9 rfl) ?_
  refine jT 6 rfl (Yl.fieldAddr0 F.fld75_2 rfl) ?_
  refine jF 7 3 rfl rfl (Yl.load1 F.one73 rfl) ?_
  refine jT 8 rfl (Yl.fieldAddr0 F.fld75_3 rfl) ?_
  refine jF 9 4 rfl rfl (Yl.load1 F.one3 rfl) ?_
  refine jT 10 rfl (Yl.fieldAddr0 F.fld75_4 rfl) ?_
  refine jF 11 5 rfl rfl (Yl.load1 F.one3 rfl) ?_
  refine jT 12 rfl (Yl.fieldAddr0 F.fld75_5 rfl) ?_
  refine jF 13 6 rfl rfl (Yl.load1 F.one23 rfl) ?_
  refine jA 14 rfl ?_
  refine WL.call0 (β:=DRes (setF y.q)) (res:=fun z=> .returned z.v) (cs:=fun z=>[z.ch]) (ψ:=fun _=>True) F.fun12 (fun d h=>by cases h;rfl) rfl (fun w hS=>(set6_c y.q y.qa y.qc (Nat.le_trans hyr.ql (by decide)) w (hyr.q.next hS) hyr.qo).mono (fun e w2 ⟨x,h1,h2⟩=>⟨x,trivial,h1,h2⟩)) (fun z38 _=>?_)
  refine WD.on (closed_of (by kernel_rfl)) (fun w hS=>Sx.keep (hS.cell jM rfl) (Sx.keep (hS.cell jM rfl) (Sx.keep (hS.cell jM rfl) (Sx.keep (hS.cell jM rfl) (Sx.keep (hS.cell jM rfl) (Sx.keep (hS.cell jM rfl) (Sx.gone rfl (Sx.none)))))))) ?_
  refine jT 15 rfl (Yl.build F.stT89 rfl jB) ?_
  refine jA 16 rfl ?_
  refine WL.buildSlice F.sl30 F.ez30 rfl rfl rfl rfl jB rfl (fun b40=>?_)
  refine WD.on (closed_of (by kernel_rfl)) (fun w hS=>Sx.keep (hS.cell jM rfl) (Sx.gone rfl (Sx.gone rfl (Sx.gone rfl (Sx.gone rfl (Sx.gone rfl (Sx.gone rfl (Sx.none)))))))) ?_
  refine jA 17 rfl ?_
  refine WL.appendE (news:=[.int .u8 (y.k:Int),.string (str y.t),.slice y.pa y.p.length y.pc,.int .i64 y.f,.int .i64 y.l,.slice z38.1.2.1 (canon z38.1.1).1.length z38.1.2.2,.int .i64 ((canon z38.1.1).2:Int)]) F.el30 rfl rfl rfl jR (fun w hS jj u9 hu9=>by rw [Nat.zero_add];exact hS.cell (cs:=[.int .u8 (y.k:Int),.string (str y.t),.slice y.pa y.p.length y.pc,.int .i64 y.f,.int .i64 y.l,.slice z38.1.2.1 (canon z38.1.1).1.length z38.1.2.2,.int .i64 ((canon z38.1.1).2:Int)]) jM hu9) rfl jO (Nat.le_trans (m:=300) (by omega) (by decide)) (by omega) (fun ta tc=>?_)
  refine jG ?_
  refine jT 18 rfl (Yl.fieldAddr0 F.fld33_0 rfl) ?_
  refine jA 19 rfl ?_
  refine WL.store1 F.one30 rfl rfl rfl jU jS ?_
  refine jG ?_
  refine jD ?_
  refine jN 1 ?_
  refine WC.drawsL (by kernel_rfl) (FactsOk.cons (ds:=[18,20]) (LoadOk.one (t:=7) (off:=0) rfl jM rfl) (FactsOk.cons (ds:=[17,18,20]) (LoadOk.one (t:=9) (off:=0) rfl jM rfl) (FactsOk.cons (ds:=[17,18,20]) (LoadOk.one (t:=9) (off:=1) rfl jM rfl) (FactsOk.cons (ds:=[17,18,20]) (LoadOk.one (t:=9) (off:=2) rfl jM rfl) (FactsOk.cons (ds:=[17,18,20]) (LoadOk.one (t:=9) (off:=3) rfl jM rfl) (FactsOk.cons (ds:=[17,18,20]) (LoadOk.one (t:=9) (off:=4) rfl jM rfl) (FactsOk.cons (ds:=[15,17,18,20]) (LoadOk.one (t:=9) (off:=5) rfl jM rfl) (FactsOk.nil)))))))) ?_
  refine jT 0 rfl (Yl.fieldAddr0 F.fld37_0 rfl) ?_
  refine jF 1 0 rfl rfl (Yl.load1 F.one34 rfl) ?_
  refine jT 2 rfl (Yl.fieldAddr0 F.fld75_0 rfl) ?_
  refine jF 3 1 rfl rfl (Yl.load1 F.one5 rfl) ?_
  refine jT 4 rfl (Yl.fieldAddr0 F.fld75_1 rfl) ?_
  refine jF 5 2 rfl rfl (Yl.load1 F.one9 rfl) ?_
  refine jT 6 rfl (Yl.fieldAddr0 F.fld75_2 rfl) ?_
  refine jF 7 3 rfl rfl (Yl.load1 F.one73 rfl) ?_
  refine jT 8 rfl (Yl.fieldAddr0 F.fld75_3 rfl) ?_
  refine jF 9 4 rfl rfl (Yl.load1 F.one3 rfl) ?_
  refine jT 10 rfl (Yl.fieldAddr0 F.fld75_4 rfl) ?_
  refine jF 11 5 rfl rfl (Yl.load1 F.one3 rfl) ?_
  refine jT 12 rfl (Yl.fieldAddr0 F.fld75_5 rfl) ?_
  refine jF 13 6 rfl rfl (Yl.load1 F.one23 rfl) ?_
  refine jQ [14] ?_
  refine jA 15 rfl ?_
  refine WL.call0 (β:=Option Addr×Nat) (res:=fun x=> .returned (.slice x.1 (thoseL y.q u).length x.2)) (cs:=fun x=>[rowc (.slice x.1 (thoseL y.q u).length x.2) (thoseL y.q u).length 24 1 ((thoseL y.q u).flatMap nC)]) (ψ:=fun _=>True) F.fun14 (fun d h=>by cases h;rfl) rfl (fun w hS=>(those_c y.q y.qa y.qc (Nat.le_trans hyr.ql (by decide)) u hu w (hyr.q.next hS) hyr.qo).mono (fun e w2 ⟨x,h1,h2⟩=>⟨x,trivial,h1,h2⟩)) (fun ⟨xa,xc⟩ _=>?_)
  refine WD.on (closed_of (by kernel_rfl)) (fun w hS=>Sx.keep (hS.cell jM rfl) (Sx.keep (hS.cell jM rfl) (Sx.keep (hS.cell jM rfl) (Sx.keep (hS.cell jM rfl) (Sx.keep (hS.cell jM rfl) (Sx.keep (hS.cell jM rfl) (Sx.gone rfl (Sx.none)))))))) ?_
  refine jT 16 rfl (Yl.build F.stT93 rfl jB) ?_
  refine jA 17 rfl ?_
  refine WL.buildSlice F.sl34 F.ez34 rfl rfl rfl rfl jB rfl (fun b60=>?_)
  refine WD.on (closed_of (by kernel_rfl)) (fun w hS=>Sx.keep (hS.cell jM rfl) (Sx.gone rfl (Sx.gone rfl (Sx.gone rfl (Sx.gone rfl (Sx.gone rfl (Sx.gone rfl (Sx.none)))))))) ?_
  refine jA 18 rfl ?_
  refine WL.appendE (news:=[.int .u8 (y.k:Int),.string (str y.t),.slice y.pa y.p.length y.pc,.int .i64 y.f,.int .i64 y.l,.slice xa (thoseL y.q u).length xc]) F.el34 rfl rfl rfl jR (fun w hS jj u9 hu9=>by rw [Nat.zero_add];exact hS.cell (cs:=[.int .u8 (y.k:Int),.string (str y.t),.slice y.pa y.p.length y.pc,.int .i64 y.f,.int .i64 y.l,.slice xa (thoseL y.q u).length xc]) jM hu9) rfl jO (Nat.le_trans (m:=300) (by omega) (by decide)) (by omega) (fun ra rc=>?_)
  refine jG ?_
  refine jT 19 rfl (Yl.fieldAddr0 F.fld37_0 rfl) ?_
  refine jA 20 rfl ?_
  refine WL.store1 F.one34 rfl rfl rfl jU jS ?_
  refine jG ?_
  refine jD ?_
  refine jN 10 ?_
  refine WQ.chunksE (C':=fun F9=>[pt b2 [.slice (some ⟨b,o,none⟩) its.length ic,.slice na nts.length nc] 43,pt b4 [.slice none 0 0,.slice none 0 0] 33,pt b5 [.slice none 0 0,.slice none 0 0] 37,pt b6 [.slice ta (m.ts.length+1) tc,.slice m.ga m.gs.length m.gc] 33,pt b7 [.slice ra (m.rs.length+1) rc,.slice m.ha m.hs.length m.hc] 37,rowc (.slice ta (m.ts.length+1) tc) (m.ts.length+1) 89 7 (m.ts.flatMap tkC++[.int .u8 (y.k:Int),.string (str y.t),.slice y.pa y.p.length y.pc,.int .i64 y.f,.int .i64 y.l,.slice z38.1.2.1 (canon z38.1.1).1.length z38.1.2.2,.int .i64 ((canon z38.1.1).2:Int)]),rowc (.slice ra (m.rs.length+1) rc) (m.rs.length+1) 93 6 (m.rs.flatMap rtC++[.int .u8 (y.k:Int),.string (str y.t),.slice y.pa y.p.length y.pc,.int .i64 y.f,.int .i64 y.l,.slice xa (thoseL y.q u).length xc]),mdD m,mdH m,dsC F9 (m.ds++[(z38.1.1,z38.1.2.1,z38.1.2.2)]),insC m.G m.cs,rowc (.slice xa (thoseL y.q u).length xc) (thoseL y.q u).length 24 1 ((thoseL y.q u).flatMap nC)]) (fun w hS=>?_) (fun F9=>?_)
  ·obtain ⟨F9,hF9⟩:=St.dsSnoc z38.2.1 ((St.pick (St.pick hS (c:=z38.ch) jR) (c:=dsC m.F m.ds) jR))
   exact ⟨F9,(jK hF9)⟩
  refine WQ.chunksE (C':=fun G9=>[pt b2 [.slice (some ⟨b,o,none⟩) its.length ic,.slice na nts.length nc] 43,pt b4 [.slice none 0 0,.slice none 0 0] 33,pt b5 [.slice none 0 0,.slice none 0 0] 37,pt b6 [.slice ta (m.ts.length+1) tc,.slice m.ga m.gs.length m.gc] 33,pt b7 [.slice ra (m.rs.length+1) rc,.slice m.ha m.hs.length m.hc] 37,rowc (.slice ta (m.ts.length+1) tc) (m.ts.length+1) 89 7 (m.ts.flatMap tkC++[.int .u8 (y.k:Int),.string (str y.t),.slice y.pa y.p.length y.pc,.int .i64 y.f,.int .i64 y.l,.slice z38.1.2.1 (canon z38.1.1).1.length z38.1.2.2,.int .i64 ((canon z38.1.1).2:Int)]),rowc (.slice ra (m.rs.length+1) rc) (m.rs.length+1) 93 6 (m.rs.flatMap rtC++[.int .u8 (y.k:Int),.string (str y.t),.slice y.pa y.p.length y.pc,.int .i64 y.f,.int .i64 y.l,.slice xa (thoseL y.q u).length xc]),mdD m,mdH m,dsC F9 (m.ds++[(z38.1.1,z38.1.2.1,z38.1.2.2)]),insC G9 (m.cs++[(thoseL y.q u,xa)])]) (fun w hS=>?_) (fun G9=>?_)
  ·obtain ⟨G9,hG9⟩:=St.insSnoc ((St.pick (St.pick hS (c:=rowc (.slice xa (thoseL y.q u).length xc) (thoseL y.q u).length 24 1 ((thoseL y.q u).flatMap nC)) jR) (c:=insC m.G m.cs) jR))
   exact ⟨G9,(jK hG9)⟩
  refine WQ.back (i+1,(⟨m.ts++[⟨y,z38.1.1,z38.1.2.1,z38.1.2.2⟩],ta,tc,m.rs++[⟨y,thoseL y.q u,xa,xc⟩],ra,rc,m.gs,m.ga,m.gc,m.hs,m.ha,m.hc,F9,m.ds++[(z38.1.1,z38.1.2.1,z38.1.2.2)],G9,m.cs++[(thoseL y.q u,xa)]⟩:MdV)) ?_ ?_ ?_ ?_
  ·exact ⟨by show i+1≤its.length;omega,hm.t.snoc hy z38,hm.r.snoc hy xa xc,⟨hm.g.x,fun t ht=>absurd ht (by have:=hm.g.x;simp at this;rw [show (⟨m.ts++[⟨y,z38.1.1,z38.1.2.1,z38.1.2.2⟩],ta,tc,m.rs++[⟨y,thoseL y.q u,xa,xc⟩],ra,rc,m.gs,m.ga,m.gc,m.hs,m.ha,m.hc,F9,m.ds++[(z38.1.1,z38.1.2.1,z38.1.2.2)],G9,m.cs++[(thoseL y.q u,xa)]⟩:MdV).gs=m.gs from rfl,this];simp)⟩,⟨hm.h.x,fun t ht=>absurd ht (by have:=hm.h.x;simp at this;rw [show (⟨m.ts++[⟨y,z38.1.1,z38.1.2.1,z38.1.2.2⟩],ta,tc,m.rs++[⟨y,thoseL y.q u,xa,xc⟩],ra,rc,m.gs,m.ga,m.gc,m.hs,m.ha,m.hc,F9,m.ds++[(z38.1.1,z38.1.2.1,z38.1.2.2)],G9,m.cs++[(thoseL y.q u,xa)]⟩:MdV).hs=m.hs from rfl,this];simp)⟩⟩
  ·show its.length - (i+1)<its.length - i;omega
  ·exact ⟨rfl,rfl,rfl,rfl,rfl,rfl,rfl,trivial⟩
  simp only [mdT,mdR,mdD,mdH,mdA,mdB,List.length_append,List.length_cons,List.length_nil,List.flatMap_append]
  rfl
 have hie:i=its.length:=by simp at h16;omega
 subst hie
 refine jN 13 ?_
 refine WC.loop (α:=Nat×MdV) (fun g=>g.1≤nts.length∧MdG u (⟨its,ia,ic,nts,na,nc⟩:RwV) its.length g.1 g.2) (fun g=>[(1,.int .u32 (u:Int)),(2,pp b2),(4,pp b4),(5,pp b5),(6,pp b6),(7,pp b7),(10,.int .i64 (g.1:Int))]) (fun g=>[pt b2 [.slice ia its.length ic,.slice na nts.length nc] 43,pt b4 [.slice none 0 0,.slice none 0 0] 33,pt b5 [.slice none 0 0,.slice none 0 0] 37,pt b6 (mdA g.2) 33,pt b7 (mdB g.2) 37,mdT g.2,mdR g.2,mdD g.2,mdH g.2,dsC g.2.F g.2.ds,insC g.2.G g.2.cs]) (fun g=>nts.length - g.1) ((0,m)) ?_ ?_ ?_ ?_
 ·exact ⟨Nat.zero_le _,hm⟩
 ·exact ⟨rfl,rfl,rfl,rfl,rfl,rfl,rfl,trivial⟩
 ·rfl
 rintro ⟨k,m⟩ ⟨hk,hm⟩
 dsimp only at hk hm
 show WC _ _ _ _ _ _ _ [(1,.int .u32 (u:Int)),(2,pp b2),(4,pp b4),(5,pp b5),(6,pp b6),(7,pp b7),(10,.int .i64 (k:Int))] [pt b2 [.slice ia its.length ic,.slice na nts.length nc] 43,pt b4 [.slice none 0 0,.slice none 0 0] 33,pt b5 [.slice none 0 0,.slice none 0 0] 37,pt b6 (mdA m) 33,pt b7 (mdB m) 37,mdT m,mdR m,mdD m,mdH m,dsC m.F m.ds,insC m.G m.cs]
 refine jN 15 ?_
 refine WC.cond rfl (fun h67=>?_) (fun h67=>?_)
 ·have hlt:k<nts.length:=by simpa using h67
  obtain ⟨y,hy⟩:∃ y,nts[k]?=some y:=⟨_,List.getElem?_eq_getElem hlt⟩
  obtain ⟨b,o,hna,hcy⟩:=hr.n k y hy
  dsimp only at hna
  subst hna
  have hyr:=hr.no y (List.mem_of_getElem? hy)
  have htl:=map_take_len hm.g.x hk
  have hrl:=map_take_len hm.h.x hk
  refine jN 13 ?_
  refine WL.indexAddr F.sl41 rfl rfl rfl hlt ?_
  refine jN 1 ?_
  refine WL.loadN F.agg78 rfl rfl (vs:=noC y) rfl (fun w hS j v hv=>hS.oldc (hcy j v hv) (by simp)) ?_
  refine jN 1 ?_
  refine WL.alloc F.zero78 rfl (fun b11=>?_)
  refine jN 5 ?_
  refine WC.drawsL (by kernel_rfl) (FactsOk.cons (ds:=[15,17]) (LoadOk.one (t:=6) (off:=1) rfl jM rfl) (FactsOk.cons (ds:=[14,15,17]) (LoadOk.one (t:=11) (off:=0) rfl jM rfl) (FactsOk.cons (ds:=[14,15,17]) (LoadOk.one (t:=11) (off:=1) rfl jM rfl) (FactsOk.cons (ds:=[14,15,17]) (LoadOk.one (t:=11) (off:=2) rfl jM rfl) (FactsOk.cons (ds:=[14,15,17]) (LoadOk.one (t:=11) (off:=3) rfl jM rfl) (FactsOk.cons (ds:=[12,14,15,17]) (LoadOk.one (t:=11) (off:=4) rfl jM rfl) (FactsOk.nil))))))) ?_
  refine jT 0 rfl (Yl.fieldAddr0 F.fld33_1 rfl) ?_
  refine jF 1 0 rfl rfl (Yl.load1 F.one31 rfl) ?_
  refine jT 2 rfl (Yl.fieldAddr0 F.fld78_0 rfl) ?_
  refine jF 3 1 rfl rfl (Yl.load1 F.one76 rfl) ?_
  refine jT 4 rfl (Yl.fieldAddr0 F.fld78_1 rfl) ?_
  refine jF 5 2 rfl rfl (Yl.load1 F.one73 rfl) ?_
  refine jT 6 rfl (Yl.fieldAddr0 F.fld78_2 rfl) ?_
  refine jF 7 3 rfl rfl (Yl.load1 F.one3 rfl) ?_
  refine jT 8 rfl (Yl.fieldAddr0 F.fld78_3 rfl) ?_
  refine jF 9 4 rfl rfl (Yl.load1 F.one3 rfl) ?_
  refine jT 10 rfl (Yl.fieldAddr0 F.fld78_4 rfl) ?_
  refine jF 11 5 rfl rfl (Yl.load1 F.one23 rfl) ?_
  refine jA 12 rfl ?_
  refine WL.call0 (β:=DRes (setF y.q)) (res:=fun z=> .returned z.v) (cs:=fun z=>[z.ch]) (ψ:=fun _=>True) F.fun12 (fun d h=>by cases h;rfl) rfl (fun w hS=>(set6_c y.q y.qa y.qc (Nat.le_trans hyr.ql (by decide)) w (hyr.q.next hS) hyr.qo).mono (fun e w2 ⟨x,h1,h2⟩=>⟨x,trivial,h1,h2⟩)) (fun z87 _=>?_)
  refine WD.on (closed_of (by kernel_rfl)) (fun w hS=>Sx.keep (hS.cell jM rfl) (Sx.keep (hS.cell jM rfl) (Sx.keep (hS.cell jM rfl) (Sx.keep (hS.cell jM rfl) (Sx.keep (hS.cell jM rfl) (Sx.gone rfl (Sx.none))))))) ?_
  refine jT 13 rfl (Yl.build F.stT95 rfl jB) ?_
  refine jA 14 rfl ?_
  refine WL.buildSlice F.sl31 F.ez31 rfl rfl rfl rfl jB rfl (fun b89=>?_)
  refine WD.on (closed_of (by kernel_rfl)) (fun w hS=>Sx.keep (hS.cell jM rfl) (Sx.gone rfl (Sx.gone rfl (Sx.gone rfl (Sx.gone rfl (Sx.gone rfl (Sx.none))))))) ?_
  refine jA 15 rfl ?_
  refine WL.appendE (news:=[.int .u8 (y.k:Int),.slice y.pa y.p.length y.pc,.int .i64 y.f,.int .i64 y.l,.slice z87.1.2.1 (canon z87.1.1).1.length z87.1.2.2,.int .i64 ((canon z87.1.1).2:Int)]) F.el31 rfl rfl rfl jR (fun w hS jj u9 hu9=>by rw [Nat.zero_add];exact hS.cell (cs:=[.int .u8 (y.k:Int),.slice y.pa y.p.length y.pc,.int .i64 y.f,.int .i64 y.l,.slice z87.1.2.1 (canon z87.1.1).1.length z87.1.2.2,.int .i64 ((canon z87.1.1).2:Int)]) jM hu9) rfl jO (Nat.le_trans (m:=300) (by omega) (by decide)) (by omega) (fun ta tc=>?_)
  refine jG ?_
  refine jT 16 rfl (Yl.fieldAddr0 F.fld33_1 rfl) ?_
  refine jA 17 rfl ?_
  refine WL.store1 F.one31 rfl rfl rfl jU jS ?_
  refine jG ?_
  refine jD ?_
  refine jN 1 ?_
  refine WC.drawsL (by kernel_rfl) (FactsOk.cons (ds:=[16,18]) (LoadOk.one (t:=7) (off:=1) rfl jM rfl) (FactsOk.cons (ds:=[15,16,18]) (LoadOk.one (t:=11) (off:=0) rfl jM rfl) (FactsOk.cons (ds:=[15,16,18]) (LoadOk.one (t:=11) (off:=1) rfl jM rfl) (FactsOk.cons (ds:=[15,16,18]) (LoadOk.one (t:=11) (off:=2) rfl jM rfl) (FactsOk.cons (ds:=[15,16,18]) (LoadOk.one (t:=11) (off:=3) rfl jM rfl) (FactsOk.cons (ds:=[13,15,16,18]) (LoadOk.one (t:=11) (off:=4) rfl jM rfl) (FactsOk.nil))))))) ?_
  refine jT 0 rfl (Yl.fieldAddr0 F.fld37_1 rfl) ?_
  refine jF 1 0 rfl rfl (Yl.load1 F.one35 rfl) ?_
  refine jT 2 rfl (Yl.fieldAddr0 F.fld78_0 rfl) ?_
  refine jF 3 1 rfl rfl (Yl.load1 F.one76 rfl) ?_
  refine jT 4 rfl (Yl.fieldAddr0 F.fld78_1 rfl) ?_
  refine jF 5 2 rfl rfl (Yl.load1 F.one73 rfl) ?_
  refine jT 6 rfl (Yl.fieldAddr0 F.fld78_2 rfl) ?_
  refine jF 7 3 rfl rfl (Yl.load1 F.one3 rfl) ?_
  refine jT 8 rfl (Yl.fieldAddr0 F.fld78_3 rfl) ?_
  refine jF 9 4 rfl rfl (Yl.load1 F.one3 rfl) ?_
  refine jT 10 rfl (Yl.fieldAddr0 F.fld78_4 rfl) ?_
  refine jF 11 5 rfl rfl (Yl.load1 F.one23 rfl) ?_
  refine jQ [12] ?_
  refine jA 13 rfl ?_
  refine WL.call0 (β:=Option Addr×Nat) (res:=fun x=> .returned (.slice x.1 (thoseL y.q u).length x.2)) (cs:=fun x=>[rowc (.slice x.1 (thoseL y.q u).length x.2) (thoseL y.q u).length 24 1 ((thoseL y.q u).flatMap nC)]) (ψ:=fun _=>True) F.fun14 (fun d h=>by cases h;rfl) rfl (fun w hS=>(those_c y.q y.qa y.qc (Nat.le_trans hyr.ql (by decide)) u hu w (hyr.q.next hS) hyr.qo).mono (fun e w2 ⟨x,h1,h2⟩=>⟨x,trivial,h1,h2⟩)) (fun ⟨xa,xc⟩ _=>?_)
  refine WD.on (closed_of (by kernel_rfl)) (fun w hS=>Sx.keep (hS.cell jM rfl) (Sx.keep (hS.cell jM rfl) (Sx.keep (hS.cell jM rfl) (Sx.keep (hS.cell jM rfl) (Sx.keep (hS.cell jM rfl) (Sx.gone rfl (Sx.none))))))) ?_
  refine jT 14 rfl (Yl.build F.stT97 rfl jB) ?_
  refine jA 15 rfl ?_
  refine WL.buildSlice F.sl35 F.ez35 rfl rfl rfl rfl jB rfl (fun b107=>?_)
  refine WD.on (closed_of (by kernel_rfl)) (fun w hS=>Sx.keep (hS.cell jM rfl) (Sx.gone rfl (Sx.gone rfl (Sx.gone rfl (Sx.gone rfl (Sx.gone rfl (Sx.none))))))) ?_
  refine jA 16 rfl ?_
  refine WL.appendE (news:=[.int .u8 (y.k:Int),.slice y.pa y.p.length y.pc,.int .i64 y.f,.int .i64 y.l,.slice xa (thoseL y.q u).length xc]) F.el35 rfl rfl rfl jR (fun w hS jj u9 hu9=>by rw [Nat.zero_add];exact hS.cell (cs:=[.int .u8 (y.k:Int),.slice y.pa y.p.length y.pc,.int .i64 y.f,.int .i64 y.l,.slice xa (thoseL y.q u).length xc]) jM hu9) rfl jO (Nat.le_trans (m:=300) (by omega) (by decide)) (by omega) (fun ra rc=>?_)
  refine jG ?_
  refine jT 17 rfl (Yl.fieldAddr0 F.fld37_1 rfl) ?_
  refine jA 18 rfl ?_
  refine WL.store1 F.one35 rfl rfl rfl jU jS ?_
  refine jG ?_
  refine jD ?_
  refine jN 10 ?_
  refine WQ.chunksE (C':=fun F9=>[pt b2 [.slice ia its.length ic,.slice (some ⟨b,o,none⟩) nts.length nc] 43,pt b4 [.slice none 0 0,.slice none 0 0] 33,pt b5 [.slice none 0 0,.slice none 0 0] 37,pt b6 [.slice m.ta m.ts.length m.tc,.slice ta (m.gs.length+1) tc] 33,pt b7 [.slice m.ra m.rs.length m.rc,.slice ra (m.hs.length+1) rc] 37,mdT m,mdR m,rowc (.slice ta (m.gs.length+1) tc) (m.gs.length+1) 95 6 (m.gs.flatMap dgC++[.int .u8 (y.k:Int),.slice y.pa y.p.length y.pc,.int .i64 y.f,.int .i64 y.l,.slice z87.1.2.1 (canon z87.1.1).1.length z87.1.2.2,.int .i64 ((canon z87.1.1).2:Int)]),rowc (.slice ra (m.hs.length+1) rc) (m.hs.length+1) 97 5 (m.hs.flatMap rgC++[.int .u8 (y.k:Int),.slice y.pa y.p.length y.pc,.int .i64 y.f,.int .i64 y.l,.slice xa (thoseL y.q u).length xc]),dsC F9 (m.ds++[(z87.1.1,z87.1.2.1,z87.1.2.2)]),insC m.G m.cs,rowc (.slice xa (thoseL y.q u).length xc) (thoseL y.q u).length 24 1 ((thoseL y.q u).flatMap nC)]) (fun w hS=>?_) (fun F9=>?_)
  ·obtain ⟨F9,hF9⟩:=St.dsSnoc z87.2.1 ((St.pick (St.pick hS (c:=z87.ch) jR) (c:=dsC m.F m.ds) jR))
   exact ⟨F9,(jK hF9)⟩
  refine WQ.chunksE (C':=fun G9=>[pt b2 [.slice ia its.length ic,.slice (some ⟨b,o,none⟩) nts.length nc] 43,pt b4 [.slice none 0 0,.slice none 0 0] 33,pt b5 [.slice none 0 0,.slice none 0 0] 37,pt b6 [.slice m.ta m.ts.length m.tc,.slice ta (m.gs.length+1) tc] 33,pt b7 [.slice m.ra m.rs.length m.rc,.slice ra (m.hs.length+1) rc] 37,mdT m,mdR m,rowc (.slice ta (m.gs.length+1) tc) (m.gs.length+1) 95 6 (m.gs.flatMap dgC++[.int .u8 (y.k:Int),.slice y.pa y.p.length y.pc,.int .i64 y.f,.int .i64 y.l,.slice z87.1.2.1 (canon z87.1.1).1.length z87.1.2.2,.int .i64 ((canon z87.1.1).2:Int)]),rowc (.slice ra (m.hs.length+1) rc) (m.hs.length+1) 97 5 (m.hs.flatMap rgC++[.int .u8 (y.k:Int),.slice y.pa y.p.length y.pc,.int .i64 y.f,.int .i64 y.l,.slice xa (thoseL y.q u).length xc]),dsC F9 (m.ds++[(z87.1.1,z87.1.2.1,z87.1.2.2)]),insC G9 (m.cs++[(thoseL y.q u,xa)])]) (fun w hS=>?_) (fun G9=>?_)
  ·obtain ⟨G9,hG9⟩:=St.insSnoc ((St.pick (St.pick hS (c:=rowc (.slice xa (thoseL y.q u).length xc) (thoseL y.q u).length 24 1 ((thoseL y.q u).flatMap nC)) jR) (c:=insC m.G m.cs) jR))
   exact ⟨G9,(jK hG9)⟩
  refine WQ.back (k+1,(⟨m.ts,m.ta,m.tc,m.rs,m.ra,m.rc,m.gs++[⟨y,z87.1.1,z87.1.2.1,z87.1.2.2⟩],ta,tc,m.hs++[⟨y,thoseL y.q u,xa,xc⟩],ra,rc,F9,m.ds++[(z87.1.1,z87.1.2.1,z87.1.2.2)],G9,m.cs++[(thoseL y.q u,xa)]⟩:MdV)) ?_ ?_ ?_ ?_
  ·exact ⟨by show k+1≤nts.length;omega,hm.t.mono (fun z hz=>List.mem_append_left _ hz),hm.r.mono (fun z hz=>List.mem_append_left _ hz),hm.g.snoc hy z87,hm.h.snoc hy xa xc⟩
  ·show nts.length - (k+1)<nts.length - k;omega
  ·exact ⟨rfl,rfl,rfl,rfl,rfl,rfl,rfl,trivial⟩
  simp only [mdT,mdR,mdD,mdH,mdA,mdB,List.length_append,List.length_cons,List.length_nil,List.flatMap_append]
  rfl
 have hke:k=nts.length:=by simp at h67;omega
 subst hke
 refine jN 6 ?_
 refine WC.drawsL (by kernel_rfl) (FactsOk.cons (ds:=[2,3]) (LoadOk.whole (t:=6) rfl jM) (FactsOk.cons (ds:=[3]) (LoadOk.whole (t:=7) rfl jM) (FactsOk.nil))) ?_
 refine jF 0 0 rfl rfl (Yl.loadN F.agg33 rfl rfl) ?_
 refine jF 1 1 rfl rfl (Yl.loadN F.agg37 rfl rfl) ?_
 refine jA 2 rfl ?_
 refine WL.storeN F.agg33 rfl rfl rfl jO jU jS ?_
 refine WD.on (closed_of (by kernel_rfl)) (fun w hS=>Sx.gone rfl (Sx.keep ((fun j v hv=>by rw [Nat.zero_add];exact hS.cell jM hv)) (Sx.none))) ?_
 refine jA 3 rfl ?_
 refine WL.storeN F.agg37 rfl rfl rfl jO jU jS ?_
 refine jG ?_
 refine jD ?_
 refine jN 2 ?_
 exact WQ.ret (rs:=[.cell 4 33,.cell 5 37]) rfl (.cellN F.agg33 rfl jM rfl (.cellN F.agg37 rfl jM rfl .nil)) (fun w hS=>⟨m,hm,rfl,(jK hS)⟩)
abbrev subN (a u:Nat):Prop:=a|||u=u
theorem subN.or {a u v:Nat} (h:subN a u):subN a (u|||v):=by unfold subN at*;rw [← Nat.or_assoc,h]
theorem subN.self {a u:Nat}:subN a (u|||a):=by unfold subN;rw [Nat.or_comm u a,← Nat.or_assoc,Nat.or_self]
theorem subN.inU {q:List QB} {u:Nat} (h:subN (bitsQ q) u):inU q u:=fun i _ hi=>by
 rw [← h,Nat.testBit_or,hi];rfl
structure RbI (u n:Nat) (y:ItV):Prop where
 b:subN (bitsQ y.q) u
 nn:y.q.length+y.p.length / 8+y.t.length / 100≤n
structure RbN (u n:Nat) (y:NoV):Prop where
 b:subN (bitsQ y.q) u
 nn:y.q.length+y.p.length / 8≤n
structure RbR (u n:Nat) (x:RwV):Prop where
 nn:x.i.length+x.n.length≤n
 i:∀ y∈x.i,RbI u n y
 o:∀ y∈x.n,RbN u n y
theorem RbI.up {u n v m:Nat} {y:ItV} (h:RbI u n y) (hm:n≤m):RbI (u|||v) m y:=⟨h.b.or,Nat.le_trans h.nn hm⟩
theorem RbN.up {u n v m:Nat} {y:NoV} (h:RbN u n y) (hm:n≤m):RbN (u|||v) m y:=⟨h.b.or,Nat.le_trans h.nn hm⟩
theorem RbR.up {u n v m:Nat} {x:RwV} (h:RbR u n x) (hm:n≤m):RbR (u|||v) m x:=⟨Nat.le_trans h.nn hm,fun y hy=>(h.i y hy).up hm,fun y hy=>(h.o y hy).up hm⟩
structure RbB (l:List RwV) (d:List QB) (i u n:Nat):Prop where
 uu:u<16777216
 nn:n≤1000000000000000
 b:subN (bitsQ d) u
 d:d.length≤n
 r:n<1000→∀ x∈l.take i,RbR u n x
theorem or_lt24 {a b:Nat} (ha:a<16777216) (hb:b<16777216):a|||b<16777216:=Nat.or_lt_two_pow (n:=24) ha hb
theorem RbB.up {l:List RwV} {d:List QB} {i u n v m:Nat} (h:RbB l d i u n) (hv:v<16777216) (hm:n≤m) (hx:m≤1000000000000000):RbB l d i (u|||v) m:=
 ⟨or_lt24 h.uu hv,hx,h.b.or,Nat.le_trans h.d hm,fun h1 x hx=>(h.r (by omega) x hx).up hm⟩
theorem RbB.upN {l:List RwV} {d:List QB} {i u n m:Nat} (h:RbB l d i u n) (hm:n≤m) (hx:m≤1000000000000000):RbB l d i u m:=by
 have:=h.up (v:=0) (by decide) hm hx;rwa [Nat.or_zero] at this
theorem RbB.next {l:List RwV} {d:List QB} {i u n:Nat} {x:RwV} (h:RbB l d i u n) (hx:l[i]?=some x) (hr:n<1000→RbR u n x):RbB l d (i+1) u n:=
 ⟨h.uu,h.nn,h.b,h.d,fun h1 y hy=>by
  rw [List.take_add_one,hx] at hy
  rcases List.mem_append.1 hy with hy | hy
  ·exact h.r h1 y hy
  ·simp at hy;subst hy;exact hr h1⟩
theorem all_next {α:Type} {l:List α} {k:Nat} {x:α} {P:α→Prop} (hx:l[k]?=some x) (h:∀ y∈l.take k,P y) (hp:P x):∀ y∈l.take (k+1),P y:=fun y hy=>by
 rw [List.take_add_one,hx] at hy
 rcases List.mem_append.1 hy with hy | hy
 ·exact h y hy
 ·simp at hy;subst hy;exact hp
theorem run_quoK8 {n:Nat} (hn:n<9223372036854775808) (t:TypeId) (x y:Operand) (w:World):(do eqGuard .quo t x y (.int .i64 (n:Int)) (.int .i64 8);binOp .quo t (.int .i64 (n:Int)) (.int .i64 8):Sem Value).run Tryz.prog w= .ok (.int .i64 ((n / 8:Nat):Int)) w:=by
 have h1:(n:Int).tdiv 8=(n:Int) / 8:=Int.tdiv_eq_ediv_of_nonneg (Int.natCast_nonneg _)
 have h2:IntKind.i64.wrap ((n:Int) / 8)=(n:Int) / 8:=by
  unfold IntKind.wrap
  simp [IntKind.signed,IntKind.bits]
  omega
 simp [eqGuard,binOp,Op.intDiv,h1,h2]
theorem run_quoK100 {n:Nat} (hn:n<9223372036854775808) (t:TypeId) (x y:Operand) (w:World):(do eqGuard .quo t x y (.int .i64 (n:Int)) (.int .i64 100);binOp .quo t (.int .i64 (n:Int)) (.int .i64 100):Sem Value).run Tryz.prog w= .ok (.int .i64 ((n / 100:Nat):Int)) w:=by
 have h1:(n:Int).tdiv 100=(n:Int) / 100:=Int.tdiv_eq_ediv_of_nonneg (Int.natCast_nonneg _)
 have h2:IntKind.i64.wrap ((n:Int) / 100)=(n:Int) / 100:=by
  unfold IntKind.wrap
  simp [IntKind.signed,IntKind.bits]
  omega
 simp [eqGuard,binOp,Op.intDiv,h1,h2]
structure RbX where
 i:Nat
 u:Nat
 n:Nat
set_option maxRecDepth 100000 in
theorem rowBits_c (l:List RwV) (la:Option Addr) (lc:Nat) (d:List QB) (da:Option Addr) (dc:Nat) (m:Int) (w:World) (hl:l.length≤LM) (hr:RdSl rwC 2 w l la) (hro:∀ x∈l,RwR w x) (hdl:d.length≤LM) (hd:RdSl qC 2 w d da) (hdo:∀ q∈d,qOk q):
  Calls Tryz.prog 5 [.slice la l.length lc,.slice da d.length dc,.int .i64 m].toArray w fun e w'=>∃ (u n:Nat) (b:Bool),u<16777216∧(b=true→n<300∧l.length<20∧d.length≤n∧subN (bitsQ d) u∧∀ x∈l,RbR u n x)∧e= .returned (.tuple #[.int .u32 (u:Int),.bool b])∧St w [] [] w':=by
 have hl9:l.length≤140737488351232:=hl
 have hd9:d.length≤140737488351232:=hdl
 refine enter Tryz.func5 rfl Tryz.ntmps5 rfl (St.init _) ?_
 refine jN 13 ?_
 refine WL.callV F.fun22 rfl rfl (fun w hS=>bits_c d da dc (Nat.le_trans hdl (by decide)) w (hd.next hS) hdo) ?_
 refine jN 22 ?_
 refine WC.loop (α:=RbX) (fun g=>g.i≤l.length∧RbB l d g.i g.u g.n) (fun g=>[(0,.slice la l.length lc),(2,.int .i64 m),(8,.int .u32 (g.u:Int)),(9,.int .i64 (g.n:Int)),(10,.int .i64 (g.i:Int))]) (fun _=>[]) (fun g=>l.length - g.i) (⟨0,bitsQ d,d.length⟩) ?_ ?_ ?_ ?_
 ·exact ⟨Nat.zero_le _,⟨bitsQ_lt d,Nat.le_trans hdl (by decide),Nat.or_self _,Nat.le_refl _,fun _ y hy=>by simp at hy⟩⟩
 ·exact ⟨rfl,rfl,rfl,rfl,rfl,trivial⟩
 ·rfl
 rintro ⟨i,u,n⟩ ⟨hi,hb⟩
 dsimp only at hi hb
 have hnn:=hb.nn
 show WC _ _ _ _ _ _ _ [(0,.slice la l.length lc),(2,.int .i64 m),(8,.int .u32 (u:Int)),(9,.int .i64 (n:Int)),(10,.int .i64 (i:Int))] []
 refine jN 13 ?_
 refine WA.splitB (i:=22) rfl (fun g22=>?_) (fun g22=>?_)
 ·have hlt:i<l.length:=by simpa using g22
  refine jN 10 ?_
  refine WC.cond rfl (fun h25=>?_) (fun h25=>?_)
  ·have hn1:n<1000:=by simp at h25;omega
   obtain ⟨⟨its,ia,ic,nts,na,nc⟩,hx⟩:∃ x,l[i]?=some x:=⟨_,List.getElem?_eq_getElem hlt⟩
   obtain ⟨bl,ol,rfl,hcx⟩:=hr i _ hx
   have hxr:=hro _ (List.mem_of_getElem? hx)
   have hil:its.length≤140737488351232:=hxr.il
   have hnl:nts.length≤140737488351232:=hxr.nl
   refine jN 5 ?_
   refine WC.draws [([],fun w=>w.cell? ⟨bl,ol+i*2+0,none⟩=some (.slice ia its.length ic)),([],fun w=>w.cell? ⟨bl,ol+i*2+1,none⟩=some (.slice na nts.length nc))] (by kernel_rfl) (fun w hS=>facts_cons (hS.oldc (hcx 0 _ rfl) (by simp)) (facts_cons (hS.oldc (hcx 1 _ rfl) (by simp)) (facts_nil))) ?_
   refine jQ [0,1,2] ?_
   refine jT 3 rfl (Yl.indexAddr F.sl22 rfl rfl hlt) ?_
   refine jT 4 rfl (Yl.fieldAddr F.fld43_0 rfl) ?_
   refine jF 5 0 rfl rfl (Yl.load1 F.one40 rfl) ?_
   refine jT 6 rfl (Yl.lenSl F.und40 rfl) ?_
   refine jT 7 rfl (Yl.bin (v:= .int .i64 ((n+its.length:Nat):Int)) rfl rfl (fun w=>run_addN6 (by omega) (by omega) _ _ _ w)) ?_
   refine jQ [8,9] ?_
   refine jT 10 rfl (Yl.indexAddr F.sl22 rfl rfl hlt) ?_
   refine jT 11 rfl (Yl.fieldAddr F.fld43_1 rfl) ?_
   refine jF 12 1 rfl rfl (Yl.load1 F.one41 rfl) ?_
   refine jT 13 rfl (Yl.lenSl F.und41 rfl) ?_
   refine jT 14 rfl (Yl.bin (v:= .int .i64 ((n+its.length+nts.length:Nat):Int)) rfl rfl (fun w=>run_addN6 (by omega) (by omega) _ _ _ w)) ?_
   refine jQ [15] ?_
   refine jD ?_
   refine jN 9 ?_
   refine WC.chunks (C':=[]) (fun w hS=>hS.sublist (List.nil_sublist _)) ?_
   refine WC.loop (α:=RbX) (fun g=>g.i≤its.length∧RbB l d i g.u g.n∧its.length+nts.length≤g.n∧(g.n<1000→∀ y∈its.take g.i,RbI g.u g.n y)) (fun g=>[(0,.slice (some ⟨bl,ol,none⟩) l.length lc),(2,.int .i64 m),(8,.int .u32 (g.u:Int)),(9,.int .i64 (g.n:Int)),(10,.int .i64 (i:Int)),(11,.int .i64 (g.i:Int))]) (fun _=>[]) (fun g=>its.length - g.i) (⟨0,u,n+its.length+nts.length⟩) ?_ ?_ ?_ ?_
   ·exact ⟨Nat.zero_le _,hb.upN (m:=n+its.length+nts.length) (by omega) (by omega),by show _≤n+its.length+nts.length;omega,fun _ y hy=>by simp at hy⟩
   ·exact ⟨rfl,rfl,rfl,rfl,rfl,rfl,trivial⟩
   ·rfl
   rintro ⟨k,u,n⟩ ⟨hk,hb,hn0,hI⟩
   dsimp only at hk hb hn0 hI
   have hnn:=hb.nn
   show WC _ _ _ _ _ _ _ [(0,.slice (some ⟨bl,ol,none⟩) l.length lc),(2,.int .i64 m),(8,.int .u32 (u:Int)),(9,.int .i64 (n:Int)),(10,.int .i64 (i:Int)),(11,.int .i64 (k:Int))] []
   refine jN 10 ?_
   refine WL.indexAddr F.sl22 rfl rfl rfl hlt ?_
   refine jN 1 ?_
   refine WL.fieldAddr F.fld43_0 rfl rfl ?_
   refine jN 1 ?_
   refine WL.load1 F.one40 rfl rfl (v:= .slice ia its.length ic) (fun w hS=>hS.oldc (hcx 0 _ rfl) (by simp)) ?_
   refine jN 6 ?_
   refine WA.splitB (i:=51) rfl (fun g51=>?_) (fun g51=>?_)
   ·have hki:k<its.length:=by simpa using g51
    refine jN 10 ?_
    refine WC.cond rfl (fun h54=>?_) (fun h54=>?_)
    ·have hn2:n<1000:=by simp at h54;omega
     obtain ⟨y,hy⟩:∃ y,its[k]?=some y:=⟨_,List.getElem?_eq_getElem hki⟩
     obtain ⟨b,o,hia,hcy⟩:=hxr.i k y hy
     dsimp only at hia
     subst hia
     have hyr:=hxr.io y (List.mem_of_getElem? hy)
     have hql:y.q.length≤140737488351232:=hyr.ql
     have hpl:y.p.length≤140737488351232:=hyr.pl
     have htl:y.t.length≤140737488351232:=hyr.t
     have hbq:=bitsQ_lt y.q
     have hu32:=hb.uu
     refine jN 11 ?_
     refine WL.indexAddr F.sl22 rfl rfl rfl hlt ?_
     refine jN 1 ?_
     refine WL.fieldAddr F.fld43_0 rfl rfl ?_
     refine jN 1 ?_
     refine WL.load1 F.one40 rfl rfl (v:= .slice (some ⟨b,o,none⟩) its.length ic) (fun w hS=>hS.oldc (hcx 0 _ rfl) (by simp)) ?_
     refine jN 3 ?_
     refine WL.indexAddr F.sl40 rfl rfl rfl hki ?_
     refine jN 1 ?_
     refine WL.loadN F.agg75 rfl rfl (vs:=itC y) rfl (fun w hS j v hv=>hS.oldc (hcy j v hv) (by simp)) ?_
     refine jN 1 ?_
     refine WL.alloc F.zero75 rfl (fun b12=>?_)
     refine jN 13 ?_
     refine WL.callV F.fun22 rfl rfl (fun w hS=>bits_c y.q y.qa y.qc (Nat.le_trans hyr.ql (by decide)) w (hyr.q.next hS) hyr.qo) ?_
     refine jN 1 ?_
     refine WL.bin (v:= .int .u32 ((u|||bitsQ y.q:Nat):Int)) rfl rfl rfl (fun w=>run_or (by omega) (by omega) _ _ _ w) ?_
     refine jN 14 ?_
     refine WL.bin (v:= .int .i64 ((n+y.q.length:Nat):Int)) rfl rfl rfl (fun w=>run_addN6 (by omega) (by omega) _ _ _ w) ?_
     refine jN 7 ?_
     refine WL.bin (v:= .int .i64 ((y.p.length / 8:Nat):Int)) rfl rfl rfl (fun w=>run_quoK8 (by omega) _ _ _ w) ?_
     refine jN 1 ?_
     refine WL.bin (v:= .int .i64 ((n+y.q.length+y.p.length / 8:Nat):Int)) rfl rfl rfl (fun w=>run_addN6 (by omega) (by omega) _ _ _ w) ?_
     refine jN 7 ?_
     refine WL.bin (v:= .int .i64 ((y.t.length / 100:Nat):Int)) rfl rfl rfl (fun w=>run_quoK100 (by omega) _ _ _ w) ?_
     refine jN 1 ?_
     refine WL.bin (v:= .int .i64 ((n+y.q.length+y.p.length / 8+y.t.length / 100:Nat):Int)) rfl rfl rfl (fun w=>run_addN6 (by omega) (by omega) _ _ _ w) ?_
     refine jN 13 ?_
     have hu24:=hb.uu
     have q1:n≤n+y.q.length+y.p.length / 8+y.t.length / 100:=by omega
     have q2:n+y.q.length+y.p.length / 8+y.t.length / 100≤1000000000000000:=by omega
     have q3:n+y.q.length+y.p.length / 8+y.t.length / 100<1000→n<1000:=by omega
     have q4:y.q.length+y.p.length / 8+y.t.length / 100≤n+y.q.length+y.p.length / 8+y.t.length / 100:=by omega
     have q5:its.length+nts.length≤n+y.q.length+y.p.length / 8+y.t.length / 100:=by omega
     refine WQ.chunks (C':=[]) (fun w hS=>hS.sublist (List.nil_sublist _)) ?_
     refine WQ.back (⟨k+1,u|||bitsQ y.q,n+y.q.length+y.p.length / 8+y.t.length / 100⟩:RbX) ?_ ?_ ?_ ?_
     ·exact ⟨by show k+1≤its.length;omega,hb.up hbq q1 q2,q5,fun h1=>all_next hy (fun z hz=>(hI (q3 h1) z hz).up q1) ⟨subN.self,q4⟩⟩
     ·show its.length - (k+1)<its.length - k;omega
     ·exact ⟨rfl,rfl,rfl,rfl,rfl,rfl,trivial⟩
     rfl
    have hI2:n<1000→∀ y∈its,RbI u n y:=fun h1=>by exfalso;simp at h54;omega
    refine jN 12 ?_
    refine WC.chunks (C':=[]) (fun w hS=>hS.sublist (List.nil_sublist _)) ?_
    refine WC.loop (α:=RbX) (fun g=>g.i≤nts.length∧RbB l d i g.u g.n∧its.length+nts.length≤g.n∧(g.n<1000→∀ y∈its,RbI g.u g.n y)∧(g.n<1000→∀ y∈nts.take g.i,RbN g.u g.n y)) (fun g=>[(0,.slice (some ⟨bl,ol,none⟩) l.length lc),(2,.int .i64 m),(8,.int .u32 (g.u:Int)),(9,.int .i64 (g.n:Int)),(10,.int .i64 (i:Int)),(13,.int .i64 (g.i:Int))]) (fun _=>[]) (fun g=>nts.length - g.i) (⟨0,u,n⟩) ?_ ?_ ?_ ?_
    ·exact ⟨Nat.zero_le _,hb,hn0,hI2,fun _ y hy=>by simp at hy⟩
    ·exact ⟨rfl,rfl,rfl,rfl,rfl,rfl,trivial⟩
    ·rfl
    rintro ⟨k,u,n⟩ ⟨hk,hb,hn0,hI,hN⟩
    dsimp only at hk hb hn0 hI hN
    have hnn:=hb.nn
    show WC _ _ _ _ _ _ _ [(0,.slice (some ⟨bl,ol,none⟩) l.length lc),(2,.int .i64 m),(8,.int .u32 (u:Int)),(9,.int .i64 (n:Int)),(10,.int .i64 (i:Int)),(13,.int .i64 (k:Int))] []
    refine jN 10 ?_
    refine WL.indexAddr F.sl22 rfl rfl rfl hlt ?_
    refine jN 1 ?_
    refine WL.fieldAddr F.fld43_1 rfl rfl ?_
    refine jN 1 ?_
    refine WL.load1 F.one41 rfl rfl (v:= .slice na nts.length nc) (fun w hS=>hS.oldc (hcx 1 _ rfl) (by simp)) ?_
    refine jN 6 ?_
    refine WA.splitB (i:=93) rfl (fun g93=>?_) (fun g93=>?_)
    ·have hkn:k<nts.length:=by simpa using g93
     refine jN 10 ?_
     refine WC.cond rfl (fun h96=>?_) (fun h96=>?_)
     ·have hn2:n<1000:=by simp at h96;omega
      obtain ⟨y,hy⟩:∃ y,nts[k]?=some y:=⟨_,List.getElem?_eq_getElem hkn⟩
      obtain ⟨b,o,hna,hcy⟩:=hxr.n k y hy
      dsimp only at hna
      subst hna
      have hyr:=hxr.no y (List.mem_of_getElem? hy)
      have hql:y.q.length≤140737488351232:=hyr.ql
      have hpl:y.p.length≤140737488351232:=hyr.pl
      have hbq:=bitsQ_lt y.q
      have hu32:=hb.uu
      refine jN 13 ?_
      refine WL.indexAddr F.sl22 rfl rfl rfl hlt ?_
      refine jN 1 ?_
      refine WL.fieldAddr F.fld43_1 rfl rfl ?_
      refine jN 1 ?_
      refine WL.load1 F.one41 rfl rfl (v:= .slice (some ⟨b,o,none⟩) nts.length nc) (fun w hS=>hS.oldc (hcx 1 _ rfl) (by simp)) ?_
      refine jN 3 ?_
      refine WL.indexAddr F.sl41 rfl rfl rfl hkn ?_
      refine jN 1 ?_
      refine WL.fieldAddr F.fld78_4 rfl rfl ?_
      refine jN 1 ?_
      refine WL.load1 F.one23 rfl rfl (v:= .slice y.qa y.q.length y.qc) (fun w hS=>hS.oldc (hcy 4 _ rfl) (by simp)) ?_
      refine jN 1 ?_
      refine WL.callV F.fun22 rfl rfl (fun w hS=>bits_c y.q y.qa y.qc (Nat.le_trans hyr.ql (by decide)) w (hyr.q.next hS) hyr.qo) ?_
      refine jN 1 ?_
      refine WL.bin (v:= .int .u32 ((u|||bitsQ y.q:Nat):Int)) rfl rfl rfl (fun w=>run_or (by omega) (by omega) _ _ _ w) ?_
      refine jN 4 ?_
      refine WC.draws [([],fun w=>w.cell? ⟨bl,ol+i*2+1,none⟩=some (.slice (some ⟨b,o,none⟩) nts.length nc)),([],fun w=>w.cell? ⟨b,o+k*5+4,none⟩=some (.slice y.qa y.q.length y.qc)),([],fun w=>w.cell? ⟨bl,ol+i*2+1,none⟩=some (.slice (some ⟨b,o,none⟩) nts.length nc)),([],fun w=>w.cell? ⟨b,o+k*5+1,none⟩=some (.slice y.pa y.p.length y.pc))] (by kernel_rfl) (fun w hS=>facts_cons (hS.oldc (hcx 1 _ rfl) (by simp)) (facts_cons (hS.oldc (hcy 4 _ rfl) (by simp)) (facts_cons (hS.oldc (hcx 1 _ rfl) (by simp)) (facts_cons (hS.oldc (hcy 1 _ rfl) (by simp)) (facts_nil))))) ?_
      refine jQ [0,1,2] ?_
      refine jT 3 rfl (Yl.indexAddr F.sl22 rfl rfl hlt) ?_
      refine jT 4 rfl (Yl.fieldAddr F.fld43_1 rfl) ?_
      refine jF 5 0 rfl rfl (Yl.load1 F.one41 rfl) ?_
      refine jQ [6] ?_
      refine jT 7 rfl (Yl.indexAddr F.sl41 rfl rfl hkn) ?_
      refine jT 8 rfl (Yl.fieldAddr F.fld78_4 rfl) ?_
      refine jF 9 1 rfl rfl (Yl.load1 F.one23 rfl) ?_
      refine jT 10 rfl (Yl.lenSl F.und23 rfl) ?_
      refine jT 11 rfl (Yl.bin (v:= .int .i64 ((n+y.q.length:Nat):Int)) rfl rfl (fun w=>run_addN6 (by omega) (by omega) _ _ _ w)) ?_
      refine jQ [12,13] ?_
      refine jT 14 rfl (Yl.indexAddr F.sl22 rfl rfl hlt) ?_
      refine jT 15 rfl (Yl.fieldAddr F.fld43_1 rfl) ?_
      refine jF 16 2 rfl rfl (Yl.load1 F.one41 rfl) ?_
      refine jQ [17] ?_
      refine jT 18 rfl (Yl.indexAddr F.sl41 rfl rfl hkn) ?_
      refine jT 19 rfl (Yl.fieldAddr F.fld78_1 rfl) ?_
      refine jF 20 3 rfl rfl (Yl.load1 F.one73 rfl) ?_
      refine jT 21 rfl (Yl.lenSl F.und73 rfl) ?_
      refine jT 22 rfl (Yl.bin (v:= .int .i64 ((y.p.length / 8:Nat):Int)) rfl rfl (fun w=>run_quoK8 (by omega) _ _ _ w)) ?_
      refine jT 23 rfl (Yl.bin (v:= .int .i64 ((n+y.q.length+y.p.length / 8:Nat):Int)) rfl rfl (fun w=>run_addN6 (by omega) (by omega) _ _ _ w)) ?_
      refine jQ [24] ?_
      refine jD ?_
      refine jN 10 ?_
      have hu24:=hb.uu
      have q1:n≤n+y.q.length+y.p.length / 8:=by omega
      have q2:n+y.q.length+y.p.length / 8≤1000000000000000:=by omega
      have q3:n+y.q.length+y.p.length / 8<1000→n<1000:=by omega
      have q4:y.q.length+y.p.length / 8≤n+y.q.length+y.p.length / 8:=by omega
      have q5:its.length+nts.length≤n+y.q.length+y.p.length / 8:=by omega
      refine WQ.chunks (C':=[]) (fun w hS=>hS.sublist (List.nil_sublist _)) ?_
      refine WQ.back (⟨k+1,u|||bitsQ y.q,n+y.q.length+y.p.length / 8⟩:RbX) ?_ ?_ ?_ ?_
      ·exact ⟨by show k+1≤nts.length;omega,hb.up hbq q1 q2,q5,fun h1 z hz=>(hI (q3 h1) z hz).up q1,fun h1=>all_next hy (fun z hz=>(hN (q3 h1) z hz).up q1) ⟨subN.self,q4⟩⟩
      ·show nts.length - (k+1)<nts.length - k;omega
      ·exact ⟨rfl,rfl,rfl,rfl,rfl,rfl,trivial⟩
      rfl
     have hN2:n<1000→∀ y∈nts,RbN u n y:=fun h1=>by exfalso;simp at h96;omega
     refine jN 14 ?_
     refine WQ.chunks (C':=[]) (fun w hS=>hS.sublist (List.nil_sublist _)) ?_
     refine WQ.back (⟨i+1,u,n⟩:RbX) ?_ ?_ ?_ ?_
     ·exact ⟨by show i+1≤l.length;omega,hb.next hx (fun h1=>⟨hn0,hI h1,hN2 h1⟩)⟩
     ·show l.length - (i+1)<l.length - i;omega
     ·exact ⟨rfl,rfl,rfl,rfl,rfl,trivial⟩
     rfl
    have hke2:k=nts.length:=by simp at g93;omega
    have hN2:n<1000→∀ y∈nts,RbN u n y:=by rw [hke2,List.take_length] at hN;exact hN
    refine jN 23 ?_
    refine WQ.chunks (C':=[]) (fun w hS=>hS.sublist (List.nil_sublist _)) ?_
    refine WQ.back (⟨i+1,u,n⟩:RbX) ?_ ?_ ?_ ?_
    ·exact ⟨by show i+1≤l.length;omega,hb.next hx (fun h1=>⟨hn0,hI h1,hN2 h1⟩)⟩
    ·show l.length - (i+1)<l.length - i;omega
    ·exact ⟨rfl,rfl,rfl,rfl,rfl,trivial⟩
    rfl
   have hke:k=its.length:=by simp at g51;omega
   have hI2:n<1000→∀ y∈its,RbI u n y:=by rw [hke,List.take_length] at hI;exact hI
   refine jN 21 ?_
   refine WC.chunks (C':=[]) (fun w hS=>hS.sublist (List.nil_sublist _)) ?_
   refine WC.loop (α:=RbX) (fun g=>g.i≤nts.length∧RbB l d i g.u g.n∧its.length+nts.length≤g.n∧(g.n<1000→∀ y∈its,RbI g.u g.n y)∧(g.n<1000→∀ y∈nts.take g.i,RbN g.u g.n y)) (fun g=>[(0,.slice (some ⟨bl,ol,none⟩) l.length lc),(2,.int .i64 m),(8,.int .u32 (g.u:Int)),(9,.int .i64 (g.n:Int)),(10,.int .i64 (i:Int)),(13,.int .i64 (g.i:Int))]) (fun _=>[]) (fun g=>nts.length - g.i) (⟨0,u,n⟩) ?_ ?_ ?_ ?_
   ·exact ⟨Nat.zero_le _,hb,hn0,hI2,fun _ y hy=>by simp at hy⟩
   ·exact ⟨rfl,rfl,rfl,rfl,rfl,rfl,trivial⟩
   ·rfl
   rintro ⟨k,u,n⟩ ⟨hk,hb,hn0,hI,hN⟩
   dsimp only at hk hb hn0 hI hN
   have hnn:=hb.nn
   show WC _ _ _ _ _ _ _ [(0,.slice (some ⟨bl,ol,none⟩) l.length lc),(2,.int .i64 m),(8,.int .u32 (u:Int)),(9,.int .i64 (n:Int)),(10,.int .i64 (i:Int)),(13,.int .i64 (k:Int))] []
   refine jN 10 ?_
   refine WL.indexAddr F.sl22 rfl rfl rfl hlt ?_
   refine jN 1 ?_
   refine WL.fieldAddr F.fld43_1 rfl rfl ?_
   refine jN 1 ?_
   refine WL.load1 F.one41 rfl rfl (v:= .slice na nts.length nc) (fun w hS=>hS.oldc (hcx 1 _ rfl) (by simp)) ?_
   refine jN 6 ?_
   refine WA.splitB (i:=93) rfl (fun g93=>?_) (fun g93=>?_)
   ·have hkn:k<nts.length:=by simpa using g93
    refine jN 10 ?_
    refine WC.cond rfl (fun h96=>?_) (fun h96=>?_)
    ·have hn2:n<1000:=by simp at h96;omega
     obtain ⟨y,hy⟩:∃ y,nts[k]?=some y:=⟨_,List.getElem?_eq_getElem hkn⟩
     obtain ⟨b,o,hna,hcy⟩:=hxr.n k y hy
     dsimp only at hna
     subst hna
     have hyr:=hxr.no y (List.mem_of_getElem? hy)
     have hql:y.q.length≤140737488351232:=hyr.ql
     have hpl:y.p.length≤140737488351232:=hyr.pl
     have hbq:=bitsQ_lt y.q
     have hu32:=hb.uu
     refine jN 13 ?_
     refine WL.indexAddr F.sl22 rfl rfl rfl hlt ?_
     refine jN 1 ?_
     refine WL.fieldAddr F.fld43_1 rfl rfl ?_
     refine jN 1 ?_
     refine WL.load1 F.one41 rfl rfl (v:= .slice (some ⟨b,o,none⟩) nts.length nc) (fun w hS=>hS.oldc (hcx 1 _ rfl) (by simp)) ?_
     refine jN 3 ?_
     refine WL.indexAddr F.sl41 rfl rfl rfl hkn ?_
     refine jN 1 ?_
     refine WL.fieldAddr F.fld78_4 rfl rfl ?_
     refine jN 1 ?_
     refine WL.load1 F.one23 rfl rfl (v:= .slice y.qa y.q.length y.qc) (fun w hS=>hS.oldc (hcy 4 _ rfl) (by simp)) ?_
     refine jN 1 ?_
     refine WL.callV F.fun22 rfl rfl (fun w hS=>bits_c y.q y.qa y.qc (Nat.le_trans hyr.ql (by decide)) w (hyr.q.next hS) hyr.qo) ?_
     refine jN 1 ?_
     refine WL.bin (v:= .int .u32 ((u|||bitsQ y.q:Nat):Int)) rfl rfl rfl (fun w=>run_or (by omega) (by omega) _ _ _ w) ?_
     refine jN 4 ?_
     refine WC.draws [([],fun w=>w.cell? ⟨bl,ol+i*2+1,none⟩=some (.slice (some ⟨b,o,none⟩) nts.length nc)),([],fun w=>w.cell? ⟨b,o+k*5+4,none⟩=some (.slice y.qa y.q.length y.qc)),([],fun w=>w.cell? ⟨bl,ol+i*2+1,none⟩=some (.slice (some ⟨b,o,none⟩) nts.length nc)),([],fun w=>w.cell? ⟨b,o+k*5+1,none⟩=some (.slice y.pa y.p.length y.pc))] (by kernel_rfl) (fun w hS=>facts_cons (hS.oldc (hcx 1 _ rfl) (by simp)) (facts_cons (hS.oldc (hcy 4 _ rfl) (by simp)) (facts_cons (hS.oldc (hcx 1 _ rfl) (by simp)) (facts_cons (hS.oldc (hcy 1 _ rfl) (by simp)) (facts_nil))))) ?_
     refine jQ [0,1,2] ?_
     refine jT 3 rfl (Yl.indexAddr F.sl22 rfl rfl hlt) ?_
     refine jT 4 rfl (Yl.fieldAddr F.fld43_1 rfl) ?_
     refine jF 5 0 rfl rfl (Yl.load1 F.one41 rfl) ?_
     refine jQ [6] ?_
     refine jT 7 rfl (Yl.indexAddr F.sl41 rfl rfl hkn) ?_
     refine jT 8 rfl (Yl.fieldAddr F.fld78_4 rfl) ?_
     refine jF 9 1 rfl rfl (Yl.load1 F.one23 rfl) ?_
     refine jT 10 rfl (Yl.lenSl F.und23 rfl) ?_
     refine jT 11 rfl (Yl.bin (v:= .int .i64 ((n+y.q.length:Nat):Int)) rfl rfl (fun w=>run_addN6 (by omega) (by omega) _ _ _ w)) ?_
     refine jQ [12,13] ?_
     refine jT 14 rfl (Yl.indexAddr F.sl22 rfl rfl hlt) ?_
     refine jT 15 rfl (Yl.fieldAddr F.fld43_1 rfl) ?_
     refine jF 16 2 rfl rfl (Yl.load1 F.one41 rfl) ?_
     refine jQ [17] ?_
     refine jT 18 rfl (Yl.indexAddr F.sl41 rfl rfl hkn) ?_
     refine jT 19 rfl (Yl.fieldAddr F.fld78_1 rfl) ?_
     refine jF 20 3 rfl rfl (Yl.load1 F.one73 rfl) ?_
     refine jT 21 rfl (Yl.lenSl F.und73 rfl) ?_
     refine jT 22 rfl (Yl.bin (v:= .int .i64 ((y.p.length / 8:Nat):Int)) rfl rfl (fun w=>run_quoK8 (by omega) _ _ _ w)) ?_
     refine jT 23 rfl (Yl.bin (v:= .int .i64 ((n+y.q.length+y.p.length / 8:Nat):Int)) rfl rfl (fun w=>run_addN6 (by omega) (by omega) _ _ _ w)) ?_
     refine jQ [24] ?_
     refine jD ?_
     refine jN 10 ?_
     have hu24:=hb.uu
     have q1:n≤n+y.q.length+y.p.length / 8:=by omega
     have q2:n+y.q.length+y.p.length / 8≤1000000000000000:=by omega
     have q3:n+y.q.length+y.p.length / 8<1000→n<1000:=by omega
     have q4:y.q.length+y.p.length / 8≤n+y.q.length+y.p.length / 8:=by omega
     have q5:its.length+nts.length≤n+y.q.length+y.p.length / 8:=by omega
     refine WQ.chunks (C':=[]) (fun w hS=>hS.sublist (List.nil_sublist _)) ?_
     refine WQ.back (⟨k+1,u|||bitsQ y.q,n+y.q.length+y.p.length / 8⟩:RbX) ?_ ?_ ?_ ?_
     ·exact ⟨by show k+1≤nts.length;omega,hb.up hbq q1 q2,q5,fun h1 z hz=>(hI (q3 h1) z hz).up q1,fun h1=>all_next hy (fun z hz=>(hN (q3 h1) z hz).up q1) ⟨subN.self,q4⟩⟩
     ·show nts.length - (k+1)<nts.length - k;omega
     ·exact ⟨rfl,rfl,rfl,rfl,rfl,rfl,trivial⟩
     rfl
    have hN2:n<1000→∀ y∈nts,RbN u n y:=fun h1=>by exfalso;simp at h96;omega
    refine jN 14 ?_
    refine WQ.chunks (C':=[]) (fun w hS=>hS.sublist (List.nil_sublist _)) ?_
    refine WQ.back (⟨i+1,u,n⟩:RbX) ?_ ?_ ?_ ?_
    ·exact ⟨by show i+1≤l.length;omega,hb.next hx (fun h1=>⟨hn0,hI h1,hN2 h1⟩)⟩
    ·show l.length - (i+1)<l.length - i;omega
    ·exact ⟨rfl,rfl,rfl,rfl,rfl,trivial⟩
    rfl
   have hke2:k=nts.length:=by simp at g93;omega
   have hN2:n<1000→∀ y∈nts,RbN u n y:=by rw [hke2,List.take_length] at hN;exact hN
   refine jN 23 ?_
   refine WQ.chunks (C':=[]) (fun w hS=>hS.sublist (List.nil_sublist _)) ?_
   refine WQ.back (⟨i+1,u,n⟩:RbX) ?_ ?_ ?_ ?_
   ·exact ⟨by show i+1≤l.length;omega,hb.next hx (fun h1=>⟨hn0,hI h1,hN2 h1⟩)⟩
   ·show l.length - (i+1)<l.length - i;omega
   ·exact ⟨rfl,rfl,rfl,rfl,rfl,trivial⟩
   rfl
  have hfin:n<1000→∀ x∈l,RbR u n x:=fun h1=>by exfalso;simp at h25;omega
  refine jN 15 ?_
  refine WA.splitB (i:=138) rfl (fun g138=>?_) (fun g138=>?_)
  ·have hn3:n<300:=by simp at g138;omega
   refine jN 13 ?_
   refine WA.splitB (i:=143) rfl (fun g143=>?_) (fun g143=>?_)
   ·have hl20:l.length<20:=by simp at g143;omega
    refine jN 8 ?_
    refine WL.call0 (β:=Bool) (res:=fun x=> .returned (.bool x)) (cs:=fun _=>[]) (ψ:=fun _=>True) F.fun23 (fun d h=>by cases h;rfl) rfl (fun w hS=>(few6_c u (Nat.lt_of_lt_of_le hb.uu (by decide)) m w).mono (fun e w2 ⟨x,h1,h2⟩=>⟨x,trivial,h1,h2⟩)) (fun bb _=>?_)
    refine WL.step ?_
    refine WL.pickT rfl rfl rfl ?_
    refine WL.step ?_
    refine WL.assign rfl rfl ?_
    refine WL.step ?_
    refine WL.assign rfl rfl ?_
    refine WL.nil ?_
    refine WQ.then_normal ?_
    refine WC.ret ?_
    exact WQ.ret (rs:=[.tmp 6,.tmp 7]) rfl (.tmp rfl (.tmp rfl .nil)) (fun w hS=>⟨u,n,bb,hb.uu,fun _=>⟨hn3,hl20,hb.d,hb.b,hfin (by omega)⟩,rfl,hS⟩)
   refine jN 15 ?_
   exact WQ.ret (rs:=[.tmp 6,.tmp 7]) rfl (.tmp rfl (.tmp rfl .nil)) (fun w hS=>⟨u,n,false,hb.uu,fun h=>(by cases h),rfl,hS⟩)
  refine jN 25 ?_
  exact WQ.ret (rs:=[.tmp 6,.tmp 7]) rfl (.tmp rfl (.tmp rfl .nil)) (fun w hS=>⟨u,n,false,hb.uu,fun h=>(by cases h),rfl,hS⟩)
 have hie:i=l.length:=by simp at g22;omega
 have hfin:n<1000→∀ x∈l,RbR u n x:=by have h9:=hb.r;rw [hie,List.take_length] at h9;exact h9
 refine jN 24 ?_
 refine WA.splitB (i:=138) rfl (fun g138=>?_) (fun g138=>?_)
 ·have hn3:n<300:=by simp at g138;omega
  refine jN 13 ?_
  refine WA.splitB (i:=143) rfl (fun g143=>?_) (fun g143=>?_)
  ·have hl20:l.length<20:=by simp at g143;omega
   refine jN 8 ?_
   refine WL.call0 (β:=Bool) (res:=fun x=> .returned (.bool x)) (cs:=fun _=>[]) (ψ:=fun _=>True) F.fun23 (fun d h=>by cases h;rfl) rfl (fun w hS=>(few6_c u (Nat.lt_of_lt_of_le hb.uu (by decide)) m w).mono (fun e w2 ⟨x,h1,h2⟩=>⟨x,trivial,h1,h2⟩)) (fun bb _=>?_)
   refine WL.step ?_
   refine WL.pickT rfl rfl rfl ?_
   refine WL.step ?_
   refine WL.assign rfl rfl ?_
   refine WL.step ?_
   refine WL.assign rfl rfl ?_
   refine WL.nil ?_
   refine WQ.then_normal ?_
   refine WC.ret ?_
   exact WQ.ret (rs:=[.tmp 6,.tmp 7]) rfl (.tmp rfl (.tmp rfl .nil)) (fun w hS=>⟨u,n,bb,hb.uu,fun _=>⟨hn3,hl20,hb.d,hb.b,hfin (by omega)⟩,rfl,hS⟩)
  refine jN 15 ?_
  exact WQ.ret (rs:=[.tmp 6,.tmp 7]) rfl (.tmp rfl (.tmp rfl .nil)) (fun w hS=>⟨u,n,false,hb.uu,fun h=>(by cases h),rfl,hS⟩)
 refine jN 25 ?_
 exact WQ.ret (rs:=[.tmp 6,.tmp 7]) rfl (.tmp rfl (.tmp rfl .nil)) (fun w hS=>⟨u,n,false,hb.uu,fun h=>(by cases h),rfl,hS⟩)
end Go.Proofs.YtedbajbgnmaakaaGreatDoor
namespace Go.Eng
open Go Go.RowKit
section
variable {P : Program} {kt : TypeId}
end
end Go.Eng
namespace Go.Proofs.YtedbajbgnmaakaaGreatDoor
open Go Go.Eng Go.Proofs Dg
def cmpP :List Int→List Int→Int
 | a::r,b::s=>if a=b then cmpP r s else if a<b then -1 else 1
 | l,m=>(l.length:Int) - m.length
theorem cmpP_at {l m:List Int} {i:Nat} {x y:Int} (hx:l[i]?=some x) (hy:m[i]?=some y) (h:cmpP l m=cmpP (l.drop i) (m.drop i)):cmpP l m=if x=y then cmpP (l.drop (i+1)) (m.drop (i+1)) else if x<y then -1 else 1:=by
 have e:∀ {l:List Int} {x:Int},l[i]?=some x→l.drop i=x::l.drop (i+1):=fun {l x} h=>by
  rw [List.drop_eq_getElem_cons (List.getElem?_eq_some_iff.1 h).1]
  congr 1
  exact (List.getElem?_eq_some_iff.1 h).2
 rw [h,e hx,e hy,cmpP]
theorem cmpP_end {l m:List Int} {i:Nat} (hi:i≤l.length) (hj:i≤m.length) (he: ¬ (i<l.length∧i<m.length)) (h:cmpP l m=cmpP (l.drop i) (m.drop i)):cmpP l m=(l.length:Int) - m.length:=by
 rw [h]
 have e:cmpP (l.drop i) (m.drop i)=((l.drop i).length:Int) - (m.drop i).length:=by
  by_cases h1:i<l.length
  ·have:m.drop i=[]:=List.drop_eq_nil_of_le (by omega)
   rw [this]
   cases l.drop i<;>rfl
  ·have:l.drop i=[]:=List.drop_eq_nil_of_le (by omega)
   rw [this]
   cases m.drop i<;>rfl
 rw [e,List.length_drop,List.length_drop]
 omega
theorem run_subL {m n:Nat} (hm:m≤1000000000) (hn:n≤1000000000) (t:TypeId) (x y:Operand) (w:World):
  (do eqGuard .sub t x y (.int .i64 (m:Int)) (.int .i64 (n:Int));binOp .sub t (.int .i64 (m:Int)) (.int .i64 (n:Int)):Sem Value).run Tryz.prog w= .ok (.int .i64 ((m:Int) - n)) w:=by
 have h2:IntKind.i64.wrap ((m:Int) - (n:Int))=(m:Int) - (n:Int):=by
  unfold IntKind.wrap
  simp [IntKind.signed,IntKind.bits]
  omega
 simp [eqGuard,binOp,Op.intArith,h2]
theorem rPaths_c (l m:List Int) (a a2:Option Addr) (c c2:Nat) (hll:l.length≤1000000000) (hml:m.length≤1000000000) (w:World) (h1:RdC w l a) (h2:RdC w m a2):
  Pure Tryz.prog 73 [.slice a l.length c,.slice a2 m.length c2] w (.int .i64 (cmpP l m)):=by
 refine enter Tryz.func73 rfl Tryz.ntmps73 rfl (St.init _) ?_
 refine jN 14 ?_
 refine WC.loop (α:=Nat) (fun i=>i≤l.length∧i≤m.length∧cmpP l m=cmpP (l.drop i) (m.drop i)) (fun i=>[(0,.slice a l.length c),(1,.slice a2 m.length c2),(5,.int .i64 (i:Int))]) (fun _=>[]) (fun i=>l.length - i) (0) ?_ ?_ ?_ ?_
 ·exact ⟨Nat.zero_le _,Nat.zero_le _,by simp⟩
 ·exact ⟨rfl,rfl,rfl,trivial⟩
 ·rfl
 rintro i ⟨hi,hj,hcm⟩
 refine jN 2 ?_
 refine WC.cutF [(15,.bool (decide (i<l.length)&&decide (i<m.length))),(0,.slice a l.length c),(1,.slice a2 m.length c2),(5,.int .i64 (i:Int))] (fun Q' hQ=>?_) ?_
 ·refine jN 11 ?_
  refine WA.splitB (i:=10) rfl (fun g10=>?_) (fun g10=>?_)
  refine jN 15 ?_
  rotate_left
  refine jN 11 ?_
  rotate_left
  all_goals
   refine WQ.byCut hQ (subF_bool ?_ ⟨rfl,rfl,rfl,trivial⟩ rfl)
   first | (rw [show decide (i<l.length)=true from decide_eq_true (by simp at g10;omega),Bool.true_and];exact decide_eq_decide.2 (by omega)) | (rw [show decide (i<l.length)=false from decide_eq_false (by simp at g10;omega)];rfl)
 refine jN 1 ?_
 refine WC.cond rfl (fun h15=>?_) (fun h15=>?_)
 ·have hlt:i<l.length∧i<m.length:=by simpa using h15
  obtain ⟨x,hx⟩:∃ x,l[i]?=some x:=⟨_,List.getElem?_eq_getElem hlt.1⟩
  obtain ⟨y,hy⟩:∃ x,m[i]?=some x:=⟨_,List.getElem?_eq_getElem hlt.2⟩
  obtain ⟨b,o,rfl,hcx⟩:=h1 i x hx
  obtain ⟨b2,o2,rfl,hcy⟩:=h2 i y hy
  refine jN 5 ?_
  refine WC.draws [([],fun w=>w.cell? ⟨b,o+i*1,none⟩=some (.int .i64 x)),([],fun w=>w.cell? ⟨b2,o2+i*1,none⟩=some (.int .i64 y))] (by kernel_rfl) (fun w hS=>facts_cons ((by rw [Nat.mul_one];exact hS.oldc hcx (by simp))) (facts_cons ((by rw [Nat.mul_one];exact hS.oldc hcy (by simp))) (facts_nil))) ?_
  refine jQ [0,1] ?_
  refine jT 2 rfl (Yl.indexAddr F.sl73 rfl rfl hlt.1) ?_
  refine jF 3 0 rfl rfl (Yl.load1 F.one3 rfl) ?_
  refine jQ [4,5] ?_
  refine jT 6 rfl (Yl.indexAddr F.sl73 rfl rfl hlt.2) ?_
  refine jF 7 1 rfl rfl (Yl.load1 F.one3 rfl) ?_
  refine jQ [8] ?_
  refine jD ?_
  refine jN 1 ?_
  refine WC.cond rfl (fun h26=>?_) (fun h26=>?_)
  ·have hxy:x≠y:=by simpa using h26
   have hc9:=cmpP_at hx hy hcm
   rw [if_neg hxy] at hc9
   refine jN 2 ?_
   refine WC.draws [([],fun w=>w.cell? ⟨b,o+i*1,none⟩=some (.int .i64 x)),([],fun w=>w.cell? ⟨b2,o2+i*1,none⟩=some (.int .i64 y))] (by kernel_rfl) (fun w hS=>facts_cons ((by rw [Nat.mul_one];exact hS.oldc hcx (by simp))) (facts_cons ((by rw [Nat.mul_one];exact hS.oldc hcy (by simp))) (facts_nil))) ?_
   refine jQ [0,1] ?_
   refine jT 2 rfl (Yl.indexAddr F.sl73 rfl rfl hlt.1) ?_
   refine jF 3 0 rfl rfl (Yl.load1 F.one3 rfl) ?_
   refine jQ [4,5] ?_
   refine jT 6 rfl (Yl.indexAddr F.sl73 rfl rfl hlt.2) ?_
   refine jF 7 1 rfl rfl (Yl.load1 F.one3 rfl) ?_
   refine jQ [8] ?_
   refine jD ?_
   refine jN 1 ?_
   refine WC.cond rfl (fun h35=>?_) (fun h35=>?_)
   rw [if_pos (show x<y by simpa using h35)] at hc9
   refine jN 13 ?_
   rotate_left
   rw [if_neg (show ¬ x<y by simpa using h35)] at hc9
   refine jN 14 ?_
   rotate_left
   all_goals
    exact WQ.ret (rs:=[.tmp 4]) rfl (.tmp rfl .nil) (fun w hS=>⟨by rw [hc9];rfl,hS⟩)
  have hxy:x=y:=by simpa using h26
  refine jN 11 ?_
  refine WQ.back (i+1) ?_ ?_ ?_ ?_
  ·exact ⟨by omega,by omega,by rw [cmpP_at hx hy hcm,if_pos hxy]⟩
  ·omega
  ·exact ⟨rfl,rfl,rfl,trivial⟩
  rfl
 have hend:=cmpP_end hi hj (by simpa using h15) hcm
 refine jN 16 ?_
 refine WL.bin (v:= .int .i64 ((l.length:Int) - m.length)) rfl rfl rfl (fun w=>run_subL hll hml _ _ _ w) ?_
 refine jN 5 ?_
 exact WQ.ret (rs:=[.tmp 4]) rfl (.tmp rfl .nil) (fun w hS=>⟨by rw [hend];rfl,hS⟩)
theorem ints_c (l m:List Int) (a a2:Option Addr) (c c2:Nat) (hll:l.length≤1000000000) (hml:m.length≤1000000000) (w:World) (h1:RdC w l a) (h2:RdC w m a2):
  Pure Tryz.prog 28 [.slice a l.length c,.slice a2 m.length c2] w (.bool (cmpP l m==0)):=by
 refine enter Tryz.func28 rfl Tryz.ntmps28 rfl (St.init _) ?_
 refine jN 13 ?_
 refine WL.callV F.fun73 rfl rfl (fun w hS=>rPaths_c l m a a2 c c2 hll hml w (h1.next hS) (h2.next hS)) ?_
 refine jN 7 ?_
 exact WQ.ret (rs:=[.tmp 4]) rfl (.tmp rfl .nil) (fun w hS=>⟨rfl,hS⟩)
def cmpI (x y:Int):Int:=if x<y then -1 else if y<x then 1 else 0
theorem cmpI_zero {x y:Int}:cmpI x y=0↔x=y:=by unfold cmpI;split<;>(try split)<;>constructor<;>intro h<;>omega
def cmpS (s t:List UInt8):Int:=if Op.bytesLess s t then -1 else if s=t then 0 else 1
def cmpL :List Int→List Int→Int
 | [],[]=>0
 | [],_::_=> -1
 | _::_,[]=>1
 | x::l,y::m=>if x=y then cmpL l m else cmpI x y
theorem cmpL_at {l m:List Int} {i:Nat} {x y:Int} (hx:l[i]?=some x) (hy:m[i]?=some y) (h:cmpL l m=cmpL (l.drop i) (m.drop i)):cmpL l m=if x=y then cmpL (l.drop (i+1)) (m.drop (i+1)) else cmpI x y:=by
 have e:∀ {l:List Int} {x:Int},l[i]?=some x→l.drop i=x::l.drop (i+1):=fun {l x} h=>by
  rw [List.drop_eq_getElem_cons (List.getElem?_eq_some_iff.1 h).1]
  congr 1
  exact (List.getElem?_eq_some_iff.1 h).2
 rw [h,e hx,e hy,cmpL]
theorem cmpL_end {l m:List Int} {i:Nat} (hi:i≤l.length) (hj:i≤m.length) (he: ¬ (i<l.length∧i<m.length)) (h:cmpL l m=cmpL (l.drop i) (m.drop i)):cmpL l m=if i<l.length then 1 else if i<m.length then -1 else 0:=by
 rw [h]
 have hd:∀ {l:List Int},i<l.length→∃ x r,l.drop i=x::r:=fun {l} hl=>⟨_,_,List.drop_eq_getElem_cons hl⟩
 by_cases h1:i<l.length
 ·obtain ⟨x,r,e⟩:=hd h1
  have:m.drop i=[]:=List.drop_eq_nil_of_le (by omega)
  rw [this,e,if_pos h1];rfl
 have e1:l.drop i=[]:=List.drop_eq_nil_of_le (by omega)
 rw [if_neg h1,e1]
 by_cases h2:i<m.length
 ·obtain ⟨x,r,e⟩:=hd h2
  rw [e,if_pos h2];rfl
 have e2:m.drop i=[]:=List.drop_eq_nil_of_le (by omega)
 rw [e2,if_neg h2];rfl
theorem CmpInt_c_nan (x:Int) (w:World):Pure Tryz.prog 156 [.int .i64 (x:Int)] w (.bool false):=by
 refine enter Tryz.func156 rfl Tryz.ntmps156 rfl (St.init _) ?_
 refine jN 19 ?_
 exact WQ.ret (rs:=[.tmp 2]) rfl (.tmp rfl .nil) (fun w hS=>⟨by simp;rfl,hS⟩)
theorem CmpInt_c (x:Int) (y:Int) (w:World):Pure Tryz.prog 116 [.int .i64 (x:Int),.int .i64 (y:Int)] w (.int .i64 (cmpI (x:Int) (y:Int))):=by
 refine enter Tryz.func116 rfl Tryz.ntmps116 rfl (St.init _) ?_
 refine jN 11 ?_
 refine WL.callV F.fun156 rfl rfl (fun w hS=>CmpInt_c_nan _ w) ?_
 refine jN 9 ?_
 refine WL.callV F.fun156 rfl rfl (fun w hS=>CmpInt_c_nan _ w) ?_
 refine jN 35 ?_
 refine WC.cond rfl (fun h16=>?_) (fun h16=>?_)
 ·have hc:cmpI (x:Int) (y:Int)= -1:=if_pos (by simpa using h16)
  refine jN 8 ?_
  exact WQ.ret (rs:=[.tmp 4]) rfl (.tmp rfl .nil) (fun w hS=>⟨by rw [hc];rfl,hS⟩)
 have hn: ¬ (x:Int)<(y:Int):=by simpa using h16
 refine jN 13 ?_
 refine WC.cond rfl (fun h19=>?_) (fun h19=>?_)
 have hc:cmpI (x:Int) (y:Int)=1:=by unfold cmpI;rw [if_neg hn,if_pos (by simpa using h19)]
 refine jN 8 ?_
 rotate_left
 have hc:cmpI (x:Int) (y:Int)=0:=by unfold cmpI;rw [if_neg hn,if_neg (by simpa using h19)]
 refine jN 9 ?_
 rotate_left
 all_goals
  exact WQ.ret (rs:=[.tmp 4]) rfl (.tmp rfl .nil) (fun w hS=>⟨by rw [hc];rfl,hS⟩)
theorem CmpU8_c_nan (x:Nat) (w:World):Pure Tryz.prog 117 [.int .u8 (x:Int)] w (.bool false):=by
 refine enter Tryz.func117 rfl Tryz.ntmps117 rfl (St.init _) ?_
 refine jN 19 ?_
 exact WQ.ret (rs:=[.tmp 2]) rfl (.tmp rfl .nil) (fun w hS=>⟨by simp;rfl,hS⟩)
theorem CmpU8_c (x:Nat) (y:Nat) (w:World):Pure Tryz.prog 80 [.int .u8 (x:Int),.int .u8 (y:Int)] w (.int .i64 (cmpI (x:Int) (y:Int))):=by
 refine enter Tryz.func80 rfl Tryz.ntmps80 rfl (St.init _) ?_
 refine jN 11 ?_
 refine WL.callV F.fun117 rfl rfl (fun w hS=>CmpU8_c_nan _ w) ?_
 refine jN 9 ?_
 refine WL.callV F.fun117 rfl rfl (fun w hS=>CmpU8_c_nan _ w) ?_
 refine jN 35 ?_
 refine WC.cond rfl (fun h16=>?_) (fun h16=>?_)
 ·have hc:cmpI (x:Int) (y:Int)= -1:=if_pos (by simpa using h16)
  refine jN 8 ?_
  exact WQ.ret (rs:=[.tmp 4]) rfl (.tmp rfl .nil) (fun w hS=>⟨by rw [hc];rfl,hS⟩)
 have hn: ¬ (x:Int)<(y:Int):=by simpa using h16
 refine jN 13 ?_
 refine WC.cond rfl (fun h19=>?_) (fun h19=>?_)
 have hc:cmpI (x:Int) (y:Int)=1:=by unfold cmpI;rw [if_neg hn,if_pos (by simpa using h19)]
 refine jN 8 ?_
 rotate_left
 have hc:cmpI (x:Int) (y:Int)=0:=by unfold cmpI;rw [if_neg hn,if_neg (by simpa using h19)]
 refine jN 9 ?_
 rotate_left
 all_goals
  exact WQ.ret (rs:=[.tmp 4]) rfl (.tmp rfl .nil) (fun w hS=>⟨by rw [hc];rfl,hS⟩)
theorem CmpCode_c_nan (x:Nat) (w:World):Pure Tryz.prog 118 [.int .u8 (x:Int)] w (.bool false):=by
 refine enter Tryz.func118 rfl Tryz.ntmps118 rfl (St.init _) ?_
 refine jN 19 ?_
 exact WQ.ret (rs:=[.tmp 2]) rfl (.tmp rfl .nil) (fun w hS=>⟨by simp;rfl,hS⟩)
theorem CmpCode_c (x:Nat) (y:Nat) (w:World):Pure Tryz.prog 81 [.int .u8 (x:Int),.int .u8 (y:Int)] w (.int .i64 (cmpI (x:Int) (y:Int))):=by
 refine enter Tryz.func81 rfl Tryz.ntmps81 rfl (St.init _) ?_
 refine jN 11 ?_
 refine WL.callV F.fun118 rfl rfl (fun w hS=>CmpCode_c_nan _ w) ?_
 refine jN 9 ?_
 refine WL.callV F.fun118 rfl rfl (fun w hS=>CmpCode_c_nan _ w) ?_
 refine jN 35 ?_
 refine WC.cond rfl (fun h16=>?_) (fun h16=>?_)
 ·have hc:cmpI (x:Int) (y:Int)= -1:=if_pos (by simpa using h16)
  refine jN 8 ?_
  exact WQ.ret (rs:=[.tmp 4]) rfl (.tmp rfl .nil) (fun w hS=>⟨by rw [hc];rfl,hS⟩)
 have hn: ¬ (x:Int)<(y:Int):=by simpa using h16
 refine jN 13 ?_
 refine WC.cond rfl (fun h19=>?_) (fun h19=>?_)
 have hc:cmpI (x:Int) (y:Int)=1:=by unfold cmpI;rw [if_neg hn,if_pos (by simpa using h19)]
 refine jN 8 ?_
 rotate_left
 have hc:cmpI (x:Int) (y:Int)=0:=by unfold cmpI;rw [if_neg hn,if_neg (by simpa using h19)]
 refine jN 9 ?_
 rotate_left
 all_goals
  exact WQ.ret (rs:=[.tmp 4]) rfl (.tmp rfl .nil) (fun w hS=>⟨by rw [hc];rfl,hS⟩)
theorem run_lssS (s t:List UInt8) (ty:TypeId) (x y:Operand) (w:World):(do eqGuard .lss ty x y (.string (str s)) (.string (str t));binOp .lss ty (.string (str s)) (.string (str t)):Sem Value).run Tryz.prog w= .ok (.bool (Op.bytesLess s t)) w:=by
 simp [eqGuard,binOp,Op.stringOp,str_toList]
theorem run_gtrS (s t:List UInt8) (ty:TypeId) (x y:Operand) (w:World):(do eqGuard .gtr ty x y (.string (str s)) (.string (str t));binOp .gtr ty (.string (str s)) (.string (str t)):Sem Value).run Tryz.prog w= .ok (.bool (!(Op.bytesLess s t||s==t))) w:=by
 simp [eqGuard,binOp,Op.stringOp,str_toList]
theorem CmpStr_c_nan (x:List UInt8) (w:World):Pure Tryz.prog 102 [.string (str x)] w (.bool false):=by
 refine enter Tryz.func102 rfl Tryz.ntmps102 rfl (St.init _) ?_
 refine jN 19 ?_
 exact WQ.ret (rs:=[.tmp 2]) rfl (.tmp rfl .nil) (fun w hS=>⟨by simp;rfl,hS⟩)
theorem CmpStr_c (x:List UInt8) (y:List UInt8) (w:World):Pure Tryz.prog 65 [.string (str x),.string (str y)] w (.int .i64 (cmpS x y)):=by
 refine enter Tryz.func65 rfl Tryz.ntmps65 rfl (St.init _) ?_
 refine jN 11 ?_
 refine WL.callV F.fun102 rfl rfl (fun w hS=>CmpStr_c_nan _ w) ?_
 refine jN 9 ?_
 refine WL.callV F.fun102 rfl rfl (fun w hS=>CmpStr_c_nan _ w) ?_
 refine jN 32 ?_
 refine WL.bin (v:= .bool (Op.bytesLess x y)) rfl rfl rfl (fun w=>run_lssS x y _ _ _ w) ?_
 refine jN 2 ?_
 refine WC.cond rfl (fun h16=>?_) (fun h16=>?_)
 ·have hc:cmpS x y= -1:=if_pos h16
  refine jN 8 ?_
  exact WQ.ret (rs:=[.tmp 4]) rfl (.tmp rfl .nil) (fun w hS=>⟨by rw [hc];rfl,hS⟩)
 have hn:Op.bytesLess x y=false:=h16
 refine jN 10 ?_
 refine WL.bin (v:= .bool (!(Op.bytesLess x y||x==y))) rfl rfl rfl (fun w=>run_gtrS x y _ _ _ w) ?_
 refine jN 2 ?_
 refine WC.cond rfl (fun h19=>?_) (fun h19=>?_)
 have hc:cmpS x y=1:=by unfold cmpS;rw [hn] at h19 ⊢;rw [if_neg (by decide),if_neg (by rintro rfl;simp at h19)]
 refine jN 8 ?_
 rotate_left
 have hc:cmpS x y=0:=by unfold cmpS;rw [hn] at h19 ⊢;rw [if_neg (by decide),if_pos (by simpa using h19)]
 refine jN 9 ?_
 rotate_left
 all_goals
  exact WQ.ret (rs:=[.tmp 4]) rfl (.tmp rfl .nil) (fun w hS=>⟨by rw [hc];rfl,hS⟩)
theorem CmpInts_c (l m:List Int) (a a2:Option Addr) (c c2:Nat) (hll:l.length≤1000000000) (hml:m.length≤1000000000) (w:World) (h1:RdC w l a) (h2:RdC w m a2):
  Pure Tryz.prog 79 [.slice a l.length c,.slice a2 m.length c2] w (.int .i64 (cmpL l m)):=by
 refine enter Tryz.func79 rfl Tryz.ntmps79 rfl (St.init _) ?_
 refine jN 18 ?_
 refine WC.loop (α:=Nat) (fun i=>i≤l.length∧i≤m.length∧cmpL l m=cmpL (l.drop i) (m.drop i)) (fun i=>[(0,.slice a l.length c),(1,.slice a2 m.length c2),(9,.slice a l.length c),(10,.int .i64 (l.length:Int)),(11,.int .i64 (i:Int))]) (fun _=>[]) (fun i=>l.length - i) (0) ?_ ?_ ?_ ?_
 ·exact ⟨Nat.zero_le _,Nat.zero_le _,by simp⟩
 ·exact ⟨rfl,rfl,rfl,rfl,rfl,trivial⟩
 ·rfl
 rintro i ⟨hi,hj,hcm⟩
 show WC _ _ _ _ _ _ _ [(0,.slice a l.length c),(1,.slice a2 m.length c2),(9,.slice a l.length c),(10,.int .i64 (l.length:Int)),(11,.int .i64 (i:Int))] []
 refine jN 7 ?_
 refine WC.cond rfl (fun h12=>?_) (fun h12=>?_)
 ·have hlt:i<l.length:=by simpa using h12
  obtain ⟨x,hx⟩:∃ x,l[i]?=some x:=⟨_,List.getElem?_eq_getElem hlt⟩
  obtain ⟨b,o,rfl,hcx⟩:=h1 i x hx
  refine jN 9 ?_
  refine WL.indexAddr F.sl73 rfl rfl rfl hlt ?_
  refine jN 1 ?_
  refine WL.load1 F.one3 rfl rfl (v:= .int .i64 x) (fun w hS=>by rw [Nat.mul_one];exact hS.oldc hcx (by simp)) ?_
  refine jN 19 ?_
  refine WC.cond rfl (fun h19=>?_) (fun h19=>?_)
  ·have hge:m.length≤i:=by simp at h19;omega
   have hend:=cmpL_end hi hj (by omega) hcm
   rw [if_pos hlt] at hend
   refine jN 13 ?_
   exact WQ.ret (rs:=[.tmp 4]) rfl (.tmp rfl .nil) (fun w hS=>⟨by rw [hend];rfl,hS⟩)
  have hlt2:i<m.length:=by simp at h19;omega
  obtain ⟨y,hy⟩:∃ x,m[i]?=some x:=⟨_,List.getElem?_eq_getElem hlt2⟩
  obtain ⟨b2,o2,rfl,hcy⟩:=h2 i y hy
  refine jN 9 ?_
  refine WL.indexAddr F.sl73 rfl rfl rfl hlt2 ?_
  refine jN 1 ?_
  refine WL.load1 F.one3 rfl rfl (v:= .int .i64 y) (fun w hS=>by rw [Nat.mul_one];exact hS.oldc hcy (by simp)) ?_
  refine jN 11 ?_
  refine WL.callV F.fun116 rfl rfl (fun w hS=>CmpInt_c x y w) ?_
  refine jN 12 ?_
  refine WC.cond rfl (fun h28=>?_) (fun h28=>?_)
  ·have hxy:x≠y:=by rintro rfl;simp [cmpI] at h28
   have hc9:=cmpL_at hx hy hcm
   rw [if_neg hxy] at hc9
   refine jN 14 ?_
   exact WQ.ret (rs:=[.tmp 4]) rfl (.tmp rfl .nil) (fun w hS=>⟨by rw [hc9];rfl,hS⟩)
  have hxy:x=y:=cmpI_zero.1 (by simpa using h28)
  refine jN 9 ?_
  refine WQ.back (i+1) ?_ ?_ ?_ ?_
  ·exact ⟨by omega,by omega,by rw [cmpL_at hx hy hcm,if_pos hxy]⟩
  ·omega
  ·exact ⟨rfl,rfl,rfl,rfl,rfl,trivial⟩
  rfl
 have hie:i=l.length:=by simp at h12;omega
 refine jN 20 ?_
 refine WC.cond rfl (fun h35=>?_) (fun h35=>?_)
 have hend:=cmpL_end hi hj (by omega) hcm
 rw [if_neg (by omega),if_pos (by simp at h35;omega)] at hend
 refine jN 8 ?_
 rotate_left
 have hend:=cmpL_end hi hj (by omega) hcm
 rw [if_neg (by omega),if_neg (by simp at h35;omega)] at hend
 refine jN 9 ?_
 rotate_left
 all_goals
  exact WQ.ret (rs:=[.tmp 4]) rfl (.tmp rfl .nil) (fun w hS=>⟨by rw [hend];rfl,hS⟩)
def orI :List Int→Int
 | []=>0
 | x::l=>if x=0 then orI l else x
theorem orI_at {l:List Int} {i:Nat} {x:Int} (hx:l[i]?=some x) (h:orI l=orI (l.drop i)):orI l=if x=0 then orI (l.drop (i+1)) else x:=by
 have e:l.drop i=x::l.drop (i+1):=by
  rw [List.drop_eq_getElem_cons (List.getElem?_eq_some_iff.1 hx).1]
  congr 1
  exact (List.getElem?_eq_some_iff.1 hx).2
 rw [h,e,orI]
theorem OrI_c (l:List Int) (a:Option Addr) (c:Nat) (hll:l.length≤1000000000) (w:World) (h1:RdC w l a):
  Pure Tryz.prog 78 [.slice a l.length c] w (.int .i64 (orI l)):=by
 refine enter Tryz.func78 rfl Tryz.ntmps78 rfl (St.init _) ?_
 refine jN 24 ?_
 refine WC.loop (α:=Nat) (fun i=>i≤l.length∧orI l=orI (l.drop i)) (fun i=>[(3,.int .i64 0),(6,.slice a l.length c),(7,.int .i64 (l.length:Int)),(8,.int .i64 (i:Int))]) (fun _=>[]) (fun i=>l.length - i) (0) ?_ ?_ ?_ ?_
 ·exact ⟨Nat.zero_le _,by simp⟩
 ·exact ⟨rfl,rfl,rfl,rfl,trivial⟩
 ·rfl
 rintro i ⟨hi,ho⟩
 show WC _ _ _ _ _ _ _ [(3,.int .i64 0),(6,.slice a l.length c),(7,.int .i64 (l.length:Int)),(8,.int .i64 (i:Int))] []
 refine jN 7 ?_
 refine WC.cond rfl (fun h9=>?_) (fun h9=>?_)
 ·have hlt:i<l.length:=by simpa using h9
  obtain ⟨x,hx⟩:∃ x,l[i]?=some x:=⟨_,List.getElem?_eq_getElem hlt⟩
  obtain ⟨b,o,rfl,hcx⟩:=h1 i x hx
  refine jN 7 ?_
  refine WL.indexAddr F.sl73 rfl rfl rfl hlt ?_
  refine jN 1 ?_
  refine WL.load1 F.one3 rfl rfl (v:= .int .i64 x) (fun w hS=>by rw [Nat.mul_one];exact hS.oldc hcx (by simp)) ?_
  refine jN 14 ?_
  refine WC.cond rfl (fun h14=>?_) (fun h14=>?_)
  ·have hxz:x≠0:=by rintro rfl;simp at h14
   have hend:=orI_at hx ho
   rw [if_neg hxz] at hend
   refine jN 14 ?_
   exact WQ.ret (rs:=[.tmp 2]) rfl (.tmp rfl .nil) (fun w hS=>⟨by rw [hend];rfl,hS⟩)
  have hxz:x=0:=by simpa using h14
  refine jN 9 ?_
  refine WQ.back (i+1) ?_ ?_ ?_ ?_
  ·exact ⟨by omega,by rw [orI_at hx ho,if_pos hxz]⟩
  ·omega
  ·exact ⟨rfl,rfl,rfl,rfl,trivial⟩
  rfl
 have hie:i=l.length:=by simp at h9;omega
 have hend:orI l=0:=by rw [ho,hie,List.drop_length];rfl
 refine jN 14 ?_
 exact WQ.ret (rs:=[.tmp 2]) rfl (.tmp rfl .nil) (fun w hS=>⟨by rw [hend];rfl,hS⟩)
def cmpT (x y:ItV):Int:=orI [cmpL x.p y.p,cmpI (x.k:Int) (y.k:Int),cmpS x.t y.t]
def cmpD (x y:NoV):Int:=orI [cmpL x.p y.p,cmpI (x.k:Int) (y.k:Int)]
theorem RdC.of_pt {w:World} {l:List Int} {b:Nat} {e:TypeId} (h:(pt b (l.map (Value.int .i64)) e).ok w):RdC w l (some ⟨b,0,none⟩):=fun i x hx=>by
 refine ⟨b,0,rfl,?_⟩
 rw [Nat.zero_add]
 exact cell_of_heap h (by rw [List.getElem?_map,hx];rfl)
set_option maxRecDepth 100000 in
theorem cmpTok_c (x y:TkV) (hxp:x.x.p.length≤1000000000) (hyp:y.x.p.length≤1000000000) (w:World) (rx:RdC w x.x.p x.x.pa) (ry:RdC w y.x.p y.x.pa):
  Pure Tryz.prog 33 [.agg (tkC x).toArray,.agg (tkC y).toArray] w (.int .i64 (cmpT x.x y.x)):=by
 refine enter Tryz.func33 rfl Tryz.ntmps33 rfl (St.init _) ?_
 refine jN 3 ?_
 refine WL.boxN rfl rfl (fun b2=>?_)
 refine jN 1 ?_
 refine WL.boxN rfl rfl (fun b3=>?_)
 refine jN 5 ?_
 refine WC.drawsL (by kernel_rfl) (FactsOk.cons (ds:=[4,9,14,15,16]) (LoadOk.one (t:=2) (off:=2) rfl jM rfl) (FactsOk.cons (ds:=[4,9,14,15,16]) (LoadOk.one (t:=3) (off:=2) rfl jM rfl) (FactsOk.cons (ds:=[9,14,15,16]) (LoadOk.one (t:=2) (off:=0) rfl jM rfl) (FactsOk.cons (ds:=[9,14,15,16]) (LoadOk.one (t:=3) (off:=0) rfl jM rfl) (FactsOk.cons (ds:=[14,15,16]) (LoadOk.one (t:=2) (off:=1) rfl jM rfl) (FactsOk.cons (ds:=[14,15,16]) (LoadOk.one (t:=3) (off:=1) rfl jM rfl) (FactsOk.nil))))))) ?_
 refine jT 0 rfl (Yl.fieldAddr0 F.fld89_2 rfl) ?_
 refine jF 1 0 rfl rfl (Yl.load1 F.one73 rfl) ?_
 refine jT 2 rfl (Yl.fieldAddr0 F.fld89_2 rfl) ?_
 refine jF 3 1 rfl rfl (Yl.load1 F.one73 rfl) ?_
 refine jT 5 rfl (Yl.fieldAddr0 F.fld89_0 rfl) ?_
 refine jF 6 2 rfl rfl (Yl.load1 F.one5 rfl) ?_
 refine jT 7 rfl (Yl.fieldAddr0 F.fld89_0 rfl) ?_
 refine jF 8 3 rfl rfl (Yl.load1 F.one5 rfl) ?_
 refine jT 10 rfl (Yl.fieldAddr0 F.fld89_1 rfl) ?_
 refine jF 11 4 rfl rfl (Yl.load1 F.one9 rfl) ?_
 refine jT 12 rfl (Yl.fieldAddr0 F.fld89_1 rfl) ?_
 refine jF 13 5 rfl rfl (Yl.load1 F.one9 rfl) ?_
 refine jA 4 rfl ?_
 refine WL.callV F.fun79 rfl rfl (fun w hS=>CmpInts_c x.x.p y.x.p x.x.pa y.x.pa x.x.pc y.x.pc hxp hyp w (rx.next hS) (ry.next hS)) ?_
 refine WD.on (closed_of (by kernel_rfl)) (fun w hS=>Sx.gone rfl (Sx.gone rfl (Sx.keep (hS.cell jM rfl) (Sx.keep (hS.cell jM rfl) (Sx.keep (hS.cell jM rfl) (Sx.keep (hS.cell jM rfl) (Sx.none))))))) ?_
 refine jA 9 rfl ?_
 refine WL.callV F.fun80 rfl rfl (fun w hS=>CmpU8_c x.x.k y.x.k w) ?_
 refine WD.on (closed_of (by kernel_rfl)) (fun w hS=>Sx.gone rfl (Sx.gone rfl (Sx.gone rfl (Sx.gone rfl (Sx.keep (hS.cell jM rfl) (Sx.keep (hS.cell jM rfl) (Sx.none))))))) ?_
 refine jA 14 rfl ?_
 refine WL.callV F.fun65 rfl rfl (fun w hS=>CmpStr_c x.x.t y.x.t w) ?_
 refine jG ?_
 refine jA 15 rfl ?_
 refine WL.buildSlice F.sl73 F.ez73 rfl rfl rfl rfl jB rfl (fun b20=>?_)
 refine jG ?_
 refine jA 16 rfl ?_
 refine WL.callV F.fun78 rfl rfl (fun w hS=>OrI_c [cmpL x.x.p y.x.p,cmpI (x.x.k:Int) (y.x.k:Int),cmpS x.x.t y.x.t] (some ⟨b20,0,none⟩) 3 (by simp) w (RdC.of_pt (l:=[cmpL x.x.p y.x.p,cmpI (x.x.k:Int) (y.x.k:Int),cmpS x.x.t y.x.t]) (hS.ok (pt b20 [.int .i64 (cmpL x.x.p y.x.p),.int .i64 (cmpI (x.x.k:Int) (y.x.k:Int)),.int .i64 (cmpS x.x.t y.x.t)] 3) jM))) ?_
 refine jG ?_
 refine jQ [17] ?_
 refine jD ?_
 refine jN 2 ?_
 exact WQ.ret (rs:=[.tmp 4]) rfl (.tmp rfl .nil) (fun w hS=>⟨rfl,hS.sublist (List.nil_sublist _)⟩)
set_option maxRecDepth 100000 in
theorem cmpDia_c (x y:DgV) (hxp:x.x.p.length≤1000000000) (hyp:y.x.p.length≤1000000000) (w:World) (rx:RdC w x.x.p x.x.pa) (ry:RdC w y.x.p y.x.pa):
  Pure Tryz.prog 36 [.agg (dgC x).toArray,.agg (dgC y).toArray] w (.int .i64 (cmpD x.x y.x)):=by
 refine enter Tryz.func36 rfl Tryz.ntmps36 rfl (St.init _) ?_
 refine jN 3 ?_
 refine WL.boxN rfl rfl (fun b2=>?_)
 refine jN 1 ?_
 refine WL.boxN rfl rfl (fun b3=>?_)
 refine jN 5 ?_
 refine WC.drawsL (by kernel_rfl) (FactsOk.cons (ds:=[4,9,10,11]) (LoadOk.one (t:=2) (off:=1) rfl jM rfl) (FactsOk.cons (ds:=[4,9,10,11]) (LoadOk.one (t:=3) (off:=1) rfl jM rfl) (FactsOk.cons (ds:=[9,10,11]) (LoadOk.one (t:=2) (off:=0) rfl jM rfl) (FactsOk.cons (ds:=[9,10,11]) (LoadOk.one (t:=3) (off:=0) rfl jM rfl) (FactsOk.nil))))) ?_
 refine jT 0 rfl (Yl.fieldAddr0 F.fld95_1 rfl) ?_
 refine jF 1 0 rfl rfl (Yl.load1 F.one73 rfl) ?_
 refine jT 2 rfl (Yl.fieldAddr0 F.fld95_1 rfl) ?_
 refine jF 3 1 rfl rfl (Yl.load1 F.one73 rfl) ?_
 refine jT 5 rfl (Yl.fieldAddr0 F.fld95_0 rfl) ?_
 refine jF 6 2 rfl rfl (Yl.load1 F.one76 rfl) ?_
 refine jT 7 rfl (Yl.fieldAddr0 F.fld95_0 rfl) ?_
 refine jF 8 3 rfl rfl (Yl.load1 F.one76 rfl) ?_
 refine jA 4 rfl ?_
 refine WL.callV F.fun79 rfl rfl (fun w hS=>CmpInts_c x.x.p y.x.p x.x.pa y.x.pa x.x.pc y.x.pc hxp hyp w (rx.next hS) (ry.next hS)) ?_
 refine WD.on (closed_of (by kernel_rfl)) (fun w hS=>Sx.gone rfl (Sx.gone rfl (Sx.keep (hS.cell jM rfl) (Sx.keep (hS.cell jM rfl) (Sx.none))))) ?_
 refine jA 9 rfl ?_
 refine WL.callV F.fun81 rfl rfl (fun w hS=>CmpCode_c x.x.k y.x.k w) ?_
 refine jG ?_
 refine jA 10 rfl ?_
 refine WL.buildSlice F.sl73 F.ez73 rfl rfl rfl rfl jB rfl (fun b15=>?_)
 refine jG ?_
 refine jA 11 rfl ?_
 refine WL.callV F.fun78 rfl rfl (fun w hS=>OrI_c [cmpL x.x.p y.x.p,cmpI (x.x.k:Int) (y.x.k:Int)] (some ⟨b15,0,none⟩) 2 (by simp) w (RdC.of_pt (l:=[cmpL x.x.p y.x.p,cmpI (x.x.k:Int) (y.x.k:Int)]) (hS.ok (pt b15 [.int .i64 (cmpL x.x.p y.x.p),.int .i64 (cmpI (x.x.k:Int) (y.x.k:Int))] 3) jM))) ?_
 refine jG ?_
 refine jQ [12] ?_
 refine jD ?_
 refine jN 2 ?_
 exact WQ.ret (rs:=[.tmp 4]) rfl (.tmp rfl .nil) (fun w hS=>⟨rfl,hS.sublist (List.nil_sublist _)⟩)
structure TsR (w:World) (ts:List TkV) (a:Option Addr):Prop where
 r:RdSl tkC 7 w ts a
 p:∀ t∈ts,RdC w t.x.p t.x.pa∧t.x.p.length≤1000000000
 d:∀ t∈ts,RdD w t.d t.da
structure DsR (w:World) (ts:List DgV) (a:Option Addr):Prop where
 r:RdSl dgC 6 w ts a
 p:∀ t∈ts,RdC w t.x.p t.x.pa∧t.x.p.length≤1000000000
 d:∀ t∈ts,RdD w t.d t.da
theorem TsR.next {w0 w:World} {C:List Chunk} {ts:List TkV} {a:Option Addr} (h:TsR w0 ts a) (hS:St w0 [] C w):TsR w ts a:=⟨h.r.next hS,fun t ht=>⟨(h.p t ht).1.next hS,(h.p t ht).2⟩,fun t ht=>(h.d t ht).next0 hS⟩
theorem DsR.next {w0 w:World} {C:List Chunk} {ts:List DgV} {a:Option Addr} (h:DsR w0 ts a) (hS:St w0 [] C w):DsR w ts a:=⟨h.r.next hS,fun t ht=>⟨(h.p t ht).1.next hS,(h.p t ht).2⟩,fun t ht=>(h.d t ht).next0 hS⟩
structure RsR (w:World) (ts:List RtV) (a:Option Addr):Prop where
 r:RdSl rtC 6 w ts a
 p:∀ t∈ts,RdC w t.x.p t.x.pa∧t.x.p.length≤1000000000
 d:∀ t∈ts,RdN w t.c t.ca∧t.c.length≤1000000000000000
structure HsR (w:World) (ts:List RgV) (a:Option Addr):Prop where
 r:RdSl rgC 5 w ts a
 p:∀ t∈ts,RdC w t.x.p t.x.pa∧t.x.p.length≤1000000000
 d:∀ t∈ts,RdN w t.c t.ca∧t.c.length≤1000000000000000
end Go.Proofs.YtedbajbgnmaakaaGreatDoor
namespace Go.Eng
open Go Go.RowKit Go.Lib
section
variable {P : Program} {w0 : World} {O : List Nat} {ops : Array Oper} {Q : Exit → Act → World → Prop} {N : Nat} {D : List Deferred} {L : FL} {C : List Chunk} {K : Act → World → Prop}
variable {d : Nat} {ty : TypeId} {pos : String} {af : Array Edge}
end
end Go.Eng
namespace Go.Proofs.YtedbajbgnmaakaaGreatDoor
open Go Go.Eng Go.Proofs Dg
theorem cmpP_zero :∀ {l m:List Int},cmpP l m=0↔l=m
 | [],[]=>by simp [cmpP]
 | [],b::s=>by
  constructor
  ·intro h;simp [cmpP] at h;omega
  ·intro h;cases h
 | a::r,[]=>by
  constructor
  ·intro h;simp [cmpP] at h;omega
  ·intro h;cases h
 | a::r,b::s=>by
  rw [cmpP]
  by_cases h:a=b
  ·rw [if_pos h,cmpP_zero,h];simp
  ·rw [if_neg h]
   constructor
   ·intro h2;split at h2<;>omega
   ·intro h2;cases h2;exact absurd rfl h
end Go.Proofs.YtedbajbgnmaakaaGreatDoor
namespace Dg
section
variable {α : Type}
structure Swo (lt:α→α→Bool):Prop where
 asym:∀ x y,lt x y=true→lt y x=false
 tr:∀ x y z,lt y x=false→lt z y=false→lt z x=false
abbrev Srt (lt:α→α→Bool) (l:List α):Prop:=l.Pairwise fun x y=>lt y x=false
def sins (lt:α→α→Bool) (x:α):List α→List α
 | []=>[x]
 | y::r=>if lt x y then x::y::r else y::sins lt x r
def isort (lt:α→α→Bool) (l:List α):List α:=l.foldl (fun acc x=>sins lt x acc) []
def mrg (lt:α→α→Bool):List α→List α→List α
 | [],Y=>Y
 | X,[]=>X
 | x::X,y::Y=>if lt y x then y::mrg lt (x::X) Y else x::mrg lt X (y::Y)
termination_by X Y=>X.length+Y.length
variable {lt : α → α → Bool}
theorem mrg_nil (X:List α):mrg lt X []=X:=by cases X<;>simp [mrg]
theorem nil_mrg (Y:List α):mrg lt [] Y=Y:=by simp [mrg]
theorem mrg_lt {x y:α} {X Y:List α} (h:lt y x=true):mrg lt (x::X) (y::Y)=y::mrg lt (x::X) Y:=by rw [mrg];simp [h]
theorem mrg_ge {x y:α} {X Y:List α} (h:lt y x=false):mrg lt (x::X) (y::Y)=x::mrg lt X (y::Y):=by rw [mrg];simp [h]
theorem Swo.lt_le (h:Swo lt) {x y z:α} (h1:lt x y=true) (h2:lt z y=false):lt x z=true:=by
 cases h3:lt x z with
 | true=>rfl
 | false=>rw [h.tr y z x h2 h3] at h1;cases h1
theorem Swo.le_lt (h:Swo lt) {x y z:α} (h1:lt y x=false) (h2:lt y z=true):lt x z=true:=by
 cases h3:lt x z with
 | true=>rfl
 | false=>rw [h.tr z x y h3 h1] at h2;cases h2
theorem sins_len (x:α):∀ l:List α,(sins lt x l).length=l.length+1
 | []=>rfl
 | y::r=>by
  unfold sins
  split
  ·rfl
  ·rw [List.length_cons,sins_len x r,List.length_cons]
theorem sins_mem {x z:α}:∀ {l:List α},z∈sins lt x l↔z=x∨z∈l
 | []=>by simp [sins]
 | y::r=>by
  unfold sins
  split
  ·simp
  ·rw [List.mem_cons,sins_mem,List.mem_cons]
   constructor
   ·rintro (h | h | h)<;>simp [h]
   ·rintro (h | h | h)<;>simp [h]
theorem sins_srt (hw:Swo lt) {x:α}:∀ {l:List α},Srt lt l→Srt lt (sins lt x l)
 | [],_=>List.pairwise_singleton _ _
 | y::r,h=>by
  obtain ⟨h1,h2⟩:=List.pairwise_cons.1 h
  unfold sins
  split
  ·rename_i hxy
   refine List.pairwise_cons.2 ⟨fun z hz=>?_,h⟩
   rcases List.mem_cons.1 hz with rfl | hz
   ·exact hw.asym _ _ hxy
   ·exact hw.tr _ _ _ (hw.asym _ _ hxy) (h1 z hz)
  ·rename_i hxy
   refine List.pairwise_cons.2 ⟨fun z hz=>?_,sins_srt hw h2⟩
   rcases sins_mem.1 hz with rfl | hz
   ·simpa using hxy
   ·exact h1 z hz
theorem sins_at {x:α}:∀ {A B:List α},(∀ y∈A,lt x y=false)→(∀ y∈B.head?,lt x y=true)→sins lt x (A++B)=A++x::B
 | [],[],_,_=>rfl
 | [],b::B,_,h=>by
  have:=h b rfl
  simp [sins,this]
 | a::A,B,h,hb=>by
  have h1:=h a (by simp)
  rw [List.cons_append,sins,if_neg (by simp [h1]),sins_at (fun y hy=>h y (by simp [hy])) hb]
  rfl
theorem isort_snoc (l:List α) (x:α):isort lt (l++[x])=sins lt x (isort lt l):=by simp [isort]
theorem isort_nil :isort lt ([]:List α)=[]:=rfl
theorem rev_ind {P:List α→Prop} (h0:P []) (h1:∀ l x,P l→P (l++[x])) (l:List α):P l:=by
 have key:∀ m:List α,P m.reverse:=fun m=>by
  induction m with
  | nil=>exact h0
  | cons x m ih=>rw [List.reverse_cons];exact h1 _ _ ih
 have:=key l.reverse
 rwa [List.reverse_reverse] at this
theorem isort_srt (hw:Swo lt) (l:List α):Srt lt (isort lt l):=by
 refine rev_ind (P:=fun l=>Srt lt (isort lt l)) List.Pairwise.nil (fun l x h=>?_) l
 rw [isort_snoc]
 exact sins_srt hw h
theorem isort_len (l:List α):(isort lt l).length=l.length:=by
 refine rev_ind (P:=fun l=>(isort lt l).length=l.length) rfl (fun l x h=>?_) l
 rw [isort_snoc,sins_len,h,List.length_append,List.length_singleton]
theorem isort_mem {l:List α} {z:α}:z∈isort lt l↔z∈l:=by
 refine rev_ind (P:=fun l=>z∈isort lt l↔z∈l) (by simp [isort_nil]) (fun l x h=>?_) l
 rw [isort_snoc,sins_mem,h,List.mem_append,List.mem_singleton]
 exact Or.comm
theorem mrg_len :∀ (X Y:List α),(mrg lt X Y).length=X.length+Y.length
 | [],Y=>by rw [nil_mrg];simp
 | x::X,[]=>by rw [mrg_nil];simp
 | x::X,y::Y=>by
  cases h:lt y x with
  | true=>rw [mrg_lt h,List.length_cons,mrg_len (x::X) Y];simp only [List.length_cons];omega
  | false=>rw [mrg_ge h,List.length_cons,mrg_len X (y::Y)];simp only [List.length_cons];omega
termination_by X Y=>X.length+Y.length
theorem mrg_sins (hw:Swo lt) {z:α}:∀ {X Y:List α},Srt lt X→Srt lt Y→mrg lt X (sins lt z Y)=sins lt z (mrg lt X Y)
 | [],Y,_,_=>by rw [nil_mrg,nil_mrg]
 | x::X,[],hx,_=>by
  obtain ⟨x1,x2⟩:=List.pairwise_cons.1 hx
  rw [mrg_nil]
  show mrg lt (x::X) [z]=sins lt z (x::X)
  cases h:lt z x with
  | true=>rw [mrg_lt h,mrg_nil,sins,if_pos h]
  | false=>
   have ih:=mrg_sins hw (z:=z) (Y:=[]) x2 List.Pairwise.nil
   rw [mrg_nil] at ih
   rw [mrg_ge h,sins,if_neg (by simp [h])]
   exact congrArg (x:: ·) ih
 | x::X,y::Y,hx,hy=>by
  obtain ⟨x1,x2⟩:=List.pairwise_cons.1 hx
  obtain ⟨y1,y2⟩:=List.pairwise_cons.1 hy
  cases hzy:lt z y with
  | true=>
   have e:sins lt z (y::Y)=z::y::Y:=by rw [sins,if_pos hzy]
   rw [e]
   cases hyx:lt y x with
   | true=>
    have hzx:lt z x=true:=hw.lt_le hzy (hw.asym _ _ hyx)
    rw [mrg_lt hzx,mrg_lt hyx,sins,if_pos hzy]
   | false=>
    cases hzx:lt z x with
    | true=>rw [mrg_lt hzx,mrg_ge hyx,sins,if_pos hzx]
    | false=>
     have ih:=mrg_sins hw (z:=z) (Y:=y::Y) x2 hy
     rw [e] at ih
     rw [mrg_ge hzx,mrg_ge hyx,sins,if_neg (by simp [hzx]),ih]
  | false=>
   have e:sins lt z (y::Y)=y::sins lt z Y:=by rw [sins,if_neg (by simp [hzy])]
   rw [e]
   cases hyx:lt y x with
   | true=>
    rw [mrg_lt hyx,mrg_lt hyx,sins,if_neg (by simp [hzy]),mrg_sins hw hx y2]
   | false=>
    have hzx:lt z x=false:=hw.tr _ _ _ hyx hzy
    have ih:=mrg_sins hw (z:=z) (Y:=y::Y) x2 hy
    rw [e] at ih
    rw [mrg_ge hyx,mrg_ge hyx,sins,if_neg (by simp [hzx]),ih]
termination_by X Y=>X.length+Y.length
theorem isort_append (hw:Swo lt) (l m:List α):isort lt (l++m)=mrg lt (isort lt l) (isort lt m):=by
 refine rev_ind (P:=fun m=>isort lt (l++m)=mrg lt (isort lt l) (isort lt m)) ?_ (fun m x h=>?_) m
 ·rw [List.append_nil,isort_nil,mrg_nil]
 rw [← List.append_assoc,isort_snoc,isort_snoc,h,mrg_sins hw (isort_srt hw l) (isort_srt hw m)]
theorem mrg_split (hw:Swo lt):∀ {X1 X2 Y1 Y2:List α},Srt lt (X1++X2)→Srt lt (Y1++Y2)→(∀ x∈X1,∀ y∈Y2,lt y x=false)→(∀ y∈Y1,∀ x∈X2,lt y x=true)→mrg lt (X1++X2) (Y1++Y2)=mrg lt X1 Y1++mrg lt X2 Y2
 | [],_,[],_,_,_,_,_=>by rw [nil_mrg];rfl
 | [],[],_::_,_,_,_,_,_=>by rw [nil_mrg,nil_mrg];simp [nil_mrg]
 | [],x::X2,y::Y1,Y2,hx,hy,h1,h2=>by
  have hyx:=h2 y (by simp) x (by simp)
  rw [nil_mrg,List.nil_append,List.cons_append,mrg_lt hyx]
  have ih:=mrg_split hw (X1:=[]) (X2:=x::X2) (Y1:=Y1) (Y2:=Y2) hx (List.pairwise_cons.1 hy).2 (by simp) (fun y hy=>h2 y (by simp [hy]))
  rw [nil_mrg] at ih
  rw [List.nil_append] at ih
  rw [ih]
  rfl
 | x::X1,X2,[],[],_,_,_,_=>by rw [List.append_nil,mrg_nil,mrg_nil,mrg_nil]
 | x::X1,X2,[],y::Y2,hx,hy,h1,h2=>by
  have hyx:=h1 x (by simp) y (by simp)
  rw [mrg_nil,List.cons_append,List.nil_append,mrg_ge hyx]
  have ih:=mrg_split hw (X1:=X1) (X2:=X2) (Y1:=[]) (Y2:=y::Y2) (List.pairwise_cons.1 hx).2 hy (fun x hx=>h1 x (by simp [hx])) (by simp)
  rw [mrg_nil,List.nil_append] at ih
  rw [ih]
  rfl
 | x::X1,X2,y::Y1,Y2,hx,hy,h1,h2=>by
  rw [List.cons_append,List.cons_append]
  cases h:lt y x with
  | true=>
   rw [mrg_lt h,mrg_lt h]
   have ih:=mrg_split hw (X1:=x::X1) (X2:=X2) (Y1:=Y1) (Y2:=Y2) hx (List.pairwise_cons.1 hy).2 h1 (fun y hy=>h2 y (by simp [hy]))
   rw [List.cons_append] at ih
   rw [ih]
   rfl
  | false=>
   rw [mrg_ge h,mrg_ge h]
   have ih:=mrg_split hw (X1:=X1) (X2:=X2) (Y1:=y::Y1) (Y2:=Y2) (List.pairwise_cons.1 hx).2 hy (fun x hx=>h1 x (by simp [hx])) h2
   rw [List.cons_append] at ih
   rw [ih]
   rfl
termination_by X1 X2 Y1 Y2=>X1.length+Y1.length
end
end Dg
namespace Dg
section
variable {α : Type} {lt : α → α → Bool}
theorem Swo.irr (hw:Swo lt) (x:α):lt x x=false:=by
 cases h:lt x x with
 | false=>rfl
 | true=>have:=hw.asym _ _ h;rw [h] at this;cases this
theorem srt_le (hw:Swo lt) {l:List α} (h:Srt lt l) {i k:Nat} {x y:α} (hx:l[i]?=some x) (hy:l[k]?=some y) (hik:i≤k):lt y x=false:=by
 obtain ⟨h1,rfl⟩:=List.getElem?_eq_some_iff.1 hx
 obtain ⟨h2,rfl⟩:=List.getElem?_eq_some_iff.1 hy
 rcases Nat.lt_or_ge i k with h3 | h3
 ·exact List.pairwise_iff_getElem.1 h i k h1 h2 h3
 have:i=k:=by omega
 subst this
 exact hw.irr _
theorem at_app' {A B:List α} {x:α} {i:Nat} (hi:i=A.length):(A++x::B)[i]?=some x:=by rw [hi];simp
theorem set_app' {A B:List α} {x y:α} {i:Nat} (hi:i=A.length):(A++x::B).set i y=A++y::B:=by rw [hi];simp
theorem swp {A B C:List α} {x y:α} {i k:Nat} (hi:i=A.length) (hk:k=A.length+1+B.length):((A++x::(B++y::C)).set i y).set k x=A++y::(B++x::C):=by
 rw [set_app' hi]
 have e:A++y::(B++y::C)=(A++y::B)++y::C:=by simp
 rw [e,set_app' (by simp;omega)]
 simp
theorem swp' {A B C:List α} {x y:α} {i k:Nat} (hi:i=A.length) (hk:k=A.length+1+B.length):((A++x::(B++y::C)).set k x).set i y=A++y::(B++x::C):=by
 have e:A++x::(B++y::C)=(A++x::B)++y::C:=by simp
 rw [e,set_app' (i:=k) (by simp;omega)]
 have e2:(A++x::B)++x::C=A++x::(B++x::C):=by simp
 rw [e2,set_app' hi]
theorem mrg_one_l (hw:Swo lt) {x:α}:∀ {Y1 Y2:List α},(∀ y∈Y1,lt y x=true)→(∀ y∈Y2.head?,lt y x=false)→mrg lt [x] (Y1++Y2)=Y1++x::Y2
 | [],[],_,_=>by rw [List.nil_append,mrg_nil];rfl
 | [],y::Y2,_,h=>by rw [List.nil_append,mrg_ge (h y rfl),nil_mrg];rfl
 | y::Y1,Y2,h,h2=>by rw [List.cons_append,mrg_lt (h y (by simp)),mrg_one_l hw (fun z hz=>h z (by simp [hz])) h2];rfl
theorem mrg_one_r (hw:Swo lt) {y:α}:∀ {X1 X2:List α},(∀ x∈X1,lt y x=false)→(∀ x∈X2.head?,lt y x=true)→mrg lt (X1++X2) [y]=X1++y::X2
 | [],[],_,_=>by rw [List.nil_append,nil_mrg];rfl
 | [],x::X2,_,h=>by rw [List.nil_append,mrg_lt (h x rfl),mrg_nil];rfl
 | x::X1,X2,h,h2=>by rw [List.cons_append,mrg_ge (h x (by simp)),mrg_one_r hw (fun z hz=>h z (by simp [hz])) h2];rfl
theorem head_drop {l:List α} {i:Nat} {x:α} (h:x∈(l.drop i).head?):l[i]?=some x:=by
 rw [List.head?_drop] at h
 exact h
theorem mem_takeI {l:List α} {i:Nat} {x:α} (h:x∈l.take i):∃ k,k<i∧l[k]?=some x:=by
 obtain ⟨k,hk⟩:=List.getElem?_of_mem h
 rw [List.getElem?_take] at hk
 split at hk
 ·exact ⟨k,by assumption,hk⟩
 cases hk
theorem mem_dropI {l:List α} {i:Nat} {x:α} (h:x∈l.drop i):∃ k,i≤k∧l[k]?=some x:=by
 obtain ⟨k,hk⟩:=List.getElem?_of_mem h
 rw [List.getElem?_drop] at hk
 exact ⟨i+k,by omega,hk⟩
theorem sym_split (hw:Swo lt) {X Y:List α} {s e:Nat} (hX:Srt lt X) (hY:Srt lt Y)
  (h1:s=0∨Y.length≤e∨∃ x y,X[s - 1]?=some x∧Y[e]?=some y∧lt y x=false) (h2:e=0∨X.length≤s∨∃ x y,X[s]?=some x∧Y[e - 1]?=some y∧lt y x=true):
  mrg lt X Y=mrg lt (X.take s) (Y.take e)++mrg lt (X.drop s) (Y.drop e):=by
 have hs:=mrg_split hw (X1:=X.take s) (X2:=X.drop s) (Y1:=Y.take e) (Y2:=Y.drop e) (by rw [List.take_append_drop];exact hX) (by rw [List.take_append_drop];exact hY) (fun x hx y hy=>?_) (fun y hy x hx=>?_)
 ·rw [List.take_append_drop,List.take_append_drop] at hs
  exact hs
 ·obtain ⟨i,hi,hxi⟩:=mem_takeI hx
  obtain ⟨k,hk,hyk⟩:=mem_dropI hy
  rcases h1 with h1 | h1 | ⟨x9,y9,h3,h4,h5⟩
  ·omega
  ·have:=(List.getElem?_eq_some_iff.1 hyk).1;omega
  exact hw.tr x y9 y (hw.tr x x9 y9 (srt_le hw hX hxi h3 (by omega)) h5) (srt_le hw hY h4 hyk hk)
 obtain ⟨i,hi,hyi⟩:=mem_takeI hy
 obtain ⟨k,hk,hxk⟩:=mem_dropI hx
 rcases h2 with h2 | h2 | ⟨x9,y9,h3,h4,h5⟩
 ·omega
 ·have:=(List.getElem?_eq_some_iff.1 hxk).1;omega
 exact hw.lt_le (hw.le_lt (srt_le hw hY hyi h4 (by omega)) h5) (srt_le hw hX h3 hxk hk)
end
end Dg
namespace Dg
section
variable {α : Type} {lt : α → α → Bool}
def blk (lt:α→α→Bool) (bs:Nat) (l:List α):List α:=if h:l.length≤bs∨bs=0 then isort lt l else isort lt (l.take bs)++blk lt bs (l.drop bs)
termination_by l.length
decreasing_by simp only [List.length_drop];omega
theorem blk_small {bs:Nat} {l:List α} (h:l.length≤bs):blk lt bs l=isort lt l:=by
 rw [blk,dif_pos (.inl h)]
theorem blk_step {bs:Nat} {l:List α} (h:bs≤l.length) (h0:0<bs):blk lt bs l=isort lt (l.take bs)++blk lt bs (l.drop bs):=by
 rcases Nat.lt_or_ge bs l.length with h1 | h1
 ·rw [blk,dif_neg (by omega)]
 have e:l.length=bs:=by omega
 rw [blk_small (by omega),List.take_of_length_le (by omega),List.drop_eq_nil_of_le (by omega),blk_small (by simp),isort_nil,List.append_nil]
theorem blk_len {bs:Nat}:∀ {l:List α},(blk lt bs l).length=l.length:=by
 have key:∀ n,∀ l:List α,l.length≤n→(blk lt bs l).length=l.length:=fun n=>by
  induction n with
  | zero=>intro l hl;rw [blk_small (by omega),isort_len]
  | succ n ih=>
   intro l hl
   by_cases h:l.length≤bs∨bs=0
   ·rw [blk,dif_pos h,isort_len]
   ·rw [blk,dif_neg h,List.length_append,isort_len,ih _ (by rw [List.length_drop];omega),List.length_take,List.length_drop]
    omega
 exact fun {l}=>key _ l (Nat.le_refl _)
theorem take_take_drop {l:List α} {bs:Nat}:l.take (2*bs)=l.take bs++(l.drop bs).take bs:=by
 have e:2*bs=bs+bs:=by omega
 rw [e,List.take_add]
theorem blk_two (hw:Swo lt) {bs:Nat} {l:List α} (h:2*bs≤l.length) (h0:0<bs):blk lt (2*bs) l=mrg lt (isort lt (l.take bs)) (isort lt ((l.drop bs).take bs))++blk lt (2*bs) (l.drop (2*bs)):=by
 rw [blk_step h (by omega),take_take_drop,isort_append hw]
theorem blk_last (hw:Swo lt) {bs:Nat} {l:List α} (h:l.length≤2*bs):blk lt (2*bs) l=mrg lt (isort lt (l.take bs)) (isort lt (l.drop bs)):=by
 rw [blk_small h,← isort_append hw,List.take_append_drop]
end
end Dg
namespace Go.Proofs.YtedbajbgnmaakaaGreatDoor
open Go Go.Eng Go.Proofs Dg
section
variable {w0 w1 w : World} {O : List Nat} {C C1 : List Chunk}
theorem _root_.Go.Eng.St.trans (h:St w0 O C1 w1) (h2:St w1 O C w):St w0 O C w:=
 ⟨h2.os.trans h.os,h2.tape.trans h.tape,h2.output.trans h.output,Nat.le_trans h.size h2.size,fun k hk ho=>(h2.old k (Nat.lt_of_lt_of_le hk h.size) ho).trans (h.old k hk ho),h2.ok,fun c hc k hk=>⟨(h2.bnd c hc k hk).1,fun hk0=>(h2.bnd c hc k hk).2 (Nat.lt_of_lt_of_le hk0 h.size)⟩,h2.disj⟩
end
def CmpOk {α:Type} (kc:Nat) (us cap:List Value) (cells:α→List Value) (Q:α→Prop) (cmp:α→α→Int) (w0:World) (g:Nat):Prop:=
 ∀ (C:List Chunk) (w:World),St w0 [g] C w→∀ x y,Q x→Q y→Calls Tryz.prog kc (us++[Value.agg (cells x).toArray,Value.agg (cells y).toArray]++cap).toArray w fun e w'=>e= .returned (.int .i64 (cmp x y))∧St w [] [] w'
theorem CmpOk.next {α:Type} {kc:Nat} {us cap:List Value} {cells:α→List Value} {Q:α→Prop} {cmp:α→α→Int} {w0 w:World} {g:Nat} {C:List Chunk} (h:CmpOk kc us cap cells Q cmp w0 g) (hS:St w0 [g] C w):CmpOk kc us cap cells Q cmp w g:=
 fun C2 w2 hS2=>h C2 w2 (hS.trans hS2)
abbrev ltC {α:Type} (cmp:α→α→Int) (x y:α):Bool:=decide (cmp x y<0)
theorem setN_flat {α:Type} {cells:α→List Value} {sz:Nat}:∀ {l:List α} {j:Nat} {x:α},(∀ x,(cells x).length=sz)→j<l.length→SetN (l.flatMap cells) (j*sz) (cells x) ((l.set j x).flatMap cells)
 | [],j,x,_,h=>by simp at h
 | y::l,0,x,hl,_=>by
  rw [Nat.zero_mul,List.set_cons_zero,List.flatMap_cons,List.flatMap_cons]
  have key:∀ (a b r:List Value),a.length=b.length→SetN (a++r) 0 b (b++r):=fun a=>by
   induction a with
   | nil=>
    intro b r h
    cases b with
    | nil=>exact SetN.done
    | cons v b=>simp at h
   | cons c a ih=>
    intro b r h
    cases b with
    | nil=>simp at h
    | cons v b=>exact SetN.put (ih b r (by simpa using h))
  exact key _ _ _ (by rw [hl,hl])
 | y::l,j+1,x,hl,h=>by
  rw [List.set_cons_succ,List.flatMap_cons,List.flatMap_cons]
  have ih:=setN_flat (l:=l) (j:=j) (x:=x) hl (by simpa using h)
  have key:∀ (a:List Value) {r r':List Value} {n:Nat} {vs:List Value},SetN r n vs r'→SetN (a++r) (n+a.length) vs (a++r'):=fun a=>by
   induction a with
   | nil=>intro r r' n vs h;exact h
   | cons c a ih=>intro r r' n vs h;exact SetN.skip (ih h)
  rw [Nat.succ_mul,← hl y]
  rw [hl y]
  have:=key (cells y) ih
  rwa [hl y] at this
theorem at2 {α:Type} {P A R:List α} {x:α} {i:Nat} (hi:i=P.length+A.length):(P++(A++x::R))[i]?=some x:=by
 rw [← List.append_assoc]
 exact at_app' (by simp [hi])
theorem run_shr1 {n:Nat} (hn:n<9223372036854775808) (t:TypeId) (x y:Operand) (w:World):
  (do eqGuard .shr t x y (.int .u64 (n:Int)) (.int .u64 1);binOp .shr t (.int .u64 (n:Int)) (.int .u64 1):Sem Value).run Tryz.prog w= .ok (.int .u64 ((n / 2:Nat):Int)) w:=by
 have h1: ¬ (1:Int)<0:=by decide
 have h2:min (1:Int).toNat 64=1:=by decide
 simp only [eqGuard,binOp,Op.shift,IntKind.bits,h1,if_false,h2]
 have h5:(n:Int).fdiv 2=(n:Int) / 2:=Int.fdiv_eq_ediv_of_nonneg _ (by decide)
 simp [h5]
theorem conv_iu {n:Nat} (hn:n<9223372036854775808) (w:World):(convert 3 183 (.int .i64 (n:Int))).run Tryz.prog w= .ok (.int .u64 (n:Int)) w:=by
 have h:=run_convert_int (P:=Tryz.prog) w 3 183 .i64 (n:Int) (by kernel_rfl) (by kernel_rfl)
 rw [h]
 have h2:IntKind.u64.wrap (n:Int)=(n:Int):=by
  unfold IntKind.wrap
  simp [IntKind.signed,IntKind.bits]
  omega
 rw [show Tryz.prog.intKind 183= .u64 by kernel_rfl,h2]
theorem conv_ui {n:Nat} (hn:n<9223372036854775808) (w:World):(convert 183 3 (.int .u64 (n:Int))).run Tryz.prog w= .ok (.int .i64 (n:Int)) w:=by
 have h:=run_convert_int (P:=Tryz.prog) w 183 3 .u64 (n:Int) (by kernel_rfl) (by kernel_rfl)
 rw [h]
 have h2:IntKind.i64.wrap (n:Int)=(n:Int):=by
  unfold IntKind.wrap
  simp [IntKind.signed,IntKind.bits]
  omega
 rw [show Tryz.prog.intKind 3= .i64 by kernel_rfl,h2]
end Go.Proofs.YtedbajbgnmaakaaGreatDoor
namespace Dg
section
variable {α : Type}
def eqv (lt:α→α→Bool) (x y:α):Bool:= !lt x y&& !lt y x
def jgo (lt:α→α→Bool) (j:α→α→α) (acc:α):List α→List α
 | []=>[acc]
 | y::r=>if eqv lt acc y then jgo lt j (j acc y) r else acc::jgo lt j y r
def jadj (lt:α→α→Bool) (j:α→α→α):List α→List α
 | []=>[]
 | x::r=>jgo lt j x r
def pins (lt:α→α→Bool) (j:α→α→α) (x:α):List α→List α
 | []=>[x]
 | y::r=>if lt y x then y::pins lt j x r else if lt x y then x::y::r else j y x::r
structure Jok (lt:α→α→Bool) (j:α→α→α):Prop where
 l:∀ x y z,lt (j x y) z=lt x z
 r:∀ x y z,lt z (j x y)=lt z x
variable {lt : α → α → Bool} {j : α → α → α}
theorem jgo_head (hj:Jok lt j):∀ (l:List α) (acc:α),∃ h r,jgo lt j acc l=h::r∧(∀ z,lt h z=lt acc z)∧(∀ z,lt z h=lt z acc)
 | [],acc=>⟨acc,[],rfl,fun _=>rfl,fun _=>rfl⟩
 | y::r,acc=>by
  unfold jgo
  split
  ·obtain ⟨h,r',e,h1,h2⟩:=jgo_head hj r (j acc y)
   exact ⟨h,r',e,fun z=>by rw [h1,hj.l],fun z=>by rw [h2,hj.r]⟩
  ·exact ⟨acc,_,rfl,fun _=>rfl,fun _=>rfl⟩
theorem pins_lt (hj:Jok lt j) (hw:Swo lt) {x acc:α} {l:List α} (h:lt x acc=true):pins lt j x (jgo lt j acc l)=x::jgo lt j acc l:=by
 obtain ⟨h9,r,e,h1,h2⟩:=jgo_head hj l acc
 rw [e,pins,h1,hw.asym _ _ h,h2,h]
 simp
theorem jgo_sins (hj:Jok lt j) (hw:Swo lt) {x:α}:∀ (l:List α) (acc:α),Srt lt (acc::l)→lt x acc=false→jgo lt j acc (sins lt x l)=pins lt j x (jgo lt j acc l)
 | [],acc,_,hx=>by
  show jgo lt j acc [x]=pins lt j x [acc]
  unfold jgo pins eqv
  rw [hx]
  cases h:lt acc x<;>simp [jgo,pins]
 | y::r,acc,hs,hx=>by
  obtain ⟨h1,h2⟩:=List.pairwise_cons.1 hs
  have hya:=h1 y (by simp)
  cases hxy:lt x y with
  | true=>
   rw [sins,if_pos hxy]
   have hacy:lt acc y=true:=hw.le_lt hx hxy
   cases hax:lt acc x with
   | true=>
    have e1:eqv lt acc x=false:=by unfold eqv;rw [hax];rfl
    have e2:eqv lt x y=false:=by unfold eqv;rw [hxy];rfl
    have e3:eqv lt acc y=false:=by unfold eqv;rw [hacy];rfl
    rw [jgo,if_neg (by simp [e1]),jgo,if_neg (by simp [e2]),jgo,if_neg (by simp [e3]),pins,if_pos hax,pins_lt hj hw hxy]
   | false=>
    have e1:eqv lt acc x=true:=by unfold eqv;rw [hax,hx];rfl
    have e2:eqv lt (j acc x) y=false:=by unfold eqv;rw [hj.l,hacy];rfl
    have e3:eqv lt acc y=false:=by unfold eqv;rw [hacy];rfl
    rw [jgo,if_pos e1,jgo,if_neg (by simp [e2]),jgo,if_neg (by simp [e3]),pins,if_neg (by simp [hax]),if_neg (by simp [hx])]
  | false=>
   rw [sins,if_neg (by simp [hxy])]
   cases e1:eqv lt acc y with
   | true=>
    have hs2:Srt lt (j acc y::r):=List.pairwise_cons.2 ⟨fun z hz=>by rw [hj.r];exact h1 z (by simp [hz]),(List.pairwise_cons.1 h2).2⟩
    rw [jgo,if_pos e1,jgo,if_pos e1,jgo_sins hj hw r (j acc y) hs2 (by rw [hj.r];exact hx)]
   | false=>
    have hacy:lt acc y=true:=by
     unfold eqv at e1
     rw [hya] at e1
     simpa using e1
    have hax:lt acc x=true:=hw.lt_le hacy hxy
    rw [jgo,if_neg (by simp [e1]),jgo,if_neg (by simp [e1]),pins,if_pos hax,jgo_sins hj hw r y h2 hxy]
theorem jadj_sins (hj:Jok lt j) (hw:Swo lt) {x:α}:∀ {l:List α},Srt lt l→jadj lt j (sins lt x l)=pins lt j x (jadj lt j l)
 | [],_=>rfl
 | y::r,h=>by
  show jadj lt j (sins lt x (y::r))=pins lt j x (jgo lt j y r)
  cases hxy:lt x y with
  | true=>
   rw [sins,if_pos hxy,pins_lt hj hw hxy]
   show jgo lt j x (y::r)=_
   rw [jgo,if_neg (by unfold eqv;simp [hxy])]
  | false=>
   rw [sins,if_neg (by simp [hxy])]
   exact jgo_sins hj hw r y h hxy
theorem jadj_isort (hj:Jok lt j) (hw:Swo lt) (l:List α):jadj lt j (isort lt l)=l.foldl (fun acc x=>pins lt j x acc) []:=by
 refine rev_ind (P:=fun l=>jadj lt j (isort lt l)=l.foldl (fun acc x=>pins lt j x acc) []) rfl (fun l x h=>?_) l
 rw [isort_snoc,jadj_sins hj hw (isort_srt hw l),h,List.foldl_append]
 rfl
abbrev Srs (lt:α→α→Bool) (l:List α):Prop:=l.Pairwise fun x y=>lt x y=true
theorem pins_mem {x:α}:∀ {l:List α} {z:α},z∈pins lt j x l→z=x∨z∈l∨∃ y∈l,z=j y x
 | [],z,h=> .inl (by simpa [pins] using h)
 | y::r,z,h=>by
  unfold pins at h
  split at h
  ·rcases List.mem_cons.1 h with h | h
   ·exact .inr (.inl (by simp [h]))
   ·rcases pins_mem h with h | h | ⟨y9,h1,h2⟩
    ·exact .inl h
    ·exact .inr (.inl (by simp [h]))
    ·exact .inr (.inr ⟨y9,by simp [h1],h2⟩)
  ·split at h
   ·rcases List.mem_cons.1 h with h | h
    ·exact .inl h
    ·exact .inr (.inl h)
   ·rcases List.mem_cons.1 h with h | h
    ·exact .inr (.inr ⟨y,by simp,h⟩)
    ·exact .inr (.inl (by simp [h]))
theorem pins_srs (hj:Jok lt j) (hw:Swo lt) (htr:∀ x y z,lt x y=true→lt y z=true→lt x z=true) {x:α}:∀ {l:List α},Srs lt l→Srs lt (pins lt j x l)
 | [],_=>List.pairwise_singleton _ _
 | y::r,h=>by
  obtain ⟨h1,h2⟩:=List.pairwise_cons.1 h
  unfold pins
  split
  ·rename_i hyx
   refine List.pairwise_cons.2 ⟨fun z hz=>?_,pins_srs hj hw htr h2⟩
   rcases pins_mem hz with rfl | hz | ⟨y9,h3,rfl⟩
   ·exact hyx
   ·exact h1 z hz
   ·rw [hj.r];exact h1 y9 h3
  ·split
   ·rename_i hxy
    refine List.pairwise_cons.2 ⟨fun z hz=>?_,h⟩
    rcases List.mem_cons.1 hz with rfl | hz
    ·exact hxy
    ·exact htr _ _ _ hxy (h1 z hz)
   ·exact List.pairwise_cons.2 ⟨fun z hz=>by rw [hj.l];exact h1 z hz,h2⟩
theorem pins_at {x:α}:∀ {A B:List α},(∀ y∈A,lt y x=true)→(∀ y∈B.head?,lt y x=false)→pins lt j x (A++B)=A++(match B with | []=>[x] | y::r=>if lt x y then x::y::r else j y x::r)
 | [],[],_,_=>rfl
 | [],b::B,_,h=>by
  have:=h b rfl
  rw [List.nil_append,pins,if_neg (by simp [this])]
  rfl
 | a::A,B,h,hb=>by
  rw [List.cons_append,pins,if_pos (h a (by simp)),pins_at (fun y hy=>h y (by simp [hy])) hb]
  rfl
end
end Dg
namespace Go.Proofs.YtedbajbgnmaakaaGreatDoor
open Go Go.Eng Go.Proofs Dg
structure Cmp3 {α:Type} (c:α→α→Int):Prop where
 anti:∀ x y,c y x<0↔0<c x y
 tr:∀ x y z,c x y≤0→c y z≤0→c x z≤0
theorem Cmp3.zero {α:Type} {c:α→α→Int} (h:Cmp3 c) {x y:α} (e:c x y=0):c y x=0:=by
 have h1:=h.anti x y
 have h2:=h.anti y x
 omega
theorem Cmp3.swo {α:Type} {c:α→α→Int} (h:Cmp3 c):Swo (ltC c):=by
 refine ⟨fun x y hxy=>?_,fun x y z h1 h2=>?_⟩
 ·have h1:=h.anti x y
  have h2:=h.anti y x
  have h3:c x y<0:=by simpa using hxy
  simp only [decide_eq_false_iff_not]
  omega
 have h3: ¬ c y x<0:=by simpa using h1
 have h4: ¬ c z y<0:=by simpa using h2
 have:=h.tr x y z (by have:=h.anti x y;have:=h.anti y x;omega) (by have:=h.anti y z;have:=h.anti z y;omega)
 have h5:=h.anti x z
 have h6:=h.anti z x
 simp only [decide_eq_false_iff_not]
 omega
theorem Cmp3.ltr {α:Type} {c:α→α→Int} (h:Cmp3 c) (x y z:α) (h1:ltC c x y=true) (h2:ltC c y z=true):ltC c x z=true:=by
 have h3:c x y<0:=by simpa using h1
 have h4:c y z<0:=by simpa using h2
 have h5:=h.tr x y z (by omega) (by omega)
 rw [decide_eq_true_eq]
 by_cases h6:c x z=0
 ·exfalso
  have h7:=h.zero h6
  have h8:=h.tr y z x (by omega) (by omega)
  have:=h.anti x y
  have:=h.anti y x
  omega
 omega
theorem Cmp3.on {α β:Type} {c:α→α→Int} (h:Cmp3 c) (f:β→α):Cmp3 (fun x y=>c (f x) (f y)):=⟨fun x y=>h.anti _ _,fun x y z=>h.tr _ _ _⟩
theorem Cmp3.lex {α:Type} {c d:α→α→Int} (hc:Cmp3 c) (hd:Cmp3 d):Cmp3 (fun x y=>if c x y=0 then d x y else c x y):=by
 refine ⟨fun x y=>?_,fun x y z h1 h2=>?_⟩
 ·have h1:=hc.anti x y
  have h2:=hc.anti y x
  have h3:=hd.anti x y
  by_cases h:c x y=0
  ·rw [if_pos h,if_pos (hc.zero h)];exact h3
  rw [if_neg h,if_neg (fun e=>h (hc.zero e))];exact h1
 have a1:=hc.anti x y
 have a2:=hc.anti y x
 have a3:=hc.anti y z
 have a4:=hc.anti z y
 have a5:=hc.anti x z
 have a6:=hc.anti z x
 by_cases e1:c x y=0
 ·rw [if_pos e1] at h1
  by_cases e2:c y z=0
  ·rw [if_pos e2] at h2
   have t1:=hc.tr x y z (by omega) (by omega)
   have t2:=hc.tr z y x (by omega) (by omega)
   have e3:c x z=0:=by omega
   rw [if_pos e3]
   exact hd.tr x y z h1 h2
  rw [if_neg e2] at h2
  have t1:=hc.tr x y z (by omega) (by omega)
  have e3:c x z≠0:=fun e=>by
   have t2:=hc.tr z x y (by omega) (by omega)
   omega
  rw [if_neg e3];exact t1
 rw [if_neg e1] at h1
 by_cases e2:c y z=0
 rotate_left
 rw [if_neg e2] at h2
 rotate_left
 all_goals
  have t1:=hc.tr x y z (by omega) (by omega)
  have e3:c x z≠0:=fun e=>by
   have t2:=hc.tr y z x (by omega) (by omega)
   omega
  rw [if_neg e3];exact t1
theorem cmpI_3 :Cmp3 cmpI:=by
 refine ⟨fun x y=>?_,fun x y z=>?_⟩<;>unfold cmpI<;>(repeat' split)<;>omega
theorem cmpS_cons (a b:UInt8) (s t:List UInt8):cmpS (a::s) (b::t)=if a=b then cmpS s t else if a<b then -1 else 1:=by
 have hb:Op.bytesLess (a::s) (b::t)=(decide (a<b)||(a==b&&Op.bytesLess s t)):=by rw [Op.bytesLess]
 unfold cmpS
 rw [hb]
 by_cases h:a=b
 ·subst h
  simp [UInt8.lt_irrefl]
 rw [if_neg h]
 by_cases h2:a<b
 ·simp [h2]
 simp [h,h2]
theorem cmpS_3 :Cmp3 cmpS:=by
 have nn:cmpS [] []=0:=by simp [cmpS,Op.bytesLess]
 have nc:∀ a l,cmpS [] (a::l)= -1:=fun a l=>by simp [cmpS,Op.bytesLess]
 have cn:∀ a l,cmpS (a::l) []=1:=fun a l=>by simp [cmpS,Op.bytesLess]
 constructor
 ·intro x
  induction x with
  | nil=>intro y;cases y with
   | nil=>rw [nn]
   | cons b t=>rw [nc,cn];decide
  | cons a s ih=>intro y;cases y with
   | nil=>rw [cn,nc];decide
   | cons b t=>
    rw [cmpS_cons,cmpS_cons]
    by_cases h:a=b
    ·subst h;rw [if_pos rfl,if_pos rfl];exact ih t
    ·rw [if_neg h,if_neg (Ne.symm h)]
     have h9:a<b∨b<a:=by
      rcases Nat.lt_trichotomy a.toNat b.toNat with h1 | h1 | h1
      ·exact .inl (UInt8.lt_iff_toNat_lt.2 h1)
      ·exact absurd (UInt8.toNat_inj.1 h1) h
      ·exact .inr (UInt8.lt_iff_toNat_lt.2 h1)
     rcases h9 with h1 | h1
     ·rw [if_pos h1,if_neg (UInt8.lt_asymm h1)];omega
     ·rw [if_pos h1,if_neg (UInt8.lt_asymm h1)];omega
 intro x
 induction x with
 | nil=>intro y z;cases z with
  | nil=>intro _ _;rw [nn];omega
  | cons c u=>intro _ _;rw [nc];omega
 | cons a s ih=>intro y z;cases y with
  | nil=>rw [cn];omega
  | cons b t=>cases z with
   | nil=>rw [cn];omega
   | cons c u=>
    rw [cmpS_cons,cmpS_cons,cmpS_cons]
    intro h1 h2
    by_cases hab:a=b
    ·subst hab
     rw [if_pos rfl] at h1
     by_cases hbc:a=c
     ·subst hbc;rw [if_pos rfl] at h2 ⊢;exact ih t u h1 h2
     ·rw [if_neg hbc] at h2 ⊢;exact h2
    ·rw [if_neg hab] at h1
     have h3:a<b:=by
      by_cases h:a<b
      ·exact h
      ·rw [if_neg h] at h1;omega
     by_cases hbc:b=c
     ·subst hbc;rw [if_neg hab,if_pos h3];omega
     ·rw [if_neg hbc] at h2
      have h4:b<c:=by
       by_cases h:b<c
       ·exact h
       ·rw [if_neg h] at h2;omega
      have h5:=UInt8.lt_trans h3 h4
      rw [if_neg (UInt8.ne_of_lt h5),if_pos h5];omega
theorem cmpL_3 :Cmp3 cmpL:=by
 constructor
 ·intro x
  induction x with
  | nil=>intro y;cases y<;>simp [cmpL]
  | cons a s ih=>intro y;cases y with
   | nil=>simp [cmpL]
   | cons b t=>
    unfold cmpL
    by_cases h:a=b
    ·subst h;rw [if_pos rfl,if_pos rfl];exact ih t
    ·rw [if_neg h,if_neg (Ne.symm h)];exact cmpI_3.anti a b
 intro x
 induction x with
 | nil=>intro y z;cases z<;>simp [cmpL]
 | cons a s ih=>intro y z;cases y with
  | nil=>simp [cmpL]
  | cons b t=>cases z with
   | nil=>simp [cmpL]
   | cons c u=>
    unfold cmpL
    intro h1 h2
    by_cases hab:a=b
    ·subst hab
     rw [if_pos rfl] at h1
     by_cases hbc:a=c
     ·subst hbc;rw [if_pos rfl] at h2 ⊢;exact ih t u h1 h2
     ·rw [if_neg hbc] at h2 ⊢;exact h2
    ·rw [if_neg hab] at h1
     by_cases hbc:b=c
     ·subst hbc;rw [if_neg hab];exact h1
     ·rw [if_neg hbc] at h2
      have h3:=cmpI_3.tr a b c h1 h2
      have h4:a≠c:=fun e=>by
       subst e
       have:=cmpI_3.anti a b
       have:=cmpI_3.anti b a
       have h5:cmpI a b=0:=by omega
       exact hab (cmpI_zero.1 h5)
      rw [if_neg h4];exact h3
theorem cmpT_3 :Cmp3 cmpT:=by
 have h:=(cmpL_3.on (fun x:ItV=>x.p)).lex (((cmpI_3.on (fun x:ItV=>(x.k:Int))).lex (cmpS_3.on (fun x:ItV=>x.t))))
 have e:cmpT=fun x y=>if cmpL x.p y.p=0 then (if cmpI (x.k:Int) (y.k:Int)=0 then cmpS x.t y.t else cmpI (x.k:Int) (y.k:Int)) else cmpL x.p y.p:=by
  funext x y
  unfold cmpT orI orI orI orI
  split
  ·split
   ·split
    ·rename_i h;exact h.symm
    ·rfl
   ·rfl
  ·rfl
 rw [e];exact h
theorem cmpD_3 :Cmp3 cmpD:=by
 have h:=(cmpL_3.on (fun x:NoV=>x.p)).lex (cmpI_3.on (fun x:NoV=>(x.k:Int)))
 have e:cmpD=fun x y=>if cmpL x.p y.p=0 then cmpI (x.k:Int) (y.k:Int) else cmpL x.p y.p:=by
  funext x y
  unfold cmpD orI orI orI
  split
  ·split
   ·rename_i h;exact h.symm
   ·rfl
  ·rfl
 rw [e];exact h
def ordR (x y:ItV):Int:=if cmpP x.p y.p≠0 then cmpP x.p y.p else if x.k≠y.k then (x.k:Int) - y.k else cmpS x.t y.t
def ordG (x y:NoV):Int:=if cmpP x.p y.p≠0 then cmpP x.p y.p else (x.k:Int) - y.k
def sgnE (a b:Int):Prop:=(a<0↔b<0)∧(a=0↔b=0)
theorem cmpP_sgn :∀ l m:List Int,sgnE (cmpP l m) (cmpL l m)
 | [],[]=>by simp [sgnE,cmpP,cmpL]
 | [],_::_=>by
  simp only [sgnE,cmpP,cmpL,List.length_nil,List.length_cons]
  omega
 | _::_,[]=>by
  simp only [sgnE,cmpP,cmpL,List.length_nil,List.length_cons]
  omega
 | a::l,b::m=>by
  unfold cmpP cmpL
  by_cases h:a=b
  ·rw [if_pos h,if_pos h];exact cmpP_sgn l m
  ·rw [if_neg h,if_neg h]
   unfold cmpI sgnE
   repeat' split
   all_goals omega
theorem ordR_sgn (x y:ItV):sgnE (ordR x y) (cmpT x y):=by
 have h:=cmpP_sgn x.p y.p
 unfold ordR cmpT orI orI orI orI
 obtain ⟨h1,h2⟩:=h
 by_cases e:cmpL x.p y.p=0
 ·rw [if_pos e,if_neg (by simp;exact h2.2 e)]
  by_cases hk:x.k=y.k
  ·have hne: ¬ (x.k≠y.k):=by simp [hk]
   have hi:cmpI (x.k:Int) (y.k:Int)=0:=by rw [hk];unfold cmpI;simp
   rw [if_neg hne,if_pos hi]
   have e0:(if cmpS x.t y.t=0 then (0:Int) else cmpS x.t y.t)=cmpS x.t y.t:=by split<;>simp_all
   rw [e0]
   exact ⟨Iff.rfl,Iff.rfl⟩
  have h3:cmpI (x.k:Int) (y.k:Int)≠0:=fun e=>hk (by have:=cmpI_zero.1 e;omega)
  rw [if_pos hk,if_neg h3]
  unfold cmpI sgnE
  repeat' split
  all_goals omega
 rw [if_neg e,if_pos (fun e9=>e (h2.1 e9))]
 exact ⟨h1,h2⟩
theorem ordG_sgn (x y:NoV):sgnE (ordG x y) (cmpD x y):=by
 have h:=cmpP_sgn x.p y.p
 unfold ordG cmpD orI orI orI
 obtain ⟨h1,h2⟩:=h
 by_cases e:cmpL x.p y.p=0
 ·rw [if_pos e,if_neg (by simp;exact h2.2 e)]
  unfold cmpI sgnE
  repeat' split
  all_goals omega
 rw [if_neg e,if_pos (fun e9=>e (h2.1 e9))]
 exact ⟨h1,h2⟩
section
variable {w0 w : World} {C : List Chunk} {x : RwV} {m : MdV} {u i k : Nat}
theorem MdG.tm (hm:MdG u x i k m) {t:TkV} (ht:t∈m.ts):t.x∈x.i:=List.mem_of_mem_take (by rw [← hm.t.x];exact List.mem_map_of_mem ht)
theorem MdG.rm (hm:MdG u x i k m) {t:RtV} (ht:t∈m.rs):t.x∈x.i:=List.mem_of_mem_take (by rw [← hm.r.x];exact List.mem_map_of_mem ht)
theorem MdG.gm (hm:MdG u x i k m) {t:DgV} (ht:t∈m.gs):t.x∈x.n:=List.mem_of_mem_take (by rw [← hm.g.x];exact List.mem_map_of_mem ht)
theorem MdG.hm (hm:MdG u x i k m) {t:RgV} (ht:t∈m.hs):t.x∈x.n:=List.mem_of_mem_take (by rw [← hm.h.x];exact List.mem_map_of_mem ht)
theorem thoseL_len {q:List QB} {u:Nat}:(thoseL q u).length≤4294967296:=Nat.le_trans (List.length_filter_le _ _) (cfgs_len u)
theorem MdG.tsR (hm:MdG u x i k m) (hx:RwR w0 x) (hp:∀ y∈x.i,y.p.length≤1000000000) (hS:St w0 [] C w) (h1:mdT m∈C) (h2:dsC m.F m.ds∈C):TsR w m.ts m.ta:=
 ⟨RdSl.of_row (fun _ _=>rfl) (fun h=>h) (Nat.le_refl _) (hS.ok _ h1),fun t ht=>⟨(hx.io _ (hm.tm ht)).p.next hS,hp _ (hm.tm ht)⟩,fun t ht=>dsC_rd (hS.ok _ h2) (hm.t.d t ht).2.2⟩
theorem MdG.dsR (hm:MdG u x i k m) (hx:RwR w0 x) (hp:∀ y∈x.n,y.p.length≤1000000000) (hS:St w0 [] C w) (h1:mdD m∈C) (h2:dsC m.F m.ds∈C):DsR w m.gs m.ga:=
 ⟨RdSl.of_row (fun _ _=>rfl) (fun h=>h) (Nat.le_refl _) (hS.ok _ h1),fun t ht=>⟨(hx.no _ (hm.gm ht)).p.next hS,hp _ (hm.gm ht)⟩,fun t ht=>dsC_rd (hS.ok _ h2) (hm.g.d t ht).2.2⟩
theorem MdG.rsR (hm:MdG u x i k m) (hx:RwR w0 x) (hp:∀ y∈x.i,y.p.length≤1000000000) (hS:St w0 [] C w) (h1:mdR m∈C) (h2:insC m.G m.cs∈C):RsR w m.rs m.ra:=
 ⟨RdSl.of_row (fun _ _=>rfl) (fun h=>h) (Nat.le_refl _) (hS.ok _ h1),fun t ht=>⟨(hx.io _ (hm.rm ht)).p.next hS,hp _ (hm.rm ht)⟩,fun t ht=>⟨insC_rd (hS.ok _ h2) (hm.r.d t ht).2,by rw [(hm.r.d t ht).1];exact Nat.le_trans thoseL_len (by decide)⟩⟩
theorem MdG.hsR (hm:MdG u x i k m) (hx:RwR w0 x) (hp:∀ y∈x.n,y.p.length≤1000000000) (hS:St w0 [] C w) (h1:mdH m∈C) (h2:insC m.G m.cs∈C):HsR w m.hs m.ha:=
 ⟨RdSl.of_row (fun _ _=>rfl) (fun h=>h) (Nat.le_refl _) (hS.ok _ h1),fun t ht=>⟨(hx.no _ (hm.hm ht)).p.next hS,hp _ (hm.hm ht)⟩,fun t ht=>⟨insC_rd (hS.ok _ h2) (hm.h.d t ht).2,by rw [(hm.h.d t ht).1];exact Nat.le_trans thoseL_len (by decide)⟩⟩
end
end Go.Proofs.YtedbajbgnmaakaaGreatDoor
namespace Fm
open Go
end Fm
namespace Fm
open Go
def signs2 :List (List UInt8):=[[60,61],[62,61],[61,61],[33,61],[38,38],[124,124]]
def signs1 :List UInt8:=[43,45,42,47,37,60,62,61,33,40,41,123,125,44,59,58]
def signsL :List (List UInt8):=signs2++signs1.map fun c=>[c]
theorem drop_at {s:List UInt8} {i:Nat} {c:UInt8} (hc:s[i]?=some c):s.drop i=c::s.drop (i+1):=by
 have hlt:i<s.length:=(List.getElem?_eq_some_iff.1 hc).1
 rw [List.drop_eq_getElem_cons hlt]
 congr 1
 exact (List.getElem?_eq_some_iff.1 hc).2
end Fm
namespace Go.Proofs.YtedbajbgnmaakaaGreatDoor
open Go Go.Eng Go.Proofs
open Fm
open Go Go.Eng Go.Proofs
open Fm
end Go.Proofs.YtedbajbgnmaakaaGreatDoor
namespace Fm
open Go
end Fm
namespace Go.Proofs
open Go.Shelf
def Tryz.laysC172_ren :Go.Shelf.Ren:=⟨fun | 172=>248 | 244=>259 | 245=>260 | 247=>284 | 279=>285 | 280=>286 | 281=>287 | 282=>288 | 287=>297 | 316=>298 | 171=>249 | 205=>299 | 321=>304 | 322=>305 | 243=>261 | 246=>289 | 283=>300 | 284=>301 | 285=>302 | 286=>303 | 129=>136 | 317=>306 | 318=>307 | 319=>308 | 320=>309 | 337=>310 | 338=>311 | n=>n,fun | 9=>9 | 3=>3 | 75=>370 | 76=>371 | 4=>4 | 5=>5 | 167=>394 | 37=>395 | 0=>0 | 85=>396 | 2=>2 | 168=>398 | 53=>237 | 175=>409 | 46=>183 | 210=>412 | 127=>419 | 145=>422 | 143=>420 | 21=>21 | 171=>414 | 173=>416 | 212=>424 | 51=>24 | 20=>20 | 213=>425 | 232=>426 | 233=>427 | 80=>392 | n=>n,fun | 15=>4 | 16=>5 | 17=>6 | 18=>7 | 19=>8 | n=>n⟩
theorem Tryz.laysC172 :Go.Proofs.LaysC.n172 Tryz.prog Tryz.laysC172_ren:={
 mixed:=by kernel_rfl
 f129:=Tryz.func136.trans (congrArg some (by kernel_rfl))
 f171:=Tryz.func249.trans (congrArg some (by kernel_rfl))
 f172:=Tryz.func248.trans (congrArg some (by kernel_rfl))
 f205:=Tryz.func299.trans (congrArg some (by kernel_rfl))
 f243:=Tryz.func261.trans (congrArg some (by kernel_rfl))
 f244:=Tryz.func259.trans (congrArg some (by kernel_rfl))
 f245:=Tryz.func260.trans (congrArg some (by kernel_rfl))
 f246:=Tryz.func289.trans (congrArg some (by kernel_rfl))
 f247:=Tryz.func284.trans (congrArg some (by kernel_rfl))
 f279:=Tryz.func285.trans (congrArg some (by kernel_rfl))
 f280:=Tryz.func286.trans (congrArg some (by kernel_rfl))
 f281:=Tryz.func287.trans (congrArg some (by kernel_rfl))
 f282:=Tryz.func288.trans (congrArg some (by kernel_rfl))
 f283:=Tryz.func300.trans (congrArg some (by kernel_rfl))
 f284:=Tryz.func301.trans (congrArg some (by kernel_rfl))
 f285:=Tryz.func302.trans (congrArg some (by kernel_rfl))
 f286:=Tryz.func303.trans (congrArg some (by kernel_rfl))
 f287:=Tryz.func297.trans (congrArg some (by kernel_rfl))
 f316:=Tryz.func298.trans (congrArg some (by kernel_rfl))
 f317:=Tryz.func306.trans (congrArg some (by kernel_rfl))
 f318:=Tryz.func307.trans (congrArg some (by kernel_rfl))
 f319:=Tryz.func308.trans (congrArg some (by kernel_rfl))
 f320:=Tryz.func309.trans (congrArg some (by kernel_rfl))
 f321:=Tryz.func304.trans (congrArg some (by kernel_rfl))
 f322:=Tryz.func305.trans (congrArg some (by kernel_rfl))
 f337:=Tryz.func310.trans (congrArg some (by kernel_rfl))
 f338:=Tryz.func311.trans (congrArg some (by kernel_rfl))
 t0:=Tryz.underlying0
 a0:=Tryz.isAgg0
 z0:=Tryz.sizeOf0
 v0:=Tryz.zeroValue0
 t2:=Tryz.underlying2
 a2:=Tryz.isAgg2
 z2:=Tryz.sizeOf2
 v2:=Tryz.zeroValue2
 t3:=Tryz.underlying3
 a3:=Tryz.isAgg3
 z3:=Tryz.sizeOf3
 v3:=Tryz.zeroValue3
 t4:=Tryz.underlying4
 a4:=Tryz.isAgg4
 z4:=Tryz.sizeOf4
 v4:=Tryz.zeroValue4
 t5:=Tryz.underlying5
 a5:=Tryz.isAgg5
 z5:=Tryz.sizeOf5
 v5:=Tryz.zeroValue5
 t9:=Tryz.underlying9
 a9:=Tryz.isAgg9
 z9:=Tryz.sizeOf9
 v9:=Tryz.zeroValue9
 t20:=Tryz.underlying20
 a20:=Tryz.isAgg20
 z20:=Tryz.sizeOf20
 v20:=Tryz.zeroValue20
 t21:=Tryz.underlying21
 a21:=Tryz.isAgg21
 z21:=Tryz.sizeOf21
 v21:=Tryz.zeroValue21
 t37:=Tryz.underlying395
 a37:=Tryz.isAgg395
 z37:=Tryz.sizeOf395
 v37:=Tryz.zeroValue395
 t46:=Tryz.underlying183
 a46:=Tryz.isAgg183
 z46:=Tryz.sizeOf183
 v46:=Tryz.zeroValue183
 t51:=Tryz.underlying24
 a51:=Tryz.isAgg24
 z51:=Tryz.sizeOf24
 v51:=Tryz.zeroValue24
 t53:=Tryz.underlying237
 a53:=Tryz.isAgg237
 z53:=Tryz.sizeOf237
 v53:=Tryz.zeroValue237
 t75:=Tryz.underlying370
 a75:=Tryz.isAgg370
 z75:=Tryz.sizeOf370
 v75:=Tryz.zeroValue370
 t76:=Tryz.underlying371
 a76:=Tryz.isAgg371
 z76:=Tryz.sizeOf371
 v76:=Tryz.zeroValue371
 t85:=Tryz.underlying396
 a85:=Tryz.isAgg396
 z85:=Tryz.sizeOf396
 v85:=Tryz.zeroValue396
 t127:=Tryz.underlying419
 a127:=Tryz.isAgg419
 z127:=Tryz.sizeOf419
 v127:=Tryz.zeroValue419
 t143:=Tryz.underlying420
 a143:=Tryz.isAgg420
 z143:=Tryz.sizeOf420
 v143:=Tryz.zeroValue420
 t145:=Tryz.underlying422
 a145:=Tryz.isAgg422
 z145:=Tryz.sizeOf422
 v145:=Tryz.zeroValue422
 t167:=Tryz.underlying394
 a167:=Tryz.isAgg394
 z167:=Tryz.sizeOf394
 v167:=Tryz.zeroValue394
 t168:=Tryz.underlying398
 a168:=Tryz.isAgg398
 z168:=Tryz.sizeOf398
 v168:=Tryz.zeroValue398
 t171:=Tryz.underlying414
 a171:=Tryz.isAgg414
 z171:=Tryz.sizeOf414
 v171:=Tryz.zeroValue414
 t173:=Tryz.underlying416
 a173:=Tryz.isAgg416
 z173:=Tryz.sizeOf416
 v173:=Tryz.zeroValue416
 t175:=Tryz.underlying409
 a175:=Tryz.isAgg409
 z175:=Tryz.sizeOf409
 v175:=Tryz.zeroValue409
 t210:=Tryz.underlying412
 a210:=Tryz.isAgg412
 z210:=Tryz.sizeOf412
 v210:=Tryz.zeroValue412
 t212:=Tryz.underlying424
 a212:=Tryz.isAgg424
 z212:=Tryz.sizeOf424
 v212:=Tryz.zeroValue424
 t213:=Tryz.underlying425
 a213:=Tryz.isAgg425
 z213:=Tryz.sizeOf425
 t232:=Tryz.underlying426
 a232:=Tryz.isAgg426
 z232:=Tryz.sizeOf426
 v232:=Tryz.zeroValue426
 t233:=Tryz.underlying427
 a233:=Tryz.isAgg427
 z233:=Tryz.sizeOf427
 v233:=Tryz.zeroValue427
 g15:=by kernel_rfl
 g16:=by kernel_rfl
 g17:=by kernel_rfl
 g18:=by kernel_rfl
 g19:=by kernel_rfl
 t80:=Tryz.underlying392
 a80:=Tryz.isAgg392
 z80:=Tryz.sizeOf392
 v80:=Tryz.zeroValue392
 i0:=by kernel_rfl
 i2:=by kernel_rfl
 i3:=by kernel_rfl
 i4:=by kernel_rfl
 i5:=by kernel_rfl
 i9:=by kernel_rfl
 i20:=by kernel_rfl
 i21:=by kernel_rfl
 i37:=by kernel_rfl
 i46:=by kernel_rfl
 i51:=by kernel_rfl
 i53:=by kernel_rfl
 i75:=by kernel_rfl
 i76:=by kernel_rfl
 i80:=by kernel_rfl
 i85:=by kernel_rfl
 i127:=by kernel_rfl
 i143:=by kernel_rfl
 i145:=by kernel_rfl
 i167:=by kernel_rfl
 i168:=by kernel_rfl
 i171:=by kernel_rfl
 i173:=by kernel_rfl
 i175:=by kernel_rfl
 i210:=by kernel_rfl
 i212:=by kernel_rfl
 i232:=by kernel_rfl
 i233:=by kernel_rfl
 m15:=by kernel_rfl
 m16:=by kernel_rfl
 m17:=by kernel_rfl
 m18:=by kernel_rfl
 m19:=by kernel_rfl
 c0:=by kernel_rfl
 c2:=by kernel_rfl
 c3:=by kernel_rfl
 c4:=by kernel_rfl
 c5:=by kernel_rfl
 c9:=by kernel_rfl
 c20:=by kernel_rfl
 c21:=by kernel_rfl
 c37:=by kernel_rfl
 c46:=by kernel_rfl
 c51:=by kernel_rfl
 c53:=by kernel_rfl
 c75:=by kernel_rfl
 c76:=by kernel_rfl
 c80:=by kernel_rfl
 c85:=by kernel_rfl
 c127:=by kernel_rfl
 c143:=by kernel_rfl
 c145:=by kernel_rfl
 c167:=by kernel_rfl
 c168:=by kernel_rfl
 c171:=by kernel_rfl
 c173:=by kernel_rfl
 c175:=by kernel_rfl
 c210:=by kernel_rfl
 c212:=by kernel_rfl
 c213:=by kernel_rfl
 c232:=by kernel_rfl
 c233:=by kernel_rfl}
open Go.RowKit in
theorem Tryz.strconv_Atoi_ok (s:ByteArray) (hmax:s.size≤9223372036854775806) (v:Int) (h:Lib.atoiAll s.data.toList= .ok v) (w:World):
  Calls Tryz.prog 248 #[.string s] w fun e w'=>e= .returned (.tuple #[.int .i64 v,.nilIface])∧(w'=w∨∃ t,w'=Lib.bytesWorld w 5 t):=Any.strconv_Atoi_ok Tryz.laysC172 s hmax v h w
open Go.RowKit in
theorem Tryz.strconv_Atoi_syntax (s:ByteArray) (hlim:s.size≤281474976710656) (h:Lib.atoiAll s.data.toList=Lib.NumEnd.syntax) (ev:Value) (w:World) (hv:w.cell? ⟨4,0,none⟩=some ev) (hev:ev= .nilIface∨∃ te pe,ev= .iface te pe):
  Calls Tryz.prog 248 #[.string s] w fun e w'=>∃ N,e= .returned (.tuple #[.int .i64 (0),.iface 398 (.pointer (some ⟨N,0,none⟩))])∧w.heap.size≤N∧w'.heap[N]?=some (.cells #[.string ⟨#[65,116,111,105]⟩,.string s,ev] 412 (0,0))∧Below w.heap.size w w':=Any.strconv_Atoi_syntax Tryz.laysC172 s hlim h ev w hv hev
open Go.RowKit in
theorem Tryz.strconv_Atoi_range (s:ByteArray) (hlim:s.size≤281474976710656) (h:Lib.atoiAll s.data.toList= .range) (ev:Value) (w:World) (hv:w.cell? ⟨5,0,none⟩=some ev) (hev:ev= .nilIface∨∃ te pe,ev= .iface te pe):
  Calls Tryz.prog 248 #[.string s] w fun e w'=>∃ N,e= .returned (.tuple #[.int .i64 (Lib.atoiSat s.data.toList),.iface 398 (.pointer (some ⟨N,0,none⟩))])∧w.heap.size≤N∧w'.heap[N]?=some (.cells #[.string ⟨#[65,116,111,105]⟩,.string s,ev] 412 (0,0))∧Below w.heap.size w w':=Any.strconv_Atoi_range Tryz.laysC172 s hlim h ev w hv hev
end Go.Proofs
namespace Go.Proofs.YtedbajbgnmaakaaGreatDoor
open Go Go.Eng Go.Proofs Go.RowKit Fm
def Tab (w : World) : Prop := Lib.TabIs Tryz.prog w "internal/strconv.uint64pow10" .u64 Lib.pow10Tab
theorem Tab.next {w0 w:World} {C:List Chunk} (h:Tab w0) (hS:St w0 [] C w):Tab w:=by
 unfold Tab Lib.TabIs World.var? at h ⊢
 cases hg : Tryz.prog.globalNamed "internal/strconv.uint64pow10" with
 | none=>rw [hg] at h;cases h
 | some g=>
  rw [hg] at h
  simp only [Option.bind_some] at h ⊢
  have hlt:g<w0.heap.size:=by
   rcases Nat.lt_or_ge g w0.heap.size with hl | hl
   ·exact hl
   ·rw [Array.getElem?_eq_none hl] at h;cases h
  rw [hS.old g hlt (by simp)]
  exact h
structure LibW (w:World):Prop where
 tab:Tab w
 es:∃ ev,w.cell? ⟨4,0,none⟩=some ev∧(ev= .nilIface∨∃ te pe,ev= .iface te pe)
 er:∃ ev,w.cell? ⟨5,0,none⟩=some ev∧(ev= .nilIface∨∃ te pe,ev= .iface te pe)
theorem LibW.next {w0 w:World} {C:List Chunk} (h:LibW w0) (hS:St w0 [] C w):LibW w:=by
 obtain ⟨e1,h1,h1'⟩:=h.es
 obtain ⟨e2,h2,h2'⟩:=h.er
 exact ⟨h.tab.next hS,⟨e1,hS.oldc h1 (by simp),h1'⟩,⟨e2,hS.oldc h2 (by simp),h2'⟩⟩
theorem convU8 {n:Nat} (hn:n<256) (w:World):(convert 5 3 (.int .u8 (n:Int))).run Tryz.prog w= .ok (.int .i64 (n:Int)) w:=by
 have h:=run_convert_int (P:=Tryz.prog) w 5 3 .u8 (n:Int) (by kernel_rfl) (by kernel_rfl)
 rw [h]
 have h2:IntKind.i64.wrap (n:Int)=(n:Int):=by
  unfold IntKind.wrap
  simp [IntKind.signed,IntKind.bits]
  omega
 rw [show Tryz.prog.intKind 3= .i64 by kernel_rfl,h2]
open Go Go.Eng Go.Proofs
open Fm
abbrev kt (o:Option (Nat×List UInt8)):Value:=match o with
 | some t=> .tuple #[.int .u8 (t.1:Int),.string (str t.2)]
 | none=> .tuple #[.int .u8 0,.string (str [])]
open Go Go.Eng Go.Proofs
open Fm
def sgV :List Value:=signsL.map fun x=>Value.string (str x)
def SgW (w:World):Prop:=∀ j v,sgV[j]?=some v→w.cell? ⟨0,j,none⟩=some v
theorem SgW.next {w0 w:World} {C:List Chunk} (h:SgW w0) (hS:St w0 [] C w):SgW w:=fun j v hv=>hS.oldc (h j v hv) (by simp)
open Go Go.Eng Go.Proofs Dg
theorem RdSl.of_pt {α:Type} {cells:α→List Value} {sz:Nat} {w:World} {l:List α} {b:Nat} {e:TypeId} (hl:∀ x∈l,(cells x).length=sz) (h:(pt b (l.flatMap cells) e).ok w):RdSl cells sz w l (some ⟨b,0,none⟩):=fun i x hx=>by
 refine ⟨b,0,rfl,fun j u hu=>?_⟩
 rw [Nat.zero_add]
 exact cell_of_heap h (flat_at hl hx j u hu)
end Go.Proofs.YtedbajbgnmaakaaGreatDoor
namespace Go.Eng
open Go Go.RowKit
section
variable {P : Program} {w0 : World} {O : List Nat} {ops : Array Oper} {Q : Exit → Act → World → Prop} {N : Nat} {D : List Deferred} {L : FL} {C : List Chunk} {K : Act → World → Prop}
variable {d : Nat} {ty : TypeId} {pos : String} {af : Array Edge}
variable {κ : Type} [DecidableEq κ] {enc : κ → Value} {kt : TypeId}
end
end Go.Eng
namespace Go.Proofs.YtedbajbgnmaakaaGreatDoor
open Go Go.Eng Go.Proofs Dg
theorem mem_take_succ {l:List Nat} {i n x:Nat} (hx:l[i]?=some x) (h:n∉l.take i) (hne:n≠x):n∉l.take (i+1):=by
 rw [List.take_add_one,hx]
 simp [h,hne]
theorem rHas6_c (l:List Nat) (a:Option Addr) (c n:Nat) (hl:l.length≤1000000000000000) (w:World) (hr:RdN w l a):
  Pure Tryz.prog 87 [.slice a l.length c,.int .u32 (n:Int)] w (.bool (decide (n∈l))):=by
 refine enter Tryz.func87 rfl Tryz.ntmps87 rfl (St.init _) ?_
 refine jN 14 ?_
 refine WC.loop (α:=Nat) (fun i=>i≤l.length∧n∉l.take i) (fun i=>[(0,.slice a l.length c),(1,.int .u32 (n:Int)),(5,.int .i64 (i:Int))]) (fun _=>[]) (fun i=>l.length - i) (0) ?_ ?_ ?_ ?_
 ·exact ⟨Nat.zero_le _,by simp⟩
 ·exact ⟨rfl,rfl,rfl,trivial⟩
 ·rfl
 rintro i ⟨hi,hno⟩
 refine jN 13 ?_
 refine WC.cond rfl (fun h9=>?_) (fun h9=>?_)
 ·have hlt:i<l.length:=by simpa using h9
  obtain ⟨x,hx⟩:∃ z,l[i]?=some z:=⟨_,List.getElem?_eq_getElem hlt⟩
  obtain ⟨b,o,rfl,hcx⟩:=hr i x hx
  refine jN 11 ?_
  refine WL.indexAddr F.sl53 rfl rfl rfl hlt ?_
  refine jN 1 ?_
  refine WL.load1 F.one24 rfl rfl (v:= .int .u32 (x:Int)) (fun w hS=>hS.oldc (hcx 0 _ rfl) (by simp)) ?_
  refine jN 6 ?_
  refine WC.cond rfl (fun h17=>?_) (fun h17=>?_)
  ·have hnx:n=x:=by have h9:=beq_iff_eq.1 h17;omega
   have hb:decide (n∈l)=true:=decide_eq_true (by rw [hnx];exact List.mem_of_getElem? hx)
   refine jN 12 ?_
   exact WQ.ret (rs:=[.tmp 4]) rfl (.tmp rfl .nil) (fun w hS=>⟨by rw [hb];rfl,hS.sublist (List.nil_sublist _)⟩)
  have hne:n≠x:=by rintro rfl;simp at h17
  refine jN 11 ?_
  refine WQ.back (i+1) ?_ ?_ ?_ ?_
  ·exact ⟨hlt,mem_take_succ hx hno hne⟩
  ·omega
  ·exact ⟨rfl,rfl,rfl,trivial⟩
  rfl
 have hie:i=l.length:=by simp at h9;omega
 have hb:decide (n∈l)=false:=decide_eq_false (by rw [hie,List.take_length] at hno;exact hno)
 refine jN 12 ?_
 exact WQ.ret (rs:=[.tmp 4]) rfl (.tmp rfl .nil) (fun w hS=>⟨by rw [hb];rfl,hS.sublist (List.nil_sublist _)⟩)
structure OfG where
 i:Nat
 a:Option Addr
 c:Nat
set_option maxRecDepth 100000 in
theorem rOrder_c (x y:RtV) (hxk:x.x.k<256) (hyk:y.x.k<256) (hxp:x.x.p.length≤1000000000) (hyp:y.x.p.length≤1000000000) (w:World) (rx:RdC w x.x.p x.x.pa) (ry:RdC w y.x.p y.x.pa):
  Pure Tryz.prog 38 [.agg (rtC x).toArray,.agg (rtC y).toArray] w (.int .i64 (ordR x.x y.x)):=by
 refine enter Tryz.func38 rfl Tryz.ntmps38 rfl (St.init _) ?_
 refine jN 3 ?_
 refine WL.boxN rfl rfl (fun b2=>?_)
 refine jN 1 ?_
 refine WL.boxN rfl rfl (fun b3=>?_)
 refine jN 15 ?_
 refine WL.callV F.fun73 rfl rfl (fun w hS=>rPaths_c x.x.p y.x.p x.x.pa y.x.pa x.x.pc y.x.pc hxp hyp w (rx.next hS) (ry.next hS)) ?_
 refine jN 13 ?_
 refine WC.cond rfl (fun h12=>?_) (fun h12=>?_)
 ·have e:ordR x.x y.x=cmpP x.x.p y.x.p:=if_pos (by simpa using h12)
  refine jN 10 ?_
  exact WQ.ret (rs:=[.tmp 4]) rfl (.tmp rfl .nil) (fun w hS=>⟨by rw [e];rfl,hS.sublist (List.nil_sublist _)⟩)
 have hz:cmpP x.x.p y.x.p=0:=by simpa using h12
 refine jN 17 ?_
 refine WC.cond rfl (fun h18=>?_) (fun h18=>?_)
 ·have hk:x.x.k≠y.x.k:=by intro e;rw [e] at h18;simp at h18
  have e:ordR x.x y.x=(x.x.k:Int) - y.x.k:=by unfold ordR;rw [if_neg (by simp [hz]),if_pos hk]
  refine jN 7 ?_
  refine WL.convert rfl rfl (v:= .int .i64 (x.x.k:Int)) (fun w hS=>convU8 hxk w) ?_
  refine jN 5 ?_
  refine WL.convert rfl rfl (v:= .int .i64 (y.x.k:Int)) (fun w hS=>convU8 hyk w) ?_
  refine jN 1 ?_
  refine WL.bin (v:= .int .i64 ((x.x.k:Int) - y.x.k)) rfl rfl rfl (fun w=>run_subL (by omega) (by omega) _ _ _ w) ?_
  refine jN 6 ?_
  exact WQ.ret (rs:=[.tmp 4]) rfl (.tmp rfl .nil) (fun w hS=>⟨by rw [e];rfl,hS.sublist (List.nil_sublist _)⟩)
 have hk:x.x.k=y.x.k:=by simp at h18;omega
 have e:ordR x.x y.x=cmpS x.x.t y.x.t:=by unfold ordR;rw [if_neg (by simp [hz]),if_neg (by simp [hk])]
 refine jN 14 ?_
 refine WL.bin (v:= .bool (Op.bytesLess x.x.t y.x.t)) rfl rfl rfl (fun w=>run_lssS _ _ _ _ _ w) ?_
 refine jN 2 ?_
 refine WC.cond rfl (fun h30=>?_) (fun h30=>?_)
 ·have e2:cmpS x.x.t y.x.t= -1:=if_pos h30
  refine jN 8 ?_
  exact WQ.ret (rs:=[.tmp 4]) rfl (.tmp rfl .nil) (fun w hS=>⟨by rw [e,e2];rfl,hS.sublist (List.nil_sublist _)⟩)
 have hn:Op.bytesLess x.x.t y.x.t=false:=h30
 refine jN 14 ?_
 refine WL.bin (v:= .bool (!(Op.bytesLess x.x.t y.x.t||x.x.t==y.x.t))) rfl rfl rfl (fun w=>run_gtrS _ _ _ _ _ w) ?_
 refine jN 2 ?_
 refine WC.cond rfl (fun h35=>?_) (fun h35=>?_)
 have e2:cmpS x.x.t y.x.t=1:=by unfold cmpS;rw [hn] at h35 ⊢;simp at h35;simp [h35]
 refine jN 8 ?_
 rotate_left
 have e2:cmpS x.x.t y.x.t=0:=by unfold cmpS;rw [hn] at h35 ⊢;simp at h35;simp [h35]
 refine jN 9 ?_
 rotate_left
 all_goals
  exact WQ.ret (rs:=[.tmp 4]) rfl (.tmp rfl .nil) (fun w hS=>⟨by rw [e,e2];rfl,hS.sublist (List.nil_sublist _)⟩)
theorem convCode {n:Nat} (hn:n<256) (w:World):(convert 76 3 (.int .u8 (n:Int))).run Tryz.prog w= .ok (.int .i64 (n:Int)) w:=by
 have h:=run_convert_int (P:=Tryz.prog) w 76 3 .u8 (n:Int) (by kernel_rfl) (by kernel_rfl)
 rw [h]
 have h2:IntKind.i64.wrap (n:Int)=(n:Int):=by
  unfold IntKind.wrap
  simp [IntKind.signed,IntKind.bits]
  omega
 rw [show Tryz.prog.intKind 3= .i64 by kernel_rfl,h2]
set_option maxRecDepth 100000 in
theorem rOrderG_c (x y:RgV) (hxk:x.x.k<256) (hyk:y.x.k<256) (hxp:x.x.p.length≤1000000000) (hyp:y.x.p.length≤1000000000) (w:World) (rx:RdC w x.x.p x.x.pa) (ry:RdC w y.x.p y.x.pa):
  Pure Tryz.prog 39 [.agg (rgC x).toArray,.agg (rgC y).toArray] w (.int .i64 (ordG x.x y.x)):=by
 refine enter Tryz.func39 rfl Tryz.ntmps39 rfl (St.init _) ?_
 refine jN 3 ?_
 refine WL.boxN rfl rfl (fun b2=>?_)
 refine jN 1 ?_
 refine WL.boxN rfl rfl (fun b3=>?_)
 refine jN 15 ?_
 refine WL.callV F.fun73 rfl rfl (fun w hS=>rPaths_c x.x.p y.x.p x.x.pa y.x.pa x.x.pc y.x.pc hxp hyp w (rx.next hS) (ry.next hS)) ?_
 refine jN 13 ?_
 refine WC.cond rfl (fun h12=>?_) (fun h12=>?_)
 have e:ordG x.x y.x=cmpP x.x.p y.x.p:=if_pos (by simpa using h12)
 refine jN 10 ?_
 rotate_left
 have hz:cmpP x.x.p y.x.p=0:=by simpa using h12
 have e:ordG x.x y.x=(x.x.k:Int) - y.x.k:=by unfold ordG;rw [if_neg (by simp [hz])]
 refine jN 9 ?_
 refine WL.convert rfl rfl (v:= .int .i64 (x.x.k:Int)) (fun w hS=>convCode hxk w) ?_
 refine jN 5 ?_
 refine WL.convert rfl rfl (v:= .int .i64 (y.x.k:Int)) (fun w hS=>convCode hyk w) ?_
 refine jN 1 ?_
 refine WL.bin (v:= .int .i64 ((x.x.k:Int) - y.x.k)) rfl rfl rfl (fun w=>run_subL (by omega) (by omega) _ _ _ w) ?_
 refine jN 5 ?_
 rotate_left
 all_goals
  exact WQ.ret (rs:=[.tmp 4]) rfl (.tmp rfl .nil) (fun w hS=>⟨by rw [e];rfl,hS.sublist (List.nil_sublist _)⟩)
def meetN (l m:List Nat):List Nat:=l.filter fun n=>decide (n∈m)
set_option maxRecDepth 100000 in
theorem rMeet_c (l m:List Nat) (la ma:Option Addr) (lc mc:Nat) (hl:l.length≤4294967296) (hml:m.length≤1000000000000000) (w:World) (h1:RdN w l la) (h2:RdN w m ma):
  Calls Tryz.prog 46 [.slice la l.length lc,.slice ma m.length mc].toArray w fun e w'=>∃ x:Option Addr×Nat,e= .returned (.slice x.1 (meetN l m).length x.2)∧St w [] [rowc (.slice x.1 (meetN l m).length x.2) (meetN l m).length 24 1 ((meetN l m).flatMap nC)] w':=by
 refine enter Tryz.func46 rfl Tryz.ntmps46 rfl (St.init _) ?_
 refine jN 20 ?_
 refine WC.chunks (C':=[rowc (.slice none 0 0) 0 24 1 []]) (fun w hS=>(jK (hS.rowNil 24 1))) ?_
 refine WC.loop (α:=OfG) (fun g=>g.i≤l.length) (fun g=>[(0,.slice la l.length lc),(1,.slice ma m.length mc),(5,.slice g.a ((l.take g.i).filter fun n=>decide (n∈m)).length g.c),(6,.int .i64 (g.i:Int))]) (fun g=>[rowc (.slice g.a ((l.take g.i).filter fun n=>decide (n∈m)).length g.c) ((l.take g.i).filter fun n=>decide (n∈m)).length 24 1 (((l.take g.i).filter fun n=>decide (n∈m)).flatMap nC)]) (fun g=>l.length - g.i) (⟨0,none,0⟩) ?_ ?_ ?_ ?_
 ·exact Nat.zero_le _
 ·exact ⟨rfl,rfl,rfl,rfl,trivial⟩
 ·rfl
 rintro ⟨i,a,c⟩ hi
 dsimp only at hi
 show WC _ _ _ _ _ _ _ [(0,.slice la l.length lc),(1,.slice ma m.length mc),(5,.slice a ((l.take i).filter fun n=>decide (n∈m)).length c),(6,.int .i64 (i:Int))] [rowc (.slice a ((l.take i).filter fun n=>decide (n∈m)).length c) ((l.take i).filter fun n=>decide (n∈m)).length 24 1 (((l.take i).filter fun n=>decide (n∈m)).flatMap nC)]
 have hln:((l.take i).filter fun n=>decide (n∈m)).length≤i:=Nat.le_trans (List.length_filter_le _ _) (List.length_take_le _ _)
 refine jN 13 ?_
 refine WC.cond rfl (fun h10=>?_) (fun h10=>?_)
 ·have hlt:i<l.length:=by simpa using h10
  obtain ⟨x,hx⟩:∃ z,l[i]?=some z:=⟨_,List.getElem?_eq_getElem hlt⟩
  obtain ⟨b,o,rfl,hcx⟩:=h1 i x hx
  refine jN 13 ?_
  refine WL.indexAddr F.sl53 rfl rfl rfl hlt ?_
  refine jN 1 ?_
  refine WL.load1 F.one24 rfl rfl (v:= .int .u32 (x:Int)) (fun w hS=>hS.oldc (hcx 0 _ rfl) (by simp)) ?_
  refine jN 1 ?_
  refine WL.callV F.fun87 rfl rfl (fun w hS=>rHas6_c m ma mc x hml w (h2.next hS)) ?_
  refine jN 2 ?_
  refine WC.cond rfl (fun h18=>?_) (fun h18=>?_)
  ·refine jN 8 ?_
   refine WL.indexAddr F.sl53 rfl rfl rfl hlt ?_
   refine jN 1 ?_
   refine WL.load1 F.one24 rfl rfl (v:= .int .u32 (x:Int)) (fun w hS=>hS.oldc (hcx 0 _ rfl) (by simp)) ?_
   refine jN 1 ?_
   refine WL.buildSlice F.sl53 F.ez53 rfl rfl rfl rfl jB rfl (fun b24=>?_)
   refine jN 1 ?_
   refine WL.appendE (news:=[.int .u32 (x:Int)]) F.el53 rfl rfl rfl jR (fun w hS jj u hu=>by rw [Nat.zero_add];exact hS.cell (cs:=[.int .u32 (x:Int)]) jM hu) rfl jO (Nat.le_trans (m:=8589934592) (by omega) (by decide)) (by omega) (fun a2 c2=>?_)
   refine jN 13 ?_
   refine WQ.chunks (C':=[rowc (.slice a2 (((l.take i).filter fun n=>decide (n∈m)).length+1) c2) (((l.take i).filter fun n=>decide (n∈m)).length+1) 24 1 (((l.take i).filter fun n=>decide (n∈m)).flatMap nC++[.int .u32 (x:Int)])]) (fun w hS=>(jK hS)) ?_
   have hs:((l.take (i+1)).filter fun n=>decide (n∈m))=((l.take i).filter fun n=>decide (n∈m))++[x]:=filter_take_T (fun n=>decide (n∈m)) hx h18
   refine WQ.back (⟨i+1,a2,c2⟩:OfG) ?_ ?_ ?_ ?_
   ·show i+1≤l.length;omega
   ·show l.length - (i+1)<l.length - i;omega
   ·simp only [hs,List.length_append,List.length_cons,List.length_nil];exact ⟨rfl,rfl,rfl,rfl,trivial⟩
   simp only [hs,List.length_append,List.length_cons,List.length_nil,List.flatMap_append];rfl
  refine jN 11 ?_
  refine WQ.chunks (C':=[rowc (.slice a ((l.take i).filter fun n=>decide (n∈m)).length c) ((l.take i).filter fun n=>decide (n∈m)).length 24 1 (((l.take i).filter fun n=>decide (n∈m)).flatMap nC)]) (fun w hS=>(jK hS)) ?_
  have hs:((l.take (i+1)).filter fun n=>decide (n∈m))=((l.take i).filter fun n=>decide (n∈m)):=filter_take_F (fun n=>decide (n∈m)) hx h18
  refine WQ.back (⟨i+1,a,c⟩:OfG) ?_ ?_ ?_ ?_
  ·show i+1≤l.length;omega
  ·show l.length - (i+1)<l.length - i;omega
  ·simp only [hs];exact ⟨rfl,rfl,rfl,rfl,trivial⟩
  simp only [hs]
 have hie:i=l.length:=by simp at h10;omega
 subst hie
 rw [List.take_length]
 refine jN 14 ?_
 exact WQ.ret (rs:=[.tmp 4]) rfl (.tmp rfl .nil) (fun w hS=>⟨(a,c),rfl,hS⟩)
abbrev dvv (v:DV):Value:=dval v.1 v.2.1 v.2.2
section
variable {w0 : World} {O : List Nat} {C : List Chunk}
theorem _root_.Go.Eng.St.dsApp {w:World} {F G:List Nat} {l m:List DV} (h:St w0 O (dsC F l::dsC G m::C) w):St w0 O (dsC (F++G) (l++m)::C) w:=by
 refine h.join (fun k hk=>?_) (fun hc hd _=>?_)
 ·have hk':k∈F++G:=hk
  exact List.mem_append.1 hk'
 intro x hx
 rcases List.mem_append.1 hx with hx | hx
 ·obtain ⟨h1,h2⟩:=hc x hx
  exact ⟨h1,fun j u hu=>by
   obtain ⟨b,off,e1,e2,e3⟩:=h2 j u hu
   exact ⟨b,off,e1,e2,List.mem_append_left _ e3⟩⟩
 obtain ⟨h1,h2⟩:=hd x hx
 exact ⟨h1,fun j u hu=>by
  obtain ⟨b,off,e1,e2,e3⟩:=h2 j u hu
  exact ⟨b,off,e1,e2,List.mem_append_right _ e3⟩⟩
end
open Go Go.Eng Go.Proofs Dg
section
variable {w0 : World} {O : List Nat} {Q : Exit → Act → World → Prop} {K : Act → World → Prop} {N : Nat} {D : List Deferred} {L : FL} {C : List Chunk}
theorem After_ret {d:Nat} {v:Value} (h:WA w0 O K N D ((d,v)::L) C):After w0 O Q K N D L (some d) C (.returned v):=h
end
open Go Go.Eng Go.Proofs Dg
theorem run_subK {i k s:Nat} (h:i+k=s) (hs:s<1000000000000000000) (t:TypeId) (x y:Operand) (w:World):
  (do eqGuard .sub t x y (.int .i64 (s:Int)) (.int .i64 (i:Int));binOp .sub t (.int .i64 (s:Int)) (.int .i64 (i:Int)):Sem Value).run Tryz.prog w= .ok (.int .i64 (k:Int)) w:=by
 have h2:IntKind.i64.wrap ((s:Int) - (i:Int))=(k:Int):=by
  unfold IntKind.wrap
  simp [IntKind.signed,IntKind.bits]
  omega
 simp [eqGuard,binOp,Op.intArith,h2]
section
variable {w0 : World} {O : List Nat} {K : Act → World → Prop} {N : Nat} {D : List Deferred} {L : FL} {C : List Chunk}
theorem WA.chunksE {α:Type} {C':α→List Chunk} (hs:∀ w,St w0 O C w→∃ x,St w0 O (C' x) w) (h:∀ x,WA w0 O K N D L (C' x)):WA w0 O K N D L C:=fun a w hF hS=>by
 obtain ⟨x,hx⟩:=hs w hS
 exact h x a w hF hx
end
open Go Go.Eng Go.Proofs Dg
def okAt {α:Type} (ne:α→Bool) (c:α→α→Int) (l:List α) (i:Nat):Bool:=match l[i]? with
 | none=>true
 | some x=>ne x&&(match i with
  | 0=>true
  | j+1=>match l[j]? with
   | none=>true
   | some y=>decide (c y x<0))
def risB {α:Type} (ne:α→Bool) (c:α→α→Int) (l:List α):Bool:=(List.range l.length).all (okAt ne c l)
theorem okAt_0 {α:Type} {ne:α→Bool} {c:α→α→Int} {l:List α} {x:α} (h:l[0]?=some x):okAt ne c l 0=ne x:=by
 unfold okAt
 rw [h]
 simp
theorem okAt_s {α:Type} {ne:α→Bool} {c:α→α→Int} {l:List α} {j:Nat} {x y:α} (h:l[j+1]?=some x) (hy:l[j]?=some y):okAt ne c l (j+1)=(ne x&&decide (c y x<0)):=by
 unfold okAt
 rw [h]
 simp only [hy]
theorem okAt_ne {α:Type} {ne:α→Bool} {c:α→α→Int} {l:List α} {i:Nat} {x:α} (h:l[i]?=some x) (hn:ne x=false):okAt ne c l i=false:=by
 unfold okAt
 rw [h]
 simp [hn]
theorem ris_step {α:Type} {ne:α→Bool} {c:α→α→Int} {l:List α} {i:Nat} (h:(List.range i).all (okAt ne c l)=true) (hi:okAt ne c l i=true):(List.range (i+1)).all (okAt ne c l)=true:=by
 rw [List.range_succ,List.all_append,h]
 simp [hi]
theorem ris_no {α:Type} {ne:α→Bool} {c:α→α→Int} {l:List α} {i:Nat} (hl:i<l.length) (hi:okAt ne c l i=false):risB ne c l=false:=by
 unfold risB
 rw [Bool.eq_false_iff]
 intro h
 rw [List.all_eq_true] at h
 rw [h i (List.mem_range.2 hl)] at hi
 cases hi
abbrev neR (r:RtV):Bool:=decide (r.c≠[])
abbrev neG (r:RgV):Bool:=decide (r.c≠[])
abbrev orR (x y:RtV):Int:=ordR x.x y.x
abbrev orG (x y:RgV):Int:=ordG x.x y.x
set_option maxRecDepth 100000 in
theorem rValid_c (l:List RtV) (g:List RgV) (la ga:Option Addr) (lc gc:Nat) (hl:l.length≤1000) (hg:g.length≤1000) (hk1:∀ t∈l,t.x.k<256) (hk2:∀ t∈g,t.x.k<256) (w:World) (h1:RsR w l la) (h2:HsR w g ga):
  Pure Tryz.prog 9 [.agg [.slice la l.length lc,.slice ga g.length gc].toArray] w (.bool (risB neR orR l&&risB neG orG g)):=by
 refine enter Tryz.func9 rfl Tryz.ntmps9 rfl (St.init _) ?_
 refine jN 3 ?_
 refine WL.boxN rfl rfl (fun b1=>?_)
 refine jN 12 ?_
 refine WC.chunks (C':=[pt b1 [.slice la l.length lc,.slice ga g.length gc] 37]) (fun w hS=>(jK hS)) ?_
 refine WC.loop (α:=Nat) (fun i=>i≤l.length∧(List.range i).all (okAt neR orR l)=true) (fun i=>[(1,pp b1),(3,.int .i64 (i:Int))]) (fun _=>[pt b1 [.slice la l.length lc,.slice ga g.length gc] 37]) (fun i=>l.length - i) (0) ?_ ?_ ?_ ?_
 ·exact ⟨Nat.zero_le _,rfl⟩
 ·exact ⟨rfl,rfl,trivial⟩
 ·rfl
 rintro i ⟨hi,hk⟩
 show WC _ _ _ _ _ _ _ [(1,pp b1),(3,.int .i64 (i:Int))] [pt b1 [.slice la l.length lc,.slice ga g.length gc] 37]
 refine jN 15 ?_
 refine WC.cond rfl (fun hc1=>?_) (fun hc1=>?_)
 ·have hlt:i<l.length:=by simpa using hc1
  refine jN 5 ?_
  rcases i with _ | j
  ·obtain ⟨x,hx⟩:∃ z,l[0]?=some z:=⟨_,List.getElem?_eq_getElem hlt⟩
   have hxm:=List.mem_of_getElem? hx
   obtain ⟨b,o,hla,hcx⟩:=h1.r 0 x hx
   subst hla
   refine WC.drawsL (by kernel_rfl) (FactsOk.cons (ds:=[]) (LoadOk.one (t:=1) (off:=0) rfl jM rfl) (FactsOk.cons (ds:=[]) (LoadOk.by (Y:=fun w=>w.cell? ⟨b,o+0*6+5,none⟩=some (.slice x.ca x.c.length x.cc)) (fun w hS=>hS.oldc (hcx 5 _ rfl) (by simp))) (FactsOk.nil))) ?_
   refine jT 0 rfl (Yl.fieldAddr0 F.fld37_0 rfl) ?_
   refine jF 1 0 rfl rfl (Yl.load1 F.one34 rfl) ?_
   refine jQ [2] ?_
   refine jT 3 rfl (Yl.indexAddr F.sl34 rfl rfl hlt) ?_
   refine jT 4 rfl (Yl.fieldAddr F.fld93_5 rfl) ?_
   refine jF 5 1 rfl rfl (Yl.load1 F.one53 rfl) ?_
   refine jT 6 rfl (Yl.lenSl F.und53 rfl) ?_
   refine jQ [7,8] ?_
   refine fun hcl=>WA.splitB (i:=20) rfl (fun g20=>?_) (fun g20=>?_)
   ·refine (show WD _ _ _ _ _ _ _ _ _ _ _ _ from ?_) hcl
    have hne:neR x=false:=decide_eq_false (by simp;simpa using g20)
    have hok:okAt neR orR l 0=false:=okAt_ne hx hne
    refine jQ [9,10,11,12,13,14,15,16,17,18,19,20,21,22,23,24,25,26] ?_
    refine jD ?_
    refine jN 14 ?_
    exact WQ.ret (rs:=[.tmp 2]) rfl (.tmp rfl .nil) (fun w hS=>⟨by rw [ris_no hlt hok];rfl,hS.sublist (List.nil_sublist _)⟩)
   refine (show WD _ _ _ _ _ _ _ _ _ _ _ _ from ?_) hcl
   have hne:neR x=true:=decide_eq_true (by intro e;rw [e] at g20;simp at g20)
   have hok:okAt neR orR l 0=true:=by rw [okAt_0 hx];exact hne
   refine jQ [9,10,11] ?_
   refine fun hcl=>WA.splitB (i:=23) rfl (fun g23=>?_) (fun g23=>?_)
   ·refine (show WD _ _ _ _ _ _ _ _ _ _ _ _ from ?_) hcl
    exfalso;simp at g23
   refine (show WD _ _ _ _ _ _ _ _ _ _ _ _ from ?_) hcl
   refine jQ [12,13,14,15,16,17,18,19,20,21,22,23,24,25,26] ?_
   refine jD ?_
   refine jN 13 ?_
   refine WQ.chunks (C':=[pt b1 [.slice (some ⟨b,o,none⟩) l.length lc,.slice ga g.length gc] 37]) (fun w hS=>(jK hS)) ?_
   refine WQ.back (0+1) ?_ ?_ ?_ ?_
   ·exact ⟨by omega,ris_step hk hok⟩
   ·omega
   ·exact ⟨rfl,rfl,trivial⟩
   rfl
  obtain ⟨x,hx⟩:∃ z,l[j+1]?=some z:=⟨_,List.getElem?_eq_getElem hlt⟩
  have hxm:=List.mem_of_getElem? hx
  obtain ⟨b,o,hla,hcx⟩:=h1.r (j+1) x hx
  subst hla
  obtain ⟨y,hy⟩:∃ z,l[j]?=some z:=⟨_,List.getElem?_eq_getElem (by omega)⟩
  have hym:=List.mem_of_getElem? hy
  obtain ⟨b9,o9,hb9,hcy⟩:=h1.r j y hy
  simp only [Option.some.injEq,Addr.mk.injEq,and_true] at hb9
  obtain ⟨rfl,rfl⟩:=hb9
  refine WC.drawsL (by kernel_rfl) (FactsOk.cons (ds:=[]) (LoadOk.one (t:=1) (off:=0) rfl jM rfl) (FactsOk.cons (ds:=[]) (LoadOk.by (Y:=fun w=>w.cell? ⟨b,o+(j+1)*6+5,none⟩=some (.slice x.ca x.c.length x.cc)) (fun w hS=>hS.oldc (hcx 5 _ rfl) (by simp))) (FactsOk.cons (ds:=[]) (LoadOk.one (t:=1) (off:=0) rfl jM rfl) (FactsOk.cons (ds:=[]) (LoadOk.by (Y:=fun w=>∀ jj v,(rtC y)[jj]?=some v→w.cell? ⟨b,o+j*6+jj,none⟩=some v) (fun w hS=>(fun jj v hv=>hS.oldc (hcy jj v hv) (by simp)))) (FactsOk.cons (ds:=[]) (LoadOk.one (t:=1) (off:=0) rfl jM rfl) (FactsOk.cons (ds:=[]) (LoadOk.by (Y:=fun w=>∀ jj v,(rtC x)[jj]?=some v→w.cell? ⟨b,o+(j+1)*6+jj,none⟩=some v) (fun w hS=>(fun jj v hv=>hS.oldc (hcx jj v hv) (by simp)))) (FactsOk.nil))))))) ?_
  refine jT 0 rfl (Yl.fieldAddr0 F.fld37_0 rfl) ?_
  refine jF 1 0 rfl rfl (Yl.load1 F.one34 rfl) ?_
  refine jQ [2] ?_
  refine jT 3 rfl (Yl.indexAddr F.sl34 rfl rfl hlt) ?_
  refine jT 4 rfl (Yl.fieldAddr F.fld93_5 rfl) ?_
  refine jF 5 1 rfl rfl (Yl.load1 F.one53 rfl) ?_
  refine jT 6 rfl (Yl.lenSl F.und53 rfl) ?_
  refine jQ [7,8] ?_
  refine fun hcl=>WA.splitB (i:=20) rfl (fun g20=>?_) (fun g20=>?_)
  ·refine (show WD _ _ _ _ _ _ _ _ _ _ _ _ from ?_) hcl
   have hne:neR x=false:=decide_eq_false (by simp;simpa using g20)
   have hok:okAt neR orR l (j+1)=false:=okAt_ne hx hne
   refine jQ [9,10,11,12,13,14,15,16,17,18,19,20,21,22,23,24,25,26] ?_
   refine jD ?_
   refine jN 14 ?_
   exact WQ.ret (rs:=[.tmp 2]) rfl (.tmp rfl .nil) (fun w hS=>⟨by rw [ris_no hlt hok];rfl,hS.sublist (List.nil_sublist _)⟩)
  refine (show WD _ _ _ _ _ _ _ _ _ _ _ _ from ?_) hcl
  have hne:neR x=true:=decide_eq_true (by intro e;rw [e] at g20;simp at g20)
  refine jQ [9,10,11] ?_
  refine fun hcl=>WA.splitB (i:=23) rfl (fun g23=>?_) (fun g23=>?_)
  ·refine (show WD _ _ _ _ _ _ _ _ _ _ _ _ from ?_) hcl
   refine WD.takeG (i:=12) rfl rfl rfl rfl rfl rfl (by decide+kernel) (by decide+kernel) (by decide+kernel) (fun _ _ _ h=>h) (by kernel_rfl) need_none (Yl.fieldAddr0 F.fld37_0 rfl) ?_
   refine WD.takeG (i:=13) rfl rfl rfl rfl rfl rfl (by decide+kernel) (by decide+kernel) (by decide+kernel) (fun _ _ _ h=>h) (by kernel_rfl) (need_at2 2 rfl (by decide+kernel)) (Yl.load1 F.one34 rfl) ?_
   refine jQ [14] ?_
   refine WD.takeG (i:=15) rfl rfl rfl rfl rfl rfl (by decide+kernel) (by decide+kernel) (by decide+kernel) (fun _ _ _ h=>h) (by kernel_rfl) need_none (Yl.bin (v:= .int .i64 (j:Int)) rfl rfl (fun w=>run_subK (i:=1) (k:=j) (s:=j+1) (by omega) (by omega) _ _ _ w)) ?_
   refine WD.takeG (i:=16) rfl rfl rfl rfl rfl rfl (by decide+kernel) (by decide+kernel) (by decide+kernel) (fun _ _ _ h=>h) (by kernel_rfl) need_none (Yl.indexAddr F.sl34 rfl rfl (by omega)) ?_
   refine WD.takeG (i:=17) rfl rfl rfl rfl rfl rfl (by decide+kernel) (by decide+kernel) (by decide+kernel) (fun _ _ _ h=>h) (by kernel_rfl) (need_at2 3 rfl (by decide+kernel)) (Yl.loadN F.agg93 rfl rfl) ?_
   refine WD.takeG (i:=18) rfl rfl rfl rfl rfl rfl (by decide+kernel) (by decide+kernel) (by decide+kernel) (fun _ _ _ h=>h) (by kernel_rfl) need_none (Yl.fieldAddr0 F.fld37_0 rfl) ?_
   refine WD.takeG (i:=19) rfl rfl rfl rfl rfl rfl (by decide+kernel) (by decide+kernel) (by decide+kernel) (fun _ _ _ h=>h) (by kernel_rfl) (need_at2 4 rfl (by decide+kernel)) (Yl.load1 F.one34 rfl) ?_
   refine jQ [20] ?_
   refine WD.takeG (i:=21) rfl rfl rfl rfl rfl rfl (by decide+kernel) (by decide+kernel) (by decide+kernel) (fun _ _ _ h=>h) (by kernel_rfl) need_none (Yl.indexAddr F.sl34 rfl rfl hlt) ?_
   refine WD.takeG (i:=22) rfl rfl rfl rfl rfl rfl (by decide+kernel) (by decide+kernel) (by decide+kernel) (fun _ _ _ h=>h) (by kernel_rfl) (need_at2 5 rfl (by decide+kernel)) (Yl.loadN F.agg93 rfl rfl) ?_
   refine jA 23 rfl ?_
   refine WL.guardT rfl rfl rfl ?_
   refine WL.callV F.fun38 rfl rfl (fun w hS=>rOrder_c y x (hk1 y hym) (hk1 x hxm) (h1.p y hym).2 (h1.p x hxm).2 w ((h1.p y hym).1.next hS) ((h1.p x hxm).1.next hS)) ?_
   refine WD.on (closed_of (by decide+kernel)) (fun w hS=>Sx.keep (hS.cell jM rfl) (Sx.keep (hS.oldc (hcx 5 _ rfl) (by simp)) (Sx.keep (hS.cell jM rfl) (Sx.keep ((fun jj v hv=>hS.oldc (hcy jj v hv) (by simp))) (Sx.keep (hS.cell jM rfl) (Sx.keep ((fun jj v hv=>hS.oldc (hcx jj v hv) (by simp))) (Sx.none))))))) ?_
   refine jQ [24,25,26] ?_
   refine jD ?_
   refine jN 1 ?_
   refine WC.cond rfl (fun hz1=>?_) (fun hz1=>?_)
   ·have hok:okAt neR orR l (j+1)=false:=by rw [okAt_s hx hy,decide_eq_false (by have h9:decide _=true:=hz1;simp at h9;(show ¬ ordR y.x x.x<0);omega),Bool.and_false]
    refine jN 12 ?_
    exact WQ.ret (rs:=[.tmp 2]) rfl (.tmp rfl .nil) (fun w hS=>⟨by rw [ris_no hlt hok];rfl,hS.sublist (List.nil_sublist _)⟩)
   have hok:okAt neR orR l (j+1)=true:=by rw [okAt_s hx hy,hne,decide_eq_true (by have h9:decide _=false:=hz1;simp at h9;(show ordR y.x x.x<0);omega)];rfl
   refine jN 11 ?_
   refine WQ.chunks (C':=[pt b1 [.slice (some ⟨b,o,none⟩) l.length lc,.slice ga g.length gc] 37]) (fun w hS=>(jK hS)) ?_
   refine WQ.back (j+1+1) ?_ ?_ ?_ ?_
   ·exact ⟨by omega,ris_step hk hok⟩
   ·omega
   ·exact ⟨rfl,rfl,trivial⟩
   rfl
  refine (show WD _ _ _ _ _ _ _ _ _ _ _ _ from ?_) hcl
  exfalso;simp at g23;try omega
 have hie:i=l.length:=by simp at hc1;omega
 have hb1:risB neR orR l=true:=by unfold risB;rw [← hie];exact hk
 refine jN 13 ?_
 refine WC.chunks (C':=[pt b1 [.slice la l.length lc,.slice ga g.length gc] 37]) (fun w hS=>(jK hS)) ?_
 refine WC.loop (α:=Nat) (fun i=>i≤g.length∧(List.range i).all (okAt neG orG g)=true) (fun i=>[(1,pp b1),(4,.int .i64 (i:Int))]) (fun _=>[pt b1 [.slice la l.length lc,.slice ga g.length gc] 37]) (fun i=>g.length - i) (0) ?_ ?_ ?_ ?_
 ·exact ⟨Nat.zero_le _,rfl⟩
 ·exact ⟨rfl,rfl,trivial⟩
 ·rfl
 rintro i ⟨hi,hk⟩
 show WC _ _ _ _ _ _ _ [(1,pp b1),(4,.int .i64 (i:Int))] [pt b1 [.slice la l.length lc,.slice ga g.length gc] 37]
 refine jN 15 ?_
 refine WC.cond rfl (fun hc2=>?_) (fun hc2=>?_)
 ·have hlt:i<g.length:=by simpa using hc2
  refine jN 5 ?_
  rcases i with _ | j
  ·obtain ⟨x,hx⟩:∃ z,g[0]?=some z:=⟨_,List.getElem?_eq_getElem hlt⟩
   have hxm:=List.mem_of_getElem? hx
   obtain ⟨b,o,hga,hcx⟩:=h2.r 0 x hx
   subst hga
   refine WC.drawsL (by kernel_rfl) (FactsOk.cons (ds:=[]) (LoadOk.one (t:=1) (off:=1) rfl jM rfl) (FactsOk.cons (ds:=[]) (LoadOk.by (Y:=fun w=>w.cell? ⟨b,o+0*5+4,none⟩=some (.slice x.ca x.c.length x.cc)) (fun w hS=>hS.oldc (hcx 4 _ rfl) (by simp))) (FactsOk.nil))) ?_
   refine jT 0 rfl (Yl.fieldAddr0 F.fld37_1 rfl) ?_
   refine jF 1 0 rfl rfl (Yl.load1 F.one35 rfl) ?_
   refine jQ [2] ?_
   refine jT 3 rfl (Yl.indexAddr F.sl35 rfl rfl hlt) ?_
   refine jT 4 rfl (Yl.fieldAddr F.fld97_4 rfl) ?_
   refine jF 5 1 rfl rfl (Yl.load1 F.one53 rfl) ?_
   refine jT 6 rfl (Yl.lenSl F.und53 rfl) ?_
   refine jQ [7,8] ?_
   refine fun hcl=>WA.splitB (i:=54) rfl (fun g54=>?_) (fun g54=>?_)
   ·refine (show WD _ _ _ _ _ _ _ _ _ _ _ _ from ?_) hcl
    have hne:neG x=false:=decide_eq_false (by simp;simpa using g54)
    have hok:okAt neG orG g 0=false:=okAt_ne hx hne
    refine jQ [9,10,11,12,13,14,15,16,17,18,19,20,21,22,23,24,25,26] ?_
    refine jD ?_
    refine jN 14 ?_
    exact WQ.ret (rs:=[.tmp 2]) rfl (.tmp rfl .nil) (fun w hS=>⟨by rw [hb1,ris_no hlt hok];rfl,hS.sublist (List.nil_sublist _)⟩)
   refine (show WD _ _ _ _ _ _ _ _ _ _ _ _ from ?_) hcl
   have hne:neG x=true:=decide_eq_true (by intro e;rw [e] at g54;simp at g54)
   have hok:okAt neG orG g 0=true:=by rw [okAt_0 hx];exact hne
   refine jQ [9,10,11] ?_
   refine fun hcl=>WA.splitB (i:=57) rfl (fun g57=>?_) (fun g57=>?_)
   ·refine (show WD _ _ _ _ _ _ _ _ _ _ _ _ from ?_) hcl
    exfalso;simp at g57
   refine (show WD _ _ _ _ _ _ _ _ _ _ _ _ from ?_) hcl
   refine jQ [12,13,14,15,16,17,18,19,20,21,22,23,24,25,26] ?_
   refine jD ?_
   refine jN 13 ?_
   refine WQ.chunks (C':=[pt b1 [.slice la l.length lc,.slice (some ⟨b,o,none⟩) g.length gc] 37]) (fun w hS=>(jK hS)) ?_
   refine WQ.back (0+1) ?_ ?_ ?_ ?_
   ·exact ⟨by omega,ris_step hk hok⟩
   ·omega
   ·exact ⟨rfl,rfl,trivial⟩
   rfl
  obtain ⟨x,hx⟩:∃ z,g[j+1]?=some z:=⟨_,List.getElem?_eq_getElem hlt⟩
  have hxm:=List.mem_of_getElem? hx
  obtain ⟨b,o,hga,hcx⟩:=h2.r (j+1) x hx
  subst hga
  obtain ⟨y,hy⟩:∃ z,g[j]?=some z:=⟨_,List.getElem?_eq_getElem (by omega)⟩
  have hym:=List.mem_of_getElem? hy
  obtain ⟨b9,o9,hb9,hcy⟩:=h2.r j y hy
  simp only [Option.some.injEq,Addr.mk.injEq,and_true] at hb9
  obtain ⟨rfl,rfl⟩:=hb9
  refine WC.drawsL (by kernel_rfl) (FactsOk.cons (ds:=[]) (LoadOk.one (t:=1) (off:=1) rfl jM rfl) (FactsOk.cons (ds:=[]) (LoadOk.by (Y:=fun w=>w.cell? ⟨b,o+(j+1)*5+4,none⟩=some (.slice x.ca x.c.length x.cc)) (fun w hS=>hS.oldc (hcx 4 _ rfl) (by simp))) (FactsOk.cons (ds:=[]) (LoadOk.one (t:=1) (off:=1) rfl jM rfl) (FactsOk.cons (ds:=[]) (LoadOk.by (Y:=fun w=>∀ jj v,(rgC y)[jj]?=some v→w.cell? ⟨b,o+j*5+jj,none⟩=some v) (fun w hS=>(fun jj v hv=>hS.oldc (hcy jj v hv) (by simp)))) (FactsOk.cons (ds:=[]) (LoadOk.one (t:=1) (off:=1) rfl jM rfl) (FactsOk.cons (ds:=[]) (LoadOk.by (Y:=fun w=>∀ jj v,(rgC x)[jj]?=some v→w.cell? ⟨b,o+(j+1)*5+jj,none⟩=some v) (fun w hS=>(fun jj v hv=>hS.oldc (hcx jj v hv) (by simp)))) (FactsOk.nil))))))) ?_
  refine jT 0 rfl (Yl.fieldAddr0 F.fld37_1 rfl) ?_
  refine jF 1 0 rfl rfl (Yl.load1 F.one35 rfl) ?_
  refine jQ [2] ?_
  refine jT 3 rfl (Yl.indexAddr F.sl35 rfl rfl hlt) ?_
  refine jT 4 rfl (Yl.fieldAddr F.fld97_4 rfl) ?_
  refine jF 5 1 rfl rfl (Yl.load1 F.one53 rfl) ?_
  refine jT 6 rfl (Yl.lenSl F.und53 rfl) ?_
  refine jQ [7,8] ?_
  refine fun hcl=>WA.splitB (i:=54) rfl (fun g54=>?_) (fun g54=>?_)
  ·refine (show WD _ _ _ _ _ _ _ _ _ _ _ _ from ?_) hcl
   have hne:neG x=false:=decide_eq_false (by simp;simpa using g54)
   have hok:okAt neG orG g (j+1)=false:=okAt_ne hx hne
   refine jQ [9,10,11,12,13,14,15,16,17,18,19,20,21,22,23,24,25,26] ?_
   refine jD ?_
   refine jN 14 ?_
   exact WQ.ret (rs:=[.tmp 2]) rfl (.tmp rfl .nil) (fun w hS=>⟨by rw [hb1,ris_no hlt hok];rfl,hS.sublist (List.nil_sublist _)⟩)
  refine (show WD _ _ _ _ _ _ _ _ _ _ _ _ from ?_) hcl
  have hne:neG x=true:=decide_eq_true (by intro e;rw [e] at g54;simp at g54)
  refine jQ [9,10,11] ?_
  refine fun hcl=>WA.splitB (i:=57) rfl (fun g57=>?_) (fun g57=>?_)
  ·refine (show WD _ _ _ _ _ _ _ _ _ _ _ _ from ?_) hcl
   refine WD.takeG (i:=12) rfl rfl rfl rfl rfl rfl (by decide+kernel) (by decide+kernel) (by decide+kernel) (fun _ _ _ h=>h) (by kernel_rfl) need_none (Yl.fieldAddr0 F.fld37_1 rfl) ?_
   refine WD.takeG (i:=13) rfl rfl rfl rfl rfl rfl (by decide+kernel) (by decide+kernel) (by decide+kernel) (fun _ _ _ h=>h) (by kernel_rfl) (need_at2 2 rfl (by decide+kernel)) (Yl.load1 F.one35 rfl) ?_
   refine jQ [14] ?_
   refine WD.takeG (i:=15) rfl rfl rfl rfl rfl rfl (by decide+kernel) (by decide+kernel) (by decide+kernel) (fun _ _ _ h=>h) (by kernel_rfl) need_none (Yl.bin (v:= .int .i64 (j:Int)) rfl rfl (fun w=>run_subK (i:=1) (k:=j) (s:=j+1) (by omega) (by omega) _ _ _ w)) ?_
   refine WD.takeG (i:=16) rfl rfl rfl rfl rfl rfl (by decide+kernel) (by decide+kernel) (by decide+kernel) (fun _ _ _ h=>h) (by kernel_rfl) need_none (Yl.indexAddr F.sl35 rfl rfl (by omega)) ?_
   refine WD.takeG (i:=17) rfl rfl rfl rfl rfl rfl (by decide+kernel) (by decide+kernel) (by decide+kernel) (fun _ _ _ h=>h) (by kernel_rfl) (need_at2 3 rfl (by decide+kernel)) (Yl.loadN F.agg97 rfl rfl) ?_
   refine WD.takeG (i:=18) rfl rfl rfl rfl rfl rfl (by decide+kernel) (by decide+kernel) (by decide+kernel) (fun _ _ _ h=>h) (by kernel_rfl) need_none (Yl.fieldAddr0 F.fld37_1 rfl) ?_
   refine WD.takeG (i:=19) rfl rfl rfl rfl rfl rfl (by decide+kernel) (by decide+kernel) (by decide+kernel) (fun _ _ _ h=>h) (by kernel_rfl) (need_at2 4 rfl (by decide+kernel)) (Yl.load1 F.one35 rfl) ?_
   refine jQ [20] ?_
   refine WD.takeG (i:=21) rfl rfl rfl rfl rfl rfl (by decide+kernel) (by decide+kernel) (by decide+kernel) (fun _ _ _ h=>h) (by kernel_rfl) need_none (Yl.indexAddr F.sl35 rfl rfl hlt) ?_
   refine WD.takeG (i:=22) rfl rfl rfl rfl rfl rfl (by decide+kernel) (by decide+kernel) (by decide+kernel) (fun _ _ _ h=>h) (by kernel_rfl) (need_at2 5 rfl (by decide+kernel)) (Yl.loadN F.agg97 rfl rfl) ?_
   refine jA 23 rfl ?_
   refine WL.guardT rfl rfl rfl ?_
   refine WL.callV F.fun39 rfl rfl (fun w hS=>rOrderG_c y x (hk2 y hym) (hk2 x hxm) (h2.p y hym).2 (h2.p x hxm).2 w ((h2.p y hym).1.next hS) ((h2.p x hxm).1.next hS)) ?_
   refine WD.on (closed_of (by decide+kernel)) (fun w hS=>Sx.keep (hS.cell jM rfl) (Sx.keep (hS.oldc (hcx 4 _ rfl) (by simp)) (Sx.keep (hS.cell jM rfl) (Sx.keep ((fun jj v hv=>hS.oldc (hcy jj v hv) (by simp))) (Sx.keep (hS.cell jM rfl) (Sx.keep ((fun jj v hv=>hS.oldc (hcx jj v hv) (by simp))) (Sx.none))))))) ?_
   refine jQ [24,25,26] ?_
   refine jD ?_
   refine jN 1 ?_
   refine WC.cond rfl (fun hz2=>?_) (fun hz2=>?_)
   ·have hok:okAt neG orG g (j+1)=false:=by rw [okAt_s hx hy,decide_eq_false (by have h9:decide _=true:=hz2;simp at h9;(show ¬ ordG y.x x.x<0);omega),Bool.and_false]
    refine jN 12 ?_
    exact WQ.ret (rs:=[.tmp 2]) rfl (.tmp rfl .nil) (fun w hS=>⟨by rw [hb1,ris_no hlt hok];rfl,hS.sublist (List.nil_sublist _)⟩)
   have hok:okAt neG orG g (j+1)=true:=by rw [okAt_s hx hy,hne,decide_eq_true (by have h9:decide _=false:=hz2;simp at h9;(show ordG y.x x.x<0);omega)];rfl
   refine jN 11 ?_
   refine WQ.chunks (C':=[pt b1 [.slice la l.length lc,.slice (some ⟨b,o,none⟩) g.length gc] 37]) (fun w hS=>(jK hS)) ?_
   refine WQ.back (j+1+1) ?_ ?_ ?_ ?_
   ·exact ⟨by omega,ris_step hk hok⟩
   ·omega
   ·exact ⟨rfl,rfl,trivial⟩
   rfl
  refine (show WD _ _ _ _ _ _ _ _ _ _ _ _ from ?_) hcl
  exfalso;simp at g57;try omega
 have hie:i=g.length:=by simp at hc2;omega
 have hb2:risB neG orG g=true:=by unfold risB;rw [← hie];exact hk
 refine jN 12 ?_
 exact WQ.ret (rs:=[.tmp 2]) rfl (.tmp rfl .nil) (fun w hS=>⟨by rw [hb1,hb2];rfl,hS.sublist (List.nil_sublist _)⟩)
theorem Vl1_c (b o:Nat) (w:World):
  Pure Tryz.prog 34 [.pointer (some ⟨b,o,none⟩)] w (.pointer (some ⟨b,o+5,none⟩)):=by
 refine enter Tryz.func34 rfl Tryz.ntmps34 rfl (St.init _) ?_
 refine jN 13 ?_
 refine WL.fieldAddr F.fld89_5 rfl rfl ?_
 refine jN 5 ?_
 exact WQ.ret (rs:=[.tmp 2]) rfl (.tmp rfl .nil) (fun w hS=>⟨rfl,hS⟩)
theorem Vl2_c (b o:Nat) (w:World):
  Pure Tryz.prog 37 [.pointer (some ⟨b,o,none⟩)] w (.pointer (some ⟨b,o+4,none⟩)):=by
 refine enter Tryz.func37 rfl Tryz.ntmps37 rfl (St.init _) ?_
 refine jN 13 ?_
 refine WL.fieldAddr F.fld95_4 rfl rfl ?_
 refine jN 5 ?_
 exact WQ.ret (rs:=[.tmp 2]) rfl (.tmp rfl .nil) (fun w hS=>⟨rfl,hS⟩)
theorem Mg1_c (b o:Nat) (w:World):
  Pure Tryz.prog 52 [.pointer (some ⟨b,o,none⟩)] w (.pointer (some ⟨b,o+5,none⟩)):=by
 refine enter Tryz.func52 rfl Tryz.ntmps52 rfl (St.init _) ?_
 refine jN 13 ?_
 refine WL.fieldAddr F.fld89_5 rfl rfl ?_
 refine jN 5 ?_
 exact WQ.ret (rs:=[.tmp 2]) rfl (.tmp rfl .nil) (fun w hS=>⟨rfl,hS⟩)
theorem Mg2_c (b o:Nat) (w:World):
  Pure Tryz.prog 54 [.pointer (some ⟨b,o,none⟩)] w (.pointer (some ⟨b,o+4,none⟩)):=by
 refine enter Tryz.func54 rfl Tryz.ntmps54 rfl (St.init _) ?_
 refine jN 13 ?_
 refine WL.fieldAddr F.fld95_4 rfl rfl ?_
 refine jN 5 ?_
 exact WQ.ret (rs:=[.tmp 2]) rfl (.tmp rfl .nil) (fun w hS=>⟨rfl,hS⟩)
abbrev neT (t:TkV):Bool:= !((canon t.d).2==0)
abbrev neD (t:DgV):Bool:= !((canon t.d).2==0)
abbrev oT (x y:TkV):Int:=cmpT x.x y.x
abbrev oD (x y:DgV):Int:=cmpD x.x y.x
set_option maxRecDepth 1000000 in
theorem risK_c_s {G:Prop} (h:G:=by
   first | refine enter Tryz.func32 rfl Tryz.ntmps32 rfl (St.init _) ?_ | refine enter Tryz.func35 rfl Tryz.ntmps35 rfl (St.init _) ?_
   refine jN 18 ?_
   refine WC.loop (α:=Nat) (fun i=>i≤l.length∧(List.range i).all (okAt q1 q2 l)=true) (fun i=>[(0,.slice la l.length lc),(1,.func (.func q3) [].toArray [].toArray),(2,.func (.func q4) [].toArray [].toArray),(9,.int .i64 (l.length:Int)),(10,.int .i64 (i:Int))]) (fun _=>[]) (fun i=>l.length - i) (0) ?_ ?_ ?_ ?_
   ·exact ⟨Nat.zero_le _,rfl⟩
   ·exact ⟨rfl,rfl,rfl,rfl,rfl,trivial⟩
   ·rfl
   rintro i ⟨hi,hk⟩
   show WC _ _ _ _ _ _ _ [(0,.slice la l.length lc),(1,.func (.func q3) [].toArray [].toArray),(2,.func (.func q4) [].toArray [].toArray),(9,.int .i64 (l.length:Int)),(10,.int .i64 (i:Int))] []
   refine jN 7 ?_
   refine WC.cond rfl (fun hc1=>?_) (fun hc1=>?_)
   ·have hlt:i<l.length:=by simpa using hc1
    refine jN 13 ?_
    rcases i with _ | j
    ·obtain ⟨x,hx⟩:∃ z,l[0]?=some z:=⟨_,List.getElem?_eq_getElem hlt⟩
     have hxm:=List.mem_of_getElem? hx
     obtain ⟨b,o,hla,hcx⟩:=h1.r (0) x hx
     subst hla
     refine WC.draws [([],fun w=>∀ jj v,([.slice x.da (canon x.d).1.length x.dc,.int .i64 ((canon x.d).2:Int)]:List Value)[jj]?=some v→w.cell? ⟨b,o+0*q5+q6+jj,none⟩=some v)] (by kernel_rfl) (fun w hS=>facts_cons ((fun jj v hv=>by rw [Nat.add_assoc,Nat.add_comm q6 jj];exact hS.oldc (hcx (jj+q6) v hv) (by simp))) (facts_nil)) ?_
     refine jQ [0,1,2] ?_
     refine jT 3 rfl (Yl.indexAddr q7 rfl rfl hlt) ?_
     refine jA 4 rfl ?_
     refine WL.callFC (β:=Unit) (res:=fun _=> .pointer (some ⟨b,o+0*q5+q6,none⟩)) (cs:=fun _=>[]) (Cs:=[]) (O':=[]) (us:=[]) (cap:=[]) q8 (fun d h=>by cases h;rfl) rfl rfl (List.Perm.refl _) (by simp) (by simp) (fun w hS _=>(q9 b (o+0*q5) w).mono (fun e w2 h=>⟨(),h⟩)) (fun _=>?_)
     refine WD.on (closed_of (by decide+kernel)) (fun w hS=>Sx.keep ((fun jj v hv=>by rw [Nat.add_assoc,Nat.add_comm q6 jj];exact hS.oldc (hcx (jj+q6) v hv) (by simp))) (Sx.none)) ?_
     refine jQ [5] ?_
     refine jF 6 0 rfl rfl (Yl.loadN F.agg50 rfl rfl) ?_
     refine jA 7 rfl ?_
     refine WL.callV (v:= .bool ((canon x.d).2==0)) F.fun61 rfl rfl (fun w hS=>Empty_c x.d x.da x.dc w) ?_
     refine WD.on (closed_of (by decide+kernel)) (fun w hS=>Sx.keep ((fun jj v hv=>by rw [Nat.add_assoc,Nat.add_comm q6 jj];exact hS.oldc (hcx (jj+q6) v hv) (by simp))) (Sx.none)) ?_
     refine jQ [8] ?_
     refine fun hcl=>WA.splitB (i:=21) rfl (fun g21=>?_) (fun g21=>?_)
     ·refine (show WD _ _ _ _ _ _ _ _ _ _ _ _ from ?_) hcl
      have hne:q1 x=false:=by show (!((canon x.d).2==0))=false;rw [show ((canon x.d).2==0)=true from g21];rfl
      have hok:okAt q1 q2 l 0=false:=okAt_ne hx hne
      refine jQ [9,10,11,12,13,14,15,16,17,18,19,20,21,22,23,24,25] ?_
      refine jD ?_
      refine jN 14 ?_
      exact WQ.ret (rs:=[.tmp 6]) rfl (.tmp rfl .nil) (fun w hS=>⟨by rw [ris_no hlt hok];rfl,hS⟩)
     refine (show WD _ _ _ _ _ _ _ _ _ _ _ _ from ?_) hcl
     have hne:q1 x=true:=by show (!((canon x.d).2==0))=true;rw [show ((canon x.d).2==0)=false from g21];rfl
     have hok:okAt q1 q2 l 0=true:=by rw [okAt_0 hx];exact hne
     refine jQ [9,10,11] ?_
     refine fun hcl=>WA.splitB (i:=24) rfl (fun g24=>?_) (fun g24=>?_)
     ·refine (show WD _ _ _ _ _ _ _ _ _ _ _ _ from ?_) hcl
      exfalso;simp at g24
     refine (show WD _ _ _ _ _ _ _ _ _ _ _ _ from ?_) hcl
     refine jQ [12,13,14,15,16,17,18,19,20,21,22,23,24,25] ?_
     refine jD ?_
     refine jN 11 ?_
     refine WQ.back (0+1) ?_ ?_ ?_ ?_
     ·exact ⟨by omega,ris_step hk hok⟩
     ·omega
     ·exact ⟨rfl,rfl,rfl,rfl,rfl,trivial⟩
     rfl
    obtain ⟨x,hx⟩:∃ z,l[j+1]?=some z:=⟨_,List.getElem?_eq_getElem hlt⟩
    have hxm:=List.mem_of_getElem? hx
    obtain ⟨b,o,hla,hcx⟩:=h1.r (j+1) x hx
    subst hla
    obtain ⟨y,hy⟩:∃ z,l[j]?=some z:=⟨_,List.getElem?_eq_getElem (by omega)⟩
    have hym:=List.mem_of_getElem? hy
    obtain ⟨b9,o9,hb9,hcy⟩:=h1.r j y hy
    simp only [Option.some.injEq,Addr.mk.injEq,and_true] at hb9
    obtain ⟨rfl,rfl⟩:=hb9
    refine WC.draws [([],fun w=>∀ jj v,([.slice x.da (canon x.d).1.length x.dc,.int .i64 ((canon x.d).2:Int)]:List Value)[jj]?=some v→w.cell? ⟨b,o+(j+1)*q5+q6+jj,none⟩=some v),([],fun w=>∀ jj v,(q10 y)[jj]?=some v→w.cell? ⟨b,o+j*q5+jj,none⟩=some v),([],fun w=>∀ jj v,(q10 x)[jj]?=some v→w.cell? ⟨b,o+(j+1)*q5+jj,none⟩=some v)] (by kernel_rfl) (fun w hS=>facts_cons ((fun jj v hv=>by rw [Nat.add_assoc,Nat.add_comm q6 jj];exact hS.oldc (hcx (jj+q6) v hv) (by simp))) (facts_cons ((fun jj v hv=>hS.oldc (hcy jj v hv) (by simp))) (facts_cons ((fun jj v hv=>hS.oldc (hcx jj v hv) (by simp))) (facts_nil)))) ?_
    refine jQ [0,1,2] ?_
    refine jT 3 rfl (Yl.indexAddr q7 rfl rfl hlt) ?_
    refine jA 4 rfl ?_
    refine WL.callFC (β:=Unit) (res:=fun _=> .pointer (some ⟨b,o+(j+1)*q5+q6,none⟩)) (cs:=fun _=>[]) (Cs:=[]) (O':=[]) (us:=[]) (cap:=[]) q8 (fun d h=>by cases h;rfl) rfl rfl (List.Perm.refl _) (by simp) (by simp) (fun w hS _=>(q9 b (o+(j+1)*q5) w).mono (fun e w2 h=>⟨(),h⟩)) (fun _=>?_)
    refine WD.on (closed_of (by decide+kernel)) (fun w hS=>Sx.keep ((fun jj v hv=>by rw [Nat.add_assoc,Nat.add_comm q6 jj];exact hS.oldc (hcx (jj+q6) v hv) (by simp))) (Sx.keep ((fun jj v hv=>hS.oldc (hcy jj v hv) (by simp))) (Sx.keep ((fun jj v hv=>hS.oldc (hcx jj v hv) (by simp))) (Sx.none)))) ?_
    refine jQ [5] ?_
    refine jF 6 0 rfl rfl (Yl.loadN F.agg50 rfl rfl) ?_
    refine jA 7 rfl ?_
    refine WL.callV (v:= .bool ((canon x.d).2==0)) F.fun61 rfl rfl (fun w hS=>Empty_c x.d x.da x.dc w) ?_
    refine WD.on (closed_of (by decide+kernel)) (fun w hS=>Sx.keep ((fun jj v hv=>by rw [Nat.add_assoc,Nat.add_comm q6 jj];exact hS.oldc (hcx (jj+q6) v hv) (by simp))) (Sx.keep ((fun jj v hv=>hS.oldc (hcy jj v hv) (by simp))) (Sx.keep ((fun jj v hv=>hS.oldc (hcx jj v hv) (by simp))) (Sx.none)))) ?_
    refine jQ [8] ?_
    refine fun hcl=>WA.splitB (i:=21) rfl (fun g21=>?_) (fun g21=>?_)
    ·refine (show WD _ _ _ _ _ _ _ _ _ _ _ _ from ?_) hcl
     have hne:q1 x=false:=by show (!((canon x.d).2==0))=false;rw [show ((canon x.d).2==0)=true from g21];rfl
     have hok:okAt q1 q2 l (j+1)=false:=okAt_ne hx hne
     refine jQ [9,10,11,12,13,14,15,16,17,18,19,20,21,22,23,24,25] ?_
     refine jD ?_
     refine jN 14 ?_
     exact WQ.ret (rs:=[.tmp 6]) rfl (.tmp rfl .nil) (fun w hS=>⟨by rw [ris_no hlt hok];rfl,hS⟩)
    refine (show WD _ _ _ _ _ _ _ _ _ _ _ _ from ?_) hcl
    have hne:q1 x=true:=by show (!((canon x.d).2==0))=true;rw [show ((canon x.d).2==0)=false from g21];rfl
    refine jQ [9,10,11] ?_
    refine fun hcl=>WA.splitB (i:=24) rfl (fun g24=>?_) (fun g24=>?_)
    ·refine (show WD _ _ _ _ _ _ _ _ _ _ _ _ from ?_) hcl
     refine jQ [12,13,14] ?_
     refine WD.takeG (i:=15) rfl rfl rfl rfl rfl rfl (by decide+kernel) (by decide+kernel) (by decide+kernel) (fun _ _ _ h=>h) (by kernel_rfl) need_none (Yl.bin (v:= .int .i64 (j:Int)) rfl rfl (fun w=>run_subK (i:=1) (k:=j) (s:=j+1) (by omega) (by omega) _ _ _ w)) ?_
     refine WD.takeG (i:=16) rfl rfl rfl rfl rfl rfl (by decide+kernel) (by decide+kernel) (by decide+kernel) (fun _ _ _ h=>h) (by kernel_rfl) need_none (Yl.indexAddr q7 rfl rfl (by omega)) ?_
     refine WD.takeG (i:=17) rfl rfl rfl rfl rfl rfl (by decide+kernel) (by decide+kernel) (by decide+kernel) (fun _ _ _ h=>h) (by kernel_rfl) (need_at2 1 rfl (by decide+kernel)) (Yl.loadN q11 rfl rfl) ?_
     refine jQ [18,19] ?_
     refine WD.takeG (i:=20) rfl rfl rfl rfl rfl rfl (by decide+kernel) (by decide+kernel) (by decide+kernel) (fun _ _ _ h=>h) (by kernel_rfl) need_none (Yl.indexAddr q7 rfl rfl hlt) ?_
     refine WD.takeG (i:=21) rfl rfl rfl rfl rfl rfl (by decide+kernel) (by decide+kernel) (by decide+kernel) (fun _ _ _ h=>h) (by kernel_rfl) (need_at2 2 rfl (by decide+kernel)) (Yl.loadN q11 rfl rfl) ?_
     refine jA 22 rfl ?_
     refine WL.guardT rfl rfl rfl ?_
     refine WL.callFC (β:=Unit) (res:=fun _=> .int .i64 (q12 y.x x.x)) (cs:=fun _=>[]) (Cs:=[]) (O':=[]) (us:=[]) (cap:=[]) q13 (fun d h=>by cases h;rfl) rfl rfl (List.Perm.refl _) (by simp) (by simp) (fun w hS _=>(q14 y x (h1.p y hym).2 (h1.p x hxm).2 w ((h1.p y hym).1.next hS) ((h1.p x hxm).1.next hS)).mono (fun e w2 h=>⟨(),h⟩)) (fun _=>?_)
     refine WD.on (closed_of (by decide+kernel)) (fun w hS=>Sx.keep ((fun jj v hv=>by rw [Nat.add_assoc,Nat.add_comm q6 jj];exact hS.oldc (hcx (jj+q6) v hv) (by simp))) (Sx.keep ((fun jj v hv=>hS.oldc (hcy jj v hv) (by simp))) (Sx.keep ((fun jj v hv=>hS.oldc (hcx jj v hv) (by simp))) (Sx.none)))) ?_
     refine jQ [23,24,25] ?_
     refine jD ?_
     refine jN 1 ?_
     refine WC.cond rfl (fun hz=>?_) (fun hz=>?_)
     ·have hok:okAt q1 q2 l (j+1)=false:=by rw [okAt_s hx hy,decide_eq_false (by have h9:decide _=true:=hz;simp at h9;(show ¬ q12 y.x x.x<0);omega),Bool.and_false]
      refine jN 12 ?_
      exact WQ.ret (rs:=[.tmp 6]) rfl (.tmp rfl .nil) (fun w hS=>⟨by rw [ris_no hlt hok];rfl,hS⟩)
     have hok:okAt q1 q2 l (j+1)=true:=by rw [okAt_s hx hy,hne,decide_eq_true (by have h9:decide _=false:=hz;simp at h9;(show q12 y.x x.x<0);omega)];rfl
     refine jN 9 ?_
     refine WQ.back (j+1+1) ?_ ?_ ?_ ?_
     ·exact ⟨by omega,ris_step hk hok⟩
     ·omega
     ·exact ⟨rfl,rfl,rfl,rfl,rfl,trivial⟩
     rfl
    refine (show WD _ _ _ _ _ _ _ _ _ _ _ _ from ?_) hcl
    exfalso;simp at g24;try omega
   have hie:i=l.length:=by simp at hc1;omega
   have hb1:risB q1 q2 l=true:=by unfold risB;rw [← hie];exact hk
   refine jN 12 ?_
   exact WQ.ret (rs:=[.tmp 6]) rfl (.tmp rfl .nil) (fun w hS=>⟨by rw [hb1];rfl,hS⟩)):G:=h
set_option maxRecDepth 100000 in
theorem risT_c (l:List TkV) (la:Option Addr) (lc:Nat) (hl:l.length≤1000) (w:World) (h1:TsR w l la):Pure Tryz.prog 32 [.slice la l.length lc,.func (.func 33) [].toArray [].toArray,.func (.func 34) [].toArray [].toArray] w (.bool (risB neT oT l)):=by
 let q1:=neT
 let q2:=oT
 let q3:Nat:=33
 let q4:Nat:=34
 let q5:Nat:=7
 let q6:Nat:=5
 have q7:= @F.sl30
 have q8:= @F.fun34
 have q9:= @Vl1_c
 let q10:=tkC
 have q11:= @F.agg89
 let q12:=cmpT
 have q13:= @F.fun33
 have q14:= @cmpTok_c
 have qO:∀ x,∀ u∈tkC x,u.oneCell'=true:=fun x=>jO
 exact risK_c_s
set_option maxRecDepth 100000 in
theorem risD_c (l:List DgV) (la:Option Addr) (lc:Nat) (hl:l.length≤1000) (w:World) (h1:DsR w l la):Pure Tryz.prog 35 [.slice la l.length lc,.func (.func 36) [].toArray [].toArray,.func (.func 37) [].toArray [].toArray] w (.bool (risB neD oD l)):=by
 let q1:=neD
 let q2:=oD
 let q3:Nat:=36
 let q4:Nat:=37
 let q5:Nat:=6
 let q6:Nat:=4
 have q7:= @F.sl31
 have q8:= @F.fun37
 have q9:= @Vl2_c
 let q10:=dgC
 have q11:= @F.agg95
 let q12:=cmpD
 have q13:= @F.fun36
 have q14:= @cmpDia_c
 have qO:∀ x,∀ u∈dgC x,u.oneCell'=true:=fun x=>jO
 exact risK_c_s
set_option maxRecDepth 100000 in
theorem Valid_c (l:List TkV) (g:List DgV) (la ga:Option Addr) (lc gc:Nat) (hl:l.length≤1000) (hg:g.length≤1000) (w:World) (h1:TsR w l la) (h2:DsR w g ga):
  Pure Tryz.prog 8 [.agg [.slice la l.length lc,.slice ga g.length gc].toArray] w (.bool (risB neT oT l&&risB neD oD g)):=by
 refine enter Tryz.func8 rfl Tryz.ntmps8 rfl (St.init _) ?_
 refine jN 3 ?_
 refine WL.boxN rfl rfl (fun b1=>?_)
 refine jN 11 ?_
 refine WL.callV (v:= .bool (risB neT oT l)) F.fun32 rfl rfl (fun w hS=>risT_c l la lc hl w (h1.next hS)) ?_
 refine jN 2 ?_
 refine WA.splitB (i:=6) rfl (fun g6=>?_) (fun g6=>?_)
 ·refine jN 8 ?_
  refine WL.callV (v:= .bool (risB neD oD g)) F.fun35 rfl rfl (fun w hS=>risD_c g ga gc hg w (h2.next hS)) ?_
  refine jN 7 ?_
  exact WQ.ret (rs:=[.tmp 2]) rfl (.tmp rfl .nil) (fun w hS=>⟨by rw [show risB neT oT l=true from g6];rfl,hS.sublist (List.nil_sublist _)⟩)
 refine jN 13 ?_
 exact WQ.ret (rs:=[.tmp 2]) rfl (.tmp rfl .nil) (fun w hS=>⟨by rw [show risB neT oT l=false from g6];rfl,hS.sublist (List.nil_sublist _)⟩)
def PthAt (w:World) (c:List Int) (a:Option Addr) (F:List Nat):Prop:=∀ (i:Nat) (x:Int),c[i]?=some x→∃ b off,a=some ⟨b,off,none⟩∧w.cell? ⟨b,off+i,none⟩=some (.int .i64 x)∧b∈F
def pthC (F:List Nat) (l:List (List Int×Option Addr)):Chunk where
 fp k:=k∈F
 ok w:=∀ x∈l,PthAt w x.1 x.2 F
 loc w w' h hw:=fun x hx i y hy=>by
  obtain ⟨b,off,e1,e2,e3⟩:=hw x hx i y hy
  exact ⟨b,off,e1,by rw [World.cell?_of_block (h b e3)];exact e2,e3⟩
theorem pthC_rd {F:List Nat} {l:List (List Int×Option Addr)} {w:World} {x:List Int×Option Addr} (h:(pthC F l).ok w) (hx:x∈l):RdC w x.1 x.2:=fun i y hy=>by
 obtain ⟨b,off,e1,e2,_⟩:=h x hx i y hy
 exact ⟨b,off,e1,e2⟩
section
variable {w0 : World} {O : List Nat} {C : List Chunk}
theorem _root_.Go.Eng.St.pthNil {w:World} (h:St w0 O C w):St w0 O (pthC [] []::C) w:=
 ⟨h.os,h.tape,h.output,h.size,h.old,fun c hc=>by
  rcases List.mem_cons.1 hc with rfl | hc
  ·intro x hx;cases hx
  ·exact h.ok c hc,fun c hc k hk=>by
  rcases List.mem_cons.1 hc with rfl | hc
  ·cases hk
  ·exact h.bnd c hc k hk,List.Pairwise.cons (fun _ _ _ hk=>by cases hk) h.disj⟩
theorem _root_.Go.Eng.St.pthSnoc {w:World} {F:List Nat} {l:List (List Int×Option Addr)} {c:List Int} {a:Option Addr} {k:Nat} {e:TypeId} (h:St w0 O (pthC F l::rowc (.slice a c.length k) c.length e 1 (c.map (Value.int .i64))::C) w):∃ F',St w0 O (pthC F' (l++[(c,a)])::C) w:=by
 have hok:(rowc (.slice a c.length k) c.length e 1 (c.map (Value.int .i64))).ok w:=h.ok _ (List.mem_cons_of_mem _ (List.mem_cons_self ..))
 have hob:∃ G:List Nat,(∀ j∈G,(rowc (.slice a c.length k) c.length e 1 (c.map (Value.int .i64))).fp j)∧PthAt w c a G:=by
  by_cases h0:c.length=0
  ·exact ⟨[],by simp,fun i x hx=>by rw [List.length_eq_zero_iff.1 h0] at hx;simp at hx⟩
  ·obtain ⟨g,hg,_,_⟩:=rowc_addr hok (by omega)
   subst hg
   refine ⟨[g],fun j hj=>by simp at hj;subst hj;rfl,fun i x hx=>⟨g,0,rfl,?_,by simp⟩⟩
   rw [Nat.zero_add]
   exact rowc_cells hok (by rw [List.getElem?_map,hx];rfl)
 obtain ⟨G,hG1,hG2⟩:=hob
 refine ⟨F++G,h.join (fun j hj=>?_) (fun hc hd _=>?_)⟩
 ·rcases List.mem_append.1 hj with hj | hj
  ·exact .inl hj
  exact .inr (hG1 j hj)
 intro x hx i y hy
 rcases List.mem_append.1 hx with hx | hx
 ·obtain ⟨b,off,e1,e2,e3⟩:=hc x hx i y hy
  exact ⟨b,off,e1,e2,List.mem_append_left _ e3⟩
 rw [List.mem_singleton.1 hx] at hy ⊢
 obtain ⟨b,off,e1,e2,e3⟩:=hG2 i y hy
 exact ⟨b,off,e1,e2,List.mem_append_right _ e3⟩
end
open Go Go.Eng Go.Proofs Dg
theorem ints_oneV (k:List Int):∀ u∈k.map (Value.int .i64),u.oneCell'=true:=by
 intro u hu
 obtain ⟨x,_,rfl⟩:=List.mem_map.1 hu
 rfl
theorem RdC.newsV {w:World} {k:List Int} {a:Option Addr} (h:RdC w k a) (hk:k≠[]):∃ bx ox,a=some ⟨bx,ox,none⟩∧∀ j u,(k.map (Value.int .i64))[j]?=some u→w.cell? ⟨bx,ox+j,none⟩=some u:=by
 cases k with
 | nil=>exact absurd rfl hk
 | cons y ys=>
  obtain ⟨b,off,e,_⟩:=h 0 y rfl
  subst e
  refine ⟨b,off,rfl,fun j u hu=>?_⟩
  rw [List.getElem?_map,Option.map_eq_some_iff] at hu
  obtain ⟨x,hx,rfl⟩:=hu
  obtain ⟨b2,off2,e2,hc⟩:=h j x hx
  injection e2 with e2
  injection e2 with e3 e4
  subst e3;subst e4
  exact hc
theorem CloneV_c (k:List Int) (a:Option Addr) (cap:Nat) (hlen:k.length≤1099511627776) (w:World) (hr:RdC w k a):
  Calls Tryz.prog 119 [.slice a k.length cap].toArray w fun e w'=>∃ x:Option Addr×Nat,e= .returned (.slice x.1 k.length x.2)∧St w [] [rowc (.slice x.1 k.length x.2) k.length 3 1 (k.map (Value.int .i64))] w':=by
 refine enter Tryz.func119 rfl Tryz.ntmps119 rfl (St.init _) ?_
 refine jN 8 ?_
 rcases a with _ | ⟨b,off,st⟩
 ·have hc0:k=[]:=by
   cases k with
   | nil=>rfl
   | cons y ys=>
    obtain ⟨_,_,h1,_⟩:=hr 0 y rfl
    cases h1
  subst hc0
  refine jN 4 ?_
  refine WL.bin rfl rfl rfl (v:= .bool true) (fun w=>by kernel_rfl) ?_
  refine jN 11 ?_
  exact WQ.ret (rs:=[.tmp 2]) rfl (.tmp rfl .nil) (fun w hS=>⟨(none,0),rfl,hS.rowNil 3 1⟩)
 refine jN 4 ?_
 refine WL.bin rfl rfl rfl (v:= .bool false) (fun w=>by kernel_rfl) ?_
 refine jN 8 ?_
 refine WL.buildSlice0 F.sl73 rfl (fun b5=>?_)
 refine WA.chunks (fun w hS=>hS.rowOf (n:=0) (sz:=1) rfl (by decide)) ?_
 refine jN 3 ?_
 refine WL.appendC (n:=0) (xs:=[]) (news:=(k.map (Value.int .i64))) F.el73 rfl rfl rfl jR (fun w hS hm=>(by obtain ⟨bx,ox,e1,e2⟩:=hr.newsV (by rintro rfl;exact hm rfl);exact ⟨bx,ox,e1,fun j u hu=>hS.oldc (e2 j u hu) (by simp)⟩)) (by simp) (ints_oneV k) (Nat.le_trans (m:=1099511627776) (by omega) (by decide)) (by omega) (fun a2 c2=>?_)
 refine jN 5 ?_
 refine WQ.ret (rs:=[.tmp 2]) rfl (.tmp rfl .nil) (fun w hS=>⟨(a2,c2),?_,?_⟩)
 ·simp [tup]
 simpa using hS
abbrev tkP (y:TkV) (a:Option Addr) (c:Nat):TkV:=⟨{y.x with pa:=a,pc:=c},y.d,y.da,y.dc⟩
abbrev dgP (y:DgV) (a:Option Addr) (c:Nat):DgV:=⟨{y.x with pa:=a,pc:=c},y.d,y.da,y.dc⟩
set_option maxRecDepth 100000 in
theorem ownTok_c (y:TkV) (hpl:y.x.p.length≤1000000000) (w:World) (hp:RdC w y.x.p y.x.pa):
  Calls Tryz.prog 82 [.agg (tkC y).toArray].toArray w fun e w'=>∃ x:Option Addr×Nat,e= .returned (.agg (tkC (tkP y x.1 x.2)).toArray)∧St w [] [rowc (.slice x.1 y.x.p.length x.2) y.x.p.length 3 1 (y.x.p.map (Value.int .i64))] w':=by
 refine enter Tryz.func82 rfl Tryz.ntmps82 rfl (St.init _) ?_
 refine jN 3 ?_
 refine WL.boxN rfl rfl (fun b1=>?_)
 refine jN 1 ?_
 refine WL.alloc F.zero89 rfl (fun b2=>?_)
 refine jN 9 ?_
 refine WL.call0 (β:=Option Addr×Nat) (res:=fun x=> .returned (.slice x.1 y.x.p.length x.2)) (cs:=fun x=>[rowc (.slice x.1 y.x.p.length x.2) y.x.p.length 3 1 (y.x.p.map (Value.int .i64))]) (ψ:=fun _=>True) F.fun119 (fun d h=>by cases h;rfl) rfl (fun w hS=>(CloneV_c y.x.p y.x.pa y.x.pc (by omega) w (hp.next hS)).mono (fun e w2 ⟨x,h1,h2⟩=>⟨x,trivial,h1,h2⟩)) (fun ⟨xa,xc⟩ _=>After_ret ?_)
 refine jN 15 ?_
 refine WQ.ret (rs:=[.cell 2 89]) rfl (.cellN F.agg89 rfl jM rfl .nil) (fun w hS=>⟨(xa,xc),rfl,(jK hS)⟩)
set_option maxRecDepth 100000 in
theorem ownDia_c (y:DgV) (hpl:y.x.p.length≤1000000000) (w:World) (hp:RdC w y.x.p y.x.pa):
  Calls Tryz.prog 83 [.agg (dgC y).toArray].toArray w fun e w'=>∃ x:Option Addr×Nat,e= .returned (.agg (dgC (dgP y x.1 x.2)).toArray)∧St w [] [rowc (.slice x.1 y.x.p.length x.2) y.x.p.length 3 1 (y.x.p.map (Value.int .i64))] w':=by
 refine enter Tryz.func83 rfl Tryz.ntmps83 rfl (St.init _) ?_
 refine jN 3 ?_
 refine WL.boxN rfl rfl (fun b1=>?_)
 refine jN 1 ?_
 refine WL.alloc F.zero95 rfl (fun b2=>?_)
 refine jN 9 ?_
 refine WL.call0 (β:=Option Addr×Nat) (res:=fun x=> .returned (.slice x.1 y.x.p.length x.2)) (cs:=fun x=>[rowc (.slice x.1 y.x.p.length x.2) y.x.p.length 3 1 (y.x.p.map (Value.int .i64))]) (ψ:=fun _=>True) F.fun119 (fun d h=>by cases h;rfl) rfl (fun w hS=>(CloneV_c y.x.p y.x.pa y.x.pc (by omega) w (hp.next hS)).mono (fun e w2 ⟨x,h1,h2⟩=>⟨x,trivial,h1,h2⟩)) (fun ⟨xa,xc⟩ _=>After_ret ?_)
 refine jN 15 ?_
 refine WQ.ret (rs:=[.cell 2 95]) rfl (.cellN F.agg95 rfl jM rfl .nil) (fun w hS=>⟨(xa,xc),rfl,(jK hS)⟩)
theorem RdSl.flat {α:Type} {cells:α→List Value} {sz:Nat} {w:World} {bx:Nat} (hc:∀ x,(cells x).length=sz):∀ {l:List α} {ox:Nat},(∀ i x,l[i]?=some x→∀ j u,(cells x)[j]?=some u→w.cell? ⟨bx,ox+i*sz+j,none⟩=some u)→∀ j u,(l.flatMap cells)[j]?=some u→w.cell? ⟨bx,ox+j,none⟩=some u
 | [],_,_,j,u,h=>by simp at h
 | x::l,ox,hh,j,u,h=>by
  rw [List.flatMap_cons] at h
  by_cases hj:j<(cells x).length
  ·rw [List.getElem?_append_left hj] at h
   have h9:=hh 0 x rfl j u h
   rw [Nat.zero_mul,Nat.add_zero] at h9
   exact h9
  ·rw [List.getElem?_append_right (by omega),hc x] at h
   have h9:=RdSl.flat hc (l:=l) (ox:=ox+sz) (fun i y hy j u hu=>by
    have h8:=hh (i+1) y hy j u hu
    rw [show ox+(i+1)*sz+j=ox+sz+i*sz+j from by rw [Nat.add_mul];omega] at h8
    exact h8) (j - sz) u h
   rw [show ox+sz+(j - sz)=ox+j from by have:=hc x;omega] at h9
   exact h9
theorem RdSl.newsV {α:Type} {cells:α→List Value} {sz:Nat} {w:World} (hc:∀ x,(cells x).length=sz) {l:List α} {a:Option Addr} (h:RdSl cells sz w l a) (hl:l≠[]):∃ bx ox,a=some ⟨bx,ox,none⟩∧∀ j u,(l.flatMap cells)[j]?=some u→w.cell? ⟨bx,ox+j,none⟩=some u:=by
 cases l with
 | nil=>exact absurd rfl hl
 | cons y ys=>
  obtain ⟨b,off,e,_⟩:=h 0 y rfl
  subst e
  refine ⟨b,off,rfl,RdSl.flat hc fun i x hx j u hu=>?_⟩
  obtain ⟨b2,off2,e2,hcc⟩:=h i x hx
  injection e2 with e2
  injection e2 with e3 e4
  subst e3;subst e4
  exact hcc j u hu
theorem flat_one {α:Type} {cells:α→List Value} (h:∀ x,∀ u∈cells x,u.oneCell'=true) {l:List α}:∀ u∈l.flatMap cells,u.oneCell'=true:=fun u hu=>by
 obtain ⟨x,_,hx⟩:=List.mem_flatMap.1 hu
 exact h x u hx
theorem tkC_one (x:TkV):∀ u∈tkC x,u.oneCell'=true:=by intro u hu;simp [tkC] at hu;rcases hu with h | h | h | h | h | h | h<;>subst h<;>rfl
theorem dgC_one (x:DgV):∀ u∈dgC x,u.oneCell'=true:=by intro u hu;simp [dgC] at hu;rcases hu with h | h | h | h | h | h<;>subst h<;>rfl
set_option maxRecDepth 1000000 in
theorem CloneK_c_s {G:Prop} (h:G:=by
   first | refine enter Tryz.func89 rfl Tryz.ntmps89 rfl (St.init _) ?_ | refine enter Tryz.func93 rfl Tryz.ntmps93 rfl (St.init _) ?_
   refine jN 8 ?_
   rcases a with _ | ⟨b,off,st⟩
   ·have hc0:l=[]:=by
     cases l with
     | nil=>rfl
     | cons y ys=>
      obtain ⟨_,_,h1,_⟩:=hr 0 y rfl
      cases h1
    subst hc0
    refine jN 4 ?_
    refine WL.bin rfl rfl rfl (v:= .bool true) (fun w=>by kernel_rfl) ?_
    refine jN 11 ?_
    refine WQ.ret (rs:=[.tmp 2]) rfl (.tmp rfl .nil) (fun w hS=>⟨(none,0),rfl,hS.rowNil q1 q2⟩)
   refine jN 4 ?_
   refine WL.bin rfl rfl rfl (v:= .bool false) (fun w=>by kernel_rfl) ?_
   refine jN 8 ?_
   refine WL.buildSlice0 q3 rfl (fun b5=>?_)
   refine WA.chunks (fun w hS=>hS.rowOf (n:=0) (sz:=q2) rfl (by decide)) ?_
   refine jN 3 ?_
   refine WL.appendC (n:=0) (xs:=[]) (news:=l.flatMap q4) q5 rfl rfl rfl jR (fun w hS hm=>(by obtain ⟨bx,ox,e1,e2⟩:=RdSl.newsV (l:=l) (cells:=q4) (sz:=q2) (fun _=>rfl) hr (fun h=>hm (by rw [h];rfl));exact ⟨bx,ox,e1,fun j u hu=>hS.oldc (e2 j u hu) (by simp)⟩)) (flat_len fun _ _=>rfl) (flat_one q6) (Nat.le_trans (m:=1099511627776) (by omega) (by decide)) (by omega) (fun a2 c2=>?_)
   refine jN 5 ?_
   refine WQ.ret (rs:=[.tmp 2]) rfl (.tmp rfl .nil) (fun w hS=>⟨(a2,c2),?_,?_⟩)
   ·simp [tup]
   simpa using hS):G:=h
set_option maxRecDepth 100000 in
theorem CloneT_c (l:List TkV) (a:Option Addr) (cap:Nat) (hlen:l.length≤1000000) (w:World) (hr:RdSl tkC 7 w l a):Calls Tryz.prog 89 [.slice a l.length cap].toArray w fun e w'=>∃ x:Option Addr×Nat,e= .returned (.slice x.1 l.length x.2)∧St w [] [rowc (.slice x.1 l.length x.2) l.length 89 7 (l.flatMap tkC)] w':=by
 let q1:Nat:=89
 let q2:Nat:=7
 have q3:= @F.sl30
 let q4:=tkC
 have q5:= @F.el30
 have q6:= @tkC_one
 have qO:∀ x,∀ u∈tkC x,u.oneCell'=true:=fun x=>jO
 exact CloneK_c_s
set_option maxRecDepth 100000 in
theorem CloneD_c (l:List DgV) (a:Option Addr) (cap:Nat) (hlen:l.length≤1000000) (w:World) (hr:RdSl dgC 6 w l a):Calls Tryz.prog 93 [.slice a l.length cap].toArray w fun e w'=>∃ x:Option Addr×Nat,e= .returned (.slice x.1 l.length x.2)∧St w [] [rowc (.slice x.1 l.length x.2) l.length 95 6 (l.flatMap dgC)] w':=by
 let q1:Nat:=95
 let q2:Nat:=6
 have q3:= @F.sl31
 let q4:=dgC
 have q5:= @F.el31
 have q6:= @dgC_one
 have qO:∀ x,∀ u∈dgC x,u.oneCell'=true:=fun x=>jO
 exact CloneK_c_s
def FndI {α:Type} (p:α→Bool) (l:List α) (r:Int):Prop:=
 (r= -1∧∀ z∈l,p z=false)∨∃ i:Nat,r=(i:Int)∧i<l.length∧(∀ z∈l.take i,p z=false)∧∀ x,l[i]?=some x→p x=true
abbrev emT (t:TkV):Bool:=(canon t.d).2==0
abbrev emD (t:DgV):Bool:=(canon t.d).2==0
theorem take_nx {α:Type} {p:α→Bool} {l:List α} {i:Nat} {x:α} (hx:l[i]?=some x) (h:∀ z∈l.take i,p z=false) (hp:p x=false):∀ z∈l.take (i+1),p z=false:=fun z hz=>by
 rw [List.take_add_one,hx] at hz
 rcases List.mem_append.1 hz with h1 | h1
 ·exact h z h1
 ·simp at h1;rw [h1];exact hp
set_option maxRecDepth 1000000 in
theorem jnK_c_s {G:Prop} (h:G:=by
   first | refine enter Tryz.func90 rfl Tryz.ntmps90 rfl (St.init _) ?_ | refine enter Tryz.func94 rfl Tryz.ntmps94 rfl (St.init _) ?_
   refine jN 3 ?_
   refine WL.boxN rfl rfl (fun b2=>?_)
   refine jN 7 ?_
   refine WL.load1 q1 rfl rfl (v:=(.func (.func q2) [].toArray [].toArray)) (fun w hS=>hS.oldc hb (by simp)) ?_
   refine jN 1 ?_
   refine WL.callFC (β:=Unit) (res:=fun _=> .pointer (some ⟨b2,q3,none⟩)) (cs:=fun _=>[]) (Cs:=[]) (O':=[]) (us:=[]) (cap:=[]) q4 (fun d h=>by cases h;rfl) rfl rfl (List.Perm.refl _) (by simp) (by simp) (fun w hS _=>(q5 b2 0 w).mono (fun e w2 h=>⟨(),by simpa using h⟩)) (fun _=>?_)
   refine jN 3 ?_
   refine WL.loadN F.agg50 rfl rfl (vs:=[.slice x.da (canon x.d).1.length x.dc,.int .i64 ((canon x.d).2:Int)]) rfl (fun w hS j v hv=>by rw [Nat.add_comm];exact hS.cell (cs:=q6 x) jM (off:=j+q3) hv) ?_
   refine jN 1 ?_
   refine WL.callV (v:= .bool (q7 x)) F.fun61 rfl rfl (fun w hS=>Empty_c x.d x.da x.dc w) ?_
   refine jN 5 ?_
   exact WQ.ret (rs:=[.tmp 3]) rfl (.tmp rfl .nil) (fun w hS=>⟨rfl,hS.sublist (List.nil_sublist _)⟩)):G:=h
set_option maxRecDepth 100000 in
theorem jnT_c (x:TkV) (bf:Nat) (w:World) (hb:w.cell? ⟨bf,0,none⟩=some (.func (.func 52) [].toArray [].toArray)):Pure Tryz.prog 90 [.agg (tkC x).toArray,pp bf] w (.bool (emT x)):=by
 have q1:= @F.one102
 let q2:Nat:=52
 let q3:Nat:=5
 have q4:= @F.fun52
 have q5:= @Mg1_c
 let q6:=tkC
 let q7:=emT
 have qO:∀ x,∀ u∈tkC x,u.oneCell'=true:=fun x=>jO
 exact jnK_c_s
set_option maxRecDepth 1000000 in
theorem idxK_c_s {G:Prop} (h:G:=by
   first | refine enter Tryz.func121 rfl Tryz.ntmps121 rfl (St.init _) ?_ | refine enter Tryz.func123 rfl Tryz.ntmps123 rfl (St.init _) ?_
   refine jN 18 ?_
   refine WC.loop (α:=Nat) (fun i=>i≤l.length∧∀ z∈l.take i,q1 z=false) (fun i=>[(0,.slice la l.length lc),(1,.func (.func q2) [].toArray [pp bf].toArray),(7,.int .i64 (l.length:Int)),(8,.int .i64 (i:Int))]) (fun _=>[]) (fun i=>l.length - i) (0) ?_ ?_ ?_ ?_
   ·exact ⟨Nat.zero_le _,fun z hz=>by simp at hz⟩
   ·exact ⟨rfl,rfl,rfl,rfl,trivial⟩
   ·rfl
   rintro i ⟨hi,hno⟩
   show WC _ _ _ _ _ _ _ [(0,.slice la l.length lc),(1,.func (.func q2) [].toArray [pp bf].toArray),(7,.int .i64 (l.length:Int)),(8,.int .i64 (i:Int))] []
   refine jN 7 ?_
   refine WC.cond rfl (fun h9=>?_) (fun h9=>?_)
   ·have hlt:i<l.length:=by simpa using h9
    obtain ⟨x,hx⟩:∃ y,l[i]?=some y:=⟨_,List.getElem?_eq_getElem hlt⟩
    obtain ⟨b,o,hla,hcx⟩:=hr i x hx
    subst hla
    refine jN 21 ?_
    refine WL.indexAddr q3 rfl rfl rfl hlt ?_
    refine jN 1 ?_
    refine WL.loadN q4 rfl rfl (vs:=q5 x) rfl (fun w hS j v hv=>hS.oldc (hcx j v hv) (by simp)) ?_
    refine jN 1 ?_
    refine WL.callFC (β:=Unit) (res:=fun _=> .bool (q1 x)) (cs:=fun _=>[]) (Cs:=[]) (O':=[]) (us:=[]) (cap:=[pp bf]) q6 (fun d h=>by cases h;rfl) rfl rfl (List.Perm.refl _) (by simp) (by simp) (fun w hS _=>(q7 x bf w (hS.oldc hb (by simp))).mono (fun e w2 h=>⟨(),h⟩)) (fun _=>?_)
    refine jN 2 ?_
    refine WC.cond rfl (fun h16=>?_) (fun h16=>?_)
    ·refine jN 14 ?_
     exact WQ.ret (rs:=[.tmp 4]) rfl (.tmp rfl .nil) (fun w hS=>⟨(i:Int),.inr ⟨i,rfl,hlt,hno,fun y hy=>by rw [hx] at hy;injection hy with hy;rw [← hy];exact h16⟩,rfl,hS⟩)
    have hsf:q1 x=false:=h16
    refine jN 9 ?_
    refine WQ.back (i+1) ?_ ?_ ?_ ?_
    ·exact ⟨by omega,take_nx hx hno hsf⟩
    ·omega
    ·exact ⟨rfl,rfl,rfl,rfl,trivial⟩
    rfl
   have hie:i=l.length:=by simp at h9;omega
   rw [hie,List.take_length] at hno
   refine jN 12 ?_
   exact WQ.ret (rs:=[.tmp 4]) rfl (.tmp rfl .nil) (fun w hS=>⟨-1,.inl ⟨rfl,hno⟩,rfl,hS⟩)):G:=h
set_option maxRecDepth 100000 in
theorem idxT_c (l:List TkV) (la:Option Addr) (lc bf:Nat) (hl:l.length≤1000000) (w:World) (hr:RdSl tkC 7 w l la) (hb:w.cell? ⟨bf,0,none⟩=some (.func (.func 52) [].toArray [].toArray)):Calls Tryz.prog 121 [.slice la l.length lc,.func (.func 90) [].toArray [pp bf].toArray].toArray w fun e w'=>∃ r:Int,FndI emT l r∧e= .returned (.int .i64 r)∧St w [] [] w':=by
 let q1:=emT
 let q2:Nat:=90
 have q3:= @F.sl30
 have q4:= @F.agg89
 let q5:=tkC
 have q6:= @F.fun90
 have q7:= @jnT_c
 have qO:∀ x,∀ u∈tkC x,u.oneCell'=true:=fun x=>jO
 exact idxK_c_s
set_option maxRecDepth 100000 in
theorem jnD_c (x:DgV) (bf:Nat) (w:World) (hb:w.cell? ⟨bf,0,none⟩=some (.func (.func 54) [].toArray [].toArray)):Pure Tryz.prog 94 [.agg (dgC x).toArray,pp bf] w (.bool (emD x)):=by
 have q1:= @F.one106
 let q2:Nat:=54
 let q3:Nat:=4
 have q4:= @F.fun54
 have q5:= @Mg2_c
 let q6:=dgC
 let q7:=emD
 have qO:∀ x,∀ u∈dgC x,u.oneCell'=true:=fun x=>jO
 exact jnK_c_s
set_option maxRecDepth 100000 in
theorem idxD_c (l:List DgV) (la:Option Addr) (lc bf:Nat) (hl:l.length≤1000000) (w:World) (hr:RdSl dgC 6 w l la) (hb:w.cell? ⟨bf,0,none⟩=some (.func (.func 54) [].toArray [].toArray)):Calls Tryz.prog 123 [.slice la l.length lc,.func (.func 94) [].toArray [pp bf].toArray].toArray w fun e w'=>∃ r:Int,FndI emD l r∧e= .returned (.int .i64 r)∧St w [] [] w':=by
 let q1:=emD
 let q2:Nat:=94
 have q3:= @F.sl31
 have q4:= @F.agg95
 let q5:=dgC
 have q6:= @F.fun94
 have q7:= @jnD_c
 have qO:∀ x,∀ u∈dgC x,u.oneCell'=true:=fun x=>jO
 exact idxK_c_s
theorem row_O1T {g n c:Nat} {l:List Value}:∀ x∈[jW g n c 89 7 l],∀ k,x.fp k→k∈[g]:=by
 intro x hx k hk
 rw [List.mem_singleton.1 hx] at hk
 exact (FpIs.rowc k).1 hk
theorem row_O2T {g n c:Nat} {l:List Value}:∀ k∈[g],∃ x∈[jW g n c 89 7 l],x.fp k:=fun k hk=>⟨_,List.mem_singleton.2 rfl,(FpIs.rowc k).2 hk⟩
theorem row_O1D {g n c:Nat} {l:List Value}:∀ x∈[jW g n c 95 6 l],∀ k,x.fp k→k∈[g]:=by
 intro x hx k hk
 rw [List.mem_singleton.1 hx] at hk
 exact (FpIs.rowc k).1 hk
theorem row_O2D {g n c:Nat} {l:List Value}:∀ k∈[g],∃ x∈[jW g n c 95 6 l],x.fp k:=fun k hk=>⟨_,List.mem_singleton.2 rfl,(FpIs.rowc k).2 hk⟩
set_option maxRecDepth 1000000 in
theorem insK_c_s {G:Prop} (h:G:=by
   subst hlo hhi
   have hnl:P.length+X.length+S.length=n:=by rw [← hn];simp;omega
   first | refine enter Tryz.func158 rfl Tryz.ntmps158 rfl (C:=[jW g n c 89 7 ((P++(X++S)).flatMap tkC)]) hS0 ?_ | refine enter Tryz.func160 rfl Tryz.ntmps160 rfl (C:=[jW g n c 95 6 ((P++(X++S)).flatMap dgC)]) hS0 ?_
   refine jN 5 ?_
   refine WL.bin (v:= .int .i64 ((P.length+1:Nat):Int)) rfl rfl rfl (fun w=>run_addN6 (n:=1) (by omega) (by decide) _ _ _ w) ?_
   refine jN 5 ?_
   refine WC.chunks (C':=[jW g n c q1 q2 ((P++(isort (ltC cmp) (X.take 1)++(X.drop 1++S))).flatMap q3)]) (fun w hS=>by have e:P++(isort (ltC cmp) (X.take 1)++(X.drop 1++S))=P++(X++S):=(by (cases X<;>rfl));rw [e];exact hS) ?_
   refine WC.loop (α:=Nat) (fun k=>1≤k∧(k≤X.length∨k=1)) (fun k=>[(0,.slice (some ⟨g,0,none⟩) n c),(1,.int .i64 (P.length:Int)),(2,.int .i64 ((P.length+X.length:Nat):Int)),(3,.func (.func kc) us.toArray cap.toArray),(8,.int .i64 ((P.length+k:Nat):Int))]) (fun k=>[jW g n c q1 q2 ((P++(isort (ltC cmp) (X.take k)++(X.drop k++S))).flatMap q3)]) (fun k=>X.length - k) (1) ?_ ?_ ?_ ?_
   ·exact ⟨Nat.le_refl _,.inr rfl⟩
   ·exact ⟨rfl,rfl,rfl,rfl,rfl,trivial⟩
   ·rfl
   rintro k ⟨hk1,hk2⟩
   show WC _ _ _ _ _ _ _ [(0,.slice (some ⟨g,0,none⟩) n c),(1,.int .i64 (P.length:Int)),(2,.int .i64 ((P.length+X.length:Nat):Int)),(3,.func (.func kc) us.toArray cap.toArray),(8,.int .i64 ((P.length+k:Nat):Int))] [jW g n c q1 q2 ((P++(isort (ltC cmp) (X.take k)++(X.drop k++S))).flatMap q3)]
   refine jN 11 ?_
   refine WC.cond rfl (fun h14=>?_) (fun h14=>?_)
   ·have hkl:k<X.length:=by simp at h14;omega
    obtain ⟨x,hx⟩:∃ x,X[k]?=some x:=⟨_,List.getElem?_eq_getElem hkl⟩
    have hxm:=List.mem_of_getElem? hx
    have hil:(isort (ltC cmp) (X.take k)).length=k:=by rw [isort_len,List.length_take];omega
    have hdr:X.drop k=x::X.drop (k+1):=by rw [List.drop_eq_getElem_cons hkl];congr 1;exact (List.getElem?_eq_some_iff.1 hx).2
    refine jN 13 ?_
    refine WC.chunks (C':=[jW g n c q1 q2 ((P++((isort (ltC cmp) (X.take k))++x::([]++(X.drop (k+1)++S)))).flatMap q3)]) (fun w hS=>by have e:P++((isort (ltC cmp) (X.take k))++x::([]++(X.drop (k+1)++S)))=P++(isort (ltC cmp) (X.take k)++(X.drop k++S)):=(by (rw [hdr];simp));rw [e];exact hS) ?_
    refine WC.loop (α:=List _×List _) (fun z=>isort (ltC cmp) (X.take k)=z.1++z.2∧∀ y∈z.2,ltC cmp x y=true) (fun z=>[(0,.slice (some ⟨g,0,none⟩) n c),(1,.int .i64 (P.length:Int)),(2,.int .i64 ((P.length+X.length:Nat):Int)),(3,.func (.func kc) us.toArray cap.toArray),(8,.int .i64 ((P.length+k:Nat):Int)),(9,.int .i64 ((P.length+z.1.length:Nat):Int))]) (fun z=>[jW g n c q1 q2 ((P++(z.1++x::(z.2++(X.drop (k+1)++S)))).flatMap q3)]) (fun z=>z.1.length) ((isort (ltC cmp) (X.take k),[])) ?_ ?_ ?_ ?_
    ·exact ⟨by simp,by simp⟩
    ·rw [hil];exact ⟨rfl,rfl,rfl,rfl,rfl,rfl,trivial⟩
    ·rfl
    rintro ⟨A,B⟩ ⟨hAB,hB⟩
    dsimp only at hAB hB
    show WC _ _ _ _ _ _ _ [(0,.slice (some ⟨g,0,none⟩) n c),(1,.int .i64 (P.length:Int)),(2,.int .i64 ((P.length+X.length:Nat):Int)),(3,.func (.func kc) us.toArray cap.toArray),(8,.int .i64 ((P.length+k:Nat):Int)),(9,.int .i64 ((P.length+A.length:Nat):Int))] [jW g n c q1 q2 ((P++(A++x::(B++(X.drop (k+1)++S)))).flatMap q3)]
    have hlen:=congrArg List.length hAB
    rw [hil,List.length_append] at hlen
    refine jN 2 ?_
    rcases List.eq_nil_or_concat A with rfl | ⟨A',y,hA⟩
    ·have hins:sins (ltC cmp) x ([]++B)=[]++x::B:=sins_at (by simp) (fun z hz=>hB z (List.mem_of_mem_head? hz))
     refine WC.draws [] (by kernel_rfl) (fun w hS=>facts_nil) ?_
     refine jQ [0,1,2,3] ?_
     refine fun hcl=>WA.splitB (i:=21) rfl (fun g20=>?_) (fun g20=>?_)
     ·refine (show WD _ _ _ _ _ _ _ _ _ _ _ _ from ?_) hcl
      exfalso;simp at g20
     refine (show WD _ _ _ _ _ _ _ _ _ _ _ _ from ?_) hcl
     refine jQ [4,5,6,7,8,9,10,11,12,13,14,15,16] ?_
     refine jD ?_
     refine jN 16 ?_
     have hs:isort (ltC cmp) (X.take (k+1))=[]++x::B:=by rw [List.take_add_one,hx,Option.toList_some,isort_snoc,hAB];exact hins
     refine WQ.chunks (C':=[jW g n c q1 q2 ((P++(isort (ltC cmp) (X.take (k+1))++(X.drop (k+1)++S))).flatMap q3)]) (fun w hS=>by have e:P++(isort (ltC cmp) (X.take (k+1))++(X.drop (k+1)++S))=P++([]++x::(B++(X.drop (k+1)++S))):=(by (rw [hs];simp));rw [e];exact hS) ?_
     refine WQ.back (k+1) ?_ ?_ ?_ ?_
     ·exact ⟨by omega,.inl (by omega)⟩
     ·omega
     ·exact ⟨rfl,rfl,rfl,rfl,rfl,trivial⟩
     rfl
    rw [List.concat_eq_append] at hA
    subst hA
    have hym:y∈isort (ltC cmp) (X.take k):=by rw [hAB];simp
    have hymX:y∈X:=List.mem_of_mem_take (isort_mem.1 hym)
    have hlen2:(A'++[y]).length=A'.length+1:=by simp
    refine WC.draws [([14],fun w=>∀ jj v,(q3 x)[jj]?=some v→w.cell? ⟨g,0+(P.length+(A'++[y]).length)*q2+jj,none⟩=some v),([14],fun w=>∀ jj v,(q3 y)[jj]?=some v→w.cell? ⟨g,0+(P.length+A'.length)*q2+jj,none⟩=some v)] (by kernel_rfl) (fun w hS=>facts_cons ((fun jj v hv=>by rw [Nat.zero_add];exact rowc_cells (hS.ok (jW g n c q1 q2 ((P++((A'++[y])++x::(B++(X.drop (k+1)++S)))).flatMap q3)) jM) (flat_at (cells:=q3) (sz:=q2) (fun _ _=>rfl) (show (P++((A'++[y])++x::(B++(X.drop (k+1)++S))))[P.length+(A'++[y]).length]?=some x by exact at2 rfl) jj _ hv))) (facts_cons ((fun jj v hv=>by rw [Nat.zero_add];exact rowc_cells (hS.ok (jW g n c q1 q2 ((P++((A'++[y])++x::(B++(X.drop (k+1)++S)))).flatMap q3)) jM) (flat_at (cells:=q3) (sz:=q2) (fun _ _=>rfl) (show (P++((A'++[y])++x::(B++(X.drop (k+1)++S))))[P.length+A'.length]?=some y by rw [List.append_assoc A'];exact at2 rfl) jj _ hv))) (facts_nil))) ?_
    refine jQ [0,1,2,3] ?_
    refine fun hcl=>WA.splitB (i:=21) rfl (fun g20=>?_) (fun g20=>?_)
    ·refine (show WD _ _ _ _ _ _ _ _ _ _ _ _ from ?_) hcl
     refine jQ [4,5,6] ?_
     refine WD.takeG (i:=7) rfl rfl rfl rfl rfl rfl (by decide+kernel) (by decide+kernel) (by decide+kernel) (fun _ _ _ h=>h) (by kernel_rfl) need_none (Yl.indexAddr q4 rfl rfl (by omega)) ?_
     refine WD.takeG (i:=8) rfl rfl rfl rfl rfl rfl (by decide+kernel) (by decide+kernel) (by decide+kernel) (fun _ _ _ h=>h) (by kernel_rfl) (need_at2 0 rfl (by decide+kernel)) (Yl.loadN q5 rfl rfl) ?_
     refine jQ [9,10] ?_
     refine WD.takeG (i:=11) rfl rfl rfl rfl rfl rfl (by decide+kernel) (by decide+kernel) (by decide+kernel) (fun _ _ _ h=>h) (by kernel_rfl) need_none (Yl.bin (v:= .int .i64 ((P.length+A'.length:Nat):Int)) rfl rfl (fun w=>run_subK (i:=1) (k:=P.length+A'.length) (s:=P.length+(A'++[y]).length) (by omega) (by omega) _ _ _ w)) ?_
     refine WD.takeG (i:=12) rfl rfl rfl rfl rfl rfl (by decide+kernel) (by decide+kernel) (by decide+kernel) (fun _ _ _ h=>h) (by kernel_rfl) need_none (Yl.indexAddr q4 rfl rfl (by omega)) ?_
     refine WD.takeG (i:=13) rfl rfl rfl rfl rfl rfl (by decide+kernel) (by decide+kernel) (by decide+kernel) (fun _ _ _ h=>h) (by kernel_rfl) (need_at2 1 rfl (by decide+kernel)) (Yl.loadN q5 rfl rfl) ?_
     refine jA 14 rfl ?_
     refine WL.guardT rfl rfl rfl ?_
     refine WL.callFC (β:=Unit) (res:=fun _=> .int .i64 (cmp x y)) (cs:=fun _=>[]) (Cs:=[]) (O':=[]) (us:=us) (cap:=cap) hkc (fun d h=>by cases h;rfl) rfl rfl (List.Perm.refl _) (by simp) (by simp) (fun w hS _=>(hcmp _ _ hS x y (hQx _ hxm) (hQx _ hymX)).mono (fun e w2 h=>⟨(),h⟩)) (fun _=>?_)
     refine jG ?_
     refine jQ [15,16] ?_
     refine jD ?_
     refine jN 1 ?_
     refine WC.cond rfl (fun h34=>?_) (fun h34=>?_)
     ·have e1:((P++((A'++[y])++x::(B++(X.drop (k+1)++S)))).set (P.length+(A'++[y]).length) y).set (P.length+A'.length) x=P++(A'++x::((y::B)++(X.drop (k+1)++S))):=by
       have h9:=swp' (A:=P++A') (B:=[]) (C:=B++(X.drop (k+1)++S)) (x:=y) (y:=x) (i:=P.length+A'.length) (k:=P.length+(A'++[y]).length) (by simp) (by simp<;>omega)
       simp
      have e2:((P++((A'++[y])++x::(B++(X.drop (k+1)++S)))).set (P.length+A'.length) x).set (P.length+(A'++[y]).length) y=P++(A'++x::((y::B)++(X.drop (k+1)++S))):=by
       have h9:=swp (A:=P++A') (B:=[]) (C:=B++(X.drop (k+1)++S)) (x:=y) (y:=x) (i:=P.length+A'.length) (k:=P.length+(A'++[y]).length) (by simp) (by simp<;>omega)
       simp
      refine jN 4 ?_
      refine WC.cutPE (α:=Unit) (fun _=>[(0,.slice (some ⟨g,0,none⟩) n c),(1,.int .i64 (P.length:Int)),(2,.int .i64 ((P.length+X.length:Nat):Int)),(3,.func (.func kc) us.toArray cap.toArray),(8,.int .i64 ((P.length+k:Nat):Int)),(9,.int .i64 ((P.length+(A'++[y]).length:Nat):Int))]) (fun _=>[jW g n c q1 q2 ((P++(A'++x::((y::B)++(X.drop (k+1)++S)))).flatMap q3)]) (fun c a d v w h=>by cases d<;>exact h) (fun Q' hP hQ=>?_) (fun xE=>?_)
      ·refine WC.draws [([15,17],fun w=>∀ jj v,(q3 y)[jj]?=some v→w.cell? ⟨g,0+(P.length+A'.length)*q2+jj,none⟩=some v),([15,17],fun w=>∀ jj v,(q3 x)[jj]?=some v→w.cell? ⟨g,0+(P.length+(A'++[y]).length)*q2+jj,none⟩=some v)] (by kernel_rfl) (fun w hS=>facts_cons ((fun jj v hv=>by rw [Nat.zero_add];exact rowc_cells (hS.ok (jW g n c q1 q2 ((P++((A'++[y])++x::(B++(X.drop (k+1)++S)))).flatMap q3)) jM) (flat_at (cells:=q3) (sz:=q2) (fun _ _=>rfl) (show (P++((A'++[y])++x::(B++(X.drop (k+1)++S))))[P.length+A'.length]?=some y by rw [List.append_assoc A'];exact at2 rfl) jj _ hv))) (facts_cons ((fun jj v hv=>by rw [Nat.zero_add];exact rowc_cells (hS.ok (jW g n c q1 q2 ((P++((A'++[y])++x::(B++(X.drop (k+1)++S)))).flatMap q3)) jM) (flat_at (cells:=q3) (sz:=q2) (fun _ _=>rfl) (show (P++((A'++[y])++x::(B++(X.drop (k+1)++S))))[P.length+(A'++[y]).length]?=some x by exact at2 rfl) jj _ hv))) (facts_nil))) ?_
       refine jQ [0,1,2,3] ?_
       refine jT 4 rfl (Yl.bin (v:= .int .i64 ((P.length+A'.length:Nat):Int)) rfl rfl (fun w=>run_subK (i:=1) (k:=P.length+A'.length) (s:=P.length+(A'++[y]).length) (by omega) (by omega) _ _ _ w)) ?_
       refine jQ [5,6] ?_
       refine jT 7 rfl (Yl.bin (v:= .int .i64 ((P.length+A'.length:Nat):Int)) rfl rfl (fun w=>run_subK (i:=1) (k:=P.length+A'.length) (s:=P.length+(A'++[y]).length) (by omega) (by omega) _ _ _ w)) ?_
       refine jT 8 rfl (Yl.indexAddr q4 rfl rfl (by omega)) ?_
       refine jF 9 0 rfl rfl (Yl.loadN q5 rfl rfl) ?_
       refine jQ [10,11] ?_
       refine jT 12 rfl (Yl.indexAddr q4 rfl rfl (by omega)) ?_
       refine jF 13 1 rfl rfl (Yl.loadN q5 rfl rfl) ?_
       refine jT 14 rfl (Yl.indexAddr q4 rfl rfl (by omega)) ?_
       refine jA 15 rfl ?_
       refine WL.storeRow (n:=n) q5 rfl rfl rfl (by first | exact qO _ | simp [Value.oneCell']) (by omega) jU (by rw [Nat.zero_add];exact setN_flat (fun _=>rfl) (by simp<;>omega)) ?_
       refine jG ?_
       refine jT 16 rfl (Yl.indexAddr q4 rfl rfl (by omega)) ?_
       refine jA 17 rfl ?_
       refine WL.storeRow (n:=n) q5 rfl rfl rfl (by first | exact qO _ | simp [Value.oneCell']) (by omega) jU (by rw [Nat.zero_add];exact setN_flat (fun _=>rfl) (by simp<;>omega)) ?_
       refine jG ?_
       refine jD ?_
       refine WQ.chunks (C':=[jW g n c q1 q2 ((P++(A'++x::((y::B)++(X.drop (k+1)++S)))).flatMap q3)]) (fun w hS=>by first | (have h9:=hS;rw [e1] at h9;exact h9) | (have h9:=hS;rw [e2] at h9;exact h9)) ?_
       exact WQ.byCut (hQ ()) ⟨rfl,rfl,rfl,rfl,rfl,rfl,trivial⟩
      show WQ _ _ _ _ _ _ [(0,.slice (some ⟨g,0,none⟩) n c),(1,.int .i64 (P.length:Int)),(2,.int .i64 ((P.length+X.length:Nat):Int)),(3,.func (.func kc) us.toArray cap.toArray),(8,.int .i64 ((P.length+k:Nat):Int)),(9,.int .i64 ((P.length+(A'++[y]).length:Nat):Int))] [jW g n c q1 q2 ((P++(A'++x::((y::B)++(X.drop (k+1)++S)))).flatMap q3)]
      refine jN 6 ?_
      refine WL.bin (v:= .int .i64 ((P.length+A'.length:Nat):Int)) rfl rfl rfl (fun w=>run_subK (i:=1) (k:=P.length+A'.length) (s:=P.length+(A'++[y]).length) (by omega) (by omega) _ _ _ w) ?_
      refine jN 3 ?_
      refine WQ.back ((A',y::B)) ?_ ?_ ?_ ?_
      ·exact ⟨by rw [hAB];simp,fun z hz=>by rcases List.mem_cons.1 hz with rfl | hz;exact h34;exact hB z hz⟩
      ·show A'.length<(A'++[y]).length;simp
      ·exact ⟨rfl,rfl,rfl,rfl,rfl,rfl,trivial⟩
      rfl
     have hins:sins (ltC cmp) x ((A'++[y])++B)=(A'++[y])++x::B:=by
      refine sins_at (fun z hz=>?_) (fun z hz=>hB z (List.mem_of_mem_head? hz))
      have hs9:Srt (ltC cmp) ((A'++[y])++B):=by rw [← hAB];exact isort_srt hw _
      have hs8:Srt (ltC cmp) (A'++[y]):=(List.pairwise_append.1 hs9).1
      rcases List.mem_append.1 hz with hz | hz
      ·exact hw.tr z y x ((List.pairwise_append.1 hs8).2.2 z hz y (by simp)) h34
      ·rw [List.mem_singleton.1 hz];exact h34
     refine jN 14 ?_
     have hs:isort (ltC cmp) (X.take (k+1))=(A'++[y])++x::B:=by rw [List.take_add_one,hx,Option.toList_some,isort_snoc,hAB];exact hins
     refine WQ.chunks (C':=[jW g n c q1 q2 ((P++(isort (ltC cmp) (X.take (k+1))++(X.drop (k+1)++S))).flatMap q3)]) (fun w hS=>by have e:P++(isort (ltC cmp) (X.take (k+1))++(X.drop (k+1)++S))=P++((A'++[y])++x::(B++(X.drop (k+1)++S))):=(by (rw [hs];simp));rw [e];exact hS) ?_
     refine WQ.back (k+1) ?_ ?_ ?_ ?_
     ·exact ⟨by omega,.inl (by omega)⟩
     ·omega
     ·exact ⟨rfl,rfl,rfl,rfl,rfl,trivial⟩
     rfl
    refine (show WD _ _ _ _ _ _ _ _ _ _ _ _ from ?_) hcl
    exfalso;simp at g20;omega
   have hkl:X.length≤k:=by simp at h14;omega
   refine jN 4 ?_
   refine WQ.fin (rs:=[]) rfl .nil (fun w hS=>?_)
   have e:P++(isort (ltC cmp) (X.take k)++(X.drop k++S))=P++(isort (ltC cmp) X++S):=by rw [List.take_of_length_le hkl,List.drop_eq_nil_of_le hkl];rfl
   rw [e] at hS
   exact ⟨rfl,hS⟩):G:=h
set_option maxRecDepth 100000 in
theorem insT_c (P X S:List TkV) (g n c kc:Nat) (us cap:List Value) (Q:TkV→Prop) (cmp:TkV→TkV→Int) (hw:Swo (ltC cmp)) (hkc:funB Tryz.prog kc=some true) (lo hi:Nat) (hlo:lo=P.length) (hhi:hi=P.length+X.length) (hn:(P++(X++S)).length=n) (hnc:n≤1000000) (hQx:∀ x∈X,Q x) (w:World) (hcmp:CmpOk kc us cap tkC Q cmp w g) (hS0:St w [g] [jW g n c 89 7 ((P++(X++S)).flatMap tkC)] w):Calls Tryz.prog 158 [.slice (some ⟨g,0,none⟩) n c,.int .i64 (lo:Int),.int .i64 (hi:Int),.func (.func kc) us.toArray cap.toArray].toArray w fun e w'=>e= .returned (.tuple #[])∧St w [g] [jW g n c 89 7 ((P++(isort (ltC cmp) X++S)).flatMap tkC)] w':=by
 let q1:Nat:=89
 let q2:Nat:=7
 let q3:=tkC
 have q4:= @F.sl30
 have q5:= @F.agg89
 have qO:∀ x,∀ u∈tkC x,u.oneCell'=true:=fun x=>jO
 exact insK_c_s
set_option maxRecDepth 100000 in
theorem insD_c (P X S:List DgV) (g n c kc:Nat) (us cap:List Value) (Q:DgV→Prop) (cmp:DgV→DgV→Int) (hw:Swo (ltC cmp)) (hkc:funB Tryz.prog kc=some true) (lo hi:Nat) (hlo:lo=P.length) (hhi:hi=P.length+X.length) (hn:(P++(X++S)).length=n) (hnc:n≤1000000) (hQx:∀ x∈X,Q x) (w:World) (hcmp:CmpOk kc us cap dgC Q cmp w g) (hS0:St w [g] [jW g n c 95 6 ((P++(X++S)).flatMap dgC)] w):Calls Tryz.prog 160 [.slice (some ⟨g,0,none⟩) n c,.int .i64 (lo:Int),.int .i64 (hi:Int),.func (.func kc) us.toArray cap.toArray].toArray w fun e w'=>e= .returned (.tuple #[])∧St w [g] [jW g n c 95 6 ((P++(isort (ltC cmp) X++S)).flatMap dgC)] w':=by
 let q1:Nat:=95
 let q2:Nat:=6
 let q3:=dgC
 have q4:= @F.sl31
 have q5:= @F.agg95
 have qO:∀ x,∀ u∈dgC x,u.oneCell'=true:=fun x=>jO
 exact insK_c_s
set_option maxRecDepth 1000000 in
theorem swrK_c_s {G:Prop} (h:G:=by
   subst ha hb hm
   have hnl:P.length+X.length+M.length+Y.length+S.length=n:=by rw [← hn];simp;omega
   first | refine enter Tryz.func219 rfl Tryz.ntmps219 rfl (C:=[jW g n c 89 7 ((P++(X++(M++(Y++S)))).flatMap tkC)]) hS0 ?_ | refine enter Tryz.func220 rfl Tryz.ntmps220 rfl (C:=[jW g n c 95 6 ((P++(X++(M++(Y++S)))).flatMap dgC)]) hS0 ?_
   refine jN 7 ?_
   refine WC.chunks (C':=[jW g n c q1 q2 ((P++(Y.take 0++(X.drop 0++(M++(X.take 0++(Y.drop 0++S)))))).flatMap q3)]) (fun w hS=>by have e:P++(Y.take 0++(X.drop 0++(M++(X.take 0++(Y.drop 0++S)))))=P++(X++(M++(Y++S))):=(by simp);rw [e];exact hS) ?_
   refine WC.loop (α:=Nat) (fun i=>i≤X.length) (fun i=>[(0,.slice (some ⟨g,0,none⟩) n c),(1,.int .i64 (P.length:Int)),(2,.int .i64 ((P.length+X.length+M.length:Nat):Int)),(3,.int .i64 (X.length:Int)),(10,.int .i64 (i:Int))]) (fun i=>[jW g n c q1 q2 ((P++(Y.take i++(X.drop i++(M++(X.take i++(Y.drop i++S)))))).flatMap q3)]) (fun i=>X.length - i) (0) ?_ ?_ ?_ ?_
   ·exact Nat.zero_le _
   ·exact ⟨rfl,rfl,rfl,rfl,rfl,trivial⟩
   ·rfl
   rintro i hi
   show WC _ _ _ _ _ _ _ [(0,.slice (some ⟨g,0,none⟩) n c),(1,.int .i64 (P.length:Int)),(2,.int .i64 ((P.length+X.length+M.length:Nat):Int)),(3,.int .i64 (X.length:Int)),(10,.int .i64 (i:Int))] [jW g n c q1 q2 ((P++(Y.take i++(X.drop i++(M++(X.take i++(Y.drop i++S)))))).flatMap q3)]
   refine jN 11 ?_
   refine WC.cond rfl (fun h13=>?_) (fun h13=>?_)
   ·have hlt:i<X.length:=by simpa using h13
    have hlt2:i<Y.length:=by omega
    obtain ⟨x,hx⟩:∃ x,X[i]?=some x:=⟨_,List.getElem?_eq_getElem hlt⟩
    obtain ⟨y,hy⟩:∃ x,Y[i]?=some x:=⟨_,List.getElem?_eq_getElem hlt2⟩
    have hdx:X.drop i=x::X.drop (i+1):=by rw [List.drop_eq_getElem_cons hlt];congr 1;exact (List.getElem?_eq_some_iff.1 hx).2
    have hdy:Y.drop i=y::Y.drop (i+1):=by rw [List.drop_eq_getElem_cons hlt2];congr 1;exact (List.getElem?_eq_some_iff.1 hy).2
    refine WC.chunks (C':=[jW g n c q1 q2 (((P++Y.take i)++x::((X.drop (i+1)++(M++X.take i))++y::(Y.drop (i+1)++S))).flatMap q3)]) (fun w hS=>by have e:(P++Y.take i)++x::((X.drop (i+1)++(M++X.take i))++y::(Y.drop (i+1)++S))=P++(Y.take i++(X.drop i++(M++(X.take i++(Y.drop i++S))))):=(by (rw [hdx,hdy];simp));rw [e];exact hS) ?_
    have e1:(((P++Y.take i)++x::((X.drop (i+1)++(M++X.take i))++y::(Y.drop (i+1)++S))).set (P.length+i) y).set (P.length+X.length+M.length+i) x=(P++Y.take i)++y::((X.drop (i+1)++(M++X.take i))++x::(Y.drop (i+1)++S)):=swp (by simp;omega) (by simp;omega)
    have e2:(((P++Y.take i)++x::((X.drop (i+1)++(M++X.take i))++y::(Y.drop (i+1)++S))).set (P.length+X.length+M.length+i) x).set (P.length+i) y=(P++Y.take i)++y::((X.drop (i+1)++(M++X.take i))++x::(Y.drop (i+1)++S)):=swp' (by simp;omega) (by simp;omega)
    refine jN 4 ?_
    refine WC.cutPE (α:=Unit) (fun _=>[(0,.slice (some ⟨g,0,none⟩) n c),(1,.int .i64 (P.length:Int)),(2,.int .i64 ((P.length+X.length+M.length:Nat):Int)),(3,.int .i64 (X.length:Int)),(10,.int .i64 (i:Int))]) (fun _=>[jW g n c q1 q2 (((P++Y.take i)++y::((X.drop (i+1)++(M++X.take i))++x::(Y.drop (i+1)++S))).flatMap q3)]) (fun c a d v w h=>by cases d<;>exact h) (fun Q' hP hQ=>?_) (fun xE=>?_)
    ·refine WC.draws [([21,23],fun w=>∀ jj v,(q3 y)[jj]?=some v→w.cell? ⟨g,0+(P.length+X.length+M.length+i)*q2+jj,none⟩=some v),([21,23],fun w=>∀ jj v,(q3 x)[jj]?=some v→w.cell? ⟨g,0+(P.length+i)*q2+jj,none⟩=some v)] (by kernel_rfl) (fun w hS=>facts_cons ((fun jj v hv=>by rw [Nat.zero_add];exact rowc_cells (hS.ok (jW g n c q1 q2 (((P++Y.take i)++x::((X.drop (i+1)++(M++X.take i))++y::(Y.drop (i+1)++S))).flatMap q3)) jM) (flat_at (cells:=q3) (sz:=q2) (fun _ _=>rfl) (show ((P++Y.take i)++x::((X.drop (i+1)++(M++X.take i))++y::(Y.drop (i+1)++S)))[P.length+X.length+M.length+i]?=some y by rw [show (P++Y.take i)++x::((X.drop (i+1)++(M++X.take i))++y::(Y.drop (i+1)++S))=((P++Y.take i)++x::(X.drop (i+1)++(M++X.take i)))++y::(Y.drop (i+1)++S) by simp];exact at_app' (by simp;omega)) jj _ hv))) (facts_cons ((fun jj v hv=>by rw [Nat.zero_add];exact rowc_cells (hS.ok (jW g n c q1 q2 (((P++Y.take i)++x::((X.drop (i+1)++(M++X.take i))++y::(Y.drop (i+1)++S))).flatMap q3)) jM) (flat_at (cells:=q3) (sz:=q2) (fun _ _=>rfl) (show ((P++Y.take i)++x::((X.drop (i+1)++(M++X.take i))++y::(Y.drop (i+1)++S)))[P.length+i]?=some x from at_app' (by simp;omega)) jj _ hv))) (facts_nil))) ?_
     refine jQ [0,1,2] ?_
     refine jT 3 rfl (Yl.bin (v:= .int .i64 ((P.length+i:Nat):Int)) rfl rfl (fun w=>run_addN6 (by omega) (by omega) _ _ _ w)) ?_
     refine jQ [4,5,6] ?_
     refine jT 7 rfl (Yl.bin (v:= .int .i64 ((P.length+X.length+M.length+i:Nat):Int)) rfl rfl (fun w=>run_addN6 (by omega) (by omega) _ _ _ w)) ?_
     refine jQ [8,9,10] ?_
     refine jT 11 rfl (Yl.bin (v:= .int .i64 ((P.length+X.length+M.length+i:Nat):Int)) rfl rfl (fun w=>run_addN6 (by omega) (by omega) _ _ _ w)) ?_
     refine jT 12 rfl (Yl.indexAddr q4 rfl rfl (by omega)) ?_
     refine jF 13 0 rfl rfl (Yl.loadN q5 rfl rfl) ?_
     refine jQ [14,15,16] ?_
     refine jT 17 rfl (Yl.bin (v:= .int .i64 ((P.length+i:Nat):Int)) rfl rfl (fun w=>run_addN6 (by omega) (by omega) _ _ _ w)) ?_
     refine jT 18 rfl (Yl.indexAddr q4 rfl rfl (by omega)) ?_
     refine jF 19 1 rfl rfl (Yl.loadN q5 rfl rfl) ?_
     refine jT 20 rfl (Yl.indexAddr q4 rfl rfl (by omega)) ?_
     refine jA 21 rfl ?_
     refine WL.storeRow (n:=n) q5 rfl rfl rfl (by first | exact qO _ | simp [Value.oneCell']) (by omega) jU (by rw [Nat.zero_add];exact setN_flat (fun _=>rfl) (by simp<;>omega)) ?_
     refine jG ?_
     refine jT 22 rfl (Yl.indexAddr q4 rfl rfl (by omega)) ?_
     refine jA 23 rfl ?_
     refine WL.storeRow (n:=n) q5 rfl rfl rfl (by first | exact qO _ | simp [Value.oneCell']) (by omega) jU (by rw [Nat.zero_add];exact setN_flat (fun _=>rfl) (by simp<;>omega)) ?_
     refine jG ?_
     refine jD ?_
     refine WQ.chunks (C':=[jW g n c q1 q2 (((P++Y.take i)++y::((X.drop (i+1)++(M++X.take i))++x::(Y.drop (i+1)++S))).flatMap q3)]) (fun w hS=>by first | (have h9:=hS;rw [e1] at h9;exact h9) | (have h9:=hS;rw [e2] at h9;exact h9)) ?_
     exact WQ.byCut (hQ ()) ⟨rfl,rfl,rfl,rfl,rfl,trivial⟩
    show WQ _ _ _ _ _ _ [(0,.slice (some ⟨g,0,none⟩) n c),(1,.int .i64 (P.length:Int)),(2,.int .i64 ((P.length+X.length+M.length:Nat):Int)),(3,.int .i64 (X.length:Int)),(10,.int .i64 (i:Int))] [jW g n c q1 q2 (((P++Y.take i)++y::((X.drop (i+1)++(M++X.take i))++x::(Y.drop (i+1)++S))).flatMap q3)]
    refine jN 10 ?_
    refine WQ.chunks (C':=[jW g n c q1 q2 ((P++(Y.take (i+1)++(X.drop (i+1)++(M++(X.take (i+1)++(Y.drop (i+1)++S)))))).flatMap q3)]) (fun w hS=>by have e:P++(Y.take (i+1)++(X.drop (i+1)++(M++(X.take (i+1)++(Y.drop (i+1)++S)))))=(P++Y.take i)++y::((X.drop (i+1)++(M++X.take i))++x::(Y.drop (i+1)++S)):=(by (rw [List.take_add_one,List.take_add_one,hx,hy];simp));rw [e];exact hS) ?_
    refine WQ.back (i+1) ?_ ?_ ?_ ?_
    ·exact hlt
    ·omega
    ·exact ⟨rfl,rfl,rfl,rfl,rfl,trivial⟩
    rfl
   have hie:i=X.length:=by simp at h13;omega
   subst hie
   refine jN 4 ?_
   refine WQ.fin (rs:=[]) rfl .nil (fun w hS=>?_)
   have e:P++(Y.take X.length++(X.drop X.length++(M++(X.take X.length++(Y.drop X.length++S)))))=P++(Y++(M++(X++S))):=by rw [List.take_of_length_le (by omega),List.drop_eq_nil_of_le (Nat.le_refl _),List.take_length,List.drop_eq_nil_of_le (by omega)];rfl
   rw [e] at hS
   exact ⟨rfl,hS⟩):G:=h
set_option maxRecDepth 100000 in
theorem swrT_c (P X M Y S:List TkV) (g n c:Nat) (fv:Value) (hf:fv.oneCell'=true) (a b m:Nat) (ha:a=P.length) (hb:b=P.length+X.length+M.length) (hm:m=X.length) (hxy:X.length=Y.length) (hn:(P++(X++(M++(Y++S)))).length=n) (hnc:n≤1000000) (w:World) (hS0:St w [g] [jW g n c 89 7 ((P++(X++(M++(Y++S)))).flatMap tkC)] w):Calls Tryz.prog 219 [.slice (some ⟨g,0,none⟩) n c,.int .i64 (a:Int),.int .i64 (b:Int),.int .i64 (m:Int),fv].toArray w fun e w'=>e= .returned (.tuple #[])∧St w [g] [jW g n c 89 7 ((P++(Y++(M++(X++S)))).flatMap tkC)] w':=by
 let q1:Nat:=89
 let q2:Nat:=7
 let q3:=tkC
 have q4:= @F.sl30
 have q5:= @F.agg89
 have qO:∀ x,∀ u∈tkC x,u.oneCell'=true:=fun x=>jO
 exact swrK_c_s
set_option maxRecDepth 100000 in
theorem swrD_c (P X M Y S:List DgV) (g n c:Nat) (fv:Value) (hf:fv.oneCell'=true) (a b m:Nat) (ha:a=P.length) (hb:b=P.length+X.length+M.length) (hm:m=X.length) (hxy:X.length=Y.length) (hn:(P++(X++(M++(Y++S)))).length=n) (hnc:n≤1000000) (w:World) (hS0:St w [g] [jW g n c 95 6 ((P++(X++(M++(Y++S)))).flatMap dgC)] w):Calls Tryz.prog 220 [.slice (some ⟨g,0,none⟩) n c,.int .i64 (a:Int),.int .i64 (b:Int),.int .i64 (m:Int),fv].toArray w fun e w'=>e= .returned (.tuple #[])∧St w [g] [jW g n c 95 6 ((P++(Y++(M++(X++S)))).flatMap dgC)] w':=by
 let q1:Nat:=95
 let q2:Nat:=6
 let q3:=dgC
 have q4:= @F.sl31
 have q5:= @F.agg95
 have qO:∀ x,∀ u∈dgC x,u.oneCell'=true:=fun x=>jO
 exact swrK_c_s
set_option maxRecDepth 1000000 in
theorem rotK_c_s {G:Prop} (h:G:=by
   have hnl:P.length+X.length+Y.length+S.length=n:=by rw [← hn];simp;omega
   first | refine enter Tryz.func189 rfl Tryz.ntmps189 rfl (C:=[jW g n c 89 7 ((P++(X++(Y++S))).flatMap tkC)]) hS0 ?_ | refine enter Tryz.func190 rfl Tryz.ntmps190 rfl (C:=[jW g n c 95 6 ((P++(X++(Y++S))).flatMap dgC)]) hS0 ?_
   refine jN 7 ?_
   refine WL.bin (v:= .int .i64 ((X.length:Nat):Int)) rfl rfl rfl (fun w=>run_subK (i:=a) (k:=X.length) (s:=m) (by omega) (by omega) _ _ _ w) ?_
   refine jN 11 ?_
   refine WL.bin (v:= .int .i64 ((Y.length:Nat):Int)) rfl rfl rfl (fun w=>run_subK (i:=m) (k:=Y.length) (s:=b) (by omega) (by omega) _ _ _ w) ?_
   refine jN 6 ?_
   refine WC.loop (α:=List _×List _×List _×List _) (fun z=>0<z.2.1.length∧0<z.2.2.1.length∧z.1.length+z.2.1.length=m∧z.1++(z.2.2.1++(z.2.1++z.2.2.2))=P++(Y++(X++S))) (fun z=>[(0,.slice (some ⟨g,0,none⟩) n c),(1,.int .i64 (a:Int)),(2,.int .i64 (m:Int)),(3,.int .i64 (b:Int)),(4,fv),(10,.int .i64 (z.2.1.length:Int)),(11,.int .i64 (z.2.2.1.length:Int))]) (fun z=>[jW g n c q1 q2 ((z.1++(z.2.1++(z.2.2.1++z.2.2.2))).flatMap q3)]) (fun z=>z.2.1.length+z.2.2.1.length) ((P,X,Y,S)) ?_ ?_ ?_ ?_
   ·exact ⟨hx0,hy0,by (show P.length+X.length=m);omega,rfl⟩
   ·exact ⟨rfl,rfl,rfl,rfl,rfl,rfl,rfl,trivial⟩
   ·rfl
   rintro ⟨P9,U,W,S9⟩ ⟨hu,hv,hm9,heq⟩
   dsimp only at hu hv hm9 heq
   show WC _ _ _ _ _ _ _ [(0,.slice (some ⟨g,0,none⟩) n c),(1,.int .i64 (a:Int)),(2,.int .i64 (m:Int)),(3,.int .i64 (b:Int)),(4,fv),(10,.int .i64 (U.length:Int)),(11,.int .i64 (W.length:Int))] [jW g n c q1 q2 ((P9++(U++(W++S9))).flatMap q3)]
   have hnl9:P9.length+W.length+U.length+S9.length=n:=by have:=congrArg List.length heq;simp at this;omega
   refine jN 11 ?_
   refine WC.cond rfl (fun h20=>?_) (fun h20=>?_)
   ·have hne:U.length≠W.length:=by intro e;rw [e] at h20;simp at h20
    refine jN 13 ?_
    refine WC.cond rfl (fun h23=>?_) (fun h23=>?_)
    ·have hgt:W.length<U.length:=by simp at h23;omega
     refine jN 2 ?_
     refine WA.chunks (C':=[jW g n c q1 q2 ((P9++((U.take W.length)++((U.drop W.length)++(W++S9)))).flatMap q3)]) (fun w hS=>by have e:P9++((U.take W.length)++((U.drop W.length)++(W++S9)))=P9++(U++(W++S9)):=(by (rw [← List.append_assoc (U.take W.length),List.take_append_drop]));rw [e];exact hS) ?_
     refine jN 7 ?_
     refine WL.bin (v:= .int .i64 ((P9.length:Nat):Int)) rfl rfl rfl (fun w=>run_subK (i:=U.length) (k:=P9.length) (s:=m) (by omega) (by omega) _ _ _ w) ?_
     refine jN 7 ?_
     refine WL.callC (β:=Unit) (res:=fun _=> .tuple #[]) (cs:=fun _=>[jW g n c q1 q2 ((P9++(W++((U.drop W.length)++((U.take W.length)++S9)))).flatMap q3)]) (Cs:=[jW g n c q1 q2 ((P9++((U.take W.length)++((U.drop W.length)++(W++S9)))).flatMap q3)]) (O':=[g]) q4 (fun d h=>by cases h;rfl) rfl (List.Perm.refl _) q5 q6 (fun w hS hS2=>(q7 P9 (U.take W.length) (U.drop W.length) W S9 g n c fv hf _ m W.length rfl (by first | omega | (simp<;>omega)) (by first | omega | (simp<;>omega)) (by first | omega | (simp<;>omega)) (by rw [← hnl9];simp<;>omega) hnc w hS2).mono (fun e w2 h=>⟨(),h⟩)) (fun _=>?_)
     refine jN 8 ?_
     refine WL.bin (v:= .int .i64 (((U.length - W.length):Nat):Int)) rfl rfl rfl (fun w=>run_subK (i:=W.length) (k:=(U.length - W.length)) (s:=U.length) (by omega) (by omega) _ _ _ w) ?_
     refine jN 4 ?_
     refine WQ.chunks (C':=[jW g n c q1 q2 (((P9++W)++((U.drop W.length)++((U.take W.length)++S9))).flatMap q3)]) (fun w hS=>by have e:(P9++W)++((U.drop W.length)++((U.take W.length)++S9))=P9++(W++((U.drop W.length)++((U.take W.length)++S9))):=(by simp);rw [e];exact hS) ?_
     refine WQ.back (P9++W,(U.drop W.length),(U.take W.length),S9) ?_ ?_ ?_ ?_
     ·exact ⟨by simp;omega,by simp;omega,by simp;omega,by rw [← heq];simp only [List.append_assoc];rw [← List.append_assoc (U.take W.length),List.take_append_drop]⟩
     ·simp;omega
     ·have e3:(U.drop W.length).length=U.length - W.length:=by simp
      have e4:(U.take W.length).length=W.length:=by simp;omega
      dsimp only;rw [e3,e4];exact ⟨rfl,rfl,rfl,rfl,rfl,rfl,rfl,trivial⟩
     rfl
    have hgt:U.length<W.length:=by simp at h23;omega
    refine jN 2 ?_
    refine WA.chunks (C':=[jW g n c q1 q2 ((P9++(U++((W.take (W.length - U.length))++((W.drop (W.length - U.length))++S9)))).flatMap q3)]) (fun w hS=>by have e:P9++(U++((W.take (W.length - U.length))++((W.drop (W.length - U.length))++S9)))=P9++(U++(W++S9)):=(by (rw [← List.append_assoc (W.take (W.length - U.length)),List.take_append_drop]));rw [e];exact hS) ?_
    refine jN 7 ?_
    refine WL.bin (v:= .int .i64 ((P9.length:Nat):Int)) rfl rfl rfl (fun w=>run_subK (i:=U.length) (k:=P9.length) (s:=m) (by omega) (by omega) _ _ _ w) ?_
    refine jN 5 ?_
    refine WL.bin (v:= .int .i64 ((m+W.length:Nat):Int)) rfl rfl rfl (fun w=>run_addN6 (by omega) (by omega) _ _ _ w) ?_
    refine jN 3 ?_
    refine WL.bin (v:= .int .i64 (((m+W.length - U.length):Nat):Int)) rfl rfl rfl (fun w=>run_subK (i:=U.length) (k:=(m+W.length - U.length)) (s:=m+W.length) (by omega) (by omega) _ _ _ w) ?_
    refine jN 5 ?_
    refine WL.callC (β:=Unit) (res:=fun _=> .tuple #[]) (cs:=fun _=>[jW g n c q1 q2 ((P9++((W.drop (W.length - U.length))++((W.take (W.length - U.length))++(U++S9)))).flatMap q3)]) (Cs:=[jW g n c q1 q2 ((P9++(U++((W.take (W.length - U.length))++((W.drop (W.length - U.length))++S9)))).flatMap q3)]) (O':=[g]) q4 (fun d h=>by cases h;rfl) rfl (List.Perm.refl _) q5 q6 (fun w hS hS2=>(q7 P9 U (W.take (W.length - U.length)) (W.drop (W.length - U.length)) S9 g n c fv hf _ (m+W.length - U.length) U.length rfl (by first | omega | (simp<;>omega)) (by first | omega | (simp<;>omega)) (by first | omega | (simp<;>omega)) (by rw [← hnl9];simp<;>omega) hnc w hS2).mono (fun e w2 h=>⟨(),h⟩)) (fun _=>?_)
    refine jN 8 ?_
    refine WL.bin (v:= .int .i64 (((W.length - U.length):Nat):Int)) rfl rfl rfl (fun w=>run_subK (i:=U.length) (k:=(W.length - U.length)) (s:=W.length) (by omega) (by omega) _ _ _ w) ?_
    refine jN 4 ?_
    refine WQ.back (P9,(W.drop (W.length - U.length)),(W.take (W.length - U.length)),U++S9) ?_ ?_ ?_ ?_
    ·exact ⟨by simp;omega,by simp;omega,by simp;omega,by rw [← heq,← List.append_assoc (W.take (W.length - U.length)),List.take_append_drop]⟩
    ·simp;omega
    ·have e3:(W.drop (W.length - U.length)).length=U.length:=by simp;omega
     have e4:(W.take (W.length - U.length)).length=W.length - U.length:=by simp
     dsimp only;rw [e3,e4];exact ⟨rfl,rfl,rfl,rfl,rfl,rfl,rfl,trivial⟩
    rfl
   have hie:U.length=W.length:=by simp at h20;omega
   refine jN 6 ?_
   refine WA.chunks (C':=[jW g n c q1 q2 ((P9++(U++([]++(W++S9)))).flatMap q3)]) (fun w hS=>by have e:P9++(U++([]++(W++S9)))=P9++(U++(W++S9)):=(by simp);rw [e];exact hS) ?_
   refine jN 7 ?_
   refine WL.bin (v:= .int .i64 ((P9.length:Nat):Int)) rfl rfl rfl (fun w=>run_subK (i:=U.length) (k:=P9.length) (s:=m) (by omega) (by omega) _ _ _ w) ?_
   refine jN 7 ?_
   refine WL.callC (β:=Unit) (res:=fun _=> .tuple #[]) (cs:=fun _=>[jW g n c q1 q2 ((P9++(W++([]++(U++S9)))).flatMap q3)]) (Cs:=[jW g n c q1 q2 ((P9++(U++([]++(W++S9)))).flatMap q3)]) (O':=[g]) q4 (fun d h=>by cases h;rfl) rfl (List.Perm.refl _) q5 q6 (fun w hS hS2=>(q7 P9 U [] W S9 g n c fv hf _ m U.length rfl (by first | omega | (simp<;>omega)) (by first | omega | (simp<;>omega)) (by first | omega | (simp<;>omega)) (by rw [← hnl9];simp<;>omega) hnc w hS2).mono (fun e w2 h=>⟨(),h⟩)) (fun _=>?_)
   refine jN 1 ?_
   refine WQ.fin (rs:=[]) rfl .nil (fun w hS=>?_)
   have e:P9++(W++([]++(U++S9)))=P++(Y++(X++S)):=by rw [← heq];rfl
   rw [e] at hS
   exact ⟨rfl,hS⟩):G:=h
set_option maxRecDepth 100000 in
theorem rotT_c (P X Y S:List TkV) (g n c:Nat) (fv:Value) (hf:fv.oneCell'=true) (a m b:Nat) (ha:a=P.length) (hm:m=P.length+X.length) (hb:b=P.length+X.length+Y.length) (hx0:0<X.length) (hy0:0<Y.length) (hn:(P++(X++(Y++S))).length=n) (hnc:n≤1000000) (w:World) (hS0:St w [g] [jW g n c 89 7 ((P++(X++(Y++S))).flatMap tkC)] w):Calls Tryz.prog 189 [.slice (some ⟨g,0,none⟩) n c,.int .i64 (a:Int),.int .i64 (m:Int),.int .i64 (b:Int),fv].toArray w fun e w'=>e= .returned (.tuple #[])∧St w [g] [jW g n c 89 7 ((P++(Y++(X++S))).flatMap tkC)] w':=by
 let q1:Nat:=89
 let q2:Nat:=7
 let q3:=tkC
 have q4:= @F.fun219
 have q5:= @row_O1T
 have q6:= @row_O2T
 have q7:= @swrT_c
 have qO:∀ x,∀ u∈tkC x,u.oneCell'=true:=fun x=>jO
 exact rotK_c_s
set_option maxRecDepth 100000 in
theorem rotD_c (P X Y S:List DgV) (g n c:Nat) (fv:Value) (hf:fv.oneCell'=true) (a m b:Nat) (ha:a=P.length) (hm:m=P.length+X.length) (hb:b=P.length+X.length+Y.length) (hx0:0<X.length) (hy0:0<Y.length) (hn:(P++(X++(Y++S))).length=n) (hnc:n≤1000000) (w:World) (hS0:St w [g] [jW g n c 95 6 ((P++(X++(Y++S))).flatMap dgC)] w):Calls Tryz.prog 190 [.slice (some ⟨g,0,none⟩) n c,.int .i64 (a:Int),.int .i64 (m:Int),.int .i64 (b:Int),fv].toArray w fun e w'=>e= .returned (.tuple #[])∧St w [g] [jW g n c 95 6 ((P++(Y++(X++S))).flatMap dgC)] w':=by
 let q1:Nat:=95
 let q2:Nat:=6
 let q3:=dgC
 have q4:= @F.fun220
 have q5:= @row_O1D
 have q6:= @row_O2D
 have q7:= @swrD_c
 have qO:∀ x,∀ u∈dgC x,u.oneCell'=true:=fun x=>jO
 exact rotK_c_s
end Go.Proofs.YtedbajbgnmaakaaGreatDoor
namespace Go.Eng
open Go Go.RowKit
theorem zeroCells_list {zs:List Value} (hz:0<zs.length):∀ m:Nat,(Builtin.zeroCells zs.toArray m).toList=(List.replicate m zs).flatten:=fun m=>by
 have key:∀ m:Nat,(List.range (m*zs.length)).map (fun i=>zs.toArray[i % zs.toArray.size]!)=(List.replicate m zs).flatten:=fun m=>by
  induction m with
  | zero=>simp
  | succ m ih=>
   rw [Nat.add_mul,Nat.one_mul,List.range_add,List.map_append,ih,List.replicate_succ',List.flatten_append,List.flatten_singleton,List.map_map]
   congr 1
   apply List.ext_getElem
   ·simp
   ·intro i h1 h2
    have h3:i<zs.length:=h2
    simp [Nat.mod_eq_of_lt h3,h3]
 have h:=key m
 unfold Builtin.zeroCells
 rw [Array.toList_map,Array.toList_range]
 simpa using h
section
variable {P : Program} {w0 : World} {O : List Nat} {ops : Array Oper} {Q : Exit → Act → World → Prop} {N : Nat} {D : List Deferred} {L : FL} {C : List Chunk} {K : Act → World → Prop}
variable {d : Nat} {ty : TypeId} {pos : String} {af : Array Edge}
theorem WL.clearRow {t et:TypeId} {n m sz cap c2:Nat} {x:Operand} {g off:Nat} {xs xs' zs:List Value} {e:TypeId} {C':List Chunk} (hm:P.underlying t=some (.slice et)) (hzB:zeroB P et=some zs) (hz0:0<zs.length)
  (hx:ev L x=some (.slice (some ⟨g,off,none⟩) m c2)) (hv:∀ u∈zs,u.oneCell'=true) (hu:Upd (jW g n cap e sz xs) (jW g n cap e sz xs') C C')
  (hn:SetN xs off (List.replicate m zs).flatten xs') (h:WA w0 O K N D L C'):
  WK P w0 O ops Q ⟨none,.call {callee:= .builtin .clear,args:=#[x],argTypes:=#[t]},ty,pos,af,none⟩ K N D L C:=fun a w hF hS=>by
 obtain ⟨z,hz,hzc⟩:=run_zeroValue hzB w
 obtain ⟨hlen,hr⟩:=(show w.ownsRow 0 e sz (.slice (some ⟨g,0,none⟩) n cap) n xs from hS.ok _ hu.mem)
 rcases hr with ⟨h1,_⟩ | ⟨g',cap',cur,h1,_,hh,hnc,hcm,hcs,htk⟩
 ·cases h1
 ·injection h1 with h1 h2 h3
  injection h1 with h1
  injection h1 with h1
  subst h1;subst h3
  have hsplit:cur.toList=xs++cur.toList.drop (n*sz):=by rw [← htk,List.take_append_drop]
  have hn':SetN cur.toList off (List.replicate m zs).flatten (xs'++cur.toList.drop (n*sz)):=by
   have:=hn.append (cur.toList.drop (n*sz))
   rw [← hsplit] at this
   exact this
  obtain ⟨e1,e2⟩:=hn'.eq
  have hh':w.heap[g]?=some (.cells cur.toList.toArray e (0,0)):=by rw [Array.toArray_toList];exact hh
  have hst:=run_storeCells_at P g off e (List.replicate m zs).flatten 0 cur w hh (by simpa using e2) (fun u hu2=>by
   obtain ⟨l,hl,hul⟩:=List.mem_flatten.1 hu2
   rw [List.eq_of_mem_replicate hl] at hul
   exact hv u hul)
  simp only [Nat.add_zero] at hst
  rw [e1] at hst
  have hxl:xs'.length=xs.length:=hn.len
  have hSt:St w0 O C' (w.setRow g (xs'++cur.toList.drop (n*sz)).toArray):=by
   refine hS.rowUpd (b:=g) hu (fun k=>?_) (fun k=>?_) ?_
   ·constructor
    ·intro hk;exact (Option.some.inj hk).symm
    ·intro hk;rw [hk];rfl
   ·constructor
    ·intro hk;exact (Option.some.inj hk).symm
    ·intro hk;rw [hk];rfl
   ·refine ⟨by rw [hxl,hlen],.inr ⟨g,cap,(xs'++cur.toList.drop (n*sz)).toArray,rfl,Nat.zero_le _,setRow_heap w g _ _ e _ hh',hnc,hcm,?_,?_⟩⟩
    ·have:=congrArg List.length hsplit
     simp at this ⊢
     omega
    ·have e2:xs'.length=n*sz:=by rw [hxl,hlen]
     show (xs'++cur.toList.drop (n*sz)).take (n*sz)=xs'
     rw [List.take_left' e2]
  refine wpo_val (w':=w.setRow g (xs'++cur.toList.drop (n*sz)).toArray) (v:= .tuple #[]) rfl ?_ (h _ _ hF hSt)
  cases m with
  | zero=>
   have e3:(Builtin.clear_ #[t] ty #[.slice (some ⟨g,off,none⟩) 0 c2]).run P w= .ok (.tuple #[]) w:=by simp [Builtin.clear_,run_underlying hm]
   have e4:xs'++cur.toList.drop (n*sz)=cur.toList:=by rw [← e1];simp
   rw [e4,Array.toArray_toList,setRow_self w g cur e (0,0) hh]
   simp [execOp,resolve,invoke,builtin,hF.ev hx,e3]
  | succ m=>
   have e3:(Builtin.clear_ #[t] ty #[.slice (some ⟨g,off,none⟩) (m+1) c2]).run P w= .ok (.tuple #[]) (w.setRow g (xs'++cur.toList.drop (n*sz)).toArray):=by
    simp [Builtin.clear_,run_underlying hm,hz,hzc,zeroCells_list hz0,hst]
   simp [execOp,resolve,invoke,builtin,hF.ev hx,e3]
theorem St.rowTakeN {w:World} {a:Option Addr} {n cap k sz:Nat} {e:TypeId} {xs:List Value} (h:St w0 O (rowc (.slice a n cap) n e sz xs::C) w) (hn:0<n) (hk:k≤n):St w0 O (rowc (.slice a k cap) k e sz (xs.take (k*sz))::C) w:=by
 have hks:k*sz≤n*sz:=Nat.mul_le_mul_right sz hk
 refine h.swap (fun hok=>?_) (fun j hj=>?_)
 ·have hro:w.ownsRow 0 e sz (.slice a n cap) n xs:=hok
  refine ⟨by have:=hro.1;rw [List.length_take];omega,?_⟩
  rcases hro.2 with ⟨_,h0⟩ | ⟨g,cp,cur,hv,hb,hg,hle,hcm,hcs,htk⟩
  ·omega
  injection hv with ha _ hc
  refine .inr ⟨g,cp,cur,by rw [ha,hc],hb,hg,by omega,hcm,hcs,?_⟩
  rw [← htk,List.take_take]
  congr 1
  omega
 cases a with
 | none=>simp [rowc,Value.ownBlock] at hj
 | some a=>simpa [rowc,Value.ownBlock] using hj
theorem Yl.sliceSlF {F:World→Prop} {t e:TypeId} {sz:Nat} {x y:Operand} {b off len cap m l c:Nat} {k:IntKind} (ht:SlT P t e sz) (hx:ev L x=some (.slice (some ⟨b,off,none⟩) len cap)) (hy:ev L y=some (.int k m)) (hm:m≤len) (hmc:m<cap) (hl:len - m=l) (hc:cap - m=c):
  Yl P N D L F ⟨some d,.slice t x (some y) none none,ty,pos,af,none⟩ (.slice (some ⟨b,off+m*sz,none⟩) l c):=fun a w hF _=>by
 subst hl;subst hc
 have h2:=run_bound (P:=P) (w:=w) (k:=k) (i:=m) (y:=len) (code:= .sliceB) hm
 have h3: ¬ cap=m:=by omega
 simp [execOp,Instr.sliceAt,Instr.slice,Instr.sliceBounds,hF.ev hx,hF.ev hy,run_underlying ht.und,h2,run_sizeOf ht.size,h3,add_blk]
theorem WL.sliceSlF {t e:TypeId} {sz:Nat} {x y:Operand} {b off len cap m l c:Nat} {k:IntKind} (ht:SlT P t e sz) (hd:Nat.blt d N=true) (hx:ev L x=some (.slice (some ⟨b,off,none⟩) len cap)) (hy:ev L y=some (.int k m)) (hm:m≤len) (hmc:m<cap) (hl:len - m=l) (hc:cap - m=c)
  (h:WA w0 O K N D ((d,.slice (some ⟨b,off+m*sz,none⟩) l c)::L) C):
  WK P w0 O ops Q ⟨some d,.slice t x (some y) none none,ty,pos,af,none⟩ K N D L C:=WL.y (F:=fun _=>True) (Yl.sliceSlF ht hx hy hm hmc hl hc) hd (fun _ _=>trivial) h
end
end Go.Eng
