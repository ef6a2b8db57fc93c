/- Parts of the walk, put together by a program. By an AI agent. -/
import Derived.Test.YtedbajbgnmaakaaGreatDoorPaSourceProducts2
import Derived.Maps.RangeRun
import Init
import Derived.Lib.Split
import Derived.Lib.AtoiAll
import Derived.Lib.ItoaNum
import Derived.Lib.ItoaMem
import Derived.Shelf.LaysM
import Derived.Shelf.Strconv.Itoa3
import Derived.Shelf.Strconv.AtoiAll
import Derived.Lib.ItoaLen
import Derived.Lib.AtoiErrMem
set_option linter.unusedSimpArgs false
set_option linter.unusedVariables false
namespace Go.Proofs.YtedbajbgnmaakaaGreatDoor
open Go Go.Eng Go.Proofs Dg
structure TkG (its:List ItV) (ts:List TkV) (ds:List DV):Prop where
 x:ts.map (·.x)=its
 d:∀ t∈ts,t.d.ok 0∧(∀ c,t.d.ev c=setF t.x.q c)∧(t.d,t.da,t.dc)∈ds
structure RtG (u:Nat) (its:List ItV) (rs:List RtV) (cs:List (List Nat×Option Addr)):Prop where
 x:rs.map (·.x)=its
 d:∀ r∈rs,r.c=thoseL r.x.q u∧(r.c,r.ca)∈cs
structure DgG (its:List NoV) (ts:List DgV) (ds:List DV):Prop where
 x:ts.map (·.x)=its
 d:∀ t∈ts,t.d.ok 0∧(∀ c,t.d.ev c=setF t.x.q c)∧(t.d,t.da,t.dc)∈ds
structure RgG (u:Nat) (its:List NoV) (rs:List RgV) (cs:List (List Nat×Option Addr)):Prop where
 x:rs.map (·.x)=its
 d:∀ r∈rs,r.c=thoseL r.x.q u∧(r.c,r.ca)∈cs
theorem TkG.mono {its:List ItV} {ts:List TkV} {ds e:List DV} (h:TkG its ts ds) (hs:∀ z∈ds,z∈e):TkG its ts e:=⟨h.x,fun t ht=>⟨(h.d t ht).1,(h.d t ht).2.1,hs _ (h.d t ht).2.2⟩⟩
theorem RtG.mono {u:Nat} {its:List ItV} {ts:List RtV} {ds e:List (List Nat×Option Addr)} (h:RtG u its ts ds) (hs:∀ z∈ds,z∈e):RtG u its ts e:=⟨h.x,fun t ht=>⟨(h.d t ht).1,hs _ (h.d t ht).2⟩⟩
theorem TkG.snoc {l:List ItV} {i:Nat} {y:ItV} {ts:List TkV} {ds:List DV} (h:TkG (l.take i) ts ds) (hy:l[i]?=some y) (z:DRes (setF y.q)):TkG (l.take (i+1)) (ts++[⟨y,z.1.1,z.1.2.1,z.1.2.2⟩]) (ds++[(z.1.1,z.1.2.1,z.1.2.2)]):=by
 refine ⟨by rw [List.map_append,h.x,List.take_add_one,hy];rfl,fun t ht=>?_⟩
 rcases List.mem_append.1 ht with ht | ht
 ·exact ⟨(h.d t ht).1,(h.d t ht).2.1,List.mem_append_left _ (h.d t ht).2.2⟩
 rw [List.mem_singleton.1 ht];exact ⟨z.2.1,z.2.2,by simp⟩
theorem DgG.snoc {l:List NoV} {i:Nat} {y:NoV} {ts:List DgV} {ds:List DV} (h:DgG (l.take i) ts ds) (hy:l[i]?=some y) (z:DRes (setF y.q)):DgG (l.take (i+1)) (ts++[⟨y,z.1.1,z.1.2.1,z.1.2.2⟩]) (ds++[(z.1.1,z.1.2.1,z.1.2.2)]):=by
 refine ⟨by rw [List.map_append,h.x,List.take_add_one,hy];rfl,fun t ht=>?_⟩
 rcases List.mem_append.1 ht with ht | ht
 ·exact ⟨(h.d t ht).1,(h.d t ht).2.1,List.mem_append_left _ (h.d t ht).2.2⟩
 rw [List.mem_singleton.1 ht];exact ⟨z.2.1,z.2.2,by simp⟩
theorem RtG.snoc {u:Nat} {l:List ItV} {i:Nat} {y:ItV} {ts:List RtV} {ds:List (List Nat×Option Addr)} (h:RtG u (l.take i) ts ds) (hy:l[i]?=some y) (a:Option Addr) (c:Nat):RtG u (l.take (i+1)) (ts++[⟨y,thoseL y.q u,a,c⟩]) (ds++[(thoseL y.q u,a)]):=by
 refine ⟨by rw [List.map_append,h.x,List.take_add_one,hy];rfl,fun t ht=>?_⟩
 rcases List.mem_append.1 ht with ht | ht
 ·exact ⟨(h.d t ht).1,List.mem_append_left _ (h.d t ht).2⟩
 rw [List.mem_singleton.1 ht];exact ⟨rfl,by simp⟩
theorem RgG.snoc {u:Nat} {l:List NoV} {i:Nat} {y:NoV} {ts:List RgV} {ds:List (List Nat×Option Addr)} (h:RgG u (l.take i) ts ds) (hy:l[i]?=some y) (a:Option Addr) (c:Nat):RgG u (l.take (i+1)) (ts++[⟨y,thoseL y.q u,a,c⟩]) (ds++[(thoseL y.q u,a)]):=by
 refine ⟨by rw [List.map_append,h.x,List.take_add_one,hy];rfl,fun t ht=>?_⟩
 rcases List.mem_append.1 ht with ht | ht
 ·exact ⟨(h.d t ht).1,List.mem_append_left _ (h.d t ht).2⟩
 rw [List.mem_singleton.1 ht];exact ⟨rfl,by simp⟩
theorem map_take_len {α β:Type} {f:α→β} {ts:List α} {l:List β} {i:Nat} (h:ts.map f=l.take i) (hi:i≤l.length):ts.length=i:=by
 have:=congrArg List.length h
 rw [List.length_map,List.length_take] at this
 omega
structure MdV where
 ts:List TkV
 ta:Option Addr
 tc:Nat
 rs:List RtV
 ra:Option Addr
 rc:Nat
 gs:List DgV
 ga:Option Addr
 gc:Nat
 hs:List RgV
 ha:Option Addr
 hc:Nat
 F:List Nat
 ds:List DV
 G:List Nat
 cs:List (List Nat×Option Addr)
structure MdG (u:Nat) (x:RwV) (i k:Nat) (m:MdV):Prop where
 t:TkG (x.i.take i) m.ts m.ds
 r:RtG u (x.i.take i) m.rs m.cs
 g:DgG (x.n.take k) m.gs m.ds
 h:RgG u (x.n.take k) m.hs m.cs
abbrev mdT (m:MdV):Chunk:=rowc (.slice m.ta m.ts.length m.tc) m.ts.length 89 7 (m.ts.flatMap tkC)
abbrev mdR (m:MdV):Chunk:=rowc (.slice m.ra m.rs.length m.rc) m.rs.length 93 6 (m.rs.flatMap rtC)
abbrev mdD (m:MdV):Chunk:=rowc (.slice m.ga m.gs.length m.gc) m.gs.length 95 6 (m.gs.flatMap dgC)
abbrev mdH (m:MdV):Chunk:=rowc (.slice m.ha m.hs.length m.hc) m.hs.length 97 5 (m.hs.flatMap rgC)
abbrev mdC (m:MdV):List Chunk:=[mdT m,mdR m,mdD m,mdH m,dsC m.F m.ds,insC m.G m.cs]
abbrev mdA (m:MdV):List Value:=[.slice m.ta m.ts.length m.tc,.slice m.ga m.gs.length m.gc]
abbrev mdB (m:MdV):List Value:=[.slice m.ra m.rs.length m.rc,.slice m.ha m.hs.length m.hc]
set_option maxRecDepth 100000 in
theorem made_c (x:RwV) (u:Nat) (hu:u<4294967296) (hi3:x.i.length<300) (hn3:x.n.length<300) (w:World) (hr:RwR w x):
  Calls Tryz.prog 7 [.agg (rwC x).toArray,.int .u32 (u:Int)].toArray w fun e w'=>∃ m:MdV,MdG u x x.i.length x.n.length m∧e= .returned (.tuple #[.agg (mdA m).toArray,.agg (mdB m).toArray])∧St w [] (mdC m) w':=by
 obtain ⟨its,ia,ic,nts,na,nc⟩:=x
 dsimp only at hi3 hn3
 refine enter Tryz.func7 rfl Tryz.ntmps7 rfl (St.init _) ?_
 refine jN 3 ?_
 refine WL.boxN rfl rfl (fun b2=>?_)
 refine jN 1 ?_
 refine WL.alloc F.zero33 rfl (fun b4=>?_)
 refine jN 1 ?_
 refine WL.alloc F.zero37 rfl (fun b5=>?_)
 refine jN 5 ?_
 refine WL.alloc F.zero33 rfl (fun b6=>?_)
 refine jN 5 ?_
 refine WL.alloc F.zero37 rfl (fun b7=>?_)
 refine jN 10 ?_
 refine WC.chunks (C':=[pt b2 [.slice ia its.length ic,.slice na nts.length nc] 43,pt b4 [.slice none 0 0,.slice none 0 0] 33,pt b5 [.slice none 0 0,.slice none 0 0] 37,pt b6 [.slice none 0 0,.slice none 0 0] 33,pt b7 [.slice none 0 0,.slice none 0 0] 37,rowc (.slice none 0 0) 0 89 7 [],rowc (.slice none 0 0) 0 93 6 [],rowc (.slice none 0 0) 0 95 6 [],rowc (.slice none 0 0) 0 97 5 [],dsC [] [],insC [] []]) (fun w hS=>(jK (St.rowNil (St.rowNil (St.rowNil (St.rowNil (St.dsNil (St.insNil hS)) 97 5) 95 6) 93 6) 89 7))) ?_
 refine WC.loop (α:=Nat×MdV) (fun g=>g.1≤its.length∧MdG u (⟨its,ia,ic,nts,na,nc⟩:RwV) g.1 0 g.2) (fun g=>[(1,.int .u32 (u:Int)),(2,pp b2),(4,pp b4),(5,pp b5),(6,pp b6),(7,pp b7),(8,.int .i64 (g.1:Int))]) (fun g=>[pt b2 [.slice ia its.length ic,.slice na nts.length nc] 43,pt b4 [.slice none 0 0,.slice none 0 0] 33,pt b5 [.slice none 0 0,.slice none 0 0] 37,pt b6 (mdA g.2) 33,pt b7 (mdB g.2) 37,mdT g.2,mdR g.2,mdD g.2,mdH g.2,dsC g.2.F g.2.ds,insC g.2.G g.2.cs]) (fun g=>its.length - g.1) ((0,(⟨[],none,0,[],none,0,[],none,0,[],none,0,[],[],[],[]⟩:MdV))) ?_ ?_ ?_ ?_
 ·exact ⟨Nat.zero_le _,⟨rfl,by simp⟩,⟨rfl,by simp⟩,⟨rfl,by simp⟩,⟨rfl,by simp⟩⟩
 ·exact ⟨rfl,rfl,rfl,rfl,rfl,rfl,rfl,trivial⟩
 ·rfl
 rintro ⟨i,m⟩ ⟨hi,hm⟩
 dsimp only at hi hm
 show WC _ _ _ _ _ _ _ [(1,.int .u32 (u:Int)),(2,pp b2),(4,pp b4),(5,pp b5),(6,pp b6),(7,pp b7),(8,.int .i64 (i:Int))] [pt b2 [.slice ia its.length ic,.slice na nts.length nc] 43,pt b4 [.slice none 0 0,.slice none 0 0] 33,pt b5 [.slice none 0 0,.slice none 0 0] 37,pt b6 (mdA m) 33,pt b7 (mdB m) 37,mdT m,mdR m,mdD m,mdH m,dsC m.F m.ds,insC m.G m.cs]
 refine jN 15 ?_
 refine WC.cond rfl (fun h16=>?_) (fun h16=>?_)
 ·have hlt:i<its.length:=by simpa using h16
  obtain ⟨y,hy⟩:∃ y,its[i]?=some y:=⟨_,List.getElem?_eq_getElem hlt⟩
  obtain ⟨b,o,hia,hcy⟩:=hr.i i y hy
  dsimp only at hia
  subst hia
  have hyr:=hr.io y (List.mem_of_getElem? hy)
  have htl:=map_take_len hm.t.x hi
  have hrl:=map_take_len hm.r.x hi
  refine jN 13 ?_
  refine WL.indexAddr F.sl40 rfl rfl rfl hlt ?_
  refine jN 1 ?_
  refine WL.loadN F.agg75 rfl rfl (vs:=itC y) rfl (fun w hS j v hv=>hS.oldc (hcy j v hv) (by simp)) ?_
  refine jN 1 ?_
  refine WL.alloc F.zero75 rfl (fun b9=>?_)
  refine jN 5 ?_
  refine WC.drawsL (by kernel_rfl) (FactsOk.cons (ds:=[17,19]) (LoadOk.one (t:=6) (off:=0) rfl jM rfl) (FactsOk.cons (ds:=[16,17,19]) (LoadOk.one (t:=9) (off:=0) rfl jM rfl) (FactsOk.cons (ds:=[16,17,19]) (LoadOk.one (t:=9) (off:=1) rfl jM rfl) (FactsOk.cons (ds:=[16,17,19]) (LoadOk.one (t:=9) (off:=2) rfl jM rfl) (FactsOk.cons (ds:=[16,17,19]) (LoadOk.one (t:=9) (off:=3) rfl jM rfl) (FactsOk.cons (ds:=[16,17,19]) (LoadOk.one (t:=9) (off:=4) rfl jM rfl) (FactsOk.cons (ds:=[14,16,17,19]) (LoadOk.one (t:=9) (off:=5) rfl jM rfl) (FactsOk.nil)))))))) ?_
  refine jT 0 rfl (Yl.fieldAddr0 F.fld33_0 rfl) ?_
  refine jF 1 0 rfl rfl (Yl.load1 F.one30 rfl) ?_
  refine jT 2 rfl (Yl.fieldAddr0 F.fld75_0 rfl) ?_
  refine jF 3 1 rfl rfl (Yl.load1 F.one5 rfl) ?_
  refine jT 4 rfl (Yl.fieldAddr0 F.fld75_1 rfl) ?_
  refine jF 5 2 rfl rfl (Yl.load1 F.one9 rfl) ?_
  refine jT 6 rfl (Yl.fieldAddr0 F.fld75_2 rfl) ?_
  refine jF 7 3 rfl rfl (Yl.load1 F.one73 rfl) ?_
  refine jT 8 rfl (Yl.fieldAddr0 F.fld75_3 rfl) ?_
  refine jF 9 4 rfl rfl (Yl.load1 F.one3 rfl) ?_
  refine jT 10 rfl (Yl.fieldAddr0 F.fld75_4 rfl) ?_
  refine jF 11 5 rfl rfl (Yl.load1 F.one3 rfl) ?_
  refine jT 12 rfl (Yl.fieldAddr0 F.fld75_5 rfl) ?_
  refine jF 13 6 rfl rfl (Yl.load1 F.one23 rfl) ?_
  refine jA 14 rfl ?_
  refine WL.call0 (β:=DRes (setF y.q)) (res:=fun z=> .returned z.v) (cs:=fun z=>[z.ch]) (ψ:=fun _=>True) F.fun12 (fun d h=>by cases h;rfl) rfl (fun w hS=>(set6_c y.q y.qa y.qc (Nat.le_trans hyr.ql (by decide)) w (hyr.q.next hS) hyr.qo).mono (fun e w2 ⟨x,h1,h2⟩=>⟨x,trivial,h1,h2⟩)) (fun z38 _=>?_)
  refine WD.on (closed_of (by kernel_rfl)) (fun w hS=>Sx.keep (hS.cell jM rfl) (Sx.keep (hS.cell jM rfl) (Sx.keep (hS.cell jM rfl) (Sx.keep (hS.cell jM rfl) (Sx.keep (hS.cell jM rfl) (Sx.keep (hS.cell jM rfl) (Sx.gone rfl (Sx.none)))))))) ?_
  refine jT 15 rfl (Yl.build F.stT89 rfl jB) ?_
  refine jA 16 rfl ?_
  refine WL.buildSlice F.sl30 F.ez30 rfl rfl rfl rfl jB rfl (fun b40=>?_)
  refine WD.on (closed_of (by kernel_rfl)) (fun w hS=>Sx.keep (hS.cell jM rfl) (Sx.gone rfl (Sx.gone rfl (Sx.gone rfl (Sx.gone rfl (Sx.gone rfl (Sx.gone rfl (Sx.none)))))))) ?_
  refine jA 17 rfl ?_
  refine WL.appendE (news:=[.int .u8 (y.k:Int),.string (str y.t),.slice y.pa y.p.length y.pc,.int .i64 y.f,.int .i64 y.l,.slice z38.1.2.1 (canon z38.1.1).1.length z38.1.2.2,.int .i64 ((canon z38.1.1).2:Int)]) F.el30 rfl rfl rfl jR (fun w hS jj u9 hu9=>by rw [Nat.zero_add];exact hS.cell (cs:=[.int .u8 (y.k:Int),.string (str y.t),.slice y.pa y.p.length y.pc,.int .i64 y.f,.int .i64 y.l,.slice z38.1.2.1 (canon z38.1.1).1.length z38.1.2.2,.int .i64 ((canon z38.1.1).2:Int)]) jM hu9) rfl jO (Nat.le_trans (m:=300) (by omega) (by decide)) (by omega) (fun ta tc=>?_)
  refine jG ?_
  refine jT 18 rfl (Yl.fieldAddr0 F.fld33_0 rfl) ?_
  refine jA 19 rfl ?_
  refine WL.store1 F.one30 rfl rfl rfl jU jS ?_
  refine jG ?_
  refine jD ?_
  refine jN 1 ?_
  refine WC.drawsL (by kernel_rfl) (FactsOk.cons (ds:=[18,20]) (LoadOk.one (t:=7) (off:=0) rfl jM rfl) (FactsOk.cons (ds:=[17,18,20]) (LoadOk.one (t:=9) (off:=0) rfl jM rfl) (FactsOk.cons (ds:=[17,18,20]) (LoadOk.one (t:=9) (off:=1) rfl jM rfl) (FactsOk.cons (ds:=[17,18,20]) (LoadOk.one (t:=9) (off:=2) rfl jM rfl) (FactsOk.cons (ds:=[17,18,20]) (LoadOk.one (t:=9) (off:=3) rfl jM rfl) (FactsOk.cons (ds:=[17,18,20]) (LoadOk.one (t:=9) (off:=4) rfl jM rfl) (FactsOk.cons (ds:=[15,17,18,20]) (LoadOk.one (t:=9) (off:=5) rfl jM rfl) (FactsOk.nil)))))))) ?_
  refine jT 0 rfl (Yl.fieldAddr0 F.fld37_0 rfl) ?_
  refine jF 1 0 rfl rfl (Yl.load1 F.one34 rfl) ?_
  refine jT 2 rfl (Yl.fieldAddr0 F.fld75_0 rfl) ?_
  refine jF 3 1 rfl rfl (Yl.load1 F.one5 rfl) ?_
  refine jT 4 rfl (Yl.fieldAddr0 F.fld75_1 rfl) ?_
  refine jF 5 2 rfl rfl (Yl.load1 F.one9 rfl) ?_
  refine jT 6 rfl (Yl.fieldAddr0 F.fld75_2 rfl) ?_
  refine jF 7 3 rfl rfl (Yl.load1 F.one73 rfl) ?_
  refine jT 8 rfl (Yl.fieldAddr0 F.fld75_3 rfl) ?_
  refine jF 9 4 rfl rfl (Yl.load1 F.one3 rfl) ?_
  refine jT 10 rfl (Yl.fieldAddr0 F.fld75_4 rfl) ?_
  refine jF 11 5 rfl rfl (Yl.load1 F.one3 rfl) ?_
  refine jT 12 rfl (Yl.fieldAddr0 F.fld75_5 rfl) ?_
  refine jF 13 6 rfl rfl (Yl.load1 F.one23 rfl) ?_
  refine jQ [14] ?_
  refine jA 15 rfl ?_
  refine WL.call0 (β:=Option Addr×Nat) (res:=fun x=> .returned (.slice x.1 (thoseL y.q u).length x.2)) (cs:=fun x=>[rowc (.slice x.1 (thoseL y.q u).length x.2) (thoseL y.q u).length 24 1 ((thoseL y.q u).flatMap nC)]) (ψ:=fun _=>True) F.fun14 (fun d h=>by cases h;rfl) rfl (fun w hS=>(those_c y.q y.qa y.qc (Nat.le_trans hyr.ql (by decide)) u hu w (hyr.q.next hS) hyr.qo).mono (fun e w2 ⟨x,h1,h2⟩=>⟨x,trivial,h1,h2⟩)) (fun ⟨xa,xc⟩ _=>?_)
  refine WD.on (closed_of (by kernel_rfl)) (fun w hS=>Sx.keep (hS.cell jM rfl) (Sx.keep (hS.cell jM rfl) (Sx.keep (hS.cell jM rfl) (Sx.keep (hS.cell jM rfl) (Sx.keep (hS.cell jM rfl) (Sx.keep (hS.cell jM rfl) (Sx.gone rfl (Sx.none)))))))) ?_
  refine jT 16 rfl (Yl.build F.stT93 rfl jB) ?_
  refine jA 17 rfl ?_
  refine WL.buildSlice F.sl34 F.ez34 rfl rfl rfl rfl jB rfl (fun b60=>?_)
  refine WD.on (closed_of (by kernel_rfl)) (fun w hS=>Sx.keep (hS.cell jM rfl) (Sx.gone rfl (Sx.gone rfl (Sx.gone rfl (Sx.gone rfl (Sx.gone rfl (Sx.gone rfl (Sx.none)))))))) ?_
  refine jA 18 rfl ?_
  refine WL.appendE (news:=[.int .u8 (y.k:Int),.string (str y.t),.slice y.pa y.p.length y.pc,.int .i64 y.f,.int .i64 y.l,.slice xa (thoseL y.q u).length xc]) F.el34 rfl rfl rfl jR (fun w hS jj u9 hu9=>by rw [Nat.zero_add];exact hS.cell (cs:=[.int .u8 (y.k:Int),.string (str y.t),.slice y.pa y.p.length y.pc,.int .i64 y.f,.int .i64 y.l,.slice xa (thoseL y.q u).length xc]) jM hu9) rfl jO (Nat.le_trans (m:=300) (by omega) (by decide)) (by omega) (fun ra rc=>?_)
  refine jG ?_
  refine jT 19 rfl (Yl.fieldAddr0 F.fld37_0 rfl) ?_
  refine jA 20 rfl ?_
  refine WL.store1 F.one34 rfl rfl rfl jU jS ?_
  refine jG ?_
  refine jD ?_
  refine jN 10 ?_
  refine WQ.chunksE (C':=fun F9=>[pt b2 [.slice (some ⟨b,o,none⟩) its.length ic,.slice na nts.length nc] 43,pt b4 [.slice none 0 0,.slice none 0 0] 33,pt b5 [.slice none 0 0,.slice none 0 0] 37,pt b6 [.slice ta (m.ts.length+1) tc,.slice m.ga m.gs.length m.gc] 33,pt b7 [.slice ra (m.rs.length+1) rc,.slice m.ha m.hs.length m.hc] 37,rowc (.slice ta (m.ts.length+1) tc) (m.ts.length+1) 89 7 (m.ts.flatMap tkC++[.int .u8 (y.k:Int),.string (str y.t),.slice y.pa y.p.length y.pc,.int .i64 y.f,.int .i64 y.l,.slice z38.1.2.1 (canon z38.1.1).1.length z38.1.2.2,.int .i64 ((canon z38.1.1).2:Int)]),rowc (.slice ra (m.rs.length+1) rc) (m.rs.length+1) 93 6 (m.rs.flatMap rtC++[.int .u8 (y.k:Int),.string (str y.t),.slice y.pa y.p.length y.pc,.int .i64 y.f,.int .i64 y.l,.slice xa (thoseL y.q u).length xc]),mdD m,mdH m,dsC F9 (m.ds++[(z38.1.1,z38.1.2.1,z38.1.2.2)]),insC m.G m.cs,rowc (.slice xa (thoseL y.q u).length xc) (thoseL y.q u).length 24 1 ((thoseL y.q u).flatMap nC)]) (fun w hS=>?_) (fun F9=>?_)
  ·obtain ⟨F9,hF9⟩:=St.dsSnoc z38.2.1 ((St.pick (St.pick hS (c:=z38.ch) jR) (c:=dsC m.F m.ds) jR))
   exact ⟨F9,(jK hF9)⟩
  refine WQ.chunksE (C':=fun G9=>[pt b2 [.slice (some ⟨b,o,none⟩) its.length ic,.slice na nts.length nc] 43,pt b4 [.slice none 0 0,.slice none 0 0] 33,pt b5 [.slice none 0 0,.slice none 0 0] 37,pt b6 [.slice ta (m.ts.length+1) tc,.slice m.ga m.gs.length m.gc] 33,pt b7 [.slice ra (m.rs.length+1) rc,.slice m.ha m.hs.length m.hc] 37,rowc (.slice ta (m.ts.length+1) tc) (m.ts.length+1) 89 7 (m.ts.flatMap tkC++[.int .u8 (y.k:Int),.string (str y.t),.slice y.pa y.p.length y.pc,.int .i64 y.f,.int .i64 y.l,.slice z38.1.2.1 (canon z38.1.1).1.length z38.1.2.2,.int .i64 ((canon z38.1.1).2:Int)]),rowc (.slice ra (m.rs.length+1) rc) (m.rs.length+1) 93 6 (m.rs.flatMap rtC++[.int .u8 (y.k:Int),.string (str y.t),.slice y.pa y.p.length y.pc,.int .i64 y.f,.int .i64 y.l,.slice xa (thoseL y.q u).length xc]),mdD m,mdH m,dsC F9 (m.ds++[(z38.1.1,z38.1.2.1,z38.1.2.2)]),insC G9 (m.cs++[(thoseL y.q u,xa)])]) (fun w hS=>?_) (fun G9=>?_)
  ·obtain ⟨G9,hG9⟩:=St.insSnoc ((St.pick (St.pick hS (c:=rowc (.slice xa (thoseL y.q u).length xc) (thoseL y.q u).length 24 1 ((thoseL y.q u).flatMap nC)) jR) (c:=insC m.G m.cs) jR))
   exact ⟨G9,(jK hG9)⟩
  refine WQ.back (i+1,(⟨m.ts++[⟨y,z38.1.1,z38.1.2.1,z38.1.2.2⟩],ta,tc,m.rs++[⟨y,thoseL y.q u,xa,xc⟩],ra,rc,m.gs,m.ga,m.gc,m.hs,m.ha,m.hc,F9,m.ds++[(z38.1.1,z38.1.2.1,z38.1.2.2)],G9,m.cs++[(thoseL y.q u,xa)]⟩:MdV)) ?_ ?_ ?_ ?_
  ·exact ⟨by show i+1≤its.length;omega,hm.t.snoc hy z38,hm.r.snoc hy xa xc,⟨hm.g.x,fun t ht=>absurd ht (by have:=hm.g.x;simp at this;rw [show (⟨m.ts++[⟨y,z38.1.1,z38.1.2.1,z38.1.2.2⟩],ta,tc,m.rs++[⟨y,thoseL y.q u,xa,xc⟩],ra,rc,m.gs,m.ga,m.gc,m.hs,m.ha,m.hc,F9,m.ds++[(z38.1.1,z38.1.2.1,z38.1.2.2)],G9,m.cs++[(thoseL y.q u,xa)]⟩:MdV).gs=m.gs from rfl,this];simp)⟩,⟨hm.h.x,fun t ht=>absurd ht (by have:=hm.h.x;simp at this;rw [show (⟨m.ts++[⟨y,z38.1.1,z38.1.2.1,z38.1.2.2⟩],ta,tc,m.rs++[⟨y,thoseL y.q u,xa,xc⟩],ra,rc,m.gs,m.ga,m.gc,m.hs,m.ha,m.hc,F9,m.ds++[(z38.1.1,z38.1.2.1,z38.1.2.2)],G9,m.cs++[(thoseL y.q u,xa)]⟩:MdV).hs=m.hs from rfl,this];simp)⟩⟩
  ·show its.length - (i+1)<its.length - i;omega
  ·exact ⟨rfl,rfl,rfl,rfl,rfl,rfl,rfl,trivial⟩
  simp only [mdT,mdR,mdD,mdH,mdA,mdB,List.length_append,List.length_cons,List.length_nil,List.flatMap_append]
  rfl
 have hie:i=its.length:=by simp at h16;omega
 subst hie
 refine jN 13 ?_
 refine WC.loop (α:=Nat×MdV) (fun g=>g.1≤nts.length∧MdG u (⟨its,ia,ic,nts,na,nc⟩:RwV) its.length g.1 g.2) (fun g=>[(1,.int .u32 (u:Int)),(2,pp b2),(4,pp b4),(5,pp b5),(6,pp b6),(7,pp b7),(10,.int .i64 (g.1:Int))]) (fun g=>[pt b2 [.slice ia its.length ic,.slice na nts.length nc] 43,pt b4 [.slice none 0 0,.slice none 0 0] 33,pt b5 [.slice none 0 0,.slice none 0 0] 37,pt b6 (mdA g.2) 33,pt b7 (mdB g.2) 37,mdT g.2,mdR g.2,mdD g.2,mdH g.2,dsC g.2.F g.2.ds,insC g.2.G g.2.cs]) (fun g=>nts.length - g.1) ((0,m)) ?_ ?_ ?_ ?_
 ·exact ⟨Nat.zero_le _,hm⟩
 ·exact ⟨rfl,rfl,rfl,rfl,rfl,rfl,rfl,trivial⟩
 ·rfl
 rintro ⟨k,m⟩ ⟨hk,hm⟩
 dsimp only at hk hm
 show WC _ _ _ _ _ _ _ [(1,.int .u32 (u:Int)),(2,pp b2),(4,pp b4),(5,pp b5),(6,pp b6),(7,pp b7),(10,.int .i64 (k:Int))] [pt b2 [.slice ia its.length ic,.slice na nts.length nc] 43,pt b4 [.slice none 0 0,.slice none 0 0] 33,pt b5 [.slice none 0 0,.slice none 0 0] 37,pt b6 (mdA m) 33,pt b7 (mdB m) 37,mdT m,mdR m,mdD m,mdH m,dsC m.F m.ds,insC m.G m.cs]
 refine jN 15 ?_
 refine WC.cond rfl (fun h67=>?_) (fun h67=>?_)
 ·have hlt:k<nts.length:=by simpa using h67
  obtain ⟨y,hy⟩:∃ y,nts[k]?=some y:=⟨_,List.getElem?_eq_getElem hlt⟩
  obtain ⟨b,o,hna,hcy⟩:=hr.n k y hy
  dsimp only at hna
  subst hna
  have hyr:=hr.no y (List.mem_of_getElem? hy)
  have htl:=map_take_len hm.g.x hk
  have hrl:=map_take_len hm.h.x hk
  refine jN 13 ?_
  refine WL.indexAddr F.sl41 rfl rfl rfl hlt ?_
  refine jN 1 ?_
  refine WL.loadN F.agg78 rfl rfl (vs:=noC y) rfl (fun w hS j v hv=>hS.oldc (hcy j v hv) (by simp)) ?_
  refine jN 1 ?_
  refine WL.alloc F.zero78 rfl (fun b11=>?_)
  refine jN 5 ?_
  refine WC.drawsL (by kernel_rfl) (FactsOk.cons (ds:=[15,17]) (LoadOk.one (t:=6) (off:=1) rfl jM rfl) (FactsOk.cons (ds:=[14,15,17]) (LoadOk.one (t:=11) (off:=0) rfl jM rfl) (FactsOk.cons (ds:=[14,15,17]) (LoadOk.one (t:=11) (off:=1) rfl jM rfl) (FactsOk.cons (ds:=[14,15,17]) (LoadOk.one (t:=11) (off:=2) rfl jM rfl) (FactsOk.cons (ds:=[14,15,17]) (LoadOk.one (t:=11) (off:=3) rfl jM rfl) (FactsOk.cons (ds:=[12,14,15,17]) (LoadOk.one (t:=11) (off:=4) rfl jM rfl) (FactsOk.nil))))))) ?_
  refine jT 0 rfl (Yl.fieldAddr0 F.fld33_1 rfl) ?_
  refine jF 1 0 rfl rfl (Yl.load1 F.one31 rfl) ?_
  refine jT 2 rfl (Yl.fieldAddr0 F.fld78_0 rfl) ?_
  refine jF 3 1 rfl rfl (Yl.load1 F.one76 rfl) ?_
  refine jT 4 rfl (Yl.fieldAddr0 F.fld78_1 rfl) ?_
  refine jF 5 2 rfl rfl (Yl.load1 F.one73 rfl) ?_
  refine jT 6 rfl (Yl.fieldAddr0 F.fld78_2 rfl) ?_
  refine jF 7 3 rfl rfl (Yl.load1 F.one3 rfl) ?_
  refine jT 8 rfl (Yl.fieldAddr0 F.fld78_3 rfl) ?_
  refine jF 9 4 rfl rfl (Yl.load1 F.one3 rfl) ?_
  refine jT 10 rfl (Yl.fieldAddr0 F.fld78_4 rfl) ?_
  refine jF 11 5 rfl rfl (Yl.load1 F.one23 rfl) ?_
  refine jA 12 rfl ?_
  refine WL.call0 (β:=DRes (setF y.q)) (res:=fun z=> .returned z.v) (cs:=fun z=>[z.ch]) (ψ:=fun _=>True) F.fun12 (fun d h=>by cases h;rfl) rfl (fun w hS=>(set6_c y.q y.qa y.qc (Nat.le_trans hyr.ql (by decide)) w (hyr.q.next hS) hyr.qo).mono (fun e w2 ⟨x,h1,h2⟩=>⟨x,trivial,h1,h2⟩)) (fun z87 _=>?_)
  refine WD.on (closed_of (by kernel_rfl)) (fun w hS=>Sx.keep (hS.cell jM rfl) (Sx.keep (hS.cell jM rfl) (Sx.keep (hS.cell jM rfl) (Sx.keep (hS.cell jM rfl) (Sx.keep (hS.cell jM rfl) (Sx.gone rfl (Sx.none))))))) ?_
  refine jT 13 rfl (Yl.build F.stT95 rfl jB) ?_
  refine jA 14 rfl ?_
  refine WL.buildSlice F.sl31 F.ez31 rfl rfl rfl rfl jB rfl (fun b89=>?_)
  refine WD.on (closed_of (by kernel_rfl)) (fun w hS=>Sx.keep (hS.cell jM rfl) (Sx.gone rfl (Sx.gone rfl (Sx.gone rfl (Sx.gone rfl (Sx.gone rfl (Sx.none))))))) ?_
  refine jA 15 rfl ?_
  refine WL.appendE (news:=[.int .u8 (y.k:Int),.slice y.pa y.p.length y.pc,.int .i64 y.f,.int .i64 y.l,.slice z87.1.2.1 (canon z87.1.1).1.length z87.1.2.2,.int .i64 ((canon z87.1.1).2:Int)]) F.el31 rfl rfl rfl jR (fun w hS jj u9 hu9=>by rw [Nat.zero_add];exact hS.cell (cs:=[.int .u8 (y.k:Int),.slice y.pa y.p.length y.pc,.int .i64 y.f,.int .i64 y.l,.slice z87.1.2.1 (canon z87.1.1).1.length z87.1.2.2,.int .i64 ((canon z87.1.1).2:Int)]) jM hu9) rfl jO (Nat.le_trans (m:=300) (by omega) (by decide)) (by omega) (fun ta tc=>?_)
  refine jG ?_
  refine jT 16 rfl (Yl.fieldAddr0 F.fld33_1 rfl) ?_
  refine jA 17 rfl ?_
  refine WL.store1 F.one31 rfl rfl rfl jU jS ?_
  refine jG ?_
  refine jD ?_
  refine jN 1 ?_
  refine WC.drawsL (by kernel_rfl) (FactsOk.cons (ds:=[16,18]) (LoadOk.one (t:=7) (off:=1) rfl jM rfl) (FactsOk.cons (ds:=[15,16,18]) (LoadOk.one (t:=11) (off:=0) rfl jM rfl) (FactsOk.cons (ds:=[15,16,18]) (LoadOk.one (t:=11) (off:=1) rfl jM rfl) (FactsOk.cons (ds:=[15,16,18]) (LoadOk.one (t:=11) (off:=2) rfl jM rfl) (FactsOk.cons (ds:=[15,16,18]) (LoadOk.one (t:=11) (off:=3) rfl jM rfl) (FactsOk.cons (ds:=[13,15,16,18]) (LoadOk.one (t:=11) (off:=4) rfl jM rfl) (FactsOk.nil))))))) ?_
  refine jT 0 rfl (Yl.fieldAddr0 F.fld37_1 rfl) ?_
  refine jF 1 0 rfl rfl (Yl.load1 F.one35 rfl) ?_
  refine jT 2 rfl (Yl.fieldAddr0 F.fld78_0 rfl) ?_
  refine jF 3 1 rfl rfl (Yl.load1 F.one76 rfl) ?_
  refine jT 4 rfl (Yl.fieldAddr0 F.fld78_1 rfl) ?_
  refine jF 5 2 rfl rfl (Yl.load1 F.one73 rfl) ?_
  refine jT 6 rfl (Yl.fieldAddr0 F.fld78_2 rfl) ?_
  refine jF 7 3 rfl rfl (Yl.load1 F.one3 rfl) ?_
  refine jT 8 rfl (Yl.fieldAddr0 F.fld78_3 rfl) ?_
  refine jF 9 4 rfl rfl (Yl.load1 F.one3 rfl) ?_
  refine jT 10 rfl (Yl.fieldAddr0 F.fld78_4 rfl) ?_
  refine jF 11 5 rfl rfl (Yl.load1 F.one23 rfl) ?_
  refine jQ [12] ?_
  refine jA 13 rfl ?_
  refine WL.call0 (β:=Option Addr×Nat) (res:=fun x=> .returned (.slice x.1 (thoseL y.q u).length x.2)) (cs:=fun x=>[rowc (.slice x.1 (thoseL y.q u).length x.2) (thoseL y.q u).length 24 1 ((thoseL y.q u).flatMap nC)]) (ψ:=fun _=>True) F.fun14 (fun d h=>by cases h;rfl) rfl (fun w hS=>(those_c y.q y.qa y.qc (Nat.le_trans hyr.ql (by decide)) u hu w (hyr.q.next hS) hyr.qo).mono (fun e w2 ⟨x,h1,h2⟩=>⟨x,trivial,h1,h2⟩)) (fun ⟨xa,xc⟩ _=>?_)
  refine WD.on (closed_of (by kernel_rfl)) (fun w hS=>Sx.keep (hS.cell jM rfl) (Sx.keep (hS.cell jM rfl) (Sx.keep (hS.cell jM rfl) (Sx.keep (hS.cell jM rfl) (Sx.keep (hS.cell jM rfl) (Sx.gone rfl (Sx.none))))))) ?_
  refine jT 14 rfl (Yl.build F.stT97 rfl jB) ?_
  refine jA 15 rfl ?_
  refine WL.buildSlice F.sl35 F.ez35 rfl rfl rfl rfl jB rfl (fun b107=>?_)
  refine WD.on (closed_of (by kernel_rfl)) (fun w hS=>Sx.keep (hS.cell jM rfl) (Sx.gone rfl (Sx.gone rfl (Sx.gone rfl (Sx.gone rfl (Sx.gone rfl (Sx.none))))))) ?_
  refine jA 16 rfl ?_
  refine WL.appendE (news:=[.int .u8 (y.k:Int),.slice y.pa y.p.length y.pc,.int .i64 y.f,.int .i64 y.l,.slice xa (thoseL y.q u).length xc]) F.el35 rfl rfl rfl jR (fun w hS jj u9 hu9=>by rw [Nat.zero_add];exact hS.cell (cs:=[.int .u8 (y.k:Int),.slice y.pa y.p.length y.pc,.int .i64 y.f,.int .i64 y.l,.slice xa (thoseL y.q u).length xc]) jM hu9) rfl jO (Nat.le_trans (m:=300) (by omega) (by decide)) (by omega) (fun ra rc=>?_)
  refine jG ?_
  refine jT 17 rfl (Yl.fieldAddr0 F.fld37_1 rfl) ?_
  refine jA 18 rfl ?_
  refine WL.store1 F.one35 rfl rfl rfl jU jS ?_
  refine jG ?_
  refine jD ?_
  refine jN 10 ?_
  refine WQ.chunksE (C':=fun F9=>[pt b2 [.slice ia its.length ic,.slice (some ⟨b,o,none⟩) nts.length nc] 43,pt b4 [.slice none 0 0,.slice none 0 0] 33,pt b5 [.slice none 0 0,.slice none 0 0] 37,pt b6 [.slice m.ta m.ts.length m.tc,.slice ta (m.gs.length+1) tc] 33,pt b7 [.slice m.ra m.rs.length m.rc,.slice ra (m.hs.length+1) rc] 37,mdT m,mdR m,rowc (.slice ta (m.gs.length+1) tc) (m.gs.length+1) 95 6 (m.gs.flatMap dgC++[.int .u8 (y.k:Int),.slice y.pa y.p.length y.pc,.int .i64 y.f,.int .i64 y.l,.slice z87.1.2.1 (canon z87.1.1).1.length z87.1.2.2,.int .i64 ((canon z87.1.1).2:Int)]),rowc (.slice ra (m.hs.length+1) rc) (m.hs.length+1) 97 5 (m.hs.flatMap rgC++[.int .u8 (y.k:Int),.slice y.pa y.p.length y.pc,.int .i64 y.f,.int .i64 y.l,.slice xa (thoseL y.q u).length xc]),dsC F9 (m.ds++[(z87.1.1,z87.1.2.1,z87.1.2.2)]),insC m.G m.cs,rowc (.slice xa (thoseL y.q u).length xc) (thoseL y.q u).length 24 1 ((thoseL y.q u).flatMap nC)]) (fun w hS=>?_) (fun F9=>?_)
  ·obtain ⟨F9,hF9⟩:=St.dsSnoc z87.2.1 ((St.pick (St.pick hS (c:=z87.ch) jR) (c:=dsC m.F m.ds) jR))
   exact ⟨F9,(jK hF9)⟩
  refine WQ.chunksE (C':=fun G9=>[pt b2 [.slice ia its.length ic,.slice (some ⟨b,o,none⟩) nts.length nc] 43,pt b4 [.slice none 0 0,.slice none 0 0] 33,pt b5 [.slice none 0 0,.slice none 0 0] 37,pt b6 [.slice m.ta m.ts.length m.tc,.slice ta (m.gs.length+1) tc] 33,pt b7 [.slice m.ra m.rs.length m.rc,.slice ra (m.hs.length+1) rc] 37,mdT m,mdR m,rowc (.slice ta (m.gs.length+1) tc) (m.gs.length+1) 95 6 (m.gs.flatMap dgC++[.int .u8 (y.k:Int),.slice y.pa y.p.length y.pc,.int .i64 y.f,.int .i64 y.l,.slice z87.1.2.1 (canon z87.1.1).1.length z87.1.2.2,.int .i64 ((canon z87.1.1).2:Int)]),rowc (.slice ra (m.hs.length+1) rc) (m.hs.length+1) 97 5 (m.hs.flatMap rgC++[.int .u8 (y.k:Int),.slice y.pa y.p.length y.pc,.int .i64 y.f,.int .i64 y.l,.slice xa (thoseL y.q u).length xc]),dsC F9 (m.ds++[(z87.1.1,z87.1.2.1,z87.1.2.2)]),insC G9 (m.cs++[(thoseL y.q u,xa)])]) (fun w hS=>?_) (fun G9=>?_)
  ·obtain ⟨G9,hG9⟩:=St.insSnoc ((St.pick (St.pick hS (c:=rowc (.slice xa (thoseL y.q u).length xc) (thoseL y.q u).length 24 1 ((thoseL y.q u).flatMap nC)) jR) (c:=insC m.G m.cs) jR))
   exact ⟨G9,(jK hG9)⟩
  refine WQ.back (k+1,(⟨m.ts,m.ta,m.tc,m.rs,m.ra,m.rc,m.gs++[⟨y,z87.1.1,z87.1.2.1,z87.1.2.2⟩],ta,tc,m.hs++[⟨y,thoseL y.q u,xa,xc⟩],ra,rc,F9,m.ds++[(z87.1.1,z87.1.2.1,z87.1.2.2)],G9,m.cs++[(thoseL y.q u,xa)]⟩:MdV)) ?_ ?_ ?_ ?_
  ·exact ⟨by show k+1≤nts.length;omega,hm.t.mono (fun z hz=>List.mem_append_left _ hz),hm.r.mono (fun z hz=>List.mem_append_left _ hz),hm.g.snoc hy z87,hm.h.snoc hy xa xc⟩
  ·show nts.length - (k+1)<nts.length - k;omega
  ·exact ⟨rfl,rfl,rfl,rfl,rfl,rfl,rfl,trivial⟩
  simp only [mdT,mdR,mdD,mdH,mdA,mdB,List.length_append,List.length_cons,List.length_nil,List.flatMap_append]
  rfl
 have hke:k=nts.length:=by simp at h67;omega
 subst hke
 refine jN 6 ?_
 refine WC.drawsL (by kernel_rfl) (FactsOk.cons (ds:=[2,3]) (LoadOk.whole (t:=6) rfl jM) (FactsOk.cons (ds:=[3]) (LoadOk.whole (t:=7) rfl jM) (FactsOk.nil))) ?_
 refine jF 0 0 rfl rfl (Yl.loadN F.agg33 rfl rfl) ?_
 refine jF 1 1 rfl rfl (Yl.loadN F.agg37 rfl rfl) ?_
 refine jA 2 rfl ?_
 refine WL.storeN F.agg33 rfl rfl rfl jO jU jS ?_
 refine WD.on (closed_of (by kernel_rfl)) (fun w hS=>Sx.gone rfl (Sx.keep ((fun j v hv=>by rw [Nat.zero_add];exact hS.cell jM hv)) (Sx.none))) ?_
 refine jA 3 rfl ?_
 refine WL.storeN F.agg37 rfl rfl rfl jO jU jS ?_
 refine jG ?_
 refine jD ?_
 refine jN 2 ?_
 exact WQ.ret (rs:=[.cell 4 33,.cell 5 37]) rfl (.cellN F.agg33 rfl jM rfl (.cellN F.agg37 rfl jM rfl .nil)) (fun w hS=>⟨m,hm,rfl,(jK hS)⟩)
abbrev subN (a u:Nat):Prop:=a|||u=u
theorem subN.or {a u v:Nat} (h:subN a u):subN a (u|||v):=by unfold subN at*;rw [← Nat.or_assoc,h]
theorem subN.self {a u:Nat}:subN a (u|||a):=by unfold subN;rw [Nat.or_comm u a,← Nat.or_assoc,Nat.or_self]
theorem subN.inU {q:List QB} {u:Nat} (h:subN (bitsQ q) u):inU q u:=fun i _ hi=>by
 rw [← h,Nat.testBit_or,hi];rfl
structure RbI (u n:Nat) (y:ItV):Prop where
 b:subN (bitsQ y.q) u
 nn:y.q.length+y.p.length / 8+y.t.length / 100≤n
structure RbN (u n:Nat) (y:NoV):Prop where
 b:subN (bitsQ y.q) u
 nn:y.q.length+y.p.length / 8≤n
structure RbR (u n:Nat) (x:RwV):Prop where
 nn:x.i.length+x.n.length≤n
 i:∀ y∈x.i,RbI u n y
 o:∀ y∈x.n,RbN u n y
theorem RbI.up {u n v m:Nat} {y:ItV} (h:RbI u n y) (hm:n≤m):RbI (u|||v) m y:=⟨h.b.or,Nat.le_trans h.nn hm⟩
theorem RbN.up {u n v m:Nat} {y:NoV} (h:RbN u n y) (hm:n≤m):RbN (u|||v) m y:=⟨h.b.or,Nat.le_trans h.nn hm⟩
theorem RbR.up {u n v m:Nat} {x:RwV} (h:RbR u n x) (hm:n≤m):RbR (u|||v) m x:=⟨Nat.le_trans h.nn hm,fun y hy=>(h.i y hy).up hm,fun y hy=>(h.o y hy).up hm⟩
structure RbB (l:List RwV) (d:List QB) (i u n:Nat):Prop where
 uu:u<16777216
 nn:n≤1000000000000000
 b:subN (bitsQ d) u
 d:d.length≤n
 r:n<1000→∀ x∈l.take i,RbR u n x
theorem or_lt24 {a b:Nat} (ha:a<16777216) (hb:b<16777216):a|||b<16777216:=Nat.or_lt_two_pow (n:=24) ha hb
theorem RbB.up {l:List RwV} {d:List QB} {i u n v m:Nat} (h:RbB l d i u n) (hv:v<16777216) (hm:n≤m) (hx:m≤1000000000000000):RbB l d i (u|||v) m:=
 ⟨or_lt24 h.uu hv,hx,h.b.or,Nat.le_trans h.d hm,fun h1 x hx=>(h.r (by omega) x hx).up hm⟩
theorem RbB.upN {l:List RwV} {d:List QB} {i u n m:Nat} (h:RbB l d i u n) (hm:n≤m) (hx:m≤1000000000000000):RbB l d i u m:=by
 have:=h.up (v:=0) (by decide) hm hx;rwa [Nat.or_zero] at this
theorem RbB.next {l:List RwV} {d:List QB} {i u n:Nat} {x:RwV} (h:RbB l d i u n) (hx:l[i]?=some x) (hr:n<1000→RbR u n x):RbB l d (i+1) u n:=
 ⟨h.uu,h.nn,h.b,h.d,fun h1 y hy=>by
  rw [List.take_add_one,hx] at hy
  rcases List.mem_append.1 hy with hy | hy
  ·exact h.r h1 y hy
  ·simp at hy;subst hy;exact hr h1⟩
theorem all_next {α:Type} {l:List α} {k:Nat} {x:α} {P:α→Prop} (hx:l[k]?=some x) (h:∀ y∈l.take k,P y) (hp:P x):∀ y∈l.take (k+1),P y:=fun y hy=>by
 rw [List.take_add_one,hx] at hy
 rcases List.mem_append.1 hy with hy | hy
 ·exact h y hy
 ·simp at hy;subst hy;exact hp
theorem run_quoK8 {n:Nat} (hn:n<9223372036854775808) (t:TypeId) (x y:Operand) (w:World):(do eqGuard .quo t x y (.int .i64 (n:Int)) (.int .i64 8);binOp .quo t (.int .i64 (n:Int)) (.int .i64 8):Sem Value).run Tryz.prog w= .ok (.int .i64 ((n / 8:Nat):Int)) w:=by
 have h1:(n:Int).tdiv 8=(n:Int) / 8:=Int.tdiv_eq_ediv_of_nonneg (Int.natCast_nonneg _)
 have h2:IntKind.i64.wrap ((n:Int) / 8)=(n:Int) / 8:=by
  unfold IntKind.wrap
  simp [IntKind.signed,IntKind.bits]
  omega
 simp [eqGuard,binOp,Op.intDiv,h1,h2]
theorem run_quoK100 {n:Nat} (hn:n<9223372036854775808) (t:TypeId) (x y:Operand) (w:World):(do eqGuard .quo t x y (.int .i64 (n:Int)) (.int .i64 100);binOp .quo t (.int .i64 (n:Int)) (.int .i64 100):Sem Value).run Tryz.prog w= .ok (.int .i64 ((n / 100:Nat):Int)) w:=by
 have h1:(n:Int).tdiv 100=(n:Int) / 100:=Int.tdiv_eq_ediv_of_nonneg (Int.natCast_nonneg _)
 have h2:IntKind.i64.wrap ((n:Int) / 100)=(n:Int) / 100:=by
  unfold IntKind.wrap
  simp [IntKind.signed,IntKind.bits]
  omega
 simp [eqGuard,binOp,Op.intDiv,h1,h2]
structure RbX where
 i:Nat
 u:Nat
 n:Nat
end Go.Proofs.YtedbajbgnmaakaaGreatDoor
namespace Go.Eng
open Go Go.RowKit
section
variable {P : Program} {kt : TypeId}
end
end Go.Eng
namespace Go.Proofs.YtedbajbgnmaakaaGreatDoor
open Go Go.Eng Go.Proofs Dg
def cmpI (x y:Int):Int:=if x<y then -1 else if y<x then 1 else 0
def cmpS (s t:List UInt8):Int:=if Op.bytesLess s t then -1 else if s=t then 0 else 1
theorem bytesLess_irr :∀ s:List UInt8,Op.bytesLess s s=false
 | []=>by simp [Op.bytesLess]
 | a::r=>by
  have ih:=bytesLess_irr r
  unfold Op.bytesLess
  simp [ih]
theorem cmpS_zero {s t:List UInt8}:cmpS s t=0↔s=t:=by
 unfold cmpS
 by_cases h:s=t
 ·subst h;simp [bytesLess_irr]
 constructor
 ·intro h2
  exfalso
  by_cases hb:Op.bytesLess s t=true
  ·rw [if_pos hb] at h2;omega
  rw [if_neg hb,if_neg h] at h2;omega
 intro h2;exact absurd h2 h
theorem run_lssS (s t:List UInt8) (ty:TypeId) (x y:Operand) (w:World):(do eqGuard .lss ty x y (.string (str s)) (.string (str t));binOp .lss ty (.string (str s)) (.string (str t)):Sem Value).run Tryz.prog w= .ok (.bool (Op.bytesLess s t)) w:=by
 simp [eqGuard,binOp,Op.stringOp,str_toList]
theorem run_gtrS (s t:List UInt8) (ty:TypeId) (x y:Operand) (w:World):(do eqGuard .gtr ty x y (.string (str s)) (.string (str t));binOp .gtr ty (.string (str s)) (.string (str t)):Sem Value).run Tryz.prog w= .ok (.bool (!(Op.bytesLess s t||s==t))) w:=by
 simp [eqGuard,binOp,Op.stringOp,str_toList]
theorem CmpStr_c_nan (x:List UInt8) (w:World):Pure Tryz.prog 102 [.string (str x)] w (.bool false):=by
 refine enter Tryz.func102 rfl Tryz.ntmps102 rfl (St.init _) ?_
 refine jN 19 ?_
 exact WQ.ret (rs:=[.tmp 2]) rfl (.tmp rfl .nil) (fun w hS=>⟨by simp;rfl,hS⟩)
theorem CmpStr_c (x:List UInt8) (y:List UInt8) (w:World):Pure Tryz.prog 65 [.string (str x),.string (str y)] w (.int .i64 (cmpS x y)):=by
 refine enter Tryz.func65 rfl Tryz.ntmps65 rfl (St.init _) ?_
 refine jN 11 ?_
 refine WL.callV F.fun102 rfl rfl (fun w hS=>CmpStr_c_nan _ w) ?_
 refine jN 9 ?_
 refine WL.callV F.fun102 rfl rfl (fun w hS=>CmpStr_c_nan _ w) ?_
 refine jN 32 ?_
 refine WL.bin (v:= .bool (Op.bytesLess x y)) rfl rfl rfl (fun w=>run_lssS x y _ _ _ w) ?_
 refine jN 2 ?_
 refine WC.cond rfl (fun h16=>?_) (fun h16=>?_)
 ·have hc:cmpS x y= -1:=if_pos h16
  refine jN 8 ?_
  exact WQ.ret (rs:=[.tmp 4]) rfl (.tmp rfl .nil) (fun w hS=>⟨by rw [hc];rfl,hS⟩)
 have hn:Op.bytesLess x y=false:=h16
 refine jN 10 ?_
 refine WL.bin (v:= .bool (!(Op.bytesLess x y||x==y))) rfl rfl rfl (fun w=>run_gtrS x y _ _ _ w) ?_
 refine jN 2 ?_
 refine WC.cond rfl (fun h19=>?_) (fun h19=>?_)
 have hc:cmpS x y=1:=by unfold cmpS;rw [hn] at h19 ⊢;rw [if_neg (by decide),if_neg (by rintro rfl;simp at h19)]
 refine jN 8 ?_
 rotate_left
 have hc:cmpS x y=0:=by unfold cmpS;rw [hn] at h19 ⊢;rw [if_neg (by decide),if_pos (by simpa using h19)]
 refine jN 9 ?_
 rotate_left
 all_goals
  exact WQ.ret (rs:=[.tmp 4]) rfl (.tmp rfl .nil) (fun w hS=>⟨by rw [hc];rfl,hS⟩)
structure TsR (w:World) (ts:List TkV) (a:Option Addr):Prop where
 r:RdSl tkC 7 w ts a
 p:∀ t∈ts,RdC w t.x.p t.x.pa∧t.x.p.length≤1000000000
 d:∀ t∈ts,RdD w t.d t.da
structure RsR (w:World) (ts:List RtV) (a:Option Addr):Prop where
 r:RdSl rtC 6 w ts a
 p:∀ t∈ts,RdC w t.x.p t.x.pa∧t.x.p.length≤1000000000
 d:∀ t∈ts,RdN w t.c t.ca∧t.c.length≤1000000000000000
end Go.Proofs.YtedbajbgnmaakaaGreatDoor
namespace Go.Eng
open Go Go.RowKit Go.Lib
section
variable {P : Program} {w0 : World} {O : List Nat} {ops : Array Oper} {Q : Exit → Act → World → Prop} {N : Nat} {D : List Deferred} {L : FL} {C : List Chunk} {K : Act → World → Prop}
variable {d : Nat} {ty : TypeId} {pos : String} {af : Array Edge}
end
end Go.Eng
namespace Go.Proofs.YtedbajbgnmaakaaGreatDoor
open Go Go.Eng Go.Proofs Dg
abbrev dvv (v:DV):Value:=dval v.1 v.2.1 v.2.2
section
variable {w0 : World} {O : List Nat} {C : List Chunk}
theorem _root_.Go.Eng.St.dsApp {w:World} {F G:List Nat} {l m:List DV} (h:St w0 O (dsC F l::dsC G m::C) w):St w0 O (dsC (F++G) (l++m)::C) w:=by
 refine h.join (fun k hk=>?_) (fun hc hd _=>?_)
 ·have hk':k∈F++G:=hk
  exact List.mem_append.1 hk'
 intro x hx
 rcases List.mem_append.1 hx with hx | hx
 ·obtain ⟨h1,h2⟩:=hc x hx
  exact ⟨h1,fun j u hu=>by
   obtain ⟨b,off,e1,e2,e3⟩:=h2 j u hu
   exact ⟨b,off,e1,e2,List.mem_append_left _ e3⟩⟩
 obtain ⟨h1,h2⟩:=hd x hx
 exact ⟨h1,fun j u hu=>by
  obtain ⟨b,off,e1,e2,e3⟩:=h2 j u hu
  exact ⟨b,off,e1,e2,List.mem_append_right _ e3⟩⟩
end
open Go Go.Eng Go.Proofs Dg
section
variable {w0 : World} {O : List Nat} {Q : Exit → Act → World → Prop} {K : Act → World → Prop} {N : Nat} {D : List Deferred} {L : FL} {C : List Chunk}
theorem After_ret {d:Nat} {v:Value} (h:WA w0 O K N D ((d,v)::L) C):After w0 O Q K N D L (some d) C (.returned v):=h
end
end Go.Proofs.YtedbajbgnmaakaaGreatDoor
namespace Go.Eng
open Go Go.RowKit
def mpe (b:Nat) (es:Array MapEntry) (clock:Nat):Chunk where
 fp k:=k=b
 ok w:=w.heap[b]?=some (.map es clock)
 loc w w' h hw:=(h b rfl).trans hw
def ite_ (it b clock:Nat) (seen:Array Nat):Chunk where
 fp k:=k=it
 ok w:=w.heap[it]?=some (.mapIter (some b) clock seen clock)
 loc w w' h hw:=(h it rfl).trans hw
structure MapE {κ:Type} [DecidableEq κ] (enc:κ→Value) (f:κ→Option Value) (es:Array MapEntry) (clock:Nat) (kvs:List (κ×Value)):Prop where
 e:es.toList.map (fun e=>(e.key,e.val))=kvs.map (fun p=>(enc p.1,p.2))
 f:∀ k,f k=kfind kvs k
 i:MapInv es.toList clock (kvs.map Prod.fst)
structure SeenI {κ:Type} (es:Array MapEntry) (kvs:List (κ×Value)) (seen:Array Nat) (done:List κ):Prop where
 iff:∀ (i:Nat) (e:MapEntry) (p:κ×Value),es.toList[i]?=some e→kvs[i]?=some p→(e.born∈seen.toList↔p.1∈done)
 nd:done.Nodup
 sub:∀ k∈done,k∈kvs.map Prod.fst
theorem SeenI.nil {κ:Type} {es:Array MapEntry} {kvs:List (κ×Value)}:SeenI es kvs #[] ([]:List κ):=⟨fun i e p _ _=>by simp,List.nodup_nil,fun k hk=>by cases hk⟩
section
variable {κ : Type} [DecidableEq κ] {enc : κ → Value} {f : κ → Option Value} {es : Array MapEntry} {clock : Nat} {kvs : List (κ × Value)} {seen : Array Nat} {done : List κ}
theorem kfind_at :∀ {kvs:List (κ×Value)} {i:Nat} {p:κ×Value},(kvs.map Prod.fst).Nodup→kvs[i]?=some p→kfind kvs p.1=some p.2
 | [],i,p,_,h=>by simp at h
 | q::r,0,p,hn,h=>by
  simp at h;subst h
  unfold kfind
  rw [if_pos rfl]
 | q::r,i+1,p,hn,h=>by
  have hn':=List.nodup_cons.1 hn
  have h2:r[i]?=some p:=by simpa using h
  have hne:q.1≠p.1:=fun e=>hn'.1 (by rw [e];exact List.mem_map_of_mem (List.mem_of_getElem? h2))
  unfold kfind
  rw [if_neg hne]
  exact kfind_at hn'.2 h2
theorem kfind_idx :∀ {kvs:List (κ×Value)} {k:κ} {v:Value},kfind kvs k=some v→∃ i:Nat,kvs[i]?=some (k,v)
 | [],k,v,h=>by simp [kfind] at h
 | q::r,k,v,h=>by
  unfold kfind at h
  by_cases hq:q.1=k
  ·rw [if_pos hq] at h
   injection h with h
   exact ⟨0,by rw [← hq,← h];rfl⟩
  ·rw [if_neg hq] at h
   obtain ⟨i,hi⟩:=kfind_idx h
   exact ⟨i+1,by simpa using hi⟩
theorem MapE.at (h:MapE enc f es clock kvs) {i:Nat} {e:MapEntry} (he:es.toList[i]?=some e):∃ p,kvs[i]?=some p∧e.key=enc p.1∧e.val=p.2:=by
 have h1:=congrArg (fun l=>l[i]?) h.e
 simp only [List.getElem?_map,he,Option.map_some] at h1
 cases hp:kvs[i]? with
 | none=>rw [hp] at h1;cases h1
 | some p=>
  rw [hp] at h1
  simp only [Option.map_some,Option.some.injEq,Prod.mk.injEq] at h1
  exact ⟨p,rfl,h1.1,h1.2⟩
theorem MapE.at' (h:MapE enc f es clock kvs) {i:Nat} {p:κ×Value} (hp:kvs[i]?=some p):∃ e,es.toList[i]?=some e:=by
 have h1:=congrArg List.length h.e
 rw [List.length_map,List.length_map] at h1
 have:=(List.getElem?_eq_some_iff.1 hp).1
 exact ⟨_,List.getElem?_eq_getElem (by omega)⟩
theorem MapE.idx (h:MapE enc f es clock kvs) {i j:Nat} {e e':MapEntry} (hi:es.toList[i]?=some e) (hj:es.toList[j]?=some e') (hb:e.born=e'.born):i=j:=by
 have hn:=h.i.born
 have h1:(es.toList.map (·.born))[i]?=some e.born:=by rw [List.getElem?_map,hi];rfl
 have h2:(es.toList.map (·.born))[j]?=some e.born:=by rw [List.getElem?_map,hj,hb];rfl
 exact (List.getElem?_inj (List.getElem?_eq_some_iff.1 h1).1 hn).1 (h1.trans h2.symm)
theorem MapE.kidx (h:MapE enc f es clock kvs) {i j:Nat} {p q:κ×Value} (hi:kvs[i]?=some p) (hj:kvs[j]?=some q) (hb:p.1=q.1):i=j:=by
 have hn:=h.i.keys
 have h1:(kvs.map Prod.fst)[i]?=some p.1:=by rw [List.getElem?_map,hi];rfl
 have h2:(kvs.map Prod.fst)[j]?=some p.1:=by rw [List.getElem?_map,hj,hb];rfl
 exact (List.getElem?_inj (List.getElem?_eq_some_iff.1 h1).1 hn).1 (h1.trans h2.symm)
theorem SeenI.step (h:MapE enc f es clock kvs) (hs:SeenI es kvs seen done) {e:MapEntry} (he:e∈(leftOf es seen).toList):e∈es.toList∧∃ k,e.key=enc k∧f k=some e.val∧k∉done∧SeenI es kvs (seen.push e.born) (done++[k]):=by
 unfold leftOf at he
 simp only [Array.toList_filter,List.mem_filter] at he
 obtain ⟨he1,he2⟩:=he
 have hnb:e.born∉seen.toList:=by simpa using he2
 obtain ⟨i,hi⟩:=List.getElem?_of_mem he1
 obtain ⟨p,hp,hk,hv⟩:=h.at hi
 have hnd:p.1∉done:=fun hm=>hnb ((hs.iff i e p hi hp).2 hm)
 refine ⟨he1,p.1,hk,by rw [h.f,hv];exact kfind_at h.i.keys hp,hnd,⟨fun j e' q hj hq=>?_,?_,fun k hk=>?_⟩⟩
 ·simp only [Array.toList_push,List.mem_append,List.mem_singleton]
  rw [hs.iff j e' q hj hq]
  constructor
  ·rintro (h1 | h1)
   ·exact .inl h1
   right
   have:=h.idx hj hi h1
   subst this
   rw [hp] at hq
   injection hq with hq
   rw [hq]
  rintro (h1 | h1)
  ·exact .inl h1
  right
  have:=h.kidx hq hp h1
  subst this
  rw [hi] at hj
  injection hj with hj
  rw [hj]
 ·rw [List.nodup_append]
  exact ⟨hs.nd,by simp,fun a ha b hb=>by rw [List.mem_singleton.1 hb];exact fun e=>hnd (e▸ha)⟩
 rcases List.mem_append.1 hk with hk | hk
 ·exact hs.sub k hk
 rw [List.mem_singleton.1 hk];exact List.mem_map_of_mem (List.mem_of_getElem? hp)
theorem SeenI.all (h:MapE enc f es clock kvs) (hs:SeenI es kvs seen done) (h0:(leftOf es seen).size=0) {k:κ} {v:Value} (hk:f k=some v):k∈done:=by
 rw [h.f] at hk
 obtain ⟨i,hi⟩:=kfind_idx hk
 obtain ⟨e,he⟩:=h.at' hi
 refine (hs.iff i e (k,v) he hi).1 ?_
 by_cases hm:e.born∈seen.toList
 ·exact hm
 exfalso
 have h1:e∈(leftOf es seen).toList:=by
  unfold leftOf
  simp only [Array.toList_filter,List.mem_filter]
  exact ⟨List.mem_of_getElem? he,by simpa using hm⟩
 have h2:=List.length_pos_of_mem h1
 simp at h2
 omega
theorem SeenI.has (h:MapE enc f es clock kvs) (hs:SeenI es kvs seen done) {k:κ} (hk:k∈done):∃ v,f k=some v:=by
 obtain ⟨p,hp,rfl⟩:=List.mem_map.1 (hs.sub k hk)
 obtain ⟨i,hi⟩:=List.getElem?_of_mem hp
 exact ⟨p.2,by rw [h.f];exact kfind_at h.i.keys hi⟩
end
section
variable {P : Program} {w0 : World} {O : List Nat} {ops : Array Oper} {Q : Exit → Act → World → Prop} {N : Nat} {D : List Deferred} {L : FL} {C : List Chunk} {K : Act → World → Prop}
variable {d : Nat} {ty : TypeId} {pos : String} {af : Array Edge}
variable {κ : Type} [DecidableEq κ] {enc : κ → Value} {f : κ → Option Value}
theorem St.mpgOpen {w:World} {b:Nat} (h:St w0 O (mpg enc b f::C) w):∃ x:{x:Array MapEntry×Nat×List (κ×Value) // MapE enc f x.1 x.2.1 x.2.2},St w0 O (mpe b x.1.1 x.1.2.1::C) w:=by
 obtain ⟨es,clock,kvs,h1,h2,h3,h4⟩:=h.ok _ (List.mem_cons_self ..)
 exact ⟨⟨(es,clock,kvs),⟨h2,h3,h4⟩⟩,h.swap (fun _=>h1) (fun k hk=>hk)⟩
theorem WL.rangeM {t kt et:TypeId} {x:Operand} {b:Nat} {es:Array MapEntry} {clock:Nat} (ht:P.underlying t=some (.map kt et)) (hd:Nat.blt d N=true) (hx:ev L x=some (.map (some b))) (hm:mpe b es clock∈C)
  (h:∀ it,WA w0 O K N D ((d,.pointer (some ⟨it,0,none⟩))::L) (ite_ it b clock #[]::C)):
  WK P w0 O ops Q ⟨some d,.range t x,ty,pos,af,none⟩ K N D L C:=fun a w hF hS=>by
 have hb:w.heap[b]?=some (.map es clock):=hS.ok _ hm
 have hr:=run_range_map (P:=P) w t kt et b es clock ht hb
 refine wpo_val rfl (v:= .pointer (some ⟨w.heap.size,0,none⟩)) (w':=w.alloc (.mapIter (some b) clock #[] clock)) ?_ (h w.heap.size _ _ (hF.put d _ hd) (hS.allocObj _ (ite_ w.heap.size b clock #[]) (fun k=>Iff.rfl) (by show (w.heap.push _)[w.heap.size]?=_;simp)))
 simp [execOp,hF.ev hx,hr]
theorem WL.nextM {x:Operand} {it b clock:Nat} {es:Array MapEntry} {seen:Array Nat} (hpast:∀ e∈es.toList,e.born<clock) (hd:Nat.blt d N=true) (hx:ev L x=some (.pointer (some ⟨it,0,none⟩))) (hm:mpe b es clock∈C)
  {C':Nat→List Chunk} (hu:∀ s,Upd (ite_ it b clock seen) (ite_ it b clock (seen.push s)) C (C' s))
  (h0:(leftOf es seen).size=0→WA w0 O K N D ((d,.tuple #[.bool false])::L) C)
  (h1:∀ e∈(leftOf es seen).toList,WA w0 O K N D ((d,.tuple #[.bool true,e.key,e.val])::L) (C' e.born)):
  WK P w0 O ops Q ⟨some d,.next x false,ty,pos,af,none⟩ K N D L C:=fun a w hF hS=>by
 have hb:w.heap[b]?=some (.map es clock):=hS.ok _ hm
 have hi:w.heap[it]?=some (.mapIter (some b) clock seen clock):=hS.ok _ (hu 0).mem
 rcases run_next_at (P:=P) w ty it b clock clock seen es clock hi hb hpast (Nat.le_refl _) with ⟨hz,hr⟩ | ⟨e,he,w1,hw,hr⟩
 ·refine wpo_val rfl (v:= .tuple #[.bool false]) (w':=w) ?_ (h0 hz _ _ (hF.put d _ hd) hS)
  simp [execOp,hF.ev hx,hr]
 ·have hS1:St w0 O C w1:=by
   rcases hw with rfl | rfl
   ·exact hS
   ·exact hS.drew
  have hlt:it<w1.heap.size:=((hS1.bnd _ (hu 0).mem) it rfl).1
  have hS2:St w0 O (C' e.born) {w1 with heap:=w1.heap.setIfInBounds it (.mapIter (some b) clock (seen.push e.born) clock)}:=hS1.setObj (hu e.born) (fun k=>Iff.rfl) (fun k=>Iff.rfl) (by
   show (w1.heap.setIfInBounds it _)[it]?=_
   rw [Array.getElem?_setIfInBounds_self_of_lt hlt])
  refine wpo_val rfl (v:= .tuple #[.bool true,e.key,e.val]) (w':={w1 with heap:=w1.heap.setIfInBounds it (.mapIter (some b) clock (seen.push e.born) clock)}) ?_ (h1 e he _ _ (hF.put d _ hd) hS2)
  simp [execOp,hF.ev hx,hr,Go.ChangeMaps.setBlock]
theorem WL.entryM {x:Operand} {it b clock:Nat} {es:Array MapEntry} {seen:Array Nat} {e:MapEntry} (hn:(es.toList.map (·.born)).Nodup) (he:e∈es.toList) (hd:Nat.blt d N=true) (hx:ev L x=some (.pointer (some ⟨it,0,none⟩))) (hm:mpe b es clock∈C) (hi:ite_ it b clock (seen.push e.born)∈C)
  (h:WA w0 O K N D ((d,.tuple #[e.key,e.val])::L) C):
  WK P w0 O ops Q ⟨some d,.entry x,ty,pos,af,none⟩ K N D L C:=fun a w hF hS=>by
 have hb:w.heap[b]?=some (.map es clock):=hS.ok _ hm
 have hi':w.heap[it]?=some (.mapIter (some b) clock (seen.push e.born) clock):=hS.ok _ hi
 have hr:=run_entry_at (P:=P) w it b clock seen es clock e hi' hb he hn
 refine wpo_val rfl (v:= .tuple #[e.key,e.val]) (w':=w) ?_ (h _ _ (hF.put d _ hd) hS)
 simp [execOp,hF.ev hx,hr]
end
open Go Go.RowKit Go.Proofs.YtedbajbgnmaakaaGreatDoor
abbrev encSB (k:List UInt8×Bool):Value:= .agg #[.string (str k.1),.bool k.2]
section
variable {P : Program} {kt : TypeId}
structure FldSB (P:Program) (f:Field) (off:Nat) (u:TypeDesc):Prop where
 name : f.name ≠ "_"
 offset:f.offset=off
 plain:P.plainKey f.type=true
 ty:P.underlying f.type=some u
theorem run_equal_str {t:TypeId} (hu:P.underlying t=some .string) (d:Nat) (a b:List UInt8) (w:World):(Op.equalIn (d+1) t (.string (str a)) (.string (str b))).run P w= .ok (a==b) w:=by
 rw [← str_beq]
 simp [Op.equalIn,run_underlying hu]
theorem run_equal_bool {t:TypeId} (hu:P.underlying t=some .bool) (d:Nat) (a b:Bool) (w:World):(Op.equalIn (d+1) t (.bool a) (.bool b)).run P w= .ok (a==b) w:=by
 simp [Op.equalIn,run_underlying hu]
theorem KeyT.sb {f0 f1:Field} (hu:P.underlying kt=some (.struct #[f0,f1])) (h0:FldSB P f0 0 .string) (h1:FldSB P f1 1 .bool) (hs:P.stoodInHeld kt=false):KeyT P kt encSB where
 check e w k:=by
  unfold encSB
  show (Instr.checkKey e (9998+1+1) kt _).run P w=_
  rw [Instr.checkKey]
  simp only [Sem.run_bind,run_underlying hu,Result.andThen_ok]
  rw [← Array.forIn_toList]
  have p0:=run_part_plain w h0.plain (xs:=#[.string (str k.1),.bool k.2]) (off:=0) (v:= .string (str k.1)) rfl
  have p1:=run_part_plain w h1.plain (xs:=#[.string (str k.1),.bool k.2]) (off:=1) (v:= .bool k.2) rfl
  have c0:=MapKept.run_checkKey (w:=w) h0.ty (k:= .string (str k.1)) (by simp [MapKept.IsKey]) e 9998
  have c1:=MapKept.run_checkKey (w:=w) h1.ty (k:= .bool k.2) (by simp [MapKept.IsKey]) e 9998
  simp only [List.forIn_cons,List.forIn_nil,h0.name,h1.name,h0.offset,h1.offset,ne_eq,not_false_eq_true,if_true,Sem.run_bind,Sem.run_pure,p0,p1,c0,c1,Result.andThen_ok]
 find w k es kvs h:=by
  rw [run_findKey_eq w (by rw [hu])]
  refine findAsking_kidx (fun a b=>?_) k es kvs 0 h
  obtain ⟨a1,a2⟩:=a
  obtain ⟨b1,b2⟩:=b
  unfold encSB
  simp only
  show (Op.equalIn (9998+1+1) kt _ _).run P w=_
  rw [Op.equalIn]
  simp only [Sem.run_bind,run_underlying hu,Result.andThen_ok]
  have p0:=run_part_plain w h0.plain (xs:=#[.string (str a1),.bool a2]) (off:=0) (v:= .string (str a1)) rfl
  have p1:=run_part_plain w h1.plain (xs:=#[.string (str a1),.bool a2]) (off:=1) (v:= .bool a2) rfl
  have q0:=run_part_plain w h0.plain (xs:=#[.string (str b1),.bool b2]) (off:=0) (v:= .string (str b1)) rfl
  have q1:=run_part_plain w h1.plain (xs:=#[.string (str b1),.bool b2]) (off:=1) (v:= .bool b2) rfl
  have e0:=run_equal_str h0.ty 9998 a1 b1 w
  have e1:=run_equal_bool h1.ty 9998 a2 b2 w
  simp only [run_program,Sem.run_bind,Result.andThen_ok,hs,Bool.false_eq_true,if_false]
  rw [← Array.forIn_toList]
  simp only [List.forIn_cons,List.forIn_nil,h0.name,h1.name,h0.offset,h1.offset,ne_eq,not_false_eq_true,if_true,Sem.run_bind,p0,q0,e0,Result.andThen_ok]
  cases c0:(a1==b1) with
  | false=>
   have: ¬ ((b1,b2)=(a1,a2)):=by
    simp only [beq_eq_false_iff_ne,ne_eq] at c0
    simp only [Prod.mk.injEq];exact fun h=>c0 h.1.symm
   simp [this]
  | true=>
   simp only [Bool.not_true,Bool.false_eq_true,if_false,Sem.run_bind,Sem.run_pure,Result.andThen_ok,p1,q1,e1]
   cases c1:(a2==b2) with
   | false=>
    have: ¬ ((b1,b2)=(a1,a2)):=by
     simp only [beq_eq_false_iff_ne,ne_eq] at c1
     simp only [Prod.mk.injEq];exact fun h=>c1 h.2.symm
    simp [this]
   | true=>
    have:(b1,b2)=(a1,a2):=by
     simp only [beq_iff_eq] at c0 c1
     rw [c0,c1]
    simp [this]
 stays w k:=by
  have:Instr.sameBits 10000 (encSB k) (encSB k)=true:=by
   unfold encSB
   show Instr.sameBits (9999+1) _ _=true
   simp [Instr.sameBits,str_beq]
  simp [Instr.keyThatStays,this]
def fldSB (P : Program) (f : Field) (off : Nat) : Bool := f.name != "_" && f.offset == off && P.plainKey f.type
theorem FldSB.of {f:Field} {off:Nat} {u:TypeDesc} (h:fldSB P f off=true) (h2:P.underlying f.type=some u):FldSB P f off u:=by
 unfold fldSB at h
 simp only [Bool.and_eq_true,bne_iff_ne,beq_iff_eq] at h
 exact ⟨h.1.1,h.1.2,h.2,h2⟩
def sbB (P:Program) (kt:TypeId):Bool:=match P.underlying kt with
 | some (.struct fs)=>(match fs with
  | ⟨[f0,f1]⟩=>fldSB P f0 0&&fldSB P f1 1&& !P.stoodInHeld kt&&(match P.underlying f0.type with | some .string=>true | _=>false)&&(match P.underlying f1.type with | some .bool=>true | _=>false)
  | _=>false)
 | _=>false
theorem KeyT.sbOf (h:sbB P kt=true):KeyT P kt encSB:=by
 unfold sbB at h
 split at h
 ·rename_i fs hu
  split at h
  ·rename_i f0 f1
   simp only [Bool.and_eq_true,Bool.not_eq_true'] at h
   have h2:=h.1.2
   have h3:=h.2
   split at h2
   ·rename_i e2
    split at h3
    ·rename_i e3
     exact KeyT.sb hu (FldSB.of h.1.1.1.1 e2) (FldSB.of h.1.1.1.2 e3) h.1.1.2
    cases h3
   cases h2
  cases h
 cases h
end
end Go.Eng
namespace Go.Proofs.YtedbajbgnmaakaaGreatDoor
open Go Go.Eng Go.Proofs Dg
abbrev ClK :=List UInt8×Bool
abbrev ClR :=ClK→Option DV
abbrev clF (R:ClR):ClK→Option Value:=fun p=>(R p).map dvv
abbrev clM (b:Nat) (R:ClR):Chunk:=mpg encSB b (clF R)
def clE (R:ClR) (p:ClK) (c:Cf):Bool:=match R p with
 | none=>false
 | some v=>v.1.ev c
def clU (R:ClR) (q:ClK) (v:DV):ClR:=fun p=>if p=q then some v else R p
theorem clU_map (R:ClR) (q:ClK) (v:DV):(fun p=>if p=q then some (dvv v) else clF R p)=clF (clU R q v):=by
 funext p
 show _=(clU R q v p).map dvv
 unfold clU
 split<;>rfl
theorem clU_or (R:ClR) (q:ClK) (v:DV) (p:ClK) (u:DV) (h:clU R q v p=some u):(p≠q∧R p=some u)∨(p=q∧u=v):=by
 unfold clU at h
 split at h
 ·rename_i e;exact .inr ⟨e,(Option.some.inj h).symm⟩
 rename_i e;exact .inl ⟨e,h⟩
theorem clU_ev (R:ClR) (q:ClK) (v:DV) (t:BT) (hv:∀ cf,v.1.ev cf=(clE R q cf||t.ev cf)) (p:ClK) (cf:Cf):clE (clU R q v) p cf=(clE R p cf||(decide (p=q)&&t.ev cf)):=by
 by_cases h:p=q
 ·subst h
  have e:clE (clU R p v) p cf=v.1.ev cf:=by unfold clE clU;rw [if_pos rfl]
  rw [e,hv,decide_eq_true rfl,Bool.true_and]
 have e:clE (clU R q v) p cf=clE R p cf:=by unfold clE clU;rw [if_neg h]
 rw [e,decide_eq_false h,Bool.false_and,Bool.or_false]
def dvZ :DV:=(BT.lf false,none,0)
theorem undCl :Tryz.prog.underlying 127=some (.map 126 50):=by kernel_rfl
theorem keyCl :KeyT Tryz.prog 126 encSB:=KeyT.sbOf (by kernel_rfl)
theorem zeroZ (w:World):(zeroValue 50).run Tryz.prog w= .ok (dvv dvZ) w:=by kernel_rfl
theorem dvZ_rd (w:World):RdD w dvZ.1 dvZ.2.1:=⟨trivial,fun j u hu=>by
 have e:(canon dvZ.1).1=[]:=rfl
 rw [e] at hu
 simp [decs] at hu⟩
theorem RdD.nextC {w0 w:World} {C C2:List Chunk} {t:BT} {a:Option Addr} {bm:Nat} {κ:Type} [DecidableEq κ] {enc:κ→Value} {f:κ→Option Value} (h:RdD w0 t a) (hm:(mpg enc bm f).ok w0) (hS:St w0 [bm] C w):RdD w t a:=
 ⟨h.1,fun j u hu=>by
  obtain ⟨b,off,e,hc⟩:=h.2 j u hu
  refine ⟨b,off,e,hS.oldc hc ?_⟩
  obtain ⟨es,cl,_,h1,_⟩:=hm
  intro hb
  have hb:b=bm:=by simpa using hb
  subst hb
  simp [World.cell?,h1] at hc⟩
set_option maxRecDepth 100000 in
theorem addPro_c (k:ClK) (t:BT) (a:Option Addr) (c bn bm:Nat) (R:ClR) (w:World) (hn:w.cell? ⟨bn,0,none⟩=some (.map (some bm))) (hn':bn∉[bm]) (ht:RdD w t a) (hR:∀ p v,R p=some v→RdD w v.1 v.2.1) (hS0:St w [bm] [clM bm R] w):
  Calls Tryz.prog 60 [encSB k,dval t a c,pp bn].toArray w fun e w'=>∃ x:ClR×List Nat×List DV,
   (∀ p v,x.1 p=some v→R p=some v∨(v∈x.2.2∧p=k∧((canon t).2==0)=false))∧(∀ v∈x.2.2,v.1.ok 0)∧(∀ p cf,clE x.1 p cf=(clE R p cf||(decide (p=k)&&t.ev cf)))∧e= .returned (.tuple #[])∧St w [bm] [clM bm x.1,dsC x.2.1 x.2.2] w':=by
 have hold:RdD w ((R k).getD dvZ).1 ((R k).getD dvZ).2.1:=by
  cases hk:R k with
  | none=>exact dvZ_rd w
  | some v=>exact hR _ _ hk
 refine enter Tryz.func60 rfl Tryz.ntmps60 rfl (C:=[clM bm R]) hS0 ?_
 refine jN 3 ?_
 refine WL.boxN rfl rfl (fun b3=>?_)
 refine jN 1 ?_
 refine WL.boxN rfl rfl (fun b4=>?_)
 refine jN 7 ?_
 refine WL.callV F.fun61 rfl rfl (fun w hS=>Empty_c t a c w) ?_
 refine jN 4 ?_
 refine WC.cond rfl (fun h7=>?_) (fun h7=>?_)
 ·refine WC.draws [([7],fun w=>w.cell? ⟨bn,0,none⟩=some (.map (some bm))),([7],fun w=>∀ j v,([.string (str k.1),.bool k.2]:List Value)[j]?=some v→w.cell? ⟨b3,0+j,none⟩=some v),([6,7],fun w=>w.cell? ⟨bn,0,none⟩=some (.map (some bm))),([6,7],fun w=>∀ j v,([.string (str k.1),.bool k.2]:List Value)[j]?=some v→w.cell? ⟨b3,0+j,none⟩=some v),([6,7],fun w=>(clM bm R).ok w),([6,7],fun w=>∀ j v,([.slice a (canon t).1.length c,.int .i64 ((canon t).2:Int)]:List Value)[j]?=some v→w.cell? ⟨b4,0+j,none⟩=some v)] (by kernel_rfl) (fun w hS=>facts_cons (hS.oldc hn hn') (facts_cons ((fun j v hv=>by rw [Nat.zero_add];exact hS.cell jM hv)) (facts_cons (hS.oldc hn hn') (facts_cons ((fun j v hv=>by rw [Nat.zero_add];exact hS.cell jM hv)) (facts_cons (hS.ok _ jM) (facts_cons ((fun j v hv=>by rw [Nat.zero_add];exact hS.cell jM hv)) (facts_nil))))))) ?_
  refine jF 0 0 rfl rfl (Yl.load1 F.one127 rfl) ?_
  refine jF 1 1 rfl rfl (Yl.loadN F.agg126 rfl rfl) ?_
  refine jF 2 2 rfl rfl (Yl.load1 F.one127 rfl) ?_
  refine jF 3 3 rfl rfl (Yl.loadN F.agg126 rfl rfl) ?_
  refine jF 4 4 rfl rfl (Yl.lookupG (f:=clF R) (v:=dvv ((R k).getD dvZ)) k undCl keyCl zeroZ rfl rfl rfl (by show dvv _=((R k).map dvv).getD (dvv dvZ);cases R k<;>rfl)) ?_
  refine jF 5 5 rfl rfl (Yl.loadN F.agg50 rfl rfl) ?_
  refine jA 6 rfl ?_
  refine WL.call0 (β:=DRes (fun cf=>((R k).getD dvZ).1.ev cf||t.ev cf)) (res:=fun z=> .returned z.v) (cs:=fun z=>[z.ch]) (ψ:=fun _=>True) F.fun45 (fun d h=>by cases h;rfl) rfl (fun w hS=>(Or_c ((R k).getD dvZ).1 t ((R k).getD dvZ).2.1 a ((R k).getD dvZ).2.2 c w (hold.nextC (C2:=[]) (hS0.ok (clM bm R) (List.mem_singleton.2 rfl)) hS) (ht.nextC (C2:=[]) (hS0.ok (clM bm R) (List.mem_singleton.2 rfl)) hS)).mono (fun e w2 ⟨x,h1,h2⟩=>⟨x,trivial,h1,h2⟩)) (fun z _=>After_ret ?_)
  refine WD.on (closed_of (by kernel_rfl)) (fun w hS=>Sx.keep (hS.oldc hn hn') (Sx.keep ((fun j v hv=>by rw [Nat.zero_add];exact hS.cell jM hv)) (Sx.gone rfl (Sx.gone rfl (Sx.gone rfl (Sx.gone rfl (Sx.none))))))) ?_
  refine jA 7 rfl ?_
  refine WL.mapPutG (f:=clF R) k undCl keyCl rfl rfl rfl rfl jU ?_
  refine jG ?_
  refine jD ?_
  refine WQ.fin (rs:=[]) rfl .nil (fun w hS=>?_)
  obtain ⟨F9,hF9⟩:=St.dsSnoc z.2.1 ((St.pick (St.pick (St.dsNil hS) (c:=z.ch) jR) (c:=dsC [] []) jR))
  rw [clU_map R k z.1] at hF9
  exact ⟨(clU R k z.1,F9,[z.1]),(fun p v hp=>(clU_or R k z.1 p v hp).imp (fun h=>h.2) (fun h=>⟨by rw [h.2];simp,h.1,by simpa using h7⟩)),(fun v hv=>by rw [List.mem_singleton.1 hv];exact z.2.1),clU_ev R k z.1 t (fun cf=>by rw [z.2.2];unfold clE dvZ;cases R k<;>rfl),rfl,(jK hF9)⟩
 have hem:∀ cf,t.ev cf=false:=(emptyT ht.1).1 (by simpa using h7)
 refine jN 1 ?_
 refine WQ.fin (rs:=[]) rfl .nil (fun w hS=>?_)
 exact ⟨(R,[],[]),fun p v h=> .inl h,by simp,fun p cf=>by rw [hem cf,Bool.and_false,Bool.or_false],rfl,(jK (St.dsNil hS))⟩
end Go.Proofs.YtedbajbgnmaakaaGreatDoor
namespace Dg
section
variable {α : Type}
structure Swo (lt:α→α→Bool):Prop where
 asym:∀ x y,lt x y=true→lt y x=false
 tr:∀ x y z,lt y x=false→lt z y=false→lt z x=false
abbrev Srt (lt:α→α→Bool) (l:List α):Prop:=l.Pairwise fun x y=>lt y x=false
def sins (lt:α→α→Bool) (x:α):List α→List α
 | []=>[x]
 | y::r=>if lt x y then x::y::r else y::sins lt x r
def isort (lt:α→α→Bool) (l:List α):List α:=l.foldl (fun acc x=>sins lt x acc) []
def mrg (lt:α→α→Bool):List α→List α→List α
 | [],Y=>Y
 | X,[]=>X
 | x::X,y::Y=>if lt y x then y::mrg lt (x::X) Y else x::mrg lt X (y::Y)
termination_by X Y=>X.length+Y.length
variable {lt : α → α → Bool}
theorem mrg_nil (X:List α):mrg lt X []=X:=by cases X<;>simp [mrg]
theorem nil_mrg (Y:List α):mrg lt [] Y=Y:=by simp [mrg]
theorem mrg_lt {x y:α} {X Y:List α} (h:lt y x=true):mrg lt (x::X) (y::Y)=y::mrg lt (x::X) Y:=by rw [mrg];simp [h]
theorem mrg_ge {x y:α} {X Y:List α} (h:lt y x=false):mrg lt (x::X) (y::Y)=x::mrg lt X (y::Y):=by rw [mrg];simp [h]
theorem Swo.lt_le (h:Swo lt) {x y z:α} (h1:lt x y=true) (h2:lt z y=false):lt x z=true:=by
 cases h3:lt x z with
 | true=>rfl
 | false=>rw [h.tr y z x h2 h3] at h1;cases h1
theorem Swo.le_lt (h:Swo lt) {x y z:α} (h1:lt y x=false) (h2:lt y z=true):lt x z=true:=by
 cases h3:lt x z with
 | true=>rfl
 | false=>rw [h.tr z x y h3 h1] at h2;cases h2
theorem sins_len (x:α):∀ l:List α,(sins lt x l).length=l.length+1
 | []=>rfl
 | y::r=>by
  unfold sins
  split
  ·rfl
  ·rw [List.length_cons,sins_len x r,List.length_cons]
theorem sins_mem {x z:α}:∀ {l:List α},z∈sins lt x l↔z=x∨z∈l
 | []=>by simp [sins]
 | y::r=>by
  unfold sins
  split
  ·simp
  ·rw [List.mem_cons,sins_mem,List.mem_cons]
   constructor
   ·rintro (h | h | h)<;>simp [h]
   ·rintro (h | h | h)<;>simp [h]
theorem sins_srt (hw:Swo lt) {x:α}:∀ {l:List α},Srt lt l→Srt lt (sins lt x l)
 | [],_=>List.pairwise_singleton _ _
 | y::r,h=>by
  obtain ⟨h1,h2⟩:=List.pairwise_cons.1 h
  unfold sins
  split
  ·rename_i hxy
   refine List.pairwise_cons.2 ⟨fun z hz=>?_,h⟩
   rcases List.mem_cons.1 hz with rfl | hz
   ·exact hw.asym _ _ hxy
   ·exact hw.tr _ _ _ (hw.asym _ _ hxy) (h1 z hz)
  ·rename_i hxy
   refine List.pairwise_cons.2 ⟨fun z hz=>?_,sins_srt hw h2⟩
   rcases sins_mem.1 hz with rfl | hz
   ·simpa using hxy
   ·exact h1 z hz
theorem sins_at {x:α}:∀ {A B:List α},(∀ y∈A,lt x y=false)→(∀ y∈B.head?,lt x y=true)→sins lt x (A++B)=A++x::B
 | [],[],_,_=>rfl
 | [],b::B,_,h=>by
  have:=h b rfl
  simp [sins,this]
 | a::A,B,h,hb=>by
  have h1:=h a (by simp)
  rw [List.cons_append,sins,if_neg (by simp [h1]),sins_at (fun y hy=>h y (by simp [hy])) hb]
  rfl
theorem isort_snoc (l:List α) (x:α):isort lt (l++[x])=sins lt x (isort lt l):=by simp [isort]
theorem isort_nil :isort lt ([]:List α)=[]:=rfl
theorem rev_ind {P:List α→Prop} (h0:P []) (h1:∀ l x,P l→P (l++[x])) (l:List α):P l:=by
 have key:∀ m:List α,P m.reverse:=fun m=>by
  induction m with
  | nil=>exact h0
  | cons x m ih=>rw [List.reverse_cons];exact h1 _ _ ih
 have:=key l.reverse
 rwa [List.reverse_reverse] at this
theorem isort_srt (hw:Swo lt) (l:List α):Srt lt (isort lt l):=by
 refine rev_ind (P:=fun l=>Srt lt (isort lt l)) List.Pairwise.nil (fun l x h=>?_) l
 rw [isort_snoc]
 exact sins_srt hw h
theorem isort_len (l:List α):(isort lt l).length=l.length:=by
 refine rev_ind (P:=fun l=>(isort lt l).length=l.length) rfl (fun l x h=>?_) l
 rw [isort_snoc,sins_len,h,List.length_append,List.length_singleton]
theorem isort_mem {l:List α} {z:α}:z∈isort lt l↔z∈l:=by
 refine rev_ind (P:=fun l=>z∈isort lt l↔z∈l) (by simp [isort_nil]) (fun l x h=>?_) l
 rw [isort_snoc,sins_mem,h,List.mem_append,List.mem_singleton]
 exact Or.comm
theorem mrg_len :∀ (X Y:List α),(mrg lt X Y).length=X.length+Y.length
 | [],Y=>by rw [nil_mrg];simp
 | x::X,[]=>by rw [mrg_nil];simp
 | x::X,y::Y=>by
  cases h:lt y x with
  | true=>rw [mrg_lt h,List.length_cons,mrg_len (x::X) Y];simp only [List.length_cons];omega
  | false=>rw [mrg_ge h,List.length_cons,mrg_len X (y::Y)];simp only [List.length_cons];omega
termination_by X Y=>X.length+Y.length
theorem mrg_sins (hw:Swo lt) {z:α}:∀ {X Y:List α},Srt lt X→Srt lt Y→mrg lt X (sins lt z Y)=sins lt z (mrg lt X Y)
 | [],Y,_,_=>by rw [nil_mrg,nil_mrg]
 | x::X,[],hx,_=>by
  obtain ⟨x1,x2⟩:=List.pairwise_cons.1 hx
  rw [mrg_nil]
  show mrg lt (x::X) [z]=sins lt z (x::X)
  cases h:lt z x with
  | true=>rw [mrg_lt h,mrg_nil,sins,if_pos h]
  | false=>
   have ih:=mrg_sins hw (z:=z) (Y:=[]) x2 List.Pairwise.nil
   rw [mrg_nil] at ih
   rw [mrg_ge h,sins,if_neg (by simp [h])]
   exact congrArg (x:: ·) ih
 | x::X,y::Y,hx,hy=>by
  obtain ⟨x1,x2⟩:=List.pairwise_cons.1 hx
  obtain ⟨y1,y2⟩:=List.pairwise_cons.1 hy
  cases hzy:lt z y with
  | true=>
   have e:sins lt z (y::Y)=z::y::Y:=by rw [sins,if_pos hzy]
   rw [e]
   cases hyx:lt y x with
   | true=>
    have hzx:lt z x=true:=hw.lt_le hzy (hw.asym _ _ hyx)
    rw [mrg_lt hzx,mrg_lt hyx,sins,if_pos hzy]
   | false=>
    cases hzx:lt z x with
    | true=>rw [mrg_lt hzx,mrg_ge hyx,sins,if_pos hzx]
    | false=>
     have ih:=mrg_sins hw (z:=z) (Y:=y::Y) x2 hy
     rw [e] at ih
     rw [mrg_ge hzx,mrg_ge hyx,sins,if_neg (by simp [hzx]),ih]
  | false=>
   have e:sins lt z (y::Y)=y::sins lt z Y:=by rw [sins,if_neg (by simp [hzy])]
   rw [e]
   cases hyx:lt y x with
   | true=>
    rw [mrg_lt hyx,mrg_lt hyx,sins,if_neg (by simp [hzy]),mrg_sins hw hx y2]
   | false=>
    have hzx:lt z x=false:=hw.tr _ _ _ hyx hzy
    have ih:=mrg_sins hw (z:=z) (Y:=y::Y) x2 hy
    rw [e] at ih
    rw [mrg_ge hyx,mrg_ge hyx,sins,if_neg (by simp [hzx]),ih]
termination_by X Y=>X.length+Y.length
theorem isort_append (hw:Swo lt) (l m:List α):isort lt (l++m)=mrg lt (isort lt l) (isort lt m):=by
 refine rev_ind (P:=fun m=>isort lt (l++m)=mrg lt (isort lt l) (isort lt m)) ?_ (fun m x h=>?_) m
 ·rw [List.append_nil,isort_nil,mrg_nil]
 rw [← List.append_assoc,isort_snoc,isort_snoc,h,mrg_sins hw (isort_srt hw l) (isort_srt hw m)]
theorem mrg_split (hw:Swo lt):∀ {X1 X2 Y1 Y2:List α},Srt lt (X1++X2)→Srt lt (Y1++Y2)→(∀ x∈X1,∀ y∈Y2,lt y x=false)→(∀ y∈Y1,∀ x∈X2,lt y x=true)→mrg lt (X1++X2) (Y1++Y2)=mrg lt X1 Y1++mrg lt X2 Y2
 | [],_,[],_,_,_,_,_=>by rw [nil_mrg];rfl
 | [],[],_::_,_,_,_,_,_=>by rw [nil_mrg,nil_mrg];simp [nil_mrg]
 | [],x::X2,y::Y1,Y2,hx,hy,h1,h2=>by
  have hyx:=h2 y (by simp) x (by simp)
  rw [nil_mrg,List.nil_append,List.cons_append,mrg_lt hyx]
  have ih:=mrg_split hw (X1:=[]) (X2:=x::X2) (Y1:=Y1) (Y2:=Y2) hx (List.pairwise_cons.1 hy).2 (by simp) (fun y hy=>h2 y (by simp [hy]))
  rw [nil_mrg] at ih
  rw [List.nil_append] at ih
  rw [ih]
  rfl
 | x::X1,X2,[],[],_,_,_,_=>by rw [List.append_nil,mrg_nil,mrg_nil,mrg_nil]
 | x::X1,X2,[],y::Y2,hx,hy,h1,h2=>by
  have hyx:=h1 x (by simp) y (by simp)
  rw [mrg_nil,List.cons_append,List.nil_append,mrg_ge hyx]
  have ih:=mrg_split hw (X1:=X1) (X2:=X2) (Y1:=[]) (Y2:=y::Y2) (List.pairwise_cons.1 hx).2 hy (fun x hx=>h1 x (by simp [hx])) (by simp)
  rw [mrg_nil,List.nil_append] at ih
  rw [ih]
  rfl
 | x::X1,X2,y::Y1,Y2,hx,hy,h1,h2=>by
  rw [List.cons_append,List.cons_append]
  cases h:lt y x with
  | true=>
   rw [mrg_lt h,mrg_lt h]
   have ih:=mrg_split hw (X1:=x::X1) (X2:=X2) (Y1:=Y1) (Y2:=Y2) hx (List.pairwise_cons.1 hy).2 h1 (fun y hy=>h2 y (by simp [hy]))
   rw [List.cons_append] at ih
   rw [ih]
   rfl
  | false=>
   rw [mrg_ge h,mrg_ge h]
   have ih:=mrg_split hw (X1:=X1) (X2:=X2) (Y1:=y::Y1) (Y2:=Y2) (List.pairwise_cons.1 hx).2 hy (fun x hx=>h1 x (by simp [hx])) h2
   rw [List.cons_append] at ih
   rw [ih]
   rfl
termination_by X1 X2 Y1 Y2=>X1.length+Y1.length
end
end Dg
namespace Dg
section
variable {α : Type} {lt : α → α → Bool}
theorem Swo.irr (hw:Swo lt) (x:α):lt x x=false:=by
 cases h:lt x x with
 | false=>rfl
 | true=>have:=hw.asym _ _ h;rw [h] at this;cases this
theorem srt_le (hw:Swo lt) {l:List α} (h:Srt lt l) {i k:Nat} {x y:α} (hx:l[i]?=some x) (hy:l[k]?=some y) (hik:i≤k):lt y x=false:=by
 obtain ⟨h1,rfl⟩:=List.getElem?_eq_some_iff.1 hx
 obtain ⟨h2,rfl⟩:=List.getElem?_eq_some_iff.1 hy
 rcases Nat.lt_or_ge i k with h3 | h3
 ·exact List.pairwise_iff_getElem.1 h i k h1 h2 h3
 have:i=k:=by omega
 subst this
 exact hw.irr _
theorem at_app' {A B:List α} {x:α} {i:Nat} (hi:i=A.length):(A++x::B)[i]?=some x:=by rw [hi];simp
theorem set_app' {A B:List α} {x y:α} {i:Nat} (hi:i=A.length):(A++x::B).set i y=A++y::B:=by rw [hi];simp
theorem swp {A B C:List α} {x y:α} {i k:Nat} (hi:i=A.length) (hk:k=A.length+1+B.length):((A++x::(B++y::C)).set i y).set k x=A++y::(B++x::C):=by
 rw [set_app' hi]
 have e:A++y::(B++y::C)=(A++y::B)++y::C:=by simp
 rw [e,set_app' (by simp;omega)]
 simp
theorem swp' {A B C:List α} {x y:α} {i k:Nat} (hi:i=A.length) (hk:k=A.length+1+B.length):((A++x::(B++y::C)).set k x).set i y=A++y::(B++x::C):=by
 have e:A++x::(B++y::C)=(A++x::B)++y::C:=by simp
 rw [e,set_app' (i:=k) (by simp;omega)]
 have e2:(A++x::B)++x::C=A++x::(B++x::C):=by simp
 rw [e2,set_app' hi]
theorem mrg_one_l (hw:Swo lt) {x:α}:∀ {Y1 Y2:List α},(∀ y∈Y1,lt y x=true)→(∀ y∈Y2.head?,lt y x=false)→mrg lt [x] (Y1++Y2)=Y1++x::Y2
 | [],[],_,_=>by rw [List.nil_append,mrg_nil];rfl
 | [],y::Y2,_,h=>by rw [List.nil_append,mrg_ge (h y rfl),nil_mrg];rfl
 | y::Y1,Y2,h,h2=>by rw [List.cons_append,mrg_lt (h y (by simp)),mrg_one_l hw (fun z hz=>h z (by simp [hz])) h2];rfl
theorem mrg_one_r (hw:Swo lt) {y:α}:∀ {X1 X2:List α},(∀ x∈X1,lt y x=false)→(∀ x∈X2.head?,lt y x=true)→mrg lt (X1++X2) [y]=X1++y::X2
 | [],[],_,_=>by rw [List.nil_append,nil_mrg];rfl
 | [],x::X2,_,h=>by rw [List.nil_append,mrg_lt (h x rfl),mrg_nil];rfl
 | x::X1,X2,h,h2=>by rw [List.cons_append,mrg_ge (h x (by simp)),mrg_one_r hw (fun z hz=>h z (by simp [hz])) h2];rfl
theorem head_drop {l:List α} {i:Nat} {x:α} (h:x∈(l.drop i).head?):l[i]?=some x:=by
 rw [List.head?_drop] at h
 exact h
theorem mem_takeI {l:List α} {i:Nat} {x:α} (h:x∈l.take i):∃ k,k<i∧l[k]?=some x:=by
 obtain ⟨k,hk⟩:=List.getElem?_of_mem h
 rw [List.getElem?_take] at hk
 split at hk
 ·exact ⟨k,by assumption,hk⟩
 cases hk
theorem mem_dropI {l:List α} {i:Nat} {x:α} (h:x∈l.drop i):∃ k,i≤k∧l[k]?=some x:=by
 obtain ⟨k,hk⟩:=List.getElem?_of_mem h
 rw [List.getElem?_drop] at hk
 exact ⟨i+k,by omega,hk⟩
theorem sym_split (hw:Swo lt) {X Y:List α} {s e:Nat} (hX:Srt lt X) (hY:Srt lt Y)
  (h1:s=0∨Y.length≤e∨∃ x y,X[s - 1]?=some x∧Y[e]?=some y∧lt y x=false) (h2:e=0∨X.length≤s∨∃ x y,X[s]?=some x∧Y[e - 1]?=some y∧lt y x=true):
  mrg lt X Y=mrg lt (X.take s) (Y.take e)++mrg lt (X.drop s) (Y.drop e):=by
 have hs:=mrg_split hw (X1:=X.take s) (X2:=X.drop s) (Y1:=Y.take e) (Y2:=Y.drop e) (by rw [List.take_append_drop];exact hX) (by rw [List.take_append_drop];exact hY) (fun x hx y hy=>?_) (fun y hy x hx=>?_)
 ·rw [List.take_append_drop,List.take_append_drop] at hs
  exact hs
 ·obtain ⟨i,hi,hxi⟩:=mem_takeI hx
  obtain ⟨k,hk,hyk⟩:=mem_dropI hy
  rcases h1 with h1 | h1 | ⟨x9,y9,h3,h4,h5⟩
  ·omega
  ·have:=(List.getElem?_eq_some_iff.1 hyk).1;omega
  exact hw.tr x y9 y (hw.tr x x9 y9 (srt_le hw hX hxi h3 (by omega)) h5) (srt_le hw hY h4 hyk hk)
 obtain ⟨i,hi,hyi⟩:=mem_takeI hy
 obtain ⟨k,hk,hxk⟩:=mem_dropI hx
 rcases h2 with h2 | h2 | ⟨x9,y9,h3,h4,h5⟩
 ·omega
 ·have:=(List.getElem?_eq_some_iff.1 hxk).1;omega
 exact hw.lt_le (hw.le_lt (srt_le hw hY hyi h4 (by omega)) h5) (srt_le hw hX h3 hxk hk)
end
end Dg
namespace Dg
section
variable {α : Type} {lt : α → α → Bool}
def blk (lt:α→α→Bool) (bs:Nat) (l:List α):List α:=if h:l.length≤bs∨bs=0 then isort lt l else isort lt (l.take bs)++blk lt bs (l.drop bs)
termination_by l.length
decreasing_by simp only [List.length_drop];omega
theorem blk_small {bs:Nat} {l:List α} (h:l.length≤bs):blk lt bs l=isort lt l:=by
 rw [blk,dif_pos (.inl h)]
theorem blk_step {bs:Nat} {l:List α} (h:bs≤l.length) (h0:0<bs):blk lt bs l=isort lt (l.take bs)++blk lt bs (l.drop bs):=by
 rcases Nat.lt_or_ge bs l.length with h1 | h1
 ·rw [blk,dif_neg (by omega)]
 have e:l.length=bs:=by omega
 rw [blk_small (by omega),List.take_of_length_le (by omega),List.drop_eq_nil_of_le (by omega),blk_small (by simp),isort_nil,List.append_nil]
theorem blk_len {bs:Nat}:∀ {l:List α},(blk lt bs l).length=l.length:=by
 have key:∀ n,∀ l:List α,l.length≤n→(blk lt bs l).length=l.length:=fun n=>by
  induction n with
  | zero=>intro l hl;rw [blk_small (by omega),isort_len]
  | succ n ih=>
   intro l hl
   by_cases h:l.length≤bs∨bs=0
   ·rw [blk,dif_pos h,isort_len]
   ·rw [blk,dif_neg h,List.length_append,isort_len,ih _ (by rw [List.length_drop];omega),List.length_take,List.length_drop]
    omega
 exact fun {l}=>key _ l (Nat.le_refl _)
theorem take_take_drop {l:List α} {bs:Nat}:l.take (2*bs)=l.take bs++(l.drop bs).take bs:=by
 have e:2*bs=bs+bs:=by omega
 rw [e,List.take_add]
theorem blk_two (hw:Swo lt) {bs:Nat} {l:List α} (h:2*bs≤l.length) (h0:0<bs):blk lt (2*bs) l=mrg lt (isort lt (l.take bs)) (isort lt ((l.drop bs).take bs))++blk lt (2*bs) (l.drop (2*bs)):=by
 rw [blk_step h (by omega),take_take_drop,isort_append hw]
theorem blk_last (hw:Swo lt) {bs:Nat} {l:List α} (h:l.length≤2*bs):blk lt (2*bs) l=mrg lt (isort lt (l.take bs)) (isort lt (l.drop bs)):=by
 rw [blk_small h,← isort_append hw,List.take_append_drop]
end
end Dg
namespace Go.Proofs.YtedbajbgnmaakaaGreatDoor
open Go Go.Eng Go.Proofs Dg
section
variable {w0 w1 w : World} {O : List Nat} {C C1 : List Chunk}
theorem _root_.Go.Eng.St.trans (h:St w0 O C1 w1) (h2:St w1 O C w):St w0 O C w:=
 ⟨h2.os.trans h.os,h2.tape.trans h.tape,h2.output.trans h.output,Nat.le_trans h.size h2.size,fun k hk ho=>(h2.old k (Nat.lt_of_lt_of_le hk h.size) ho).trans (h.old k hk ho),h2.ok,fun c hc k hk=>⟨(h2.bnd c hc k hk).1,fun hk0=>(h2.bnd c hc k hk).2 (Nat.lt_of_lt_of_le hk0 h.size)⟩,h2.disj⟩
end
def CmpOk {α:Type} (kc:Nat) (us cap:List Value) (cells:α→List Value) (Q:α→Prop) (cmp:α→α→Int) (w0:World) (g:Nat):Prop:=
 ∀ (C:List Chunk) (w:World),St w0 [g] C w→∀ x y,Q x→Q y→Calls Tryz.prog kc (us++[Value.agg (cells x).toArray,Value.agg (cells y).toArray]++cap).toArray w fun e w'=>e= .returned (.int .i64 (cmp x y))∧St w [] [] w'
theorem CmpOk.next {α:Type} {kc:Nat} {us cap:List Value} {cells:α→List Value} {Q:α→Prop} {cmp:α→α→Int} {w0 w:World} {g:Nat} {C:List Chunk} (h:CmpOk kc us cap cells Q cmp w0 g) (hS:St w0 [g] C w):CmpOk kc us cap cells Q cmp w g:=
 fun C2 w2 hS2=>h C2 w2 (hS.trans hS2)
abbrev ltC {α:Type} (cmp:α→α→Int) (x y:α):Bool:=decide (cmp x y<0)
theorem setN_flat {α:Type} {cells:α→List Value} {sz:Nat}:∀ {l:List α} {j:Nat} {x:α},(∀ x,(cells x).length=sz)→j<l.length→SetN (l.flatMap cells) (j*sz) (cells x) ((l.set j x).flatMap cells)
 | [],j,x,_,h=>by simp at h
 | y::l,0,x,hl,_=>by
  rw [Nat.zero_mul,List.set_cons_zero,List.flatMap_cons,List.flatMap_cons]
  have key:∀ (a b r:List Value),a.length=b.length→SetN (a++r) 0 b (b++r):=fun a=>by
   induction a with
   | nil=>
    intro b r h
    cases b with
    | nil=>exact SetN.done
    | cons v b=>simp at h
   | cons c a ih=>
    intro b r h
    cases b with
    | nil=>simp at h
    | cons v b=>exact SetN.put (ih b r (by simpa using h))
  exact key _ _ _ (by rw [hl,hl])
 | y::l,j+1,x,hl,h=>by
  rw [List.set_cons_succ,List.flatMap_cons,List.flatMap_cons]
  have ih:=setN_flat (l:=l) (j:=j) (x:=x) hl (by simpa using h)
  have key:∀ (a:List Value) {r r':List Value} {n:Nat} {vs:List Value},SetN r n vs r'→SetN (a++r) (n+a.length) vs (a++r'):=fun a=>by
   induction a with
   | nil=>intro r r' n vs h;exact h
   | cons c a ih=>intro r r' n vs h;exact SetN.skip (ih h)
  rw [Nat.succ_mul,← hl y]
  rw [hl y]
  have:=key (cells y) ih
  rwa [hl y] at this
theorem at2 {α:Type} {P A R:List α} {x:α} {i:Nat} (hi:i=P.length+A.length):(P++(A++x::R))[i]?=some x:=by
 rw [← List.append_assoc]
 exact at_app' (by simp [hi])
theorem run_shr1 {n:Nat} (hn:n<9223372036854775808) (t:TypeId) (x y:Operand) (w:World):
  (do eqGuard .shr t x y (.int .u64 (n:Int)) (.int .u64 1);binOp .shr t (.int .u64 (n:Int)) (.int .u64 1):Sem Value).run Tryz.prog w= .ok (.int .u64 ((n / 2:Nat):Int)) w:=by
 have h1: ¬ (1:Int)<0:=by decide
 have h2:min (1:Int).toNat 64=1:=by decide
 simp only [eqGuard,binOp,Op.shift,IntKind.bits,h1,if_false,h2]
 have h5:(n:Int).fdiv 2=(n:Int) / 2:=Int.fdiv_eq_ediv_of_nonneg _ (by decide)
 simp [h5]
theorem conv_iu {n:Nat} (hn:n<9223372036854775808) (w:World):(convert 3 183 (.int .i64 (n:Int))).run Tryz.prog w= .ok (.int .u64 (n:Int)) w:=by
 have h:=run_convert_int (P:=Tryz.prog) w 3 183 .i64 (n:Int) (by kernel_rfl) (by kernel_rfl)
 rw [h]
 have h2:IntKind.u64.wrap (n:Int)=(n:Int):=by
  unfold IntKind.wrap
  simp [IntKind.signed,IntKind.bits]
  omega
 rw [show Tryz.prog.intKind 183= .u64 by kernel_rfl,h2]
theorem conv_ui {n:Nat} (hn:n<9223372036854775808) (w:World):(convert 183 3 (.int .u64 (n:Int))).run Tryz.prog w= .ok (.int .i64 (n:Int)) w:=by
 have h:=run_convert_int (P:=Tryz.prog) w 183 3 .u64 (n:Int) (by kernel_rfl) (by kernel_rfl)
 rw [h]
 have h2:IntKind.i64.wrap (n:Int)=(n:Int):=by
  unfold IntKind.wrap
  simp [IntKind.signed,IntKind.bits]
  omega
 rw [show Tryz.prog.intKind 3= .i64 by kernel_rfl,h2]
end Go.Proofs.YtedbajbgnmaakaaGreatDoor
namespace Dg
section
variable {α : Type}
def eqv (lt:α→α→Bool) (x y:α):Bool:= !lt x y&& !lt y x
def jgo (lt:α→α→Bool) (j:α→α→α) (acc:α):List α→List α
 | []=>[acc]
 | y::r=>if eqv lt acc y then jgo lt j (j acc y) r else acc::jgo lt j y r
def jadj (lt:α→α→Bool) (j:α→α→α):List α→List α
 | []=>[]
 | x::r=>jgo lt j x r
def pins (lt:α→α→Bool) (j:α→α→α) (x:α):List α→List α
 | []=>[x]
 | y::r=>if lt y x then y::pins lt j x r else if lt x y then x::y::r else j y x::r
structure Jok (lt:α→α→Bool) (j:α→α→α):Prop where
 l:∀ x y z,lt (j x y) z=lt x z
 r:∀ x y z,lt z (j x y)=lt z x
variable {lt : α → α → Bool} {j : α → α → α}
theorem jgo_head (hj:Jok lt j):∀ (l:List α) (acc:α),∃ h r,jgo lt j acc l=h::r∧(∀ z,lt h z=lt acc z)∧(∀ z,lt z h=lt z acc)
 | [],acc=>⟨acc,[],rfl,fun _=>rfl,fun _=>rfl⟩
 | y::r,acc=>by
  unfold jgo
  split
  ·obtain ⟨h,r',e,h1,h2⟩:=jgo_head hj r (j acc y)
   exact ⟨h,r',e,fun z=>by rw [h1,hj.l],fun z=>by rw [h2,hj.r]⟩
  ·exact ⟨acc,_,rfl,fun _=>rfl,fun _=>rfl⟩
theorem pins_lt (hj:Jok lt j) (hw:Swo lt) {x acc:α} {l:List α} (h:lt x acc=true):pins lt j x (jgo lt j acc l)=x::jgo lt j acc l:=by
 obtain ⟨h9,r,e,h1,h2⟩:=jgo_head hj l acc
 rw [e,pins,h1,hw.asym _ _ h,h2,h]
 simp
theorem jgo_sins (hj:Jok lt j) (hw:Swo lt) {x:α}:∀ (l:List α) (acc:α),Srt lt (acc::l)→lt x acc=false→jgo lt j acc (sins lt x l)=pins lt j x (jgo lt j acc l)
 | [],acc,_,hx=>by
  show jgo lt j acc [x]=pins lt j x [acc]
  unfold jgo pins eqv
  rw [hx]
  cases h:lt acc x<;>simp [jgo,pins]
 | y::r,acc,hs,hx=>by
  obtain ⟨h1,h2⟩:=List.pairwise_cons.1 hs
  have hya:=h1 y (by simp)
  cases hxy:lt x y with
  | true=>
   rw [sins,if_pos hxy]
   have hacy:lt acc y=true:=hw.le_lt hx hxy
   cases hax:lt acc x with
   | true=>
    have e1:eqv lt acc x=false:=by unfold eqv;rw [hax];rfl
    have e2:eqv lt x y=false:=by unfold eqv;rw [hxy];rfl
    have e3:eqv lt acc y=false:=by unfold eqv;rw [hacy];rfl
    rw [jgo,if_neg (by simp [e1]),jgo,if_neg (by simp [e2]),jgo,if_neg (by simp [e3]),pins,if_pos hax,pins_lt hj hw hxy]
   | false=>
    have e1:eqv lt acc x=true:=by unfold eqv;rw [hax,hx];rfl
    have e2:eqv lt (j acc x) y=false:=by unfold eqv;rw [hj.l,hacy];rfl
    have e3:eqv lt acc y=false:=by unfold eqv;rw [hacy];rfl
    rw [jgo,if_pos e1,jgo,if_neg (by simp [e2]),jgo,if_neg (by simp [e3]),pins,if_neg (by simp [hax]),if_neg (by simp [hx])]
  | false=>
   rw [sins,if_neg (by simp [hxy])]
   cases e1:eqv lt acc y with
   | true=>
    have hs2:Srt lt (j acc y::r):=List.pairwise_cons.2 ⟨fun z hz=>by rw [hj.r];exact h1 z (by simp [hz]),(List.pairwise_cons.1 h2).2⟩
    rw [jgo,if_pos e1,jgo,if_pos e1,jgo_sins hj hw r (j acc y) hs2 (by rw [hj.r];exact hx)]
   | false=>
    have hacy:lt acc y=true:=by
     unfold eqv at e1
     rw [hya] at e1
     simpa using e1
    have hax:lt acc x=true:=hw.lt_le hacy hxy
    rw [jgo,if_neg (by simp [e1]),jgo,if_neg (by simp [e1]),pins,if_pos hax,jgo_sins hj hw r y h2 hxy]
theorem jadj_sins (hj:Jok lt j) (hw:Swo lt) {x:α}:∀ {l:List α},Srt lt l→jadj lt j (sins lt x l)=pins lt j x (jadj lt j l)
 | [],_=>rfl
 | y::r,h=>by
  show jadj lt j (sins lt x (y::r))=pins lt j x (jgo lt j y r)
  cases hxy:lt x y with
  | true=>
   rw [sins,if_pos hxy,pins_lt hj hw hxy]
   show jgo lt j x (y::r)=_
   rw [jgo,if_neg (by unfold eqv;simp [hxy])]
  | false=>
   rw [sins,if_neg (by simp [hxy])]
   exact jgo_sins hj hw r y h hxy
theorem jadj_isort (hj:Jok lt j) (hw:Swo lt) (l:List α):jadj lt j (isort lt l)=l.foldl (fun acc x=>pins lt j x acc) []:=by
 refine rev_ind (P:=fun l=>jadj lt j (isort lt l)=l.foldl (fun acc x=>pins lt j x acc) []) rfl (fun l x h=>?_) l
 rw [isort_snoc,jadj_sins hj hw (isort_srt hw l),h,List.foldl_append]
 rfl
theorem pins_mem {x:α}:∀ {l:List α} {z:α},z∈pins lt j x l→z=x∨z∈l∨∃ y∈l,z=j y x
 | [],z,h=> .inl (by simpa [pins] using h)
 | y::r,z,h=>by
  unfold pins at h
  split at h
  ·rcases List.mem_cons.1 h with h | h
   ·exact .inr (.inl (by simp [h]))
   ·rcases pins_mem h with h | h | ⟨y9,h1,h2⟩
    ·exact .inl h
    ·exact .inr (.inl (by simp [h]))
    ·exact .inr (.inr ⟨y9,by simp [h1],h2⟩)
  ·split at h
   ·rcases List.mem_cons.1 h with h | h
    ·exact .inl h
    ·exact .inr (.inl h)
   ·rcases List.mem_cons.1 h with h | h
    ·exact .inr (.inr ⟨y,by simp,h⟩)
    ·exact .inr (.inl (by simp [h]))
end
end Dg
namespace Go.Proofs.YtedbajbgnmaakaaGreatDoor
open Go Go.Eng Go.Proofs Dg
structure Cmp3 {α:Type} (c:α→α→Int):Prop where
 anti:∀ x y,c y x<0↔0<c x y
 tr:∀ x y z,c x y≤0→c y z≤0→c x z≤0
theorem Cmp3.swo {α:Type} {c:α→α→Int} (h:Cmp3 c):Swo (ltC c):=by
 refine ⟨fun x y hxy=>?_,fun x y z h1 h2=>?_⟩
 ·have h1:=h.anti x y
  have h2:=h.anti y x
  have h3:c x y<0:=by simpa using hxy
  simp only [decide_eq_false_iff_not]
  omega
 have h3: ¬ c y x<0:=by simpa using h1
 have h4: ¬ c z y<0:=by simpa using h2
 have:=h.tr x y z (by have:=h.anti x y;have:=h.anti y x;omega) (by have:=h.anti y z;have:=h.anti z y;omega)
 have h5:=h.anti x z
 have h6:=h.anti z x
 simp only [decide_eq_false_iff_not]
 omega
theorem Cmp3.on {α β:Type} {c:α→α→Int} (h:Cmp3 c) (f:β→α):Cmp3 (fun x y=>c (f x) (f y)):=⟨fun x y=>h.anti _ _,fun x y z=>h.tr _ _ _⟩
theorem cmpS_cons (a b:UInt8) (s t:List UInt8):cmpS (a::s) (b::t)=if a=b then cmpS s t else if a<b then -1 else 1:=by
 have hb:Op.bytesLess (a::s) (b::t)=(decide (a<b)||(a==b&&Op.bytesLess s t)):=by rw [Op.bytesLess]
 unfold cmpS
 rw [hb]
 by_cases h:a=b
 ·subst h
  simp [UInt8.lt_irrefl]
 rw [if_neg h]
 by_cases h2:a<b
 ·simp [h2]
 simp [h,h2]
theorem cmpS_3 :Cmp3 cmpS:=by
 have nn:cmpS [] []=0:=by simp [cmpS,Op.bytesLess]
 have nc:∀ a l,cmpS [] (a::l)= -1:=fun a l=>by simp [cmpS,Op.bytesLess]
 have cn:∀ a l,cmpS (a::l) []=1:=fun a l=>by simp [cmpS,Op.bytesLess]
 constructor
 ·intro x
  induction x with
  | nil=>intro y;cases y with
   | nil=>rw [nn]
   | cons b t=>rw [nc,cn];decide
  | cons a s ih=>intro y;cases y with
   | nil=>rw [cn,nc];decide
   | cons b t=>
    rw [cmpS_cons,cmpS_cons]
    by_cases h:a=b
    ·subst h;rw [if_pos rfl,if_pos rfl];exact ih t
    ·rw [if_neg h,if_neg (Ne.symm h)]
     have h9:a<b∨b<a:=by
      rcases Nat.lt_trichotomy a.toNat b.toNat with h1 | h1 | h1
      ·exact .inl (UInt8.lt_iff_toNat_lt.2 h1)
      ·exact absurd (UInt8.toNat_inj.1 h1) h
      ·exact .inr (UInt8.lt_iff_toNat_lt.2 h1)
     rcases h9 with h1 | h1
     ·rw [if_pos h1,if_neg (UInt8.lt_asymm h1)];omega
     ·rw [if_pos h1,if_neg (UInt8.lt_asymm h1)];omega
 intro x
 induction x with
 | nil=>intro y z;cases z with
  | nil=>intro _ _;rw [nn];omega
  | cons c u=>intro _ _;rw [nc];omega
 | cons a s ih=>intro y z;cases y with
  | nil=>rw [cn];omega
  | cons b t=>cases z with
   | nil=>rw [cn];omega
   | cons c u=>
    rw [cmpS_cons,cmpS_cons,cmpS_cons]
    intro h1 h2
    by_cases hab:a=b
    ·subst hab
     rw [if_pos rfl] at h1
     by_cases hbc:a=c
     ·subst hbc;rw [if_pos rfl] at h2 ⊢;exact ih t u h1 h2
     ·rw [if_neg hbc] at h2 ⊢;exact h2
    ·rw [if_neg hab] at h1
     have h3:a<b:=by
      by_cases h:a<b
      ·exact h
      ·rw [if_neg h] at h1;omega
     by_cases hbc:b=c
     ·subst hbc;rw [if_neg hab,if_pos h3];omega
     ·rw [if_neg hbc] at h2
      have h4:b<c:=by
       by_cases h:b<c
       ·exact h
       ·rw [if_neg h] at h2;omega
      have h5:=UInt8.lt_trans h3 h4
      rw [if_neg (UInt8.ne_of_lt h5),if_pos h5];omega
section
variable {w0 w : World} {C : List Chunk} {x : RwV} {m : MdV} {u i k : Nat}
theorem MdG.tm (hm:MdG u x i k m) {t:TkV} (ht:t∈m.ts):t.x∈x.i:=List.mem_of_mem_take (by rw [← hm.t.x];exact List.mem_map_of_mem ht)
theorem MdG.rm (hm:MdG u x i k m) {t:RtV} (ht:t∈m.rs):t.x∈x.i:=List.mem_of_mem_take (by rw [← hm.r.x];exact List.mem_map_of_mem ht)
theorem thoseL_len {q:List QB} {u:Nat}:(thoseL q u).length≤4294967296:=Nat.le_trans (List.length_filter_le _ _) (cfgs_len u)
theorem MdG.tsR (hm:MdG u x i k m) (hx:RwR w0 x) (hp:∀ y∈x.i,y.p.length≤1000000000) (hS:St w0 [] C w) (h1:mdT m∈C) (h2:dsC m.F m.ds∈C):TsR w m.ts m.ta:=
 ⟨RdSl.of_row (fun _ _=>rfl) (fun h=>h) (Nat.le_refl _) (hS.ok _ h1),fun t ht=>⟨(hx.io _ (hm.tm ht)).p.next hS,hp _ (hm.tm ht)⟩,fun t ht=>dsC_rd (hS.ok _ h2) (hm.t.d t ht).2.2⟩
theorem MdG.rsR (hm:MdG u x i k m) (hx:RwR w0 x) (hp:∀ y∈x.i,y.p.length≤1000000000) (hS:St w0 [] C w) (h1:mdR m∈C) (h2:insC m.G m.cs∈C):RsR w m.rs m.ra:=
 ⟨RdSl.of_row (fun _ _=>rfl) (fun h=>h) (Nat.le_refl _) (hS.ok _ h1),fun t ht=>⟨(hx.io _ (hm.rm ht)).p.next hS,hp _ (hm.rm ht)⟩,fun t ht=>⟨insC_rd (hS.ok _ h2) (hm.r.d t ht).2,by rw [(hm.r.d t ht).1];exact Nat.le_trans thoseL_len (by decide)⟩⟩
end
end Go.Proofs.YtedbajbgnmaakaaGreatDoor
namespace Fm
open Go
end Fm
namespace Fm
open Go
def signs2 :List (List UInt8):=[[60,61],[62,61],[61,61],[33,61],[38,38],[124,124]]
def signs1 :List UInt8:=[43,45,42,47,37,60,62,61,33,40,41,123,125,44,59,58]
def signsL :List (List UInt8):=signs2++signs1.map fun c=>[c]
theorem drop_at {s:List UInt8} {i:Nat} {c:UInt8} (hc:s[i]?=some c):s.drop i=c::s.drop (i+1):=by
 have hlt:i<s.length:=(List.getElem?_eq_some_iff.1 hc).1
 rw [List.drop_eq_getElem_cons hlt]
 congr 1
 exact (List.getElem?_eq_some_iff.1 hc).2
end Fm
namespace Go.Proofs.YtedbajbgnmaakaaGreatDoor
open Go Go.Eng Go.Proofs
open Fm
open Go Go.Eng Go.Proofs
open Fm
end Go.Proofs.YtedbajbgnmaakaaGreatDoor
namespace Fm
open Go
end Fm
namespace Go.Proofs
open Go.Shelf
def Tryz.laysC172_ren :Go.Shelf.Ren:=⟨fun | 172=>248 | 244=>259 | 245=>260 | 247=>284 | 279=>285 | 280=>286 | 281=>287 | 282=>288 | 287=>297 | 316=>298 | 171=>249 | 205=>299 | 321=>304 | 322=>305 | 243=>261 | 246=>289 | 283=>300 | 284=>301 | 285=>302 | 286=>303 | 129=>136 | 317=>306 | 318=>307 | 319=>308 | 320=>309 | 337=>310 | 338=>311 | n=>n,fun | 9=>9 | 3=>3 | 75=>370 | 76=>371 | 4=>4 | 5=>5 | 167=>394 | 37=>395 | 0=>0 | 85=>396 | 2=>2 | 168=>398 | 53=>237 | 175=>409 | 46=>183 | 210=>412 | 127=>419 | 145=>422 | 143=>420 | 21=>21 | 171=>414 | 173=>416 | 212=>424 | 51=>24 | 20=>20 | 213=>425 | 232=>426 | 233=>427 | 80=>392 | n=>n,fun | 15=>4 | 16=>5 | 17=>6 | 18=>7 | 19=>8 | n=>n⟩
theorem Tryz.laysC172 :Go.Proofs.LaysC.n172 Tryz.prog Tryz.laysC172_ren:={
 mixed:=by kernel_rfl
 f129:=Tryz.func136.trans (congrArg some (by kernel_rfl))
 f171:=Tryz.func249.trans (congrArg some (by kernel_rfl))
 f172:=Tryz.func248.trans (congrArg some (by kernel_rfl))
 f205:=Tryz.func299.trans (congrArg some (by kernel_rfl))
 f243:=Tryz.func261.trans (congrArg some (by kernel_rfl))
 f244:=Tryz.func259.trans (congrArg some (by kernel_rfl))
 f245:=Tryz.func260.trans (congrArg some (by kernel_rfl))
 f246:=Tryz.func289.trans (congrArg some (by kernel_rfl))
 f247:=Tryz.func284.trans (congrArg some (by kernel_rfl))
 f279:=Tryz.func285.trans (congrArg some (by kernel_rfl))
 f280:=Tryz.func286.trans (congrArg some (by kernel_rfl))
 f281:=Tryz.func287.trans (congrArg some (by kernel_rfl))
 f282:=Tryz.func288.trans (congrArg some (by kernel_rfl))
 f283:=Tryz.func300.trans (congrArg some (by kernel_rfl))
 f284:=Tryz.func301.trans (congrArg some (by kernel_rfl))
 f285:=Tryz.func302.trans (congrArg some (by kernel_rfl))
 f286:=Tryz.func303.trans (congrArg some (by kernel_rfl))
 f287:=Tryz.func297.trans (congrArg some (by kernel_rfl))
 f316:=Tryz.func298.trans (congrArg some (by kernel_rfl))
 f317:=Tryz.func306.trans (congrArg some (by kernel_rfl))
 f318:=Tryz.func307.trans (congrArg some (by kernel_rfl))
 f319:=Tryz.func308.trans (congrArg some (by kernel_rfl))
 f320:=Tryz.func309.trans (congrArg some (by kernel_rfl))
 f321:=Tryz.func304.trans (congrArg some (by kernel_rfl))
 f322:=Tryz.func305.trans (congrArg some (by kernel_rfl))
 f337:=Tryz.func310.trans (congrArg some (by kernel_rfl))
 f338:=Tryz.func311.trans (congrArg some (by kernel_rfl))
 t0:=Tryz.underlying0
 a0:=Tryz.isAgg0
 z0:=Tryz.sizeOf0
 v0:=Tryz.zeroValue0
 t2:=Tryz.underlying2
 a2:=Tryz.isAgg2
 z2:=Tryz.sizeOf2
 v2:=Tryz.zeroValue2
 t3:=Tryz.underlying3
 a3:=Tryz.isAgg3
 z3:=Tryz.sizeOf3
 v3:=Tryz.zeroValue3
 t4:=Tryz.underlying4
 a4:=Tryz.isAgg4
 z4:=Tryz.sizeOf4
 v4:=Tryz.zeroValue4
 t5:=Tryz.underlying5
 a5:=Tryz.isAgg5
 z5:=Tryz.sizeOf5
 v5:=Tryz.zeroValue5
 t9:=Tryz.underlying9
 a9:=Tryz.isAgg9
 z9:=Tryz.sizeOf9
 v9:=Tryz.zeroValue9
 t20:=Tryz.underlying20
 a20:=Tryz.isAgg20
 z20:=Tryz.sizeOf20
 v20:=Tryz.zeroValue20
 t21:=Tryz.underlying21
 a21:=Tryz.isAgg21
 z21:=Tryz.sizeOf21
 v21:=Tryz.zeroValue21
 t37:=Tryz.underlying395
 a37:=Tryz.isAgg395
 z37:=Tryz.sizeOf395
 v37:=Tryz.zeroValue395
 t46:=Tryz.underlying183
 a46:=Tryz.isAgg183
 z46:=Tryz.sizeOf183
 v46:=Tryz.zeroValue183
 t51:=Tryz.underlying24
 a51:=Tryz.isAgg24
 z51:=Tryz.sizeOf24
 v51:=Tryz.zeroValue24
 t53:=Tryz.underlying237
 a53:=Tryz.isAgg237
 z53:=Tryz.sizeOf237
 v53:=Tryz.zeroValue237
 t75:=Tryz.underlying370
 a75:=Tryz.isAgg370
 z75:=Tryz.sizeOf370
 v75:=Tryz.zeroValue370
 t76:=Tryz.underlying371
 a76:=Tryz.isAgg371
 z76:=Tryz.sizeOf371
 v76:=Tryz.zeroValue371
 t85:=Tryz.underlying396
 a85:=Tryz.isAgg396
 z85:=Tryz.sizeOf396
 v85:=Tryz.zeroValue396
 t127:=Tryz.underlying419
 a127:=Tryz.isAgg419
 z127:=Tryz.sizeOf419
 v127:=Tryz.zeroValue419
 t143:=Tryz.underlying420
 a143:=Tryz.isAgg420
 z143:=Tryz.sizeOf420
 v143:=Tryz.zeroValue420
 t145:=Tryz.underlying422
 a145:=Tryz.isAgg422
 z145:=Tryz.sizeOf422
 v145:=Tryz.zeroValue422
 t167:=Tryz.underlying394
 a167:=Tryz.isAgg394
 z167:=Tryz.sizeOf394
 v167:=Tryz.zeroValue394
 t168:=Tryz.underlying398
 a168:=Tryz.isAgg398
 z168:=Tryz.sizeOf398
 v168:=Tryz.zeroValue398
 t171:=Tryz.underlying414
 a171:=Tryz.isAgg414
 z171:=Tryz.sizeOf414
 v171:=Tryz.zeroValue414
 t173:=Tryz.underlying416
 a173:=Tryz.isAgg416
 z173:=Tryz.sizeOf416
 v173:=Tryz.zeroValue416
 t175:=Tryz.underlying409
 a175:=Tryz.isAgg409
 z175:=Tryz.sizeOf409
 v175:=Tryz.zeroValue409
 t210:=Tryz.underlying412
 a210:=Tryz.isAgg412
 z210:=Tryz.sizeOf412
 v210:=Tryz.zeroValue412
 t212:=Tryz.underlying424
 a212:=Tryz.isAgg424
 z212:=Tryz.sizeOf424
 v212:=Tryz.zeroValue424
 t213:=Tryz.underlying425
 a213:=Tryz.isAgg425
 z213:=Tryz.sizeOf425
 t232:=Tryz.underlying426
 a232:=Tryz.isAgg426
 z232:=Tryz.sizeOf426
 v232:=Tryz.zeroValue426
 t233:=Tryz.underlying427
 a233:=Tryz.isAgg427
 z233:=Tryz.sizeOf427
 v233:=Tryz.zeroValue427
 g15:=by kernel_rfl
 g16:=by kernel_rfl
 g17:=by kernel_rfl
 g18:=by kernel_rfl
 g19:=by kernel_rfl
 t80:=Tryz.underlying392
 a80:=Tryz.isAgg392
 z80:=Tryz.sizeOf392
 v80:=Tryz.zeroValue392
 i0:=by kernel_rfl
 i2:=by kernel_rfl
 i3:=by kernel_rfl
 i4:=by kernel_rfl
 i5:=by kernel_rfl
 i9:=by kernel_rfl
 i20:=by kernel_rfl
 i21:=by kernel_rfl
 i37:=by kernel_rfl
 i46:=by kernel_rfl
 i51:=by kernel_rfl
 i53:=by kernel_rfl
 i75:=by kernel_rfl
 i76:=by kernel_rfl
 i80:=by kernel_rfl
 i85:=by kernel_rfl
 i127:=by kernel_rfl
 i143:=by kernel_rfl
 i145:=by kernel_rfl
 i167:=by kernel_rfl
 i168:=by kernel_rfl
 i171:=by kernel_rfl
 i173:=by kernel_rfl
 i175:=by kernel_rfl
 i210:=by kernel_rfl
 i212:=by kernel_rfl
 i232:=by kernel_rfl
 i233:=by kernel_rfl
 m15:=by kernel_rfl
 m16:=by kernel_rfl
 m17:=by kernel_rfl
 m18:=by kernel_rfl
 m19:=by kernel_rfl
 c0:=by kernel_rfl
 c2:=by kernel_rfl
 c3:=by kernel_rfl
 c4:=by kernel_rfl
 c5:=by kernel_rfl
 c9:=by kernel_rfl
 c20:=by kernel_rfl
 c21:=by kernel_rfl
 c37:=by kernel_rfl
 c46:=by kernel_rfl
 c51:=by kernel_rfl
 c53:=by kernel_rfl
 c75:=by kernel_rfl
 c76:=by kernel_rfl
 c80:=by kernel_rfl
 c85:=by kernel_rfl
 c127:=by kernel_rfl
 c143:=by kernel_rfl
 c145:=by kernel_rfl
 c167:=by kernel_rfl
 c168:=by kernel_rfl
 c171:=by kernel_rfl
 c173:=by kernel_rfl
 c175:=by kernel_rfl
 c210:=by kernel_rfl
 c212:=by kernel_rfl
 c213:=by kernel_rfl
 c232:=by kernel_rfl
 c233:=by kernel_rfl}
open Go.RowKit in
theorem Tryz.strconv_Atoi_ok (s:ByteArray) (hmax:s.size≤9223372036854775806) (v:Int) (h:Lib.atoiAll s.data.toList= .ok v) (w:World):
  Calls Tryz.prog 248 #[.string s] w fun e w'=>e= .returned (.tuple #[.int .i64 v,.nilIface])∧(w'=w∨∃ t,w'=Lib.bytesWorld w 5 t):=Any.strconv_Atoi_ok Tryz.laysC172 s hmax v h w
open Go.RowKit in
theorem Tryz.strconv_Atoi_syntax (s:ByteArray) (hlim:s.size≤281474976710656) (h:Lib.atoiAll s.data.toList=Lib.NumEnd.syntax) (ev:Value) (w:World) (hv:w.cell? ⟨4,0,none⟩=some ev) (hev:ev= .nilIface∨∃ te pe,ev= .iface te pe):
  Calls Tryz.prog 248 #[.string s] w fun e w'=>∃ N,e= .returned (.tuple #[.int .i64 (0),.iface 398 (.pointer (some ⟨N,0,none⟩))])∧w.heap.size≤N∧w'.heap[N]?=some (.cells #[.string ⟨#[65,116,111,105]⟩,.string s,ev] 412 (0,0))∧Below w.heap.size w w':=Any.strconv_Atoi_syntax Tryz.laysC172 s hlim h ev w hv hev
open Go.RowKit in
theorem Tryz.strconv_Atoi_range (s:ByteArray) (hlim:s.size≤281474976710656) (h:Lib.atoiAll s.data.toList= .range) (ev:Value) (w:World) (hv:w.cell? ⟨5,0,none⟩=some ev) (hev:ev= .nilIface∨∃ te pe,ev= .iface te pe):
  Calls Tryz.prog 248 #[.string s] w fun e w'=>∃ N,e= .returned (.tuple #[.int .i64 (Lib.atoiSat s.data.toList),.iface 398 (.pointer (some ⟨N,0,none⟩))])∧w.heap.size≤N∧w'.heap[N]?=some (.cells #[.string ⟨#[65,116,111,105]⟩,.string s,ev] 412 (0,0))∧Below w.heap.size w w':=Any.strconv_Atoi_range Tryz.laysC172 s hlim h ev w hv hev
end Go.Proofs
namespace Go.Proofs.YtedbajbgnmaakaaGreatDoor
open Go Go.Eng Go.Proofs Go.RowKit Fm
def Tab (w : World) : Prop := Lib.TabIs Tryz.prog w "internal/strconv.uint64pow10" .u64 Lib.pow10Tab
theorem Tab.next {w0 w:World} {C:List Chunk} (h:Tab w0) (hS:St w0 [] C w):Tab w:=by
 unfold Tab Lib.TabIs World.var? at h ⊢
 cases hg : Tryz.prog.globalNamed "internal/strconv.uint64pow10" with
 | none=>rw [hg] at h;cases h
 | some g=>
  rw [hg] at h
  simp only [Option.bind_some] at h ⊢
  have hlt:g<w0.heap.size:=by
   rcases Nat.lt_or_ge g w0.heap.size with hl | hl
   ·exact hl
   ·rw [Array.getElem?_eq_none hl] at h;cases h
  rw [hS.old g hlt (by simp)]
  exact h
structure LibW (w:World):Prop where
 tab:Tab w
 es:∃ ev,w.cell? ⟨4,0,none⟩=some ev∧(ev= .nilIface∨∃ te pe,ev= .iface te pe)
 er:∃ ev,w.cell? ⟨5,0,none⟩=some ev∧(ev= .nilIface∨∃ te pe,ev= .iface te pe)
theorem LibW.next {w0 w:World} {C:List Chunk} (h:LibW w0) (hS:St w0 [] C w):LibW w:=by
 obtain ⟨e1,h1,h1'⟩:=h.es
 obtain ⟨e2,h2,h2'⟩:=h.er
 exact ⟨h.tab.next hS,⟨e1,hS.oldc h1 (by simp),h1'⟩,⟨e2,hS.oldc h2 (by simp),h2'⟩⟩
open Go Go.Eng Go.Proofs
open Fm
abbrev kt (o:Option (Nat×List UInt8)):Value:=match o with
 | some t=> .tuple #[.int .u8 (t.1:Int),.string (str t.2)]
 | none=> .tuple #[.int .u8 0,.string (str [])]
open Go Go.Eng Go.Proofs
open Fm
def sgV :List Value:=signsL.map fun x=>Value.string (str x)
def SgW (w:World):Prop:=∀ j v,sgV[j]?=some v→w.cell? ⟨0,j,none⟩=some v
theorem SgW.next {w0 w:World} {C:List Chunk} (h:SgW w0) (hS:St w0 [] C w):SgW w:=fun j v hv=>hS.oldc (h j v hv) (by simp)
open Go Go.Eng Go.Proofs Dg
theorem RdSl.of_pt {α:Type} {cells:α→List Value} {sz:Nat} {w:World} {l:List α} {b:Nat} {e:TypeId} (hl:∀ x∈l,(cells x).length=sz) (h:(pt b (l.flatMap cells) e).ok w):RdSl cells sz w l (some ⟨b,0,none⟩):=fun i x hx=>by
 refine ⟨b,0,rfl,fun j u hu=>?_⟩
 rw [Nat.zero_add]
 exact cell_of_heap h (flat_at hl hx j u hu)
theorem thoseL_32 {q:List QB} {u:Nat}:∀ z∈thoseL q u,z<4294967296:=fun z hz=>cfgsN_32 (Nat.le_refl 32) (List.mem_filter.1 hz).1
end Go.Proofs.YtedbajbgnmaakaaGreatDoor
namespace Go.Eng
open Go Go.RowKit
section
variable {P : Program} {w0 : World} {O : List Nat} {ops : Array Oper} {Q : Exit → Act → World → Prop} {N : Nat} {D : List Deferred} {L : FL} {C : List Chunk} {K : Act → World → Prop}
variable {d : Nat} {ty : TypeId} {pos : String} {af : Array Edge}
variable {κ : Type} [DecidableEq κ] {enc : κ → Value} {kt : TypeId}
end
end Go.Eng
namespace Go.Proofs.YtedbajbgnmaakaaGreatDoor
open Go Go.Eng Go.Proofs Dg
theorem mem_take_succ {l:List Nat} {i n x:Nat} (hx:l[i]?=some x) (h:n∉l.take i) (hne:n≠x):n∉l.take (i+1):=by
 rw [List.take_add_one,hx]
 simp [h,hne]
theorem rHas6_c (l:List Nat) (a:Option Addr) (c n:Nat) (hl:l.length≤1000000000000000) (w:World) (hr:RdN w l a):
  Pure Tryz.prog 87 [.slice a l.length c,.int .u32 (n:Int)] w (.bool (decide (n∈l))):=by
 refine enter Tryz.func87 rfl Tryz.ntmps87 rfl (St.init _) ?_
 refine jN 14 ?_
 refine WC.loop (α:=Nat) (fun i=>i≤l.length∧n∉l.take i) (fun i=>[(0,.slice a l.length c),(1,.int .u32 (n:Int)),(5,.int .i64 (i:Int))]) (fun _=>[]) (fun i=>l.length - i) (0) ?_ ?_ ?_ ?_
 ·exact ⟨Nat.zero_le _,by simp⟩
 ·exact ⟨rfl,rfl,rfl,trivial⟩
 ·rfl
 rintro i ⟨hi,hno⟩
 refine jN 13 ?_
 refine WC.cond rfl (fun h9=>?_) (fun h9=>?_)
 ·have hlt:i<l.length:=by simpa using h9
  obtain ⟨x,hx⟩:∃ z,l[i]?=some z:=⟨_,List.getElem?_eq_getElem hlt⟩
  obtain ⟨b,o,rfl,hcx⟩:=hr i x hx
  refine jN 11 ?_
  refine WL.indexAddr F.sl53 rfl rfl rfl hlt ?_
  refine jN 1 ?_
  refine WL.load1 F.one24 rfl rfl (v:= .int .u32 (x:Int)) (fun w hS=>hS.oldc (hcx 0 _ rfl) (by simp)) ?_
  refine jN 6 ?_
  refine WC.cond rfl (fun h17=>?_) (fun h17=>?_)
  ·have hnx:n=x:=by have h9:=beq_iff_eq.1 h17;omega
   have hb:decide (n∈l)=true:=decide_eq_true (by rw [hnx];exact List.mem_of_getElem? hx)
   refine jN 12 ?_
   exact WQ.ret (rs:=[.tmp 4]) rfl (.tmp rfl .nil) (fun w hS=>⟨by rw [hb];rfl,hS.sublist (List.nil_sublist _)⟩)
  have hne:n≠x:=by rintro rfl;simp at h17
  refine jN 11 ?_
  refine WQ.back (i+1) ?_ ?_ ?_ ?_
  ·exact ⟨hlt,mem_take_succ hx hno hne⟩
  ·omega
  ·exact ⟨rfl,rfl,rfl,trivial⟩
  rfl
 have hie:i=l.length:=by simp at h9;omega
 have hb:decide (n∈l)=false:=decide_eq_false (by rw [hie,List.take_length] at hno;exact hno)
 refine jN 12 ?_
 exact WQ.ret (rs:=[.tmp 4]) rfl (.tmp rfl .nil) (fun w hS=>⟨by rw [hb];rfl,hS.sublist (List.nil_sublist _)⟩)
def ofR (n:Nat) (rs:List RtV):List RtV:=rs.filter fun r=>decide (n∈r.c)
theorem ofR_T {n i:Nat} {rs:List RtV} {r:RtV} (h:rs[i]?=some r) (hb:decide (n∈r.c)=true):ofR n (rs.take (i+1))=ofR n (rs.take i)++[r]:=by
 unfold ofR
 exact filter_take_T (fun r=>decide (n∈r.c)) h hb
theorem ofR_F {n i:Nat} {rs:List RtV} {r:RtV} (h:rs[i]?=some r) (hb:decide (n∈r.c)=false):ofR n (rs.take (i+1))=ofR n (rs.take i):=by
 unfold ofR
 exact filter_take_F (fun r=>decide (n∈r.c)) h hb
theorem ofR_len (n i:Nat) (rs:List RtV):(ofR n (rs.take i)).length≤i:=Nat.le_trans (List.length_filter_le _ _) (List.length_take_le _ _)
structure OfG where
 i:Nat
 a:Option Addr
 c:Nat
set_option maxRecDepth 100000 in
theorem rOf6_c (rs:List RtV) (hl:rs.length≤1000) (ra:Option Addr) (rc n:Nat) (w:World) (hr:RdSl rtC 6 w rs ra) (hd:∀ t∈rs,RdN w t.c t.ca∧t.c.length≤1000000000000000):
  Calls Tryz.prog 59 [.slice ra rs.length rc,.int .u32 (n:Int)].toArray w fun e w'=>∃ x:Option Addr×Nat,e= .returned (.slice x.1 (ofR n rs).length x.2)∧St w [] [rowc (.slice x.1 (ofR n rs).length x.2) (ofR n rs).length 93 6 ((ofR n rs).flatMap rtC)] w':=by
 refine enter Tryz.func59 rfl Tryz.ntmps59 rfl (St.init _) ?_
 refine jN 20 ?_
 refine WC.chunks (C':=[rowc (.slice none 0 0) 0 93 6 []]) (fun w hS=>(jK (hS.rowNil 93 6))) ?_
 refine WC.loop (α:=OfG) (fun g=>g.i≤rs.length) (fun g=>[(0,.slice ra rs.length rc),(1,.int .u32 (n:Int)),(5,.slice g.a (ofR n (rs.take g.i)).length g.c),(6,.int .i64 (g.i:Int))]) (fun g=>[rowc (.slice g.a (ofR n (rs.take g.i)).length g.c) (ofR n (rs.take g.i)).length 93 6 ((ofR n (rs.take g.i)).flatMap rtC)]) (fun g=>rs.length - g.i) (⟨0,none,0⟩) ?_ ?_ ?_ ?_
 ·exact Nat.zero_le _
 ·exact ⟨rfl,rfl,rfl,rfl,trivial⟩
 ·rfl
 rintro ⟨i,a,c⟩ hi
 dsimp only at hi
 show WC _ _ _ _ _ _ _ [(0,.slice ra rs.length rc),(1,.int .u32 (n:Int)),(5,.slice a (ofR n (rs.take i)).length c),(6,.int .i64 (i:Int))] [rowc (.slice a (ofR n (rs.take i)).length c) (ofR n (rs.take i)).length 93 6 ((ofR n (rs.take i)).flatMap rtC)]
 have hln:=ofR_len n i rs
 refine jN 13 ?_
 refine WC.cond rfl (fun h10=>?_) (fun h10=>?_)
 ·have hlt:i<rs.length:=by simpa using h10
  obtain ⟨r,hr9⟩:∃ z,rs[i]?=some z:=⟨_,List.getElem?_eq_getElem hlt⟩
  have hrm:=List.mem_of_getElem? hr9
  obtain ⟨b,o,rfl,hcx⟩:=hr i r hr9
  refine jN 11 ?_
  refine WL.indexAddr F.sl34 rfl rfl rfl hlt ?_
  refine jN 1 ?_
  refine WL.fieldAddr F.fld93_5 rfl rfl ?_
  refine jN 1 ?_
  refine WL.load1 F.one53 rfl rfl (v:= .slice r.ca r.c.length r.cc) (fun w hS=>hS.oldc (hcx 5 _ rfl) (by simp)) ?_
  refine jN 3 ?_
  refine WL.callV F.fun87 rfl rfl (fun w hS=>rHas6_c r.c r.ca r.cc n (hd r hrm).2 w ((hd r hrm).1.next hS)) ?_
  refine jN 2 ?_
  refine WC.cond rfl (fun h19=>?_) (fun h19=>?_)
  ·refine jN 8 ?_
   refine WL.indexAddr F.sl34 rfl rfl rfl hlt ?_
   refine jN 1 ?_
   refine WL.loadN F.agg93 rfl rfl (vs:=rtC r) rfl (fun w hS j v hv=>hS.oldc (hcx j v hv) (by simp)) ?_
   refine jN 1 ?_
   refine WL.buildSlice F.sl34 F.ez34 rfl rfl rfl rfl jB rfl (fun b25=>?_)
   refine jN 1 ?_
   refine WL.appendE (news:=rtC r) F.el34 rfl rfl rfl jR (fun w hS jj u hu=>by rw [Nat.zero_add];exact hS.cell (cs:=rtC r) jM hu) rfl jO (Nat.le_trans (m:=2000) (by omega) (by decide)) (by omega) (fun a2 c2=>?_)
   refine jN 13 ?_
   refine WQ.chunks (C':=[rowc (.slice a2 ((ofR n (rs.take i)).length+1) c2) ((ofR n (rs.take i)).length+1) 93 6 ((ofR n (rs.take i)).flatMap rtC++rtC r)]) (fun w hS=>(jK hS)) ?_
   have hs:=ofR_T hr9 h19
   refine WQ.back (⟨i+1,a2,c2⟩:OfG) ?_ ?_ ?_ ?_
   ·show i+1≤rs.length;omega
   ·show rs.length - (i+1)<rs.length - i;omega
   ·simp only [hs,List.length_append,List.length_cons,List.length_nil];exact ⟨rfl,rfl,rfl,rfl,trivial⟩
   simp only [hs,List.length_append,List.length_cons,List.length_nil,List.flatMap_append];rfl
  refine jN 11 ?_
  refine WQ.chunks (C':=[rowc (.slice a (ofR n (rs.take i)).length c) (ofR n (rs.take i)).length 93 6 ((ofR n (rs.take i)).flatMap rtC)]) (fun w hS=>(jK hS)) ?_
  have hs:=ofR_F hr9 h19
  refine WQ.back (⟨i+1,a,c⟩:OfG) ?_ ?_ ?_ ?_
  ·show i+1≤rs.length;omega
  ·show rs.length - (i+1)<rs.length - i;omega
  ·simp only [hs];exact ⟨rfl,rfl,rfl,rfl,trivial⟩
  simp only [hs]
 have hie:i=rs.length:=by simp at h10;omega
 subst hie
 rw [List.take_length]
 refine jN 14 ?_
 exact WQ.ret (rs:=[.tmp 4]) rfl (.tmp rfl .nil) (fun w hS=>⟨(a,c),rfl,hS⟩)
theorem run_subK {i k s:Nat} (h:i+k=s) (hs:s<1000000000000000000) (t:TypeId) (x y:Operand) (w:World):
  (do eqGuard .sub t x y (.int .i64 (s:Int)) (.int .i64 (i:Int));binOp .sub t (.int .i64 (s:Int)) (.int .i64 (i:Int)):Sem Value).run Tryz.prog w= .ok (.int .i64 (k:Int)) w:=by
 have h2:IntKind.i64.wrap ((s:Int) - (i:Int))=(k:Int):=by
  unfold IntKind.wrap
  simp [IntKind.signed,IntKind.bits]
  omega
 simp [eqGuard,binOp,Op.intArith,h2]
theorem plR {w0 w:World} {C:List Chunk} {F:List Nat} {ds:List DV} {v:DV} (h:v∈ds∨RdD w0 v.1 v.2.1) (hS:St w0 [] C w) (hm:dsC F ds∈C):RdD w v.1 v.2.1:=by
 rcases h with h | h
 ·exact dsC_rd (hS.ok _ hm) h
 exact h.next0 hS
abbrev dvc (v:DV):List Value:=[.slice v.2.1 (canon v.1).1.length v.2.2,.int .i64 ((canon v.1).2:Int)]
section
variable {w0 : World} {O : List Nat} {K : Act → World → Prop} {N : Nat} {D : List Deferred} {L : FL} {C : List Chunk}
theorem WA.chunksE {α:Type} {C':α→List Chunk} (hs:∀ w,St w0 O C w→∃ x,St w0 O (C' x) w) (h:∀ x,WA w0 O K N D L (C' x)):WA w0 O K N D L C:=fun a w hF hS=>by
 obtain ⟨x,hx⟩:=hs w hS
 exact h x a w hF hx
end
open Go Go.Eng Go.Proofs Dg
section
variable {w0 : World} {O : List Nat} {C : List Chunk}
end
open Go Go.Eng Go.Proofs Dg
theorem RdSl.flat {α:Type} {cells:α→List Value} {sz:Nat} {w:World} {bx:Nat} (hc:∀ x,(cells x).length=sz):∀ {l:List α} {ox:Nat},(∀ i x,l[i]?=some x→∀ j u,(cells x)[j]?=some u→w.cell? ⟨bx,ox+i*sz+j,none⟩=some u)→∀ j u,(l.flatMap cells)[j]?=some u→w.cell? ⟨bx,ox+j,none⟩=some u
 | [],_,_,j,u,h=>by simp at h
 | x::l,ox,hh,j,u,h=>by
  rw [List.flatMap_cons] at h
  by_cases hj:j<(cells x).length
  ·rw [List.getElem?_append_left hj] at h
   have h9:=hh 0 x rfl j u h
   rw [Nat.zero_mul,Nat.add_zero] at h9
   exact h9
  ·rw [List.getElem?_append_right (by omega),hc x] at h
   have h9:=RdSl.flat hc (l:=l) (ox:=ox+sz) (fun i y hy j u hu=>by
    have h8:=hh (i+1) y hy j u hu
    rw [show ox+(i+1)*sz+j=ox+sz+i*sz+j from by rw [Nat.add_mul];omega] at h8
    exact h8) (j - sz) u h
   rw [show ox+sz+(j - sz)=ox+j from by have:=hc x;omega] at h9
   exact h9
theorem RdSl.newsV {α:Type} {cells:α→List Value} {sz:Nat} {w:World} (hc:∀ x,(cells x).length=sz) {l:List α} {a:Option Addr} (h:RdSl cells sz w l a) (hl:l≠[]):∃ bx ox,a=some ⟨bx,ox,none⟩∧∀ j u,(l.flatMap cells)[j]?=some u→w.cell? ⟨bx,ox+j,none⟩=some u:=by
 cases l with
 | nil=>exact absurd rfl hl
 | cons y ys=>
  obtain ⟨b,off,e,_⟩:=h 0 y rfl
  subst e
  refine ⟨b,off,rfl,RdSl.flat hc fun i x hx j u hu=>?_⟩
  obtain ⟨b2,off2,e2,hcc⟩:=h i x hx
  injection e2 with e2
  injection e2 with e3 e4
  subst e3;subst e4
  exact hcc j u hu
theorem flat_one {α:Type} {cells:α→List Value} (h:∀ x,∀ u∈cells x,u.oneCell'=true) {l:List α}:∀ u∈l.flatMap cells,u.oneCell'=true:=fun u hu=>by
 obtain ⟨x,_,hx⟩:=List.mem_flatMap.1 hu
 exact h x u hx
def FndI {α:Type} (p:α→Bool) (l:List α) (r:Int):Prop:=
 (r= -1∧∀ z∈l,p z=false)∨∃ i:Nat,r=(i:Int)∧i<l.length∧(∀ z∈l.take i,p z=false)∧∀ x,l[i]?=some x→p x=true
theorem take_nx {α:Type} {p:α→Bool} {l:List α} {i:Nat} {x:α} (hx:l[i]?=some x) (h:∀ z∈l.take i,p z=false) (hp:p x=false):∀ z∈l.take (i+1),p z=false:=fun z hz=>by
 rw [List.take_add_one,hx] at hz
 rcases List.mem_append.1 hz with h1 | h1
 ·exact h z h1
 ·simp at h1;rw [h1];exact hp
end Go.Proofs.YtedbajbgnmaakaaGreatDoor
namespace Go.Eng
open Go Go.RowKit
theorem zeroCells_list {zs:List Value} (hz:0<zs.length):∀ m:Nat,(Builtin.zeroCells zs.toArray m).toList=(List.replicate m zs).flatten:=fun m=>by
 have key:∀ m:Nat,(List.range (m*zs.length)).map (fun i=>zs.toArray[i % zs.toArray.size]!)=(List.replicate m zs).flatten:=fun m=>by
  induction m with
  | zero=>simp
  | succ m ih=>
   rw [Nat.add_mul,Nat.one_mul,List.range_add,List.map_append,ih,List.replicate_succ',List.flatten_append,List.flatten_singleton,List.map_map]
   congr 1
   apply List.ext_getElem
   ·simp
   ·intro i h1 h2
    have h3:i<zs.length:=h2
    simp [Nat.mod_eq_of_lt h3,h3]
 have h:=key m
 unfold Builtin.zeroCells
 rw [Array.toList_map,Array.toList_range]
 simpa using h
section
variable {P : Program} {w0 : World} {O : List Nat} {ops : Array Oper} {Q : Exit → Act → World → Prop} {N : Nat} {D : List Deferred} {L : FL} {C : List Chunk} {K : Act → World → Prop}
variable {d : Nat} {ty : TypeId} {pos : String} {af : Array Edge}
theorem WL.clearRow {t et:TypeId} {n m sz cap c2:Nat} {x:Operand} {g off:Nat} {xs xs' zs:List Value} {e:TypeId} {C':List Chunk} (hm:P.underlying t=some (.slice et)) (hzB:zeroB P et=some zs) (hz0:0<zs.length)
  (hx:ev L x=some (.slice (some ⟨g,off,none⟩) m c2)) (hv:∀ u∈zs,u.oneCell'=true) (hu:Upd (jW g n cap e sz xs) (jW g n cap e sz xs') C C')
  (hn:SetN xs off (List.replicate m zs).flatten xs') (h:WA w0 O K N D L C'):
  WK P w0 O ops Q ⟨none,.call {callee:= .builtin .clear,args:=#[x],argTypes:=#[t]},ty,pos,af,none⟩ K N D L C:=fun a w hF hS=>by
 obtain ⟨z,hz,hzc⟩:=run_zeroValue hzB w
 obtain ⟨hlen,hr⟩:=(show w.ownsRow 0 e sz (.slice (some ⟨g,0,none⟩) n cap) n xs from hS.ok _ hu.mem)
 rcases hr with ⟨h1,_⟩ | ⟨g',cap',cur,h1,_,hh,hnc,hcm,hcs,htk⟩
 ·cases h1
 ·injection h1 with h1 h2 h3
  injection h1 with h1
  injection h1 with h1
  subst h1;subst h3
  have hsplit:cur.toList=xs++cur.toList.drop (n*sz):=by rw [← htk,List.take_append_drop]
  have hn':SetN cur.toList off (List.replicate m zs).flatten (xs'++cur.toList.drop (n*sz)):=by
   have:=hn.append (cur.toList.drop (n*sz))
   rw [← hsplit] at this
   exact this
  obtain ⟨e1,e2⟩:=hn'.eq
  have hh':w.heap[g]?=some (.cells cur.toList.toArray e (0,0)):=by rw [Array.toArray_toList];exact hh
  have hst:=run_storeCells_at P g off e (List.replicate m zs).flatten 0 cur w hh (by simpa using e2) (fun u hu2=>by
   obtain ⟨l,hl,hul⟩:=List.mem_flatten.1 hu2
   rw [List.eq_of_mem_replicate hl] at hul
   exact hv u hul)
  simp only [Nat.add_zero] at hst
  rw [e1] at hst
  have hxl:xs'.length=xs.length:=hn.len
  have hSt:St w0 O C' (w.setRow g (xs'++cur.toList.drop (n*sz)).toArray):=by
   refine hS.rowUpd (b:=g) hu (fun k=>?_) (fun k=>?_) ?_
   ·constructor
    ·intro hk;exact (Option.some.inj hk).symm
    ·intro hk;rw [hk];rfl
   ·constructor
    ·intro hk;exact (Option.some.inj hk).symm
    ·intro hk;rw [hk];rfl
   ·refine ⟨by rw [hxl,hlen],.inr ⟨g,cap,(xs'++cur.toList.drop (n*sz)).toArray,rfl,Nat.zero_le _,setRow_heap w g _ _ e _ hh',hnc,hcm,?_,?_⟩⟩
    ·have:=congrArg List.length hsplit
     simp at this ⊢
     omega
    ·have e2:xs'.length=n*sz:=by rw [hxl,hlen]
     show (xs'++cur.toList.drop (n*sz)).take (n*sz)=xs'
     rw [List.take_left' e2]
  refine wpo_val (w':=w.setRow g (xs'++cur.toList.drop (n*sz)).toArray) (v:= .tuple #[]) rfl ?_ (h _ _ hF hSt)
  cases m with
  | zero=>
   have e3:(Builtin.clear_ #[t] ty #[.slice (some ⟨g,off,none⟩) 0 c2]).run P w= .ok (.tuple #[]) w:=by simp [Builtin.clear_,run_underlying hm]
   have e4:xs'++cur.toList.drop (n*sz)=cur.toList:=by rw [← e1];simp
   rw [e4,Array.toArray_toList,setRow_self w g cur e (0,0) hh]
   simp [execOp,resolve,invoke,builtin,hF.ev hx,e3]
  | succ m=>
   have e3:(Builtin.clear_ #[t] ty #[.slice (some ⟨g,off,none⟩) (m+1) c2]).run P w= .ok (.tuple #[]) (w.setRow g (xs'++cur.toList.drop (n*sz)).toArray):=by
    simp [Builtin.clear_,run_underlying hm,hz,hzc,zeroCells_list hz0,hst]
   simp [execOp,resolve,invoke,builtin,hF.ev hx,e3]
theorem St.rowTakeN {w:World} {a:Option Addr} {n cap k sz:Nat} {e:TypeId} {xs:List Value} (h:St w0 O (rowc (.slice a n cap) n e sz xs::C) w) (hn:0<n) (hk:k≤n):St w0 O (rowc (.slice a k cap) k e sz (xs.take (k*sz))::C) w:=by
 have hks:k*sz≤n*sz:=Nat.mul_le_mul_right sz hk
 refine h.swap (fun hok=>?_) (fun j hj=>?_)
 ·have hro:w.ownsRow 0 e sz (.slice a n cap) n xs:=hok
  refine ⟨by have:=hro.1;rw [List.length_take];omega,?_⟩
  rcases hro.2 with ⟨_,h0⟩ | ⟨g,cp,cur,hv,hb,hg,hle,hcm,hcs,htk⟩
  ·omega
  injection hv with ha _ hc
  refine .inr ⟨g,cp,cur,by rw [ha,hc],hb,hg,by omega,hcm,hcs,?_⟩
  rw [← htk,List.take_take]
  congr 1
  omega
 cases a with
 | none=>simp [rowc,Value.ownBlock] at hj
 | some a=>simpa [rowc,Value.ownBlock] using hj
theorem Yl.sliceSlF {F:World→Prop} {t e:TypeId} {sz:Nat} {x y:Operand} {b off len cap m l c:Nat} {k:IntKind} (ht:SlT P t e sz) (hx:ev L x=some (.slice (some ⟨b,off,none⟩) len cap)) (hy:ev L y=some (.int k m)) (hm:m≤len) (hmc:m<cap) (hl:len - m=l) (hc:cap - m=c):
  Yl P N D L F ⟨some d,.slice t x (some y) none none,ty,pos,af,none⟩ (.slice (some ⟨b,off+m*sz,none⟩) l c):=fun a w hF _=>by
 subst hl;subst hc
 have h2:=run_bound (P:=P) (w:=w) (k:=k) (i:=m) (y:=len) (code:= .sliceB) hm
 have h3: ¬ cap=m:=by omega
 simp [execOp,Instr.sliceAt,Instr.slice,Instr.sliceBounds,hF.ev hx,hF.ev hy,run_underlying ht.und,h2,run_sizeOf ht.size,h3,add_blk]
theorem WL.sliceSlF {t e:TypeId} {sz:Nat} {x y:Operand} {b off len cap m l c:Nat} {k:IntKind} (ht:SlT P t e sz) (hd:Nat.blt d N=true) (hx:ev L x=some (.slice (some ⟨b,off,none⟩) len cap)) (hy:ev L y=some (.int k m)) (hm:m≤len) (hmc:m<cap) (hl:len - m=l) (hc:cap - m=c)
  (h:WA w0 O K N D ((d,.slice (some ⟨b,off+m*sz,none⟩) l c)::L) C):
  WK P w0 O ops Q ⟨some d,.slice t x (some y) none none,ty,pos,af,none⟩ K N D L C:=WL.y (F:=fun _=>True) (Yl.sliceSlF ht hx hy hm hmc hl hc) hd (fun _ _=>trivial) h
end
end Go.Eng
namespace Go.Proofs.YtedbajbgnmaakaaGreatDoor
open Go Go.Eng Go.Proofs Dg
def keepE {α:Type} (em:α→Bool) (l:List α):List α:=l.filter fun t=> !em t
structure DelI {α:Type} (em:α→Bool) (l:List α) (i j:Nat) (R:List α):Prop where
 lt:i<j
 le:j≤l.length
 len:R.length=l.length
 tk:R.take i=keepE em (l.take j)
 dr:R.drop j=l.drop j
theorem DelI.at {α:Type} {em:α→Bool} {l R:List α} {i j:Nat} {x:α} (h:DelI em l i j R) (hx:l[j]?=some x):R[j]?=some x:=by
 have h1:=congrArg (fun z=>z[0]?) h.dr
 simp only [List.getElem?_drop,Nat.add_zero] at h1
 rw [h1,hx]
theorem DelI.skip {α:Type} {em:α→Bool} {l R:List α} {i j:Nat} {x:α} (h:DelI em l i j R) (hx:l[j]?=some x) (he:em x=true):DelI em l i (j+1) R:=by
 have hj:=(List.getElem?_eq_some_iff.1 hx).1
 refine ⟨by have:=h.lt;omega,hj,h.len,?_,?_⟩
 ·rw [h.tk,List.take_add_one,hx]
  unfold keepE
  simp [he]
 have:=congrArg (List.drop 1) h.dr
 simpa [List.drop_drop,Nat.add_comm] using this
theorem DelI.keep {α:Type} {em:α→Bool} {l R:List α} {i j:Nat} {x:α} (h:DelI em l i j R) (hx:l[j]?=some x) (he:em x=false):DelI em l (i+1) (j+1) (R.set i x):=by
 have hj:=(List.getElem?_eq_some_iff.1 hx).1
 have hij:=h.lt
 have hi:i<R.length:=by rw [h.len];omega
 refine ⟨by omega,hj,by rw [List.length_set,h.len],?_,?_⟩
 ·rw [List.take_add_one,List.getElem?_set_self hi,List.take_set_of_le (Nat.le_refl i),h.tk,List.take_add_one,hx]
  unfold keepE
  simp [he]
 rw [List.drop_set_of_lt (by omega)]
 have:=congrArg (List.drop 1) h.dr
 simpa [List.drop_drop,Nat.add_comm] using this
theorem setN_tail :∀ {xs:List Value} {off:Nat} {vs:List Value},off+vs.length=xs.length→SetN xs off vs (xs.take off++vs)
 | [],off,vs,h=>by
  simp only [List.length_nil] at h
  have h1:off=0:=by omega
  have h2:vs=[]:=List.eq_nil_of_length_eq_zero (by omega)
  subst h1;subst h2
  exact SetN.nil
 | x::xs,0,[],h=>by simp at h
 | x::xs,0,v::vs,h=>by
  have h9:=setN_tail (xs:=xs) (off:=0) (vs:=vs) (by simp at h ⊢;omega)
  rw [List.take_zero,List.nil_append] at h9
  exact SetN.put h9
 | x::xs,off+1,vs,h=>SetN.skip (setN_tail (by simp at h ⊢;omega))
theorem repl_len {zs:List Value}:∀ {m:Nat},(List.replicate m zs).flatten.length=m*zs.length
 | 0=>by simp
 | m+1=>by rw [List.replicate_succ,List.flatten_cons,List.length_append,repl_len,Nat.add_mul];omega
theorem setN_zeros {α:Type} {cells:α→List Value} {sz i m:Nat} {R:List α} {zs:List Value} (hc:∀ x,(cells x).length=sz) (hz:zs.length=sz) (him:i+m=R.length):SetN (R.flatMap cells) (0+i*sz) (List.replicate m zs).flatten ((R.flatMap cells).take (0+i*sz)++(List.replicate m zs).flatten):=by
 refine setN_tail ?_
 rw [repl_len,hz,flat_len (fun x _=>hc x),← him,Nat.add_mul]
 omega
theorem take_flatZ {α:Type} {cells:α→List Value} {sz i:Nat} {R:List α} {Z:List Value} (hc:∀ x,(cells x).length=sz) (hi:i≤R.length):((R.flatMap cells).take (0+i*sz)++Z).take (i*sz)=(R.take i).flatMap cells:=by
 have e:R.flatMap cells=(R.take i).flatMap cells++(R.drop i).flatMap cells:=by rw [← List.flatMap_append,List.take_append_drop]
 have hl:((R.take i).flatMap cells).length=i*sz:=by rw [flat_len (fun x _=>hc x),List.length_take,Nat.min_eq_left hi]
 rw [e,Nat.zero_add,List.take_left' hl,List.take_left' hl]
theorem DelI.start {α:Type} {em:α→Bool} {l:List α} {i:Nat} (hi:i<l.length) (hp:∀ z∈l.take i,em z=false) (hx:∀ x,l[i]?=some x→em x=true):DelI em l i (i+1) l:=by
 refine ⟨by omega,hi,rfl,?_,rfl⟩
 have hg:=List.getElem?_eq_getElem hi
 rw [List.take_add_one,hg]
 unfold keepE
 rw [List.filter_append]
 have e1:(l.take i).filter (fun t=> !em t)=l.take i:=List.filter_eq_self.2 fun z hz=>by rw [hp z hz];rfl
 rw [e1]
 simp [hx _ hg]
end Go.Proofs.YtedbajbgnmaakaaGreatDoor
namespace Go.Eng
open Go Go.RowKit
section
variable {w0 : World} {O : List Nat} {C : List Chunk}
end
open Go Go.RowKit
section
variable {P : Program} {w0 : World} {O : List Nat} {ops : Array Oper} {Q : Exit → Act → World → Prop} {N : Nat} {D : List Deferred} {L : FL} {C : List Chunk} {K : Act → World → Prop}
variable {ty : TypeId} {pos : String} {af : Array Edge}
theorem WL.storeRow1 {t:TypeId} {n sz cap:Nat} {x y:Operand} {g off:Nat} {xs xs':List Value} {v:Value} {e:TypeId} {C':List Chunk} (ht:One P t) (hx:ev L x=some (.pointer (some ⟨g,off,none⟩))) (hy:ev L y=some v) (hv:v.oneCell'=true)
  (hu:Upd (jW g n cap e sz xs) (jW g n cap e sz xs') C C') (hn:SetN xs off [v] xs') (h:WA w0 O K N D L C'):
  WK P w0 O ops Q ⟨none,.store t x y,ty,pos,af,none⟩ K N D L C:=fun a w hF hS=>by
 obtain ⟨hlen,hr⟩:=(show w.ownsRow 0 e sz (.slice (some ⟨g,0,none⟩) n cap) n xs from hS.ok _ hu.mem)
 rcases hr with ⟨h1,_⟩ | ⟨g',cap',cur,h1,_,hh,hnc,hcm,hcs,htk⟩
 ·cases h1
 ·injection h1 with h1 h2 h3
  injection h1 with h1
  injection h1 with h1
  subst h1;subst h3
  have hsplit:cur.toList=xs++cur.toList.drop (n*sz):=by rw [← htk,List.take_append_drop]
  have hn':SetN cur.toList off [v] (xs'++cur.toList.drop (n*sz)):=by
   have:=hn.append (cur.toList.drop (n*sz))
   rw [← hsplit] at this
   exact this
  have hh':w.heap[g]?=some (.cells cur.toList.toArray e (0,0)):=by rw [Array.toArray_toList];exact hh
  have hr:=run_storeN (P:=P) (t:=t) (vs:=[v]) ht.size (cells_one hv) (by simpa using hv) hh' hn'
  have hxl:xs'.length=xs.length:=hn.len
  have hSt:St w0 O C' (w.setRow g (xs'++cur.toList.drop (n*sz)).toArray):=by
   refine hS.rowUpd (b:=g) hu (fun k=>?_) (fun k=>?_) ?_
   ·constructor
    ·intro hk;exact (Option.some.inj hk).symm
    ·intro hk;rw [hk];rfl
   ·constructor
    ·intro hk;exact (Option.some.inj hk).symm
    ·intro hk;rw [hk];rfl
   ·refine ⟨by rw [hxl,hlen],.inr ⟨g,cap,(xs'++cur.toList.drop (n*sz)).toArray,rfl,Nat.zero_le _,setRow_heap w g _ _ e _ hh',hnc,hcm,?_,?_⟩⟩
    ·have:=congrArg List.length hsplit
     simp at this ⊢
     omega
    ·have e2:xs'.length=n*sz:=by rw [hxl,hlen]
     show (xs'++cur.toList.drop (n*sz)).take (n*sz)=xs'
     rw [List.take_left' e2]
  exact wpo_skip rfl (by simp [execOp,hF.ev hx,hF.ev hy,hr]) (h _ _ hF hSt)
end
end Go.Eng
namespace Go.Proofs.YtedbajbgnmaakaaGreatDoor
open Go Go.Eng Go.Proofs Dg
abbrev evG (u:Nat) (xa:Option Addr) (xc:Nat) (r:RgV):RgV:=⟨r.x,cfgs u,xa,xc⟩
theorem setN_pre {cs cs' vs:List Value} {n:Nat} (h:SetN cs n vs cs'):∀ xs:List Value,SetN (xs++cs) (xs.length+n) vs (xs++cs')
 | []=>by rw [List.length_nil,Nat.zero_add];exact h
 | x::xs=>by
  rw [show (x::xs).length+n=(xs.length+n)+1 from by rw [List.length_cons];omega]
  exact SetN.skip (setN_pre h xs)
theorem setN_sub {α:Type} {cells:α→List Value} {sz off:Nat} {vs:List Value} (hcl:∀ x,(cells x).length=sz):∀ {l:List α} {k:Nat} {x y:α},l[k]?=some x→SetN (cells x) off vs (cells y)→SetN (l.flatMap cells) (k*sz+off) vs ((l.set k y).flatMap cells)
 | [],k,x,y,h,_=>by simp at h
 | z::l,0,x,y,h,hs=>by
  have hz:z=x:=by simpa using h
  subst hz
  rw [List.set_cons_zero,List.flatMap_cons,List.flatMap_cons,Nat.zero_mul,Nat.zero_add]
  exact SetN.append _ hs
 | z::l,k+1,x,y,h,hs=>by
  rw [List.set_cons_succ,List.flatMap_cons,List.flatMap_cons]
  have h9:=setN_pre (setN_sub hcl (l:=l) (k:=k) (by simpa using h) hs) (cells z)
  rw [hcl z] at h9
  rw [show (k+1)*sz+off=sz+(k*sz+off) from by rw [Nat.add_mul];omega]
  exact h9
theorem St_neR {w0 w:World} {O:List Nat} {C:List Chunk} {b g n c sz:Nat} {cs xs:List Value} {e e2:TypeId} (h:St w0 O (pt b cs e::jW g n c e2 sz xs::C) w):b≠g:=fun hb=>by
 have h1:=List.pairwise_cons.1 h.disj
 have h2:=h1.1 _ (List.mem_cons_self ..) b ((FpIs.pt b).2 (List.mem_singleton.2 rfl))
 exact h2 ((FpIs.rowc b).2 (by rw [hb];simp [ob,Value.ownBlock]))
theorem sins_map {α β:Type} {lt:α→α→Bool} {lt2:β→β→Bool} {f:α→β} (h:∀ x y,lt x y=lt2 (f x) (f y)) (x:α):∀ l:List α,(sins lt x l).map f=sins lt2 (f x) (l.map f)
 | []=>rfl
 | y::r=>by
  rw [List.map_cons]
  unfold sins
  rw [h x y]
  split
  ·rfl
  ·rw [List.map_cons,sins_map h x r]
theorem isort_map {α β:Type} {lt:α→α→Bool} {lt2:β→β→Bool} {f:α→β} (h:∀ x y,lt x y=lt2 (f x) (f y)) (l:List α):(isort lt l).map f=isort lt2 (l.map f):=by
 unfold isort
 have key:∀ (l acc:List α),(l.foldl (fun acc x=>sins lt x acc) acc).map f=(l.map f).foldl (fun acc x=>sins lt2 x acc) (acc.map f):=fun l=>by
  induction l with
  | nil=>intro acc;rfl
  | cons x l ih=>intro acc;rw [List.foldl_cons,ih,sins_map h,List.map_cons,List.foldl_cons]
 exact key l []
abbrev jnK {κ:Type} (x y:κ×(Cf→Bool)):κ×(Cf→Bool):=(x.1,fun c=>x.2 c||y.2 c)
theorem jok_key {κ:Type} {lt:κ→κ→Bool}:Jok (fun x y:κ×(Cf→Bool)=>lt x.1 y.1) jnK:=⟨fun _ _ _=>rfl,fun _ _ _=>rfl⟩
theorem swo_key {κ:Type} {lt:κ→κ→Bool} (h:Swo lt):Swo (fun x y:κ×(Cf→Bool)=>lt x.1 y.1):=⟨fun x y h1=>h.asym x.1 y.1 h1,fun x y z h1 h2=>h.tr x.1 y.1 z.1 h1 h2⟩
theorem at_seg {α:Type} {P X Y S:List α} {q i:Nat} {y:α} (hi:i=P.length+X.length+q) (hy:Y[q]?=some y):(P++(X++(Y++S)))[i]?=some y:=by
 have hq:=(List.getElem?_eq_some_iff.1 hy).1
 subst hi
 rw [List.getElem?_append_right (by omega),List.getElem?_append_right (by omega),List.getElem?_append_left (by omega)]
 rw [← hy]
 congr 1
 omega
theorem at_seg1 {α:Type} {P X R:List α} {q i:Nat} {x:α} (hi:i=P.length+q) (hx:X[q]?=some x):(P++(X++R))[i]?=some x:=by
 have hq:=(List.getElem?_eq_some_iff.1 hx).1
 subst hi
 rw [List.getElem?_append_right (by omega),List.getElem?_append_left (by omega)]
 rw [← hx]
 congr 1
 omega
theorem drop_at {α:Type} {l:List α} {k:Nat} {x:α} (h:l[k]?=some x):l.drop k=x::l.drop (k+1):=by
 obtain ⟨hk,he⟩:=List.getElem?_eq_some_iff.1 h
 rw [← he,← List.drop_eq_getElem_cons hk]
theorem take_at {α:Type} {l:List α} {k:Nat} {x:α} (h:l[k]?=some x):l.take (k+1)=l.take k++[x]:=by
 rw [List.take_add_one,h];rfl
theorem run_mul2 {n:Nat} (hn:n<1000000000000000000) (t:TypeId) (x y:Operand) (w:World):
  (do eqGuard .mul t x y (.int .i64 2) (.int .i64 (n:Int));binOp .mul t (.int .i64 2) (.int .i64 (n:Int)):Sem Value).run Tryz.prog w= .ok (.int .i64 ((2*n:Nat):Int)) w:=by
 have h2:IntKind.i64.wrap (2*(n:Int))=2*(n:Int):=by
  unfold IntKind.wrap
  simp [IntKind.signed,IntKind.bits]
  omega
 simp [eqGuard,binOp,Op.intArith,h2]
theorem run_mul2' {n:Nat} (hn:n<1000000000000000000) (t:TypeId) (x y:Operand) (w:World):
  (do eqGuard .mul t x y (.int .i64 (n:Int)) (.int .i64 2);binOp .mul t (.int .i64 (n:Int)) (.int .i64 2):Sem Value).run Tryz.prog w= .ok (.int .i64 ((2*n:Nat):Int)) w:=by
 have h2:IntKind.i64.wrap ((n:Int)*2)=2*(n:Int):=by
  unfold IntKind.wrap
  simp [IntKind.signed,IntKind.bits]
  omega
 simp [eqGuard,binOp,Op.intArith,h2]
noncomputable def neF (f:Cf→Bool):Bool:=by
 classical exact decide (∃ c,f c=true)
theorem neF_T {f:Cf→Bool} {c:Cf} (h:f c=true):neF f=true:=by
 unfold neF
 exact @decide_eq_true _ (Classical.propDecidable _) ⟨c,h⟩
theorem neF_F {f:Cf→Bool} (h:∀ c,f c=false):neF f=false:=by
 unfold neF
 refine @decide_eq_false _ (Classical.propDecidable _) ?_
 rintro ⟨c,hc⟩
 rw [h c] at hc
 cases hc
theorem neF_of {t:BT} (ho:t.ok 0):neF t.ev= !((canon t).2==0):=by
 cases h:(canon t).2==0 with
 | true=>exact neF_F ((emptyT ho).1 h)
 | false=>
  have h2: ¬ ∀ c,t.ev c=false:=fun e=>by rw [(emptyT ho).2 e] at h;cases h
  obtain ⟨c,hc⟩:=Classical.not_forall.1 h2
  exact neF_T (c:=c) (by simpa using hc)
def uniN :List Nat→List Nat→List Nat
 | [],m=>m
 | l,[]=>l
 | a::l,b::m=>if a≤b then (if a=b then a::uniN l m else a::uniN l (b::m)) else b::uniN (a::l) m
termination_by l m=>l.length+m.length
theorem fpins_all {α:Type} {lt:α→α→Bool} {j:α→α→α} {P:α→Prop} (hj:∀ x y,P x→P y→P (j x y)):∀ (l acc:List α),(∀ x∈l,P x)→(∀ x∈acc,P x)→∀ x∈l.foldl (fun acc x=>pins lt j x acc) acc,P x
 | [],_,_,h=>h
 | x::l,acc,hl,h=>by
  rw [List.foldl_cons]
  refine fpins_all hj l _ (fun z hz=>hl z (by simp [hz])) fun z hz=>?_
  rcases pins_mem hz with rfl | hz | ⟨y,hy,rfl⟩
  ·exact hl z (by simp)
  ·exact h z hz
  ·exact hj _ _ (h y hy) (hl x (by simp))
def putN {κ:Type} (lt:κ→κ→Bool) (x:κ×List Nat) (acc:List (κ×List Nat)):List (κ×List Nat):=if x.2=[] then acc else pins (fun a b=>lt a.1 b.1) (fun a b=>(a.1,uniN a.2 b.2)) x acc
noncomputable def joiN {κ:Type} (lt:κ→κ→Bool) (l:List (κ×(Cf→Bool))):List (κ×(Cf→Bool)):=jadj (fun a b:κ×(Cf→Bool)=>lt a.1 b.1) jnK (isort (fun a b:κ×(Cf→Bool)=>lt a.1 b.1) (l.filter fun a=>neF a.2))
theorem joiN_pins {κ:Type} {lt:κ→κ→Bool} (h:Swo lt) (l:List (κ×(Cf→Bool))):joiN lt l=(l.filter fun a=>neF a.2).foldl (fun acc x=>pins (fun a b:κ×(Cf→Bool)=>lt a.1 b.1) jnK x acc) []:=jadj_isort jok_key (swo_key h) _
theorem joiN_ne {κ:Type} {lt:κ→κ→Bool} (hw:Swo lt) {l:List (κ×(Cf→Bool))}:∀ a∈joiN lt l,neF a.2=true:=by
 rw [joiN_pins hw]
 refine fpins_all (P:=fun a:κ×(Cf→Bool)=>neF a.2=true) (fun x y hx hy=>?_) _ _ (fun a ha=>(List.mem_filter.1 ha).2) (by simp)
 cases e:neF (jnK x y).2 with
 | true=>rfl
 | false=>
  have hno: ¬ ∃ c,x.2 c=true:=fun ⟨c,hc⟩=>by
   have h9:neF (jnK x y).2=true:=neF_T (c:=c) (by show (x.2 c||y.2 c)=true;rw [hc];rfl)
   rw [e] at h9
   cases h9
  rw [neF_F fun c=>by
   cases hc:x.2 c with
   | false=>rfl
   | true=>exact absurd ⟨c,hc⟩ hno] at hx
  cases hx
def jstep {α:Type} (lt:α→α→Bool) (j:α→α→α) (out:List α) (x:α):List α:=match out.getLast? with
 | none=>[x]
 | some y=>if eqv lt y x then out.dropLast++[j y x] else out++[x]
theorem jstep_T {α:Type} {lt:α→α→Bool} {j:α→α→α} {P:List α} {y x:α} (h:eqv lt y x=true):jstep lt j (P++[y]) x=P++[j y x]:=by simp [jstep,h]
theorem jstep_F {α:Type} {lt:α→α→Bool} {j:α→α→α} {P:List α} {y x:α} (h:eqv lt y x=false):jstep lt j (P++[y]) x=P++[y]++[x]:=by simp [jstep,h]
theorem jgo_fold {α:Type} {lt:α→α→Bool} {j:α→α→α}:∀ (l P:List α) (acc:α),l.foldl (jstep lt j) (P++[acc])=P++jgo lt j acc l
 | [],P,acc=>rfl
 | y::r,P,acc=>by
  rw [List.foldl_cons,jgo]
  cases h:eqv lt acc y with
  | true=>rw [jstep_T h,jgo_fold r P];rfl
  | false=>rw [jstep_F h,jgo_fold r (P++[acc]),List.append_assoc];rfl
theorem jadj_fold {α:Type} {lt:α→α→Bool} {j:α→α→α} (l:List α):jadj lt j l=l.foldl (jstep lt j) []:=by
 cases l with
 | nil=>rfl
 | cons x r=>exact (jgo_fold r [] x).symm
theorem eqv_zero {α:Type} {c:α→α→Int} (h3:Cmp3 c) (x y:α):eqv (ltC c) x y=decide (c x y=0):=by
 unfold eqv
 have h1:=h3.anti x y
 have h2:=h3.anti y x
 rw [Bool.eq_iff_iff,Bool.and_eq_true,Bool.not_eq_true',Bool.not_eq_true',decide_eq_true_eq,decide_eq_false_iff_not,decide_eq_false_iff_not]
 omega
theorem jst_len {α:Type} {lt:α→α→Bool} {j:α→α→α}:∀ (l acc:List α),(l.foldl (jstep lt j) acc).length≤acc.length+l.length
 | [],_=>Nat.le_refl _
 | x::l,acc=>by
  rw [List.foldl_cons]
  refine Nat.le_trans (jst_len l _) ?_
  have h:(jstep lt j acc x).length≤acc.length+1:=by
   rcases List.eq_nil_or_concat acc with rfl | ⟨P,y,e⟩
   ·exact Nat.le_refl _
   ·rw [List.concat_eq_append] at e
    subst e
    cases hq:eqv lt y x with
    | true=>rw [jstep_T hq];simp
    | false=>rw [jstep_F hq];simp
  rw [List.length_cons]
  omega
theorem fold_snoc {α β:Type} {f:β→α→β} {b:β} {l:List α} {i:Nat} {x:α} (h:l[i]?=some x):(l.take (i+1)).foldl f b=f ((l.take i).foldl f b) x:=by
 rw [List.take_add_one,h,Option.toList_some,List.foldl_append]
 rfl
theorem map_snoc6 {α β:Type} {f:α→β} {l:List α} {i:Nat} {x:α} (h:l[i]?=some x):(l.map f)[i]?=some (f x):=by rw [List.getElem?_map,h];rfl
theorem set_snoc {α:Type} {P:List α} {y z:α}:(P++[y]).set P.length z=P++[z]:=by
 rw [List.set_append_right _ _ (Nat.le_refl _),Nat.sub_self]
 rfl
structure PrV where
 x:List UInt8
 d:BT
 da:Option Addr
 dc:Nat
abbrev prC (y:PrV):List Value:=[.string (str y.x),.slice y.da (canon y.d).1.length y.dc,.int .i64 ((canon y.d).2:Int)]
theorem prC_one (x:PrV):∀ u∈prC x,u.oneCell'=true:=by intro u hu;simp [prC] at hu;rcases hu with h | h | h<;>subst h<;>rfl
abbrev WdV :=List UInt8
abbrev cmpW (x y:WdV):Int:=cmpS x y
theorem cmpW_3 :Cmp3 cmpW:=cmpS_3
abbrev emP (t:PrV):Bool:=(canon t.d).2==0
structure PsR (w:World) (ts:List PrV) (a:Option Addr):Prop where
 r:RdSl prC 3 w ts a
 d:∀ t∈ts,RdD w t.d t.da
theorem Mg3_c (b o:Nat) (w:World):
  Pure Tryz.prog 66 [.pointer (some ⟨b,o,none⟩)] w (.pointer (some ⟨b,o+1,none⟩)):=by
 refine enter Tryz.func66 rfl Tryz.ntmps66 rfl (St.init _) ?_
 refine jN 13 ?_
 refine WL.fieldAddr F.fld67_1 rfl rfl ?_
 refine jN 5 ?_
 exact WQ.ret (rs:=[.tmp 2]) rfl (.tmp rfl .nil) (fun w hS=>⟨rfl,hS⟩)
theorem cmpPro_c (x y:PrV) (w:World):
  Pure Tryz.prog 64 [.agg (prC x).toArray,.agg (prC y).toArray] w (.int .i64 (cmpW x.x y.x)):=by
 refine enter Tryz.func64 rfl Tryz.ntmps64 rfl (St.init _) ?_
 refine jN 3 ?_
 refine WL.boxN rfl rfl (fun b2=>?_)
 refine jN 1 ?_
 refine WL.boxN rfl rfl (fun b3=>?_)
 refine jN 15 ?_
 refine WL.callV F.fun65 rfl rfl (fun w hS=>CmpStr_c x.x y.x w) ?_
 refine jN 5 ?_
 exact WQ.ret (rs:=[.tmp 4]) rfl (.tmp rfl .nil) (fun w hS=>⟨rfl,hS.sublist (List.nil_sublist _)⟩)
set_option maxRecDepth 100000 in
theorem CloneP_c (l:List PrV) (a:Option Addr) (cap:Nat) (hlen:l.length≤1000000) (w:World) (hr:RdSl prC 3 w l a):
  Calls Tryz.prog 99 [.slice a l.length cap].toArray w fun e w'=>∃ x:Option Addr×Nat,e= .returned (.slice x.1 l.length x.2)∧St w [] [rowc (.slice x.1 l.length x.2) l.length 67 3 (l.flatMap prC)] w':=by
 refine enter Tryz.func99 rfl Tryz.ntmps99 rfl (St.init _) ?_
 refine jN 8 ?_
 rcases a with _ | ⟨b,off,st⟩
 ·have hc0:l=[]:=by
   cases l with
   | nil=>rfl
   | cons y ys=>
    obtain ⟨_,_,h1,_⟩:=hr 0 y rfl
    cases h1
  subst hc0
  refine jN 4 ?_
  refine WL.bin rfl rfl rfl (v:= .bool true) (fun w=>by kernel_rfl) ?_
  refine jN 11 ?_
  refine WQ.ret (rs:=[.tmp 2]) rfl (.tmp rfl .nil) (fun w hS=>⟨(none,0),rfl,hS.rowNil 67 3⟩)
 refine jN 4 ?_
 refine WL.bin rfl rfl rfl (v:= .bool false) (fun w=>by kernel_rfl) ?_
 refine jN 8 ?_
 refine WL.buildSlice0 F.sl62 rfl (fun b5=>?_)
 refine WA.chunks (fun w hS=>hS.rowOf (n:=0) (sz:=3) rfl (by decide)) ?_
 refine jN 3 ?_
 refine WL.appendC (n:=0) (xs:=[]) (news:=l.flatMap prC) F.el62 rfl rfl rfl jR (fun w hS hm=>(by obtain ⟨bx,ox,e1,e2⟩:=RdSl.newsV (l:=l) (cells:=prC) (sz:=3) (fun _=>rfl) hr (fun h=>hm (by rw [h];rfl));exact ⟨bx,ox,e1,fun j u hu=>hS.oldc (e2 j u hu) (by simp)⟩)) (flat_len fun _ _=>rfl) (flat_one prC_one) (Nat.le_trans (m:=1099511627776) (by omega) (by decide)) (by omega) (fun a2 c2=>?_)
 refine jN 5 ?_
 refine WQ.ret (rs:=[.tmp 2]) rfl (.tmp rfl .nil) (fun w hS=>⟨(a2,c2),?_,?_⟩)
 ·simp [tup]
 simpa using hS
set_option maxRecDepth 100000 in
theorem jnP_c (x:PrV) (bf:Nat) (w:World) (hb:w.cell? ⟨bf,0,none⟩=some (.func (.func 66) [].toArray [].toArray)):
  Pure Tryz.prog 100 [.agg (prC x).toArray,pp bf] w (.bool (emP x)):=by
 refine enter Tryz.func100 rfl Tryz.ntmps100 rfl (St.init _) ?_
 refine jN 3 ?_
 refine WL.boxN rfl rfl (fun b2=>?_)
 refine jN 7 ?_
 refine WL.load1 F.one133 rfl rfl (v:=(.func (.func 66) [].toArray [].toArray)) (fun w hS=>hS.oldc hb (by simp)) ?_
 refine jN 1 ?_
 refine WL.callFC (β:=Unit) (res:=fun _=> .pointer (some ⟨b2,1,none⟩)) (cs:=fun _=>[]) (Cs:=[]) (O':=[]) (us:=[]) (cap:=[]) F.fun66 (fun d h=>by cases h;rfl) rfl rfl (List.Perm.refl _) (by simp) (by simp) (fun w hS _=>(Mg3_c b2 0 w).mono (fun e w2 h=>⟨(),by simpa using h⟩)) (fun _=>?_)
 refine jN 3 ?_
 refine WL.loadN F.agg50 rfl rfl (vs:=[.slice x.da (canon x.d).1.length x.dc,.int .i64 ((canon x.d).2:Int)]) rfl (fun w hS j v hv=>by rw [Nat.add_comm];exact hS.cell (cs:=prC x) jM (off:=j+1) hv) ?_
 refine jN 1 ?_
 refine WL.callV (v:= .bool (emP x)) F.fun61 rfl rfl (fun w hS=>Empty_c x.d x.da x.dc w) ?_
 refine jN 5 ?_
 exact WQ.ret (rs:=[.tmp 3]) rfl (.tmp rfl .nil) (fun w hS=>⟨rfl,hS.sublist (List.nil_sublist _)⟩)
set_option maxRecDepth 100000 in
theorem idxP_c (l:List PrV) (la:Option Addr) (lc bf:Nat) (hl:l.length≤1000000) (w:World) (hr:RdSl prC 3 w l la) (hb:w.cell? ⟨bf,0,none⟩=some (.func (.func 66) [].toArray [].toArray)):
  Calls Tryz.prog 125 [.slice la l.length lc,.func (.func 100) [].toArray [pp bf].toArray].toArray w fun e w'=>∃ r:Int,FndI emP l r∧e= .returned (.int .i64 r)∧St w [] [] w':=by
 refine enter Tryz.func125 rfl Tryz.ntmps125 rfl (St.init _) ?_
 refine jN 18 ?_
 refine WC.loop (α:=Nat) (fun i=>i≤l.length∧∀ z∈l.take i,emP z=false) (fun i=>[(0,.slice la l.length lc),(1,.func (.func 100) [].toArray [pp bf].toArray),(7,.int .i64 (l.length:Int)),(8,.int .i64 (i:Int))]) (fun _=>[]) (fun i=>l.length - i) (0) ?_ ?_ ?_ ?_
 ·exact ⟨Nat.zero_le _,fun z hz=>by simp at hz⟩
 ·exact ⟨rfl,rfl,rfl,rfl,trivial⟩
 ·rfl
 rintro i ⟨hi,hno⟩
 show WC _ _ _ _ _ _ _ [(0,.slice la l.length lc),(1,.func (.func 100) [].toArray [pp bf].toArray),(7,.int .i64 (l.length:Int)),(8,.int .i64 (i:Int))] []
 refine jN 7 ?_
 refine WC.cond rfl (fun h9=>?_) (fun h9=>?_)
 ·have hlt:i<l.length:=by simpa using h9
  obtain ⟨x,hx⟩:∃ y,l[i]?=some y:=⟨_,List.getElem?_eq_getElem hlt⟩
  obtain ⟨b,o,hla,hcx⟩:=hr i x hx
  subst hla
  refine jN 21 ?_
  refine WL.indexAddr F.sl62 rfl rfl rfl hlt ?_
  refine jN 1 ?_
  refine WL.loadN F.agg67 rfl rfl (vs:=prC x) rfl (fun w hS j v hv=>hS.oldc (hcx j v hv) (by simp)) ?_
  refine jN 1 ?_
  refine WL.callFC (β:=Unit) (res:=fun _=> .bool (emP x)) (cs:=fun _=>[]) (Cs:=[]) (O':=[]) (us:=[]) (cap:=[pp bf]) F.fun100 (fun d h=>by cases h;rfl) rfl rfl (List.Perm.refl _) (by simp) (by simp) (fun w hS _=>(jnP_c x bf w (hS.oldc hb (by simp))).mono (fun e w2 h=>⟨(),h⟩)) (fun _=>?_)
  refine jN 2 ?_
  refine WC.cond rfl (fun h16=>?_) (fun h16=>?_)
  ·refine jN 14 ?_
   exact WQ.ret (rs:=[.tmp 4]) rfl (.tmp rfl .nil) (fun w hS=>⟨(i:Int),.inr ⟨i,rfl,hlt,hno,fun y hy=>by rw [hx] at hy;injection hy with hy;rw [← hy];exact h16⟩,rfl,hS⟩)
  have hsf:emP x=false:=h16
  refine jN 9 ?_
  refine WQ.back (i+1) ?_ ?_ ?_ ?_
  ·exact ⟨by omega,take_nx hx hno hsf⟩
  ·omega
  ·exact ⟨rfl,rfl,rfl,rfl,trivial⟩
  rfl
 have hie:i=l.length:=by simp at h9;omega
 rw [hie,List.take_length] at hno
 refine jN 12 ?_
 exact WQ.ret (rs:=[.tmp 4]) rfl (.tmp rfl .nil) (fun w hS=>⟨-1,.inl ⟨rfl,hno⟩,rfl,hS⟩)
set_option maxRecDepth 100000 in
theorem delP_c (l:List PrV) (g c bf:Nat) (hl:l.length≤1000000) (hbg:bf≠g) (w:World) (hb:w.cell? ⟨bf,0,none⟩=some (.func (.func 66) [].toArray [].toArray)) (hS0:St w [g] [jW g l.length c 67 3 ((l).flatMap prC)] w):
  Calls Tryz.prog 98 [.slice (some ⟨g,0,none⟩) l.length c,.func (.func 100) [].toArray [pp bf].toArray].toArray w fun e w'=>e= .returned (.slice (some ⟨g,0,none⟩) (keepE emP l).length c)∧St w [g] [jW g (keepE emP l).length c 67 3 ((keepE emP l).flatMap prC)] w':=by
 refine enter Tryz.func98 rfl Tryz.ntmps98 rfl (C:=[jW g l.length c 67 3 ((l).flatMap prC)]) hS0 ?_
 refine jN 13 ?_
 refine WL.call0 (β:=Int) (res:=fun x=> .returned (.int .i64 x)) (cs:=fun _=>[]) (ψ:=fun r=>FndI emP l r) F.fun125 (fun d h=>by cases h;rfl) rfl (fun w hS=>(idxP_c l (some ⟨g,0,none⟩) c bf hl w (RdSl.of_row (cells:=prC) (fun _ _=>rfl) (fun h=>h) (Nat.le_refl _) (hS.ok (jW g l.length c 67 3 ((l).flatMap prC)) jM)) (hS.oldc hb (by simpa using hbg))).mono (fun e w2 ⟨x,h0,h1,h2⟩=>⟨x,h0,h1,h2⟩)) (fun r hfd=>After_ret ?_)
 refine jN 13 ?_
 refine WC.cond rfl (fun h12=>?_) (fun h12=>?_)
 ·have hall:∀ z∈l,emP z=false:=by
   rcases hfd with ⟨_,h⟩ | ⟨i0,e,_⟩
   ·exact h
   ·exfalso;subst e;simp at h12
  have hk9:keepE emP l=l:=List.filter_eq_self.2 fun z hz=>by rw [hall z hz];rfl
  refine jN 10 ?_
  exact WQ.ret (rs:=[.tmp 4]) rfl (.tmp rfl .nil) (fun w hS=>by rw [hk9];exact ⟨rfl,(jK hS)⟩)
 obtain ⟨i0,hri,hi0,hpre,hx0⟩:∃ i:Nat,r=(i:Int)∧i<l.length∧(∀ z∈l.take i,emP z=false)∧∀ x,l[i]?=some x→emP x=true:=by
  rcases hfd with ⟨e,_⟩ | h
  ·exfalso;subst e;simp at h12
  ·exact h
 subst hri
 refine jN 14 ?_
 refine WC.chunks (C':=[jW g l.length c 67 3 ((l).flatMap prC)]) (fun w hS=>(jK hS)) ?_
 refine WC.loop (α:=Nat×Nat×List PrV) (fun z=>DelI emP l z.1 z.2.1 z.2.2) (fun z=>[(0,.slice (some ⟨g,0,none⟩) l.length c),(1,.func (.func 100) [].toArray [pp bf].toArray),(5,.int .i64 (z.1:Int)),(6,.int .i64 (z.2.1:Int))]) (fun z=>[jW g l.length c 67 3 ((z.2.2).flatMap prC)]) (fun z=>l.length - z.2.1) ((i0,i0+1,l)) ?_ ?_ ?_ ?_
 ·exact DelI.start hi0 hpre hx0
 ·exact ⟨rfl,rfl,rfl,rfl,trivial⟩
 ·rfl
 rintro ⟨i,j,R⟩ hI
 show WC _ _ _ _ _ _ _ [(0,.slice (some ⟨g,0,none⟩) l.length c),(1,.func (.func 100) [].toArray [pp bf].toArray),(5,.int .i64 (i:Int)),(6,.int .i64 (j:Int))] [jW g l.length c 67 3 ((R).flatMap prC)]
 refine jN 13 ?_
 refine WC.cond rfl (fun h19=>?_) (fun h19=>?_)
 ·have hlt:j<l.length:=by simpa using h19
  obtain ⟨x,hx⟩:∃ y,l[j]?=some y:=⟨_,List.getElem?_eq_getElem hlt⟩
  have hxR:=hI.at hx
  have hij:i<j:=hI.lt
  have hRl:R.length=l.length:=hI.len
  refine jN 11 ?_
  refine WL.indexAddr F.sl62 rfl rfl rfl hlt ?_
  refine jN 1 ?_
  refine WL.loadN F.agg67 rfl rfl (vs:=prC x) rfl (fun w hS jj v hv=>by rw [Nat.zero_add];exact rowc_cells (hS.ok (jW g l.length c 67 3 ((R).flatMap prC)) jM) (flat_at (cells:=prC) (sz:=3) (fun _ _=>rfl) hxR jj _ hv)) ?_
  refine jN 1 ?_
  refine WL.alloc F.zero67 rfl (fun b7=>?_)
  refine jN 1 ?_
  refine WL.storeN F.agg67 rfl rfl rfl (prC_one x) jU (by repeat constructor) ?_
  refine jN 7 ?_
  refine WL.loadN F.agg67 rfl rfl (vs:=prC x) rfl (fun w hS jj v hv=>by rw [Nat.zero_add];exact hS.cell (cs:=prC x) jM hv) ?_
  refine jN 1 ?_
  refine WL.callFC (β:=Unit) (res:=fun _=> .bool (emP x)) (cs:=fun _=>[]) (Cs:=[]) (O':=[]) (us:=[]) (cap:=[pp bf]) F.fun100 (fun d h=>by cases h;rfl) rfl rfl (List.Perm.refl _) (by simp) (by simp) (fun w hS _=>(jnP_c x bf w (hS.oldc hb (by simpa using hbg))).mono (fun e w2 h=>⟨(),h⟩)) (fun _=>?_)
  refine jN 4 ?_
  refine WC.cond rfl (fun h29=>?_) (fun h29=>?_)
  ·have hsf:emP x=false:=by simpa using h29
   refine jN 7 ?_
   refine WL.loadN F.agg67 rfl rfl (vs:=prC x) rfl (fun w hS jj v hv=>by rw [Nat.zero_add];exact hS.cell (cs:=prC x) jM hv) ?_
   refine jN 1 ?_
   refine WL.indexAddr F.sl62 rfl rfl rfl (by omega) ?_
   refine jN 1 ?_
   refine WL.storeRow (n:=l.length) F.agg67 rfl rfl rfl jO (by omega) jU (by rw [Nat.zero_add];exact setN_flat (fun _=>rfl) (by omega)) ?_
   refine jN 20 ?_
   refine WQ.chunks (C':=[jW g l.length c 67 3 ((R.set i x).flatMap prC)]) (fun w hS=>(jK hS)) ?_
   refine WQ.back ((i+1,j+1,R.set i x):Nat×Nat×List PrV) ?_ ?_ ?_ ?_
   ·exact hI.keep hx hsf
   ·show l.length - (j+1)<l.length - j;omega
   ·exact ⟨rfl,rfl,rfl,rfl,trivial⟩
   rfl
  have hsf:emP x=true:=by simpa using h29
  refine jN 11 ?_
  refine WQ.chunks (C':=[jW g l.length c 67 3 ((R).flatMap prC)]) (fun w hS=>(jK hS)) ?_
  refine WQ.back ((i,j+1,R):Nat×Nat×List PrV) ?_ ?_ ?_ ?_
  ·exact hI.skip hx hsf
  ·show l.length - (j+1)<l.length - j;omega
  ·exact ⟨rfl,rfl,rfl,rfl,trivial⟩
  rfl
 have hje:j=l.length:=by have h8:=hI.le;simp at h19;(have h9:j≤l.length:=h8);omega
 have hij:i<j:=hI.lt
 have hRl:R.length=l.length:=hI.len
 refine WC.know (φ:=l.length≤c) (fun w hS=>by obtain ⟨_,_,_,h8⟩:=rowc_addr (hS.ok (jW g l.length c 67 3 ((R).flatMap prC)) jM) (by omega);exact h8) (fun hlc=>?_)
 refine jN 12 ?_
 refine WL.sliceSlF F.sl62 rfl rfl rfl (by omega) (by omega) rfl rfl ?_
 refine jN 1 ?_
 refine WL.clearRow (zs:=_) F.und62 F.zero67 (by simp) rfl jO jU (setN_zeros (sz:=3) (fun _=>rfl) rfl (by omega)) ?_
 refine jN 9 ?_
 refine WL.y (Yl.sliceSlTo F.sl62 rfl rfl (by omega)) rfl (fun _ _=>trivial) ?_
 refine jN 5 ?_
 have hk9:R.take i=keepE emP l:=by rw [hI.tk,hje,List.take_length]
 have hki:(keepE emP l).length=i:=by rw [← hk9,List.length_take];omega
 refine WQ.ret (rs:=[.tmp 4]) rfl (.tmp rfl .nil) (fun w hS=>?_)
 rw [hki]
 refine ⟨rfl,?_⟩
 have h9:=St.rowTakeN (k:=i) hS (by omega) (by omega)
 rw [take_flatZ (cells:=prC) (sz:=3) (i:=i) (R:=R) (fun _=>rfl) (by omega),hk9] at h9
 exact h9
set_option maxRecDepth 100000 in
theorem delP0_c (a:Option Addr) (c bf:Nat) (w:World) (hb:w.cell? ⟨bf,0,none⟩=some (.func (.func 66) [].toArray [].toArray)):
  Pure Tryz.prog 98 [.slice a 0 c,.func (.func 100) [].toArray [pp bf].toArray] w (.slice a 0 c):=by
 refine enter Tryz.func98 rfl Tryz.ntmps98 rfl (St.init _) ?_
 refine jN 13 ?_
 refine WL.call0 (β:=Int) (res:=fun x=> .returned (.int .i64 x)) (cs:=fun _=>[]) (ψ:=fun r=>FndI emP ([]:List PrV) r) F.fun125 (fun d h=>by cases h;rfl) rfl (fun w hS=>(idxP_c [] a c bf (by simp) w (fun i x hx=>by simp at hx) (hS.oldc hb (by simp))).mono (fun e w2 ⟨x,h0,h1,h2⟩=>⟨x,h0,h1,h2⟩)) (fun r hfd=>After_ret ?_)
 refine jN 7 ?_
 have hr1:r= -1:=by
  rcases hfd with ⟨e,_⟩ | ⟨i0,_,h,_⟩
  ·exact e
  ·simp at h
 subst hr1
 refine jN 17 ?_
 exact WQ.ret (rs:=[.tmp 4]) rfl (.tmp rfl .nil) (fun w hS=>⟨rfl,hS⟩)
theorem insP0_c (a:Option Addr) (c:Nat) (v:Value) (w:World):
  Pure Tryz.prog 127 [.slice a 0 c,.int .i64 0,.int .i64 0,v] w (.tuple #[]):=by
 refine enter Tryz.func127 rfl Tryz.ntmps127 rfl (St.init _) ?_
 refine jN 11 ?_
 refine WC.loop (α:=Unit) (fun _=>True) (fun _=>[(2,.int .i64 0),(8,.int .i64 1)]) (fun _=>[]) (fun _=>0) (()) ?_ ?_ ?_ ?_
 ·exact trivial
 ·exact ⟨rfl,rfl,trivial⟩
 ·rfl
 rintro ⟨⟩ _
 show WC _ _ _ _ _ _ _ [(2,.int .i64 0),(8,.int .i64 1)] []
 refine jN 16 ?_
 refine WQ.fin (rs:=[]) rfl .nil (fun w hS=>?_)
 exact ⟨rfl,hS⟩
theorem stbP0_c (a:Option Addr) (c:Nat) (v:Value) (w:World):
  Pure Tryz.prog 126 [.slice a 0 c,.int .i64 0,v] w (.tuple #[]):=by
 refine enter Tryz.func126 rfl Tryz.ntmps126 rfl (St.init _) ?_
 refine jN 18 ?_
 refine WC.loop (α:=Unit) (fun _=>True) (fun _=>[(0,.slice a 0 c),(1,.int .i64 0),(2,v),(6,.int .i64 20),(7,.int .i64 0),(8,.int .i64 20)]) (fun _=>[]) (fun _=>0) (()) ?_ ?_ ?_ ?_
 ·exact trivial
 ·exact ⟨rfl,rfl,rfl,rfl,rfl,rfl,trivial⟩
 ·rfl
 rintro ⟨⟩ _
 show WC _ _ _ _ _ _ _ [(0,.slice a 0 c),(1,.int .i64 0),(2,v),(6,.int .i64 20),(7,.int .i64 0),(8,.int .i64 20)] []
 refine jN 28 ?_
 refine WL.callV (v:= .tuple #[]) F.fun127 rfl rfl (fun w hS=>insP0_c a c v w) ?_
 refine jN 3 ?_
 refine WC.loop (α:=Unit) (fun _=>True) (fun _=>[(1,.int .i64 0),(6,.int .i64 20)]) (fun _=>[]) (fun _=>0) (()) ?_ ?_ ?_ ?_
 ·exact trivial
 ·exact ⟨rfl,rfl,trivial⟩
 ·rfl
 rintro ⟨⟩ _
 show WC _ _ _ _ _ _ _ [(1,.int .i64 0),(6,.int .i64 20)] []
 refine jN 16 ?_
 refine WQ.fin (rs:=[]) rfl .nil (fun w hS=>?_)
 exact ⟨rfl,hS⟩
theorem sstP0_c (a:Option Addr) (c:Nat) (v:Value) (w:World):
  Pure Tryz.prog 101 [.slice a 0 c,v] w (.tuple #[]):=by
 refine enter Tryz.func101 rfl Tryz.ntmps101 rfl (St.init _) ?_
 refine jN 10 ?_
 refine WL.callV (v:= .tuple #[]) F.fun126 rfl rfl (fun w hS=>stbP0_c a c v w) ?_
 refine jN 1 ?_
 refine WQ.fin (rs:=[]) rfl .nil (fun w hS=>?_)
 exact ⟨rfl,hS⟩
set_option maxRecDepth 100000 in
theorem joinedP0_c (a:Option Addr) (c:Nat) (w:World):
  Pure Tryz.prog 63 [.slice a 0 c,(.func (.func 64) [].toArray [].toArray),(.func (.func 66) [].toArray [].toArray)] w (.slice none 0 0):=by
 refine enter Tryz.func63 rfl Tryz.ntmps63 rfl (St.init _) ?_
 refine jN 3 ?_
 refine WL.box1 rfl rfl rfl (fun b5=>?_)
 refine jN 9 ?_
 refine WL.call0 (β:=Option Addr×Nat) (res:=fun x=> .returned (.slice x.1 0 x.2)) (cs:=fun x=>[rowc (.slice x.1 0 x.2) 0 67 3 []]) (ψ:=fun _=>True) F.fun99 (fun d h=>by cases h;rfl) rfl (fun w hS=>(CloneP_c [] a c (by simp) w (fun i x hx=>by simp at hx)).mono (fun e w2 ⟨x,h1,h2⟩=>⟨x,trivial,h1,h2⟩)) (fun ⟨xa,xc⟩ _=>After_ret ?_)
 refine jN 3 ?_
 refine WL.callV (v:= .slice xa 0 xc) F.fun98 rfl rfl (fun w hS=>delP0_c xa xc b5 w (hS.cell (cs:=[(.func (.func 66) [].toArray [].toArray)]) jM rfl)) ?_
 refine jN 11 ?_
 refine WL.callV (v:= .tuple #[]) F.fun101 rfl rfl (fun w hS=>sstP0_c xa xc (.func (.func 64) [].toArray [].toArray) w) ?_
 refine jN 20 ?_
 refine WC.chunks (C':=[]) (fun w hS=>hS.sublist (List.nil_sublist _)) ?_
 refine WC.loop (α:=Unit) (fun _=>True) (fun _=>[(7,.slice none 0 0),(20,.int .i64 0),(21,.int .i64 0)]) (fun _=>[]) (fun _=>0) (()) ?_ ?_ ?_ ?_
 ·exact trivial
 ·exact ⟨rfl,rfl,rfl,trivial⟩
 ·rfl
 rintro ⟨⟩ _
 show WC _ _ _ _ _ _ _ [(7,.slice none 0 0),(20,.int .i64 0),(21,.int .i64 0)] []
 refine jN 22 ?_
 exact WQ.ret (rs:=[.tmp 6]) rfl (.tmp rfl .nil) (fun w hS=>⟨rfl,hS⟩)
theorem row_O1P {g n c:Nat} {l:List Value}:∀ x∈[jW g n c 67 3 l],∀ k,x.fp k→k∈[g]:=by
 intro x hx k hk
 rw [List.mem_singleton.1 hx] at hk
 exact (FpIs.rowc k).1 hk
theorem row_O2P {g n c:Nat} {l:List Value}:∀ k∈[g],∃ x∈[jW g n c 67 3 l],x.fp k:=fun k hk=>⟨_,List.mem_singleton.2 rfl,(FpIs.rowc k).2 hk⟩
set_option maxRecDepth 100000 in
theorem insP_c (P X S:List PrV) (g n c kc:Nat) (us cap:List Value) (Q:PrV→Prop) (cmp:PrV→PrV→Int) (hw:Swo (ltC cmp)) (hkc:funB Tryz.prog kc=some true) (lo hi:Nat) (hlo:lo=P.length) (hhi:hi=P.length+X.length) (hn:(P++(X++S)).length=n) (hnc:n≤1000000) (hQx:∀ x∈X,Q x) (w:World) (hcmp:CmpOk kc us cap prC Q cmp w g) (hS0:St w [g] [jW g n c 67 3 ((P++(X++S)).flatMap prC)] w):
  Calls Tryz.prog 127 [.slice (some ⟨g,0,none⟩) n c,.int .i64 (lo:Int),.int .i64 (hi:Int),.func (.func kc) us.toArray cap.toArray].toArray w fun e w'=>e= .returned (.tuple #[])∧St w [g] [jW g n c 67 3 ((P++(isort (ltC cmp) X++S)).flatMap prC)] w':=by
 subst hlo hhi
 have hnl:P.length+X.length+S.length=n:=by rw [← hn];simp;omega
 refine enter Tryz.func127 rfl Tryz.ntmps127 rfl (C:=[jW g n c 67 3 ((P++(X++S)).flatMap prC)]) hS0 ?_
 refine jN 5 ?_
 refine WL.bin (v:= .int .i64 ((P.length+1:Nat):Int)) rfl rfl rfl (fun w=>run_addN6 (n:=1) (by omega) (by decide) _ _ _ w) ?_
 refine jN 5 ?_
 refine WC.chunks (C':=[jW g n c 67 3 ((P++(isort (ltC cmp) (X.take 1)++(X.drop 1++S))).flatMap prC)]) (fun w hS=>by have e:P++(isort (ltC cmp) (X.take 1)++(X.drop 1++S))=P++(X++S):=(by (cases X<;>rfl));rw [e];exact hS) ?_
 refine WC.loop (α:=Nat) (fun k=>1≤k∧(k≤X.length∨k=1)) (fun k=>[(0,.slice (some ⟨g,0,none⟩) n c),(1,.int .i64 (P.length:Int)),(2,.int .i64 ((P.length+X.length:Nat):Int)),(3,.func (.func kc) us.toArray cap.toArray),(8,.int .i64 ((P.length+k:Nat):Int))]) (fun k=>[jW g n c 67 3 ((P++(isort (ltC cmp) (X.take k)++(X.drop k++S))).flatMap prC)]) (fun k=>X.length - k) (1) ?_ ?_ ?_ ?_
 ·exact ⟨Nat.le_refl _,.inr rfl⟩
 ·exact ⟨rfl,rfl,rfl,rfl,rfl,trivial⟩
 ·rfl
 rintro k ⟨hk1,hk2⟩
 show WC _ _ _ _ _ _ _ [(0,.slice (some ⟨g,0,none⟩) n c),(1,.int .i64 (P.length:Int)),(2,.int .i64 ((P.length+X.length:Nat):Int)),(3,.func (.func kc) us.toArray cap.toArray),(8,.int .i64 ((P.length+k:Nat):Int))] [jW g n c 67 3 ((P++(isort (ltC cmp) (X.take k)++(X.drop k++S))).flatMap prC)]
 refine jN 11 ?_
 refine WC.cond rfl (fun h14=>?_) (fun h14=>?_)
 ·have hkl:k<X.length:=by simp at h14;omega
  obtain ⟨x,hx⟩:∃ x,X[k]?=some x:=⟨_,List.getElem?_eq_getElem hkl⟩
  have hxm:=List.mem_of_getElem? hx
  have hil:(isort (ltC cmp) (X.take k)).length=k:=by rw [isort_len,List.length_take];omega
  have hdr:X.drop k=x::X.drop (k+1):=by rw [List.drop_eq_getElem_cons hkl];congr 1;exact (List.getElem?_eq_some_iff.1 hx).2
  refine jN 13 ?_
  refine WC.chunks (C':=[jW g n c 67 3 ((P++((isort (ltC cmp) (X.take k))++x::([]++(X.drop (k+1)++S)))).flatMap prC)]) (fun w hS=>by have e:P++((isort (ltC cmp) (X.take k))++x::([]++(X.drop (k+1)++S)))=P++(isort (ltC cmp) (X.take k)++(X.drop k++S)):=(by (rw [hdr];simp));rw [e];exact hS) ?_
  refine WC.loop (α:=List PrV×List PrV) (fun z=>isort (ltC cmp) (X.take k)=z.1++z.2∧∀ y∈z.2,ltC cmp x y=true) (fun z=>[(0,.slice (some ⟨g,0,none⟩) n c),(1,.int .i64 (P.length:Int)),(2,.int .i64 ((P.length+X.length:Nat):Int)),(3,.func (.func kc) us.toArray cap.toArray),(8,.int .i64 ((P.length+k:Nat):Int)),(9,.int .i64 ((P.length+z.1.length:Nat):Int))]) (fun z=>[jW g n c 67 3 ((P++(z.1++x::(z.2++(X.drop (k+1)++S)))).flatMap prC)]) (fun z=>z.1.length) ((isort (ltC cmp) (X.take k),[])) ?_ ?_ ?_ ?_
  ·exact ⟨by simp,by simp⟩
  ·rw [hil];exact ⟨rfl,rfl,rfl,rfl,rfl,rfl,trivial⟩
  ·rfl
  rintro ⟨A,B⟩ ⟨hAB,hB⟩
  dsimp only at hAB hB
  show WC _ _ _ _ _ _ _ [(0,.slice (some ⟨g,0,none⟩) n c),(1,.int .i64 (P.length:Int)),(2,.int .i64 ((P.length+X.length:Nat):Int)),(3,.func (.func kc) us.toArray cap.toArray),(8,.int .i64 ((P.length+k:Nat):Int)),(9,.int .i64 ((P.length+A.length:Nat):Int))] [jW g n c 67 3 ((P++(A++x::(B++(X.drop (k+1)++S)))).flatMap prC)]
  have hlen:=congrArg List.length hAB
  rw [hil,List.length_append] at hlen
  refine jN 2 ?_
  rcases List.eq_nil_or_concat A with rfl | ⟨A',y,hA⟩
  ·have hins:sins (ltC cmp) x ([]++B)=[]++x::B:=sins_at (by simp) (fun z hz=>hB z (List.mem_of_mem_head? hz))
   refine WC.draws [] (by kernel_rfl) (fun w hS=>facts_nil) ?_
   refine jQ [0,1,2,3] ?_
   refine fun hcl=>WA.splitB (i:=21) rfl (fun g20=>?_) (fun g20=>?_)
   ·refine (show WD _ _ _ _ _ _ _ _ _ _ _ _ from ?_) hcl
    exfalso;simp at g20
   refine (show WD _ _ _ _ _ _ _ _ _ _ _ _ from ?_) hcl
   refine jQ [4,5,6,7,8,9,10,11,12,13,14,15,16] ?_
   refine jD ?_
   refine jN 16 ?_
   have hs:isort (ltC cmp) (X.take (k+1))=[]++x::B:=by rw [List.take_add_one,hx,Option.toList_some,isort_snoc,hAB];exact hins
   refine WQ.chunks (C':=[jW g n c 67 3 ((P++(isort (ltC cmp) (X.take (k+1))++(X.drop (k+1)++S))).flatMap prC)]) (fun w hS=>by have e:P++(isort (ltC cmp) (X.take (k+1))++(X.drop (k+1)++S))=P++([]++x::(B++(X.drop (k+1)++S))):=(by (rw [hs];simp));rw [e];exact hS) ?_
   refine WQ.back (k+1) ?_ ?_ ?_ ?_
   ·exact ⟨by omega,.inl (by omega)⟩
   ·omega
   ·exact ⟨rfl,rfl,rfl,rfl,rfl,trivial⟩
   rfl
  rw [List.concat_eq_append] at hA
  subst hA
  have hym:y∈isort (ltC cmp) (X.take k):=by rw [hAB];simp
  have hymX:y∈X:=List.mem_of_mem_take (isort_mem.1 hym)
  have hlen2:(A'++[y]).length=A'.length+1:=by simp
  refine WC.draws [([14],fun w=>∀ jj v,(prC x)[jj]?=some v→w.cell? ⟨g,0+(P.length+(A'++[y]).length)*3+jj,none⟩=some v),([14],fun w=>∀ jj v,(prC y)[jj]?=some v→w.cell? ⟨g,0+(P.length+A'.length)*3+jj,none⟩=some v)] (by kernel_rfl) (fun w hS=>facts_cons ((fun jj v hv=>by rw [Nat.zero_add];exact rowc_cells (hS.ok (jW g n c 67 3 ((P++((A'++[y])++x::(B++(X.drop (k+1)++S)))).flatMap prC)) jM) (flat_at (cells:=prC) (sz:=3) (fun _ _=>rfl) (show (P++((A'++[y])++x::(B++(X.drop (k+1)++S))))[P.length+(A'++[y]).length]?=some x by exact at2 rfl) jj _ hv))) (facts_cons ((fun jj v hv=>by rw [Nat.zero_add];exact rowc_cells (hS.ok (jW g n c 67 3 ((P++((A'++[y])++x::(B++(X.drop (k+1)++S)))).flatMap prC)) jM) (flat_at (cells:=prC) (sz:=3) (fun _ _=>rfl) (show (P++((A'++[y])++x::(B++(X.drop (k+1)++S))))[P.length+A'.length]?=some y by rw [List.append_assoc A'];exact at2 rfl) jj _ hv))) (facts_nil))) ?_
  refine jQ [0,1,2,3] ?_
  refine fun hcl=>WA.splitB (i:=21) rfl (fun g20=>?_) (fun g20=>?_)
  ·refine (show WD _ _ _ _ _ _ _ _ _ _ _ _ from ?_) hcl
   refine jQ [4,5,6] ?_
   refine WD.takeG (i:=7) rfl rfl rfl rfl rfl rfl (by decide+kernel) (by decide+kernel) (by decide+kernel) (fun _ _ _ h=>h) (by kernel_rfl) need_none (Yl.indexAddr F.sl62 rfl rfl (by omega)) ?_
   refine WD.takeG (i:=8) rfl rfl rfl rfl rfl rfl (by decide+kernel) (by decide+kernel) (by decide+kernel) (fun _ _ _ h=>h) (by kernel_rfl) (need_at2 0 rfl (by decide+kernel)) (Yl.loadN F.agg67 rfl rfl) ?_
   refine jQ [9,10] ?_
   refine WD.takeG (i:=11) rfl rfl rfl rfl rfl rfl (by decide+kernel) (by decide+kernel) (by decide+kernel) (fun _ _ _ h=>h) (by kernel_rfl) need_none (Yl.bin (v:= .int .i64 ((P.length+A'.length:Nat):Int)) rfl rfl (fun w=>run_subK (i:=1) (k:=P.length+A'.length) (s:=P.length+(A'++[y]).length) (by omega) (by omega) _ _ _ w)) ?_
   refine WD.takeG (i:=12) rfl rfl rfl rfl rfl rfl (by decide+kernel) (by decide+kernel) (by decide+kernel) (fun _ _ _ h=>h) (by kernel_rfl) need_none (Yl.indexAddr F.sl62 rfl rfl (by omega)) ?_
   refine WD.takeG (i:=13) rfl rfl rfl rfl rfl rfl (by decide+kernel) (by decide+kernel) (by decide+kernel) (fun _ _ _ h=>h) (by kernel_rfl) (need_at2 1 rfl (by decide+kernel)) (Yl.loadN F.agg67 rfl rfl) ?_
   refine jA 14 rfl ?_
   refine WL.guardT rfl rfl rfl ?_
   refine WL.callFC (β:=Unit) (res:=fun _=> .int .i64 (cmp x y)) (cs:=fun _=>[]) (Cs:=[]) (O':=[]) (us:=us) (cap:=cap) hkc (fun d h=>by cases h;rfl) rfl rfl (List.Perm.refl _) (by simp) (by simp) (fun w hS _=>(hcmp _ _ hS x y (hQx _ hxm) (hQx _ hymX)).mono (fun e w2 h=>⟨(),h⟩)) (fun _=>?_)
   refine jG ?_
   refine jQ [15,16] ?_
   refine jD ?_
   refine jN 1 ?_
   refine WC.cond rfl (fun h34=>?_) (fun h34=>?_)
   ·have e1:((P++((A'++[y])++x::(B++(X.drop (k+1)++S)))).set (P.length+(A'++[y]).length) y).set (P.length+A'.length) x=P++(A'++x::((y::B)++(X.drop (k+1)++S))):=by
     have h9:=swp' (A:=P++A') (B:=[]) (C:=B++(X.drop (k+1)++S)) (x:=y) (y:=x) (i:=P.length+A'.length) (k:=P.length+(A'++[y]).length) (by simp) (by simp<;>omega)
     simp
    have e2:((P++((A'++[y])++x::(B++(X.drop (k+1)++S)))).set (P.length+A'.length) x).set (P.length+(A'++[y]).length) y=P++(A'++x::((y::B)++(X.drop (k+1)++S))):=by
     have h9:=swp (A:=P++A') (B:=[]) (C:=B++(X.drop (k+1)++S)) (x:=y) (y:=x) (i:=P.length+A'.length) (k:=P.length+(A'++[y]).length) (by simp) (by simp<;>omega)
     simp
    refine jN 4 ?_
    refine WC.cutPE (α:=Unit) (fun _=>[(0,.slice (some ⟨g,0,none⟩) n c),(1,.int .i64 (P.length:Int)),(2,.int .i64 ((P.length+X.length:Nat):Int)),(3,.func (.func kc) us.toArray cap.toArray),(8,.int .i64 ((P.length+k:Nat):Int)),(9,.int .i64 ((P.length+(A'++[y]).length:Nat):Int))]) (fun _=>[jW g n c 67 3 ((P++(A'++x::((y::B)++(X.drop (k+1)++S)))).flatMap prC)]) (fun c a d v w h=>by cases d<;>exact h) (fun Q' hP hQ=>?_) (fun xE=>?_)
    ·refine WC.draws [([15,17],fun w=>∀ jj v,(prC y)[jj]?=some v→w.cell? ⟨g,0+(P.length+A'.length)*3+jj,none⟩=some v),([15,17],fun w=>∀ jj v,(prC x)[jj]?=some v→w.cell? ⟨g,0+(P.length+(A'++[y]).length)*3+jj,none⟩=some v)] (by kernel_rfl) (fun w hS=>facts_cons ((fun jj v hv=>by rw [Nat.zero_add];exact rowc_cells (hS.ok (jW g n c 67 3 ((P++((A'++[y])++x::(B++(X.drop (k+1)++S)))).flatMap prC)) jM) (flat_at (cells:=prC) (sz:=3) (fun _ _=>rfl) (show (P++((A'++[y])++x::(B++(X.drop (k+1)++S))))[P.length+A'.length]?=some y by rw [List.append_assoc A'];exact at2 rfl) jj _ hv))) (facts_cons ((fun jj v hv=>by rw [Nat.zero_add];exact rowc_cells (hS.ok (jW g n c 67 3 ((P++((A'++[y])++x::(B++(X.drop (k+1)++S)))).flatMap prC)) jM) (flat_at (cells:=prC) (sz:=3) (fun _ _=>rfl) (show (P++((A'++[y])++x::(B++(X.drop (k+1)++S))))[P.length+(A'++[y]).length]?=some x by exact at2 rfl) jj _ hv))) (facts_nil))) ?_
     refine jQ [0,1,2,3] ?_
     refine jT 4 rfl (Yl.bin (v:= .int .i64 ((P.length+A'.length:Nat):Int)) rfl rfl (fun w=>run_subK (i:=1) (k:=P.length+A'.length) (s:=P.length+(A'++[y]).length) (by omega) (by omega) _ _ _ w)) ?_
     refine jQ [5,6] ?_
     refine jT 7 rfl (Yl.bin (v:= .int .i64 ((P.length+A'.length:Nat):Int)) rfl rfl (fun w=>run_subK (i:=1) (k:=P.length+A'.length) (s:=P.length+(A'++[y]).length) (by omega) (by omega) _ _ _ w)) ?_
     refine jT 8 rfl (Yl.indexAddr F.sl62 rfl rfl (by omega)) ?_
     refine jF 9 0 rfl rfl (Yl.loadN F.agg67 rfl rfl) ?_
     refine jQ [10,11] ?_
     refine jT 12 rfl (Yl.indexAddr F.sl62 rfl rfl (by omega)) ?_
     refine jF 13 1 rfl rfl (Yl.loadN F.agg67 rfl rfl) ?_
     refine jT 14 rfl (Yl.indexAddr F.sl62 rfl rfl (by omega)) ?_
     refine jA 15 rfl ?_
     refine WL.storeRow (n:=n) F.agg67 rfl rfl rfl jO (by omega) jU (by rw [Nat.zero_add];exact setN_flat (fun _=>rfl) (by simp<;>omega)) ?_
     refine jG ?_
     refine jT 16 rfl (Yl.indexAddr F.sl62 rfl rfl (by omega)) ?_
     refine jA 17 rfl ?_
     refine WL.storeRow (n:=n) F.agg67 rfl rfl rfl jO (by omega) jU (by rw [Nat.zero_add];exact setN_flat (fun _=>rfl) (by simp<;>omega)) ?_
     refine jG ?_
     refine jD ?_
     refine WQ.chunks (C':=[jW g n c 67 3 ((P++(A'++x::((y::B)++(X.drop (k+1)++S)))).flatMap prC)]) (fun w hS=>by first | (have h9:=hS;rw [e1] at h9;exact h9) | (have h9:=hS;rw [e2] at h9;exact h9)) ?_
     exact WQ.byCut (hQ ()) ⟨rfl,rfl,rfl,rfl,rfl,rfl,trivial⟩
    show WQ _ _ _ _ _ _ [(0,.slice (some ⟨g,0,none⟩) n c),(1,.int .i64 (P.length:Int)),(2,.int .i64 ((P.length+X.length:Nat):Int)),(3,.func (.func kc) us.toArray cap.toArray),(8,.int .i64 ((P.length+k:Nat):Int)),(9,.int .i64 ((P.length+(A'++[y]).length:Nat):Int))] [jW g n c 67 3 ((P++(A'++x::((y::B)++(X.drop (k+1)++S)))).flatMap prC)]
    refine jN 6 ?_
    refine WL.bin (v:= .int .i64 ((P.length+A'.length:Nat):Int)) rfl rfl rfl (fun w=>run_subK (i:=1) (k:=P.length+A'.length) (s:=P.length+(A'++[y]).length) (by omega) (by omega) _ _ _ w) ?_
    refine jN 3 ?_
    refine WQ.back ((A',y::B)) ?_ ?_ ?_ ?_
    ·exact ⟨by rw [hAB];simp,fun z hz=>by rcases List.mem_cons.1 hz with rfl | hz;exact h34;exact hB z hz⟩
    ·show A'.length<(A'++[y]).length;simp
    ·exact ⟨rfl,rfl,rfl,rfl,rfl,rfl,trivial⟩
    rfl
   have hins:sins (ltC cmp) x ((A'++[y])++B)=(A'++[y])++x::B:=by
    refine sins_at (fun z hz=>?_) (fun z hz=>hB z (List.mem_of_mem_head? hz))
    have hs9:Srt (ltC cmp) ((A'++[y])++B):=by rw [← hAB];exact isort_srt hw _
    have hs8:Srt (ltC cmp) (A'++[y]):=(List.pairwise_append.1 hs9).1
    rcases List.mem_append.1 hz with hz | hz
    ·exact hw.tr z y x ((List.pairwise_append.1 hs8).2.2 z hz y (by simp)) h34
    ·rw [List.mem_singleton.1 hz];exact h34
   refine jN 14 ?_
   have hs:isort (ltC cmp) (X.take (k+1))=(A'++[y])++x::B:=by rw [List.take_add_one,hx,Option.toList_some,isort_snoc,hAB];exact hins
   refine WQ.chunks (C':=[jW g n c 67 3 ((P++(isort (ltC cmp) (X.take (k+1))++(X.drop (k+1)++S))).flatMap prC)]) (fun w hS=>by have e:P++(isort (ltC cmp) (X.take (k+1))++(X.drop (k+1)++S))=P++((A'++[y])++x::(B++(X.drop (k+1)++S))):=(by (rw [hs];simp));rw [e];exact hS) ?_
   refine WQ.back (k+1) ?_ ?_ ?_ ?_
   ·exact ⟨by omega,.inl (by omega)⟩
   ·omega
   ·exact ⟨rfl,rfl,rfl,rfl,rfl,trivial⟩
   rfl
  refine (show WD _ _ _ _ _ _ _ _ _ _ _ _ from ?_) hcl
  exfalso;simp at g20;omega
 have hkl:X.length≤k:=by simp at h14;omega
 refine jN 4 ?_
 refine WQ.fin (rs:=[]) rfl .nil (fun w hS=>?_)
 have e:P++(isort (ltC cmp) (X.take k)++(X.drop k++S))=P++(isort (ltC cmp) X++S):=by rw [List.take_of_length_le hkl,List.drop_eq_nil_of_le hkl];rfl
 rw [e] at hS
 exact ⟨rfl,hS⟩
set_option maxRecDepth 100000 in
theorem swrP_c (P X M Y S:List PrV) (g n c:Nat) (fv:Value) (hf:fv.oneCell'=true) (a b m:Nat) (ha:a=P.length) (hb:b=P.length+X.length+M.length) (hm:m=X.length) (hxy:X.length=Y.length) (hn:(P++(X++(M++(Y++S)))).length=n) (hnc:n≤1000000) (w:World) (hS0:St w [g] [jW g n c 67 3 ((P++(X++(M++(Y++S)))).flatMap prC)] w):
  Calls Tryz.prog 221 [.slice (some ⟨g,0,none⟩) n c,.int .i64 (a:Int),.int .i64 (b:Int),.int .i64 (m:Int),fv].toArray w fun e w'=>e= .returned (.tuple #[])∧St w [g] [jW g n c 67 3 ((P++(Y++(M++(X++S)))).flatMap prC)] w':=by
 subst ha hb hm
 have hnl:P.length+X.length+M.length+Y.length+S.length=n:=by rw [← hn];simp;omega
 refine enter Tryz.func221 rfl Tryz.ntmps221 rfl (C:=[jW g n c 67 3 ((P++(X++(M++(Y++S)))).flatMap prC)]) hS0 ?_
 refine jN 7 ?_
 refine WC.chunks (C':=[jW g n c 67 3 ((P++(Y.take 0++(X.drop 0++(M++(X.take 0++(Y.drop 0++S)))))).flatMap prC)]) (fun w hS=>by have e:P++(Y.take 0++(X.drop 0++(M++(X.take 0++(Y.drop 0++S)))))=P++(X++(M++(Y++S))):=(by simp);rw [e];exact hS) ?_
 refine WC.loop (α:=Nat) (fun i=>i≤X.length) (fun i=>[(0,.slice (some ⟨g,0,none⟩) n c),(1,.int .i64 (P.length:Int)),(2,.int .i64 ((P.length+X.length+M.length:Nat):Int)),(3,.int .i64 (X.length:Int)),(10,.int .i64 (i:Int))]) (fun i=>[jW g n c 67 3 ((P++(Y.take i++(X.drop i++(M++(X.take i++(Y.drop i++S)))))).flatMap prC)]) (fun i=>X.length - i) (0) ?_ ?_ ?_ ?_
 ·exact Nat.zero_le _
 ·exact ⟨rfl,rfl,rfl,rfl,rfl,trivial⟩
 ·rfl
 rintro i hi
 show WC _ _ _ _ _ _ _ [(0,.slice (some ⟨g,0,none⟩) n c),(1,.int .i64 (P.length:Int)),(2,.int .i64 ((P.length+X.length+M.length:Nat):Int)),(3,.int .i64 (X.length:Int)),(10,.int .i64 (i:Int))] [jW g n c 67 3 ((P++(Y.take i++(X.drop i++(M++(X.take i++(Y.drop i++S)))))).flatMap prC)]
 refine jN 11 ?_
 refine WC.cond rfl (fun h13=>?_) (fun h13=>?_)
 ·have hlt:i<X.length:=by simpa using h13
  have hlt2:i<Y.length:=by omega
  obtain ⟨x,hx⟩:∃ x,X[i]?=some x:=⟨_,List.getElem?_eq_getElem hlt⟩
  obtain ⟨y,hy⟩:∃ x,Y[i]?=some x:=⟨_,List.getElem?_eq_getElem hlt2⟩
  have hdx:X.drop i=x::X.drop (i+1):=by rw [List.drop_eq_getElem_cons hlt];congr 1;exact (List.getElem?_eq_some_iff.1 hx).2
  have hdy:Y.drop i=y::Y.drop (i+1):=by rw [List.drop_eq_getElem_cons hlt2];congr 1;exact (List.getElem?_eq_some_iff.1 hy).2
  refine WC.chunks (C':=[jW g n c 67 3 (((P++Y.take i)++x::((X.drop (i+1)++(M++X.take i))++y::(Y.drop (i+1)++S))).flatMap prC)]) (fun w hS=>by have e:(P++Y.take i)++x::((X.drop (i+1)++(M++X.take i))++y::(Y.drop (i+1)++S))=P++(Y.take i++(X.drop i++(M++(X.take i++(Y.drop i++S))))):=(by (rw [hdx,hdy];simp));rw [e];exact hS) ?_
  have e1:(((P++Y.take i)++x::((X.drop (i+1)++(M++X.take i))++y::(Y.drop (i+1)++S))).set (P.length+i) y).set (P.length+X.length+M.length+i) x=(P++Y.take i)++y::((X.drop (i+1)++(M++X.take i))++x::(Y.drop (i+1)++S)):=swp (by simp;omega) (by simp;omega)
  have e2:(((P++Y.take i)++x::((X.drop (i+1)++(M++X.take i))++y::(Y.drop (i+1)++S))).set (P.length+X.length+M.length+i) x).set (P.length+i) y=(P++Y.take i)++y::((X.drop (i+1)++(M++X.take i))++x::(Y.drop (i+1)++S)):=swp' (by simp;omega) (by simp;omega)
  refine jN 4 ?_
  refine WC.cutPE (α:=Unit) (fun _=>[(0,.slice (some ⟨g,0,none⟩) n c),(1,.int .i64 (P.length:Int)),(2,.int .i64 ((P.length+X.length+M.length:Nat):Int)),(3,.int .i64 (X.length:Int)),(10,.int .i64 (i:Int))]) (fun _=>[jW g n c 67 3 (((P++Y.take i)++y::((X.drop (i+1)++(M++X.take i))++x::(Y.drop (i+1)++S))).flatMap prC)]) (fun c a d v w h=>by cases d<;>exact h) (fun Q' hP hQ=>?_) (fun xE=>?_)
  ·refine WC.draws [([21,23],fun w=>∀ jj v,(prC y)[jj]?=some v→w.cell? ⟨g,0+(P.length+X.length+M.length+i)*3+jj,none⟩=some v),([21,23],fun w=>∀ jj v,(prC x)[jj]?=some v→w.cell? ⟨g,0+(P.length+i)*3+jj,none⟩=some v)] (by kernel_rfl) (fun w hS=>facts_cons ((fun jj v hv=>by rw [Nat.zero_add];exact rowc_cells (hS.ok (jW g n c 67 3 (((P++Y.take i)++x::((X.drop (i+1)++(M++X.take i))++y::(Y.drop (i+1)++S))).flatMap prC)) jM) (flat_at (cells:=prC) (sz:=3) (fun _ _=>rfl) (show ((P++Y.take i)++x::((X.drop (i+1)++(M++X.take i))++y::(Y.drop (i+1)++S)))[P.length+X.length+M.length+i]?=some y by rw [show (P++Y.take i)++x::((X.drop (i+1)++(M++X.take i))++y::(Y.drop (i+1)++S))=((P++Y.take i)++x::(X.drop (i+1)++(M++X.take i)))++y::(Y.drop (i+1)++S) by simp];exact at_app' (by simp;omega)) jj _ hv))) (facts_cons ((fun jj v hv=>by rw [Nat.zero_add];exact rowc_cells (hS.ok (jW g n c 67 3 (((P++Y.take i)++x::((X.drop (i+1)++(M++X.take i))++y::(Y.drop (i+1)++S))).flatMap prC)) jM) (flat_at (cells:=prC) (sz:=3) (fun _ _=>rfl) (show ((P++Y.take i)++x::((X.drop (i+1)++(M++X.take i))++y::(Y.drop (i+1)++S)))[P.length+i]?=some x from at_app' (by simp;omega)) jj _ hv))) (facts_nil))) ?_
   refine jQ [0,1,2] ?_
   refine jT 3 rfl (Yl.bin (v:= .int .i64 ((P.length+i:Nat):Int)) rfl rfl (fun w=>run_addN6 (by omega) (by omega) _ _ _ w)) ?_
   refine jQ [4,5,6] ?_
   refine jT 7 rfl (Yl.bin (v:= .int .i64 ((P.length+X.length+M.length+i:Nat):Int)) rfl rfl (fun w=>run_addN6 (by omega) (by omega) _ _ _ w)) ?_
   refine jQ [8,9,10] ?_
   refine jT 11 rfl (Yl.bin (v:= .int .i64 ((P.length+X.length+M.length+i:Nat):Int)) rfl rfl (fun w=>run_addN6 (by omega) (by omega) _ _ _ w)) ?_
   refine jT 12 rfl (Yl.indexAddr F.sl62 rfl rfl (by omega)) ?_
   refine jF 13 0 rfl rfl (Yl.loadN F.agg67 rfl rfl) ?_
   refine jQ [14,15,16] ?_
   refine jT 17 rfl (Yl.bin (v:= .int .i64 ((P.length+i:Nat):Int)) rfl rfl (fun w=>run_addN6 (by omega) (by omega) _ _ _ w)) ?_
   refine jT 18 rfl (Yl.indexAddr F.sl62 rfl rfl (by omega)) ?_
   refine jF 19 1 rfl rfl (Yl.loadN F.agg67 rfl rfl) ?_
   refine jT 20 rfl (Yl.indexAddr F.sl62 rfl rfl (by omega)) ?_
   refine jA 21 rfl ?_
   refine WL.storeRow (n:=n) F.agg67 rfl rfl rfl jO (by omega) jU (by rw [Nat.zero_add];exact setN_flat (fun _=>rfl) (by simp<;>omega)) ?_
   refine jG ?_
   refine jT 22 rfl (Yl.indexAddr F.sl62 rfl rfl (by omega)) ?_
   refine jA 23 rfl ?_
   refine WL.storeRow (n:=n) F.agg67 rfl rfl rfl jO (by omega) jU (by rw [Nat.zero_add];exact setN_flat (fun _=>rfl) (by simp<;>omega)) ?_
   refine jG ?_
   refine jD ?_
   refine WQ.chunks (C':=[jW g n c 67 3 (((P++Y.take i)++y::((X.drop (i+1)++(M++X.take i))++x::(Y.drop (i+1)++S))).flatMap prC)]) (fun w hS=>by first | (have h9:=hS;rw [e1] at h9;exact h9) | (have h9:=hS;rw [e2] at h9;exact h9)) ?_
   exact WQ.byCut (hQ ()) ⟨rfl,rfl,rfl,rfl,rfl,trivial⟩
  show WQ _ _ _ _ _ _ [(0,.slice (some ⟨g,0,none⟩) n c),(1,.int .i64 (P.length:Int)),(2,.int .i64 ((P.length+X.length+M.length:Nat):Int)),(3,.int .i64 (X.length:Int)),(10,.int .i64 (i:Int))] [jW g n c 67 3 (((P++Y.take i)++y::((X.drop (i+1)++(M++X.take i))++x::(Y.drop (i+1)++S))).flatMap prC)]
  refine jN 10 ?_
  refine WQ.chunks (C':=[jW g n c 67 3 ((P++(Y.take (i+1)++(X.drop (i+1)++(M++(X.take (i+1)++(Y.drop (i+1)++S)))))).flatMap prC)]) (fun w hS=>by have e:P++(Y.take (i+1)++(X.drop (i+1)++(M++(X.take (i+1)++(Y.drop (i+1)++S)))))=(P++Y.take i)++y::((X.drop (i+1)++(M++X.take i))++x::(Y.drop (i+1)++S)):=(by (rw [List.take_add_one,List.take_add_one,hx,hy];simp));rw [e];exact hS) ?_
  refine WQ.back (i+1) ?_ ?_ ?_ ?_
  ·exact hlt
  ·omega
  ·exact ⟨rfl,rfl,rfl,rfl,rfl,trivial⟩
  rfl
 have hie:i=X.length:=by simp at h13;omega
 subst hie
 refine jN 4 ?_
 refine WQ.fin (rs:=[]) rfl .nil (fun w hS=>?_)
 have e:P++(Y.take X.length++(X.drop X.length++(M++(X.take X.length++(Y.drop X.length++S)))))=P++(Y++(M++(X++S))):=by rw [List.take_of_length_le (by omega),List.drop_eq_nil_of_le (Nat.le_refl _),List.take_length,List.drop_eq_nil_of_le (by omega)];rfl
 rw [e] at hS
 exact ⟨rfl,hS⟩
set_option maxRecDepth 100000 in
theorem rotP_c (P X Y S:List PrV) (g n c:Nat) (fv:Value) (hf:fv.oneCell'=true) (a m b:Nat) (ha:a=P.length) (hm:m=P.length+X.length) (hb:b=P.length+X.length+Y.length) (hx0:0<X.length) (hy0:0<Y.length) (hn:(P++(X++(Y++S))).length=n) (hnc:n≤1000000) (w:World) (hS0:St w [g] [jW g n c 67 3 ((P++(X++(Y++S))).flatMap prC)] w):
  Calls Tryz.prog 191 [.slice (some ⟨g,0,none⟩) n c,.int .i64 (a:Int),.int .i64 (m:Int),.int .i64 (b:Int),fv].toArray w fun e w'=>e= .returned (.tuple #[])∧St w [g] [jW g n c 67 3 ((P++(Y++(X++S))).flatMap prC)] w':=by
 have hnl:P.length+X.length+Y.length+S.length=n:=by rw [← hn];simp;omega
 refine enter Tryz.func191 rfl Tryz.ntmps191 rfl (C:=[jW g n c 67 3 ((P++(X++(Y++S))).flatMap prC)]) hS0 ?_
 refine jN 7 ?_
 refine WL.bin (v:= .int .i64 ((X.length:Nat):Int)) rfl rfl rfl (fun w=>run_subK (i:=a) (k:=X.length) (s:=m) (by omega) (by omega) _ _ _ w) ?_
 refine jN 11 ?_
 refine WL.bin (v:= .int .i64 ((Y.length:Nat):Int)) rfl rfl rfl (fun w=>run_subK (i:=m) (k:=Y.length) (s:=b) (by omega) (by omega) _ _ _ w) ?_
 refine jN 6 ?_
 refine WC.loop (α:=List PrV×List PrV×List PrV×List PrV) (fun z=>0<z.2.1.length∧0<z.2.2.1.length∧z.1.length+z.2.1.length=m∧z.1++(z.2.2.1++(z.2.1++z.2.2.2))=P++(Y++(X++S))) (fun z=>[(0,.slice (some ⟨g,0,none⟩) n c),(1,.int .i64 (a:Int)),(2,.int .i64 (m:Int)),(3,.int .i64 (b:Int)),(4,fv),(10,.int .i64 (z.2.1.length:Int)),(11,.int .i64 (z.2.2.1.length:Int))]) (fun z=>[jW g n c 67 3 ((z.1++(z.2.1++(z.2.2.1++z.2.2.2))).flatMap prC)]) (fun z=>z.2.1.length+z.2.2.1.length) ((P,X,Y,S)) ?_ ?_ ?_ ?_
 ·exact ⟨hx0,hy0,by (show P.length+X.length=m);omega,rfl⟩
 ·exact ⟨rfl,rfl,rfl,rfl,rfl,rfl,rfl,trivial⟩
 ·rfl
 rintro ⟨P9,U,W,S9⟩ ⟨hu,hv,hm9,heq⟩
 dsimp only at hu hv hm9 heq
 show WC _ _ _ _ _ _ _ [(0,.slice (some ⟨g,0,none⟩) n c),(1,.int .i64 (a:Int)),(2,.int .i64 (m:Int)),(3,.int .i64 (b:Int)),(4,fv),(10,.int .i64 (U.length:Int)),(11,.int .i64 (W.length:Int))] [jW g n c 67 3 ((P9++(U++(W++S9))).flatMap prC)]
 have hnl9:P9.length+W.length+U.length+S9.length=n:=by have:=congrArg List.length heq;simp at this;omega
 refine jN 11 ?_
 refine WC.cond rfl (fun h20=>?_) (fun h20=>?_)
 ·have hne:U.length≠W.length:=by intro e;rw [e] at h20;simp at h20
  refine jN 13 ?_
  refine WC.cond rfl (fun h23=>?_) (fun h23=>?_)
  ·have hgt:W.length<U.length:=by simp at h23;omega
   refine jN 2 ?_
   refine WA.chunks (C':=[jW g n c 67 3 ((P9++((U.take W.length)++((U.drop W.length)++(W++S9)))).flatMap prC)]) (fun w hS=>by have e:P9++((U.take W.length)++((U.drop W.length)++(W++S9)))=P9++(U++(W++S9)):=(by (rw [← List.append_assoc (U.take W.length),List.take_append_drop]));rw [e];exact hS) ?_
   refine jN 7 ?_
   refine WL.bin (v:= .int .i64 ((P9.length:Nat):Int)) rfl rfl rfl (fun w=>run_subK (i:=U.length) (k:=P9.length) (s:=m) (by omega) (by omega) _ _ _ w) ?_
   refine jN 7 ?_
   refine WL.callC (β:=Unit) (res:=fun _=> .tuple #[]) (cs:=fun _=>[jW g n c 67 3 ((P9++(W++((U.drop W.length)++((U.take W.length)++S9)))).flatMap prC)]) (Cs:=[jW g n c 67 3 ((P9++((U.take W.length)++((U.drop W.length)++(W++S9)))).flatMap prC)]) (O':=[g]) F.fun221 (fun d h=>by cases h;rfl) rfl (List.Perm.refl _) row_O1P row_O2P (fun w hS hS2=>(swrP_c P9 (U.take W.length) (U.drop W.length) W S9 g n c fv hf _ m W.length rfl (by first | omega | (simp<;>omega)) (by first | omega | (simp<;>omega)) (by first | omega | (simp<;>omega)) (by rw [← hnl9];simp<;>omega) hnc w hS2).mono (fun e w2 h=>⟨(),h⟩)) (fun _=>?_)
   refine jN 8 ?_
   refine WL.bin (v:= .int .i64 (((U.length - W.length):Nat):Int)) rfl rfl rfl (fun w=>run_subK (i:=W.length) (k:=(U.length - W.length)) (s:=U.length) (by omega) (by omega) _ _ _ w) ?_
   refine jN 4 ?_
   refine WQ.chunks (C':=[jW g n c 67 3 (((P9++W)++((U.drop W.length)++((U.take W.length)++S9))).flatMap prC)]) (fun w hS=>by have e:(P9++W)++((U.drop W.length)++((U.take W.length)++S9))=P9++(W++((U.drop W.length)++((U.take W.length)++S9))):=(by simp);rw [e];exact hS) ?_
   refine WQ.back (P9++W,(U.drop W.length),(U.take W.length),S9) ?_ ?_ ?_ ?_
   ·exact ⟨by simp;omega,by simp;omega,by simp;omega,by rw [← heq];simp only [List.append_assoc];rw [← List.append_assoc (U.take W.length),List.take_append_drop]⟩
   ·simp;omega
   ·have e3:(U.drop W.length).length=U.length - W.length:=by simp
    have e4:(U.take W.length).length=W.length:=by simp;omega
    dsimp only;rw [e3,e4];exact ⟨rfl,rfl,rfl,rfl,rfl,rfl,rfl,trivial⟩
   rfl
  have hgt:U.length<W.length:=by simp at h23;omega
  refine jN 2 ?_
  refine WA.chunks (C':=[jW g n c 67 3 ((P9++(U++((W.take (W.length - U.length))++((W.drop (W.length - U.length))++S9)))).flatMap prC)]) (fun w hS=>by have e:P9++(U++((W.take (W.length - U.length))++((W.drop (W.length - U.length))++S9)))=P9++(U++(W++S9)):=(by (rw [← List.append_assoc (W.take (W.length - U.length)),List.take_append_drop]));rw [e];exact hS) ?_
  refine jN 7 ?_
  refine WL.bin (v:= .int .i64 ((P9.length:Nat):Int)) rfl rfl rfl (fun w=>run_subK (i:=U.length) (k:=P9.length) (s:=m) (by omega) (by omega) _ _ _ w) ?_
  refine jN 5 ?_
  refine WL.bin (v:= .int .i64 ((m+W.length:Nat):Int)) rfl rfl rfl (fun w=>run_addN6 (by omega) (by omega) _ _ _ w) ?_
  refine jN 3 ?_
  refine WL.bin (v:= .int .i64 (((m+W.length - U.length):Nat):Int)) rfl rfl rfl (fun w=>run_subK (i:=U.length) (k:=(m+W.length - U.length)) (s:=m+W.length) (by omega) (by omega) _ _ _ w) ?_
  refine jN 5 ?_
  refine WL.callC (β:=Unit) (res:=fun _=> .tuple #[]) (cs:=fun _=>[jW g n c 67 3 ((P9++((W.drop (W.length - U.length))++((W.take (W.length - U.length))++(U++S9)))).flatMap prC)]) (Cs:=[jW g n c 67 3 ((P9++(U++((W.take (W.length - U.length))++((W.drop (W.length - U.length))++S9)))).flatMap prC)]) (O':=[g]) F.fun221 (fun d h=>by cases h;rfl) rfl (List.Perm.refl _) row_O1P row_O2P (fun w hS hS2=>(swrP_c P9 U (W.take (W.length - U.length)) (W.drop (W.length - U.length)) S9 g n c fv hf _ (m+W.length - U.length) U.length rfl (by first | omega | (simp<;>omega)) (by first | omega | (simp<;>omega)) (by first | omega | (simp<;>omega)) (by rw [← hnl9];simp<;>omega) hnc w hS2).mono (fun e w2 h=>⟨(),h⟩)) (fun _=>?_)
  refine jN 8 ?_
  refine WL.bin (v:= .int .i64 (((W.length - U.length):Nat):Int)) rfl rfl rfl (fun w=>run_subK (i:=U.length) (k:=(W.length - U.length)) (s:=W.length) (by omega) (by omega) _ _ _ w) ?_
  refine jN 4 ?_
  refine WQ.back (P9,(W.drop (W.length - U.length)),(W.take (W.length - U.length)),U++S9) ?_ ?_ ?_ ?_
  ·exact ⟨by simp;omega,by simp;omega,by simp;omega,by rw [← heq,← List.append_assoc (W.take (W.length - U.length)),List.take_append_drop]⟩
  ·simp;omega
  ·have e3:(W.drop (W.length - U.length)).length=U.length:=by simp;omega
   have e4:(W.take (W.length - U.length)).length=W.length - U.length:=by simp
   dsimp only;rw [e3,e4];exact ⟨rfl,rfl,rfl,rfl,rfl,rfl,rfl,trivial⟩
  rfl
 have hie:U.length=W.length:=by simp at h20;omega
 refine jN 6 ?_
 refine WA.chunks (C':=[jW g n c 67 3 ((P9++(U++([]++(W++S9)))).flatMap prC)]) (fun w hS=>by have e:P9++(U++([]++(W++S9)))=P9++(U++(W++S9)):=(by simp);rw [e];exact hS) ?_
 refine jN 7 ?_
 refine WL.bin (v:= .int .i64 ((P9.length:Nat):Int)) rfl rfl rfl (fun w=>run_subK (i:=U.length) (k:=P9.length) (s:=m) (by omega) (by omega) _ _ _ w) ?_
 refine jN 7 ?_
 refine WL.callC (β:=Unit) (res:=fun _=> .tuple #[]) (cs:=fun _=>[jW g n c 67 3 ((P9++(W++([]++(U++S9)))).flatMap prC)]) (Cs:=[jW g n c 67 3 ((P9++(U++([]++(W++S9)))).flatMap prC)]) (O':=[g]) F.fun221 (fun d h=>by cases h;rfl) rfl (List.Perm.refl _) row_O1P row_O2P (fun w hS hS2=>(swrP_c P9 U [] W S9 g n c fv hf _ m U.length rfl (by first | omega | (simp<;>omega)) (by first | omega | (simp<;>omega)) (by first | omega | (simp<;>omega)) (by rw [← hnl9];simp<;>omega) hnc w hS2).mono (fun e w2 h=>⟨(),h⟩)) (fun _=>?_)
 refine jN 1 ?_
 refine WQ.fin (rs:=[]) rfl .nil (fun w hS=>?_)
 have e:P9++(W++([]++(U++S9)))=P++(Y++(X++S)):=by rw [← heq];rfl
 rw [e] at hS
 exact ⟨rfl,hS⟩
set_option maxRecDepth 100000 in
set_option maxHeartbeats 4000000 in
theorem symP_c (g n c kc:Nat) (us cap:List Value) (Q:PrV→Prop) (cmp:PrV→PrV→Int) (hw:Swo (ltC cmp)) (hkc:funB Tryz.prog kc=some true) (hnc:n≤1000000):∀ (N:Nat) (P X Y S:List PrV) (a m b:Nat) (ha:a=P.length) (hm:m=P.length+X.length) (hb:b=P.length+X.length+Y.length) (hN:X.length+Y.length≤N) (hx0:0<X.length) (hy0:0<Y.length) (hX:Srt (ltC cmp) X) (hY:Srt (ltC cmp) Y) (hn:(P++(X++(Y++S))).length=n) (hQx:∀ x∈X,Q x) (hQy:∀ y∈Y,Q y) (w:World) (hcmp:CmpOk kc us cap prC Q cmp w g) (hS0:St w [g] [jW g n c 67 3 ((P++(X++(Y++S))).flatMap prC)] w),
  Calls Tryz.prog 162 [.slice (some ⟨g,0,none⟩) n c,.int .i64 (a:Int),.int .i64 (m:Int),.int .i64 (b:Int),.func (.func kc) us.toArray cap.toArray].toArray w fun e w'=>e= .returned (.tuple #[])∧St w [g] [jW g n c 67 3 ((P++(mrg (ltC cmp) X Y++S)).flatMap prC)] w':=by
 intro N
 induction N with
 | zero=>intro P X Y S a m b ha hm hb hN hx0;omega
 | succ N hrec=>
 intro P X Y S a m b ha hm hb hN hx0 hy0 hX hY hn hQx hQy w hcmp hS0
 have hnl:P.length+X.length+Y.length+S.length=n:=by rw [← hn];simp;omega
 refine enter Tryz.func162 rfl Tryz.ntmps162 rfl (C:=[jW g n c 67 3 ((P++(X++(Y++S))).flatMap prC)]) hS0 ?_
 refine jN 8 ?_
 refine WL.bin (v:= .int .i64 ((X.length:Nat):Int)) rfl rfl rfl (fun w=>run_subK (i:=a) (k:=X.length) (s:=m) (by omega) (by omega) _ _ _ w) ?_
 refine jN 4 ?_
 refine WC.cond rfl (fun h28=>?_) (fun h28=>?_)
 ·have hx1:X.length=1:=by simp at h28;omega
  obtain ⟨x,rfl⟩:=List.length_eq_one_iff.1 hx1
  have hxQ:Q x:=hQx x (by simp)
  refine jN 18 ?_
  refine WC.loop (α:=Nat×Nat) (fun z=>z.1≤z.2∧z.2≤Y.length∧(∀ k y,k<z.1→Y[k]?=some y→ltC cmp y x=true)∧(∀ k y,z.2≤k→Y[k]?=some y→ltC cmp y x=false)) (fun z=>[(0,.slice (some ⟨g,0,none⟩) n c),(1,.int .i64 (a:Int)),(2,.int .i64 (m:Int)),(3,.int .i64 (b:Int)),(4,.func (.func kc) us.toArray cap.toArray),(10,.int .i64 ((m+z.1:Nat):Int)),(11,.int .i64 ((m+z.2:Nat):Int))]) (fun _=>[jW g n c 67 3 ((P++([x]++(Y++S))).flatMap prC)]) (fun z=>z.2 - z.1) ((0,Y.length)) ?_ ?_ ?_ ?_
  ·exact ⟨Nat.zero_le _,Nat.le_refl _,fun k y h=>by omega,fun k y h1 h2=>by (have:=(List.getElem?_eq_some_iff.1 h2).1;omega)⟩
  ·exact ⟨rfl,rfl,rfl,rfl,rfl,rfl,by (show some (Value.int .i64 (b:Int))=some (Value.int .i64 ((m+Y.length:Nat):Int));rw [show b=m+Y.length by omega]),trivial⟩
  ·rfl
  rintro ⟨s,e⟩ ⟨hse,hel,hlo,hhi⟩
  dsimp only at hse hel hlo hhi
  show WC _ _ _ _ _ _ _ [(0,.slice (some ⟨g,0,none⟩) n c),(1,.int .i64 (a:Int)),(2,.int .i64 (m:Int)),(3,.int .i64 (b:Int)),(4,.func (.func kc) us.toArray cap.toArray),(10,.int .i64 ((m+s:Nat):Int)),(11,.int .i64 ((m+e:Nat):Int))] [jW g n c 67 3 ((P++([x]++(Y++S))).flatMap prC)]
  refine jN 11 ?_
  refine WC.cond rfl (fun h33=>?_) (fun h33=>?_)
  ·have hlt:s<e:=by simp at h33;omega
   refine jN 10 ?_
   refine WL.bin (v:= .int .i64 (((m+s)+(m+e):Nat):Int)) rfl rfl rfl (fun w=>run_addN6 (by omega) (by omega) _ _ _ w) ?_
   refine jN 1 ?_
   refine WL.convert rfl rfl (v:= .int .u64 (((m+s)+(m+e):Nat):Int)) (fun w hS=>conv_iu (by omega) w) ?_
   refine jN 1 ?_
   refine WL.bin (v:= .int .u64 ((((m+s)+(m+e)) / 2:Nat):Int)) rfl rfl rfl (fun w=>run_shr1 (by omega) _ _ _ w) ?_
   refine jN 1 ?_
   refine WL.convert rfl rfl (v:= .int .i64 ((((m+s)+(m+e)) / 2:Nat):Int)) (fun w hS=>conv_ui (by omega) w) ?_
   obtain ⟨q,hq,hq1,hq2⟩:∃ q,((m+s)+(m+e)) / 2=m+q∧s≤q∧q<e:=⟨((m+s)+(m+e)) / 2 - m,by omega,by omega,by omega⟩
   rw [hq]
   obtain ⟨y,hy⟩:∃ y,Y[q]?=some y:=⟨_,List.getElem?_eq_getElem (by omega)⟩
   have hym:=List.mem_of_getElem? hy
   refine jN 5 ?_
   refine WC.draws [([9],fun w=>∀ jj v,(prC y)[jj]?=some v→w.cell? ⟨g,0+(m+q)*3+jj,none⟩=some v),([9],fun w=>∀ jj v,(prC x)[jj]?=some v→w.cell? ⟨g,0+(a)*3+jj,none⟩=some v)] (by kernel_rfl) (fun w hS=>facts_cons ((fun jj v hv=>by rw [Nat.zero_add];exact rowc_cells (hS.ok (jW g n c 67 3 ((P++([x]++(Y++S))).flatMap prC)) jM) (flat_at (cells:=prC) (sz:=3) (fun _ _=>rfl) (show (P++([x]++(Y++S)))[m+q]?=some y from at_seg (by simp;omega) hy) jj _ hv))) (facts_cons ((fun jj v hv=>by rw [Nat.zero_add];exact rowc_cells (hS.ok (jW g n c 67 3 ((P++([x]++(Y++S))).flatMap prC)) jM) (flat_at (cells:=prC) (sz:=3) (fun _ _=>rfl) (show (P++([x]++(Y++S)))[a]?=some x from at_seg1 (q:=0) (by omega) rfl) jj _ hv))) (facts_nil))) ?_
   refine jQ [0,1,2] ?_
   refine jT 3 rfl (Yl.indexAddr F.sl62 rfl rfl (by omega)) ?_
   refine jF 4 0 rfl rfl (Yl.loadN F.agg67 rfl rfl) ?_
   refine jQ [5,6] ?_
   refine jT 7 rfl (Yl.indexAddr F.sl62 rfl rfl (by omega)) ?_
   refine jF 8 1 rfl rfl (Yl.loadN F.agg67 rfl rfl) ?_
   refine jA 9 rfl ?_
   refine WL.callFC (β:=Unit) (res:=fun _=> .int .i64 (cmp y x)) (cs:=fun _=>[]) (Cs:=[]) (O':=[]) (us:=us) (cap:=cap) hkc (fun d h=>by cases h;rfl) rfl rfl (List.Perm.refl _) (by simp) (by simp) (fun w hS _=>(hcmp _ _ hS y x (hQy _ hym) hxQ).mono (fun e w2 h=>⟨(),h⟩)) (fun _=>?_)
   refine jG ?_
   refine jQ [10] ?_
   refine jD ?_
   refine jN 1 ?_
   refine WC.cond rfl (fun h50=>?_) (fun h50=>?_)
   ·refine jN 4 ?_
    refine WL.bin (v:= .int .i64 ((m+(q+1):Nat):Int)) rfl rfl rfl (fun w=>by rw [show m+(q+1)=(m+q)+1 by omega];exact run_addN6 (n:=1) (by omega) (by decide) _ _ _ w) ?_
    refine jN 4 ?_
    refine WQ.back (q+1,e) ?_ ?_ ?_ ?_
    ·exact ⟨by show q+1≤e;omega,hel,fun k y9 h1 h2=>hw.le_lt (srt_le hw hY h2 hy (by (dsimp only at h1);omega)) h50,hhi⟩
    ·show e - (q+1)<e - s;omega
    ·exact ⟨rfl,rfl,rfl,rfl,rfl,rfl,rfl,trivial⟩
    rfl
   refine jN 7 ?_
   refine WQ.back (s,q) ?_ ?_ ?_ ?_
   ·exact ⟨hq1,by show q≤Y.length;omega,hlo,fun k y9 h1 h2=>hw.tr x y y9 h50 (srt_le hw hY hy h2 h1)⟩
   ·show q - s<e - s;omega
   ·exact ⟨rfl,rfl,rfl,rfl,rfl,rfl,rfl,trivial⟩
   rfl
  have hee:e=s:=by simp at h33;omega
  subst hee
  refine jN 15 ?_
  refine WC.chunks (C':=[jW g n c 67 3 ((P++(Y.take 0++(x::(Y.drop 0++S)))).flatMap prC)]) (fun w hS=>by have e:P++(Y.take 0++(x::(Y.drop 0++S)))=P++([x]++(Y++S)):=(by simp);rw [e];exact hS) ?_
  refine WC.loop (α:=Nat) (fun d=>d≤e) (fun d=>[(0,.slice (some ⟨g,0,none⟩) n c),(1,.int .i64 (a:Int)),(2,.int .i64 (m:Int)),(3,.int .i64 (b:Int)),(4,.func (.func kc) us.toArray cap.toArray),(10,.int .i64 ((m+e:Nat):Int)),(13,.int .i64 ((a+d:Nat):Int))]) (fun d=>[jW g n c 67 3 ((P++(Y.take d++(x::(Y.drop d++S)))).flatMap prC)]) (fun d=>e - d) (0) ?_ ?_ ?_ ?_
  ·exact Nat.zero_le _
  ·exact ⟨rfl,rfl,rfl,rfl,rfl,rfl,rfl,trivial⟩
  ·rfl
  rintro d hd
  show WC _ _ _ _ _ _ _ [(0,.slice (some ⟨g,0,none⟩) n c),(1,.int .i64 (a:Int)),(2,.int .i64 (m:Int)),(3,.int .i64 (b:Int)),(4,.func (.func kc) us.toArray cap.toArray),(10,.int .i64 ((m+e:Nat):Int)),(13,.int .i64 ((a+d:Nat):Int))] [jW g n c 67 3 ((P++(Y.take d++(x::(Y.drop d++S)))).flatMap prC)]
  refine jN 8 ?_
  refine WL.bin (v:= .int .i64 (((m+e - 1):Nat):Int)) rfl rfl rfl (fun w=>run_subK (i:=1) (k:=(m+e - 1)) (s:=m+e) (by omega) (by omega) _ _ _ w) ?_
  refine jN 4 ?_
  refine WC.cond rfl (fun h58=>?_) (fun h58=>?_)
  ·have hde:d<e:=by simp at h58;omega
   obtain ⟨y,hy⟩:∃ y,Y[d]?=some y:=⟨_,List.getElem?_eq_getElem (by omega)⟩
   refine WC.chunks (C':=[jW g n c 67 3 (((P++Y.take d)++x::([]++y::(Y.drop (d+1)++S))).flatMap prC)]) (fun w hS=>by have e:(P++Y.take d)++x::([]++y::(Y.drop (d+1)++S))=P++(Y.take d++(x::(Y.drop d++S))):=(by rw [drop_at hy];simp);rw [e];exact hS) ?_
   have e1:(((P++Y.take d)++x::([]++y::(Y.drop (d+1)++S))).set (a+d) y).set (a+d+1) x=(P++Y.take d)++y::([]++x::(Y.drop (d+1)++S)):=swp (by simp<;>omega) (by simp<;>omega)
   have e2:(((P++Y.take d)++x::([]++y::(Y.drop (d+1)++S))).set (a+d+1) x).set (a+d) y=(P++Y.take d)++y::([]++x::(Y.drop (d+1)++S)):=swp' (by simp<;>omega) (by simp<;>omega)
   refine jN 4 ?_
   refine WC.cutPE (α:=Unit) (fun _=>[(0,.slice (some ⟨g,0,none⟩) n c),(1,.int .i64 (a:Int)),(2,.int .i64 (m:Int)),(3,.int .i64 (b:Int)),(4,.func (.func kc) us.toArray cap.toArray),(10,.int .i64 ((m+e:Nat):Int)),(13,.int .i64 ((a+d:Nat):Int))]) (fun _=>[jW g n c 67 3 (((P++Y.take d)++y::([]++x::(Y.drop (d+1)++S))).flatMap prC)]) (fun c a d v w h=>by cases d<;>exact h) (fun Q' hP hQ=>?_) (fun xE=>?_)
   ·refine WC.draws [([15,17],fun w=>∀ jj v,(prC y)[jj]?=some v→w.cell? ⟨g,0+(a+d+1)*3+jj,none⟩=some v),([15,17],fun w=>∀ jj v,(prC x)[jj]?=some v→w.cell? ⟨g,0+(a+d)*3+jj,none⟩=some v)] (by kernel_rfl) (fun w hS=>facts_cons ((fun jj v hv=>by rw [Nat.zero_add];exact rowc_cells (hS.ok (jW g n c 67 3 (((P++Y.take d)++x::([]++y::(Y.drop (d+1)++S))).flatMap prC)) jM) (flat_at (cells:=prC) (sz:=3) (fun _ _=>rfl) (show ((P++Y.take d)++x::([]++y::(Y.drop (d+1)++S)))[a+d+1]?=some y by rw [show (P++Y.take d)++x::([]++y::(Y.drop (d+1)++S))=((P++Y.take d)++[x])++y::(Y.drop (d+1)++S) by simp];exact at_app' (by simp<;>omega)) jj _ hv))) (facts_cons ((fun jj v hv=>by rw [Nat.zero_add];exact rowc_cells (hS.ok (jW g n c 67 3 (((P++Y.take d)++x::([]++y::(Y.drop (d+1)++S))).flatMap prC)) jM) (flat_at (cells:=prC) (sz:=3) (fun _ _=>rfl) (show ((P++Y.take d)++x::([]++y::(Y.drop (d+1)++S)))[a+d]?=some x from at_app' (by simp<;>omega)) jj _ hv))) (facts_nil))) ?_
    refine jQ [0,1,2,3] ?_
    refine jT 4 rfl (Yl.bin (v:= .int .i64 ((a+d+1:Nat):Int)) rfl rfl (fun w=>run_addN6 (n:=1) (by omega) (by decide) _ _ _ w)) ?_
    refine jQ [5,6] ?_
    refine jT 7 rfl (Yl.bin (v:= .int .i64 ((a+d+1:Nat):Int)) rfl rfl (fun w=>run_addN6 (n:=1) (by omega) (by decide) _ _ _ w)) ?_
    refine jT 8 rfl (Yl.indexAddr F.sl62 rfl rfl (by omega)) ?_
    refine jF 9 0 rfl rfl (Yl.loadN F.agg67 rfl rfl) ?_
    refine jQ [10,11] ?_
    refine jT 12 rfl (Yl.indexAddr F.sl62 rfl rfl (by omega)) ?_
    refine jF 13 1 rfl rfl (Yl.loadN F.agg67 rfl rfl) ?_
    refine jT 14 rfl (Yl.indexAddr F.sl62 rfl rfl (by omega)) ?_
    refine jA 15 rfl ?_
    refine WL.storeRow (n:=n) F.agg67 rfl rfl rfl jO (by omega) jU (by rw [Nat.zero_add];exact setN_flat (fun _=>rfl) (by simp<;>omega)) ?_
    refine jG ?_
    refine jT 16 rfl (Yl.indexAddr F.sl62 rfl rfl (by omega)) ?_
    refine jA 17 rfl ?_
    refine WL.storeRow (n:=n) F.agg67 rfl rfl rfl jO (by omega) jU (by rw [Nat.zero_add];exact setN_flat (fun _=>rfl) (by simp<;>omega)) ?_
    refine jG ?_
    refine jD ?_
    refine WQ.chunks (C':=[jW g n c 67 3 (((P++Y.take d)++y::([]++x::(Y.drop (d+1)++S))).flatMap prC)]) (fun w hS=>by first | (have h9:=hS;rw [e1] at h9;exact h9) | (have h9:=hS;rw [e2] at h9;exact h9)) ?_
    exact WQ.byCut (hQ ()) ⟨rfl,rfl,rfl,rfl,rfl,rfl,rfl,trivial⟩
   show WQ _ _ _ _ _ _ [(0,.slice (some ⟨g,0,none⟩) n c),(1,.int .i64 (a:Int)),(2,.int .i64 (m:Int)),(3,.int .i64 (b:Int)),(4,.func (.func kc) us.toArray cap.toArray),(10,.int .i64 ((m+e:Nat):Int)),(13,.int .i64 ((a+d:Nat):Int))] [jW g n c 67 3 (((P++Y.take d)++y::([]++x::(Y.drop (d+1)++S))).flatMap prC)]
   refine jN 10 ?_
   refine WQ.chunks (C':=[jW g n c 67 3 ((P++(Y.take (d+1)++(x::(Y.drop (d+1)++S)))).flatMap prC)]) (fun w hS=>by have e:P++(Y.take (d+1)++(x::(Y.drop (d+1)++S)))=(P++Y.take d)++y::([]++x::(Y.drop (d+1)++S)):=(by rw [take_at hy];simp);rw [e];exact hS) ?_
   refine WQ.back (d+1) ?_ ?_ ?_ ?_
   ·exact (by omega)
   ·omega
   ·exact ⟨rfl,rfl,rfl,rfl,rfl,rfl,rfl,trivial⟩
   rfl
  have hde:d=e:=by simp at h58;omega
  subst hde
  refine jN 7 ?_
  refine WQ.ret (rs:=[]) rfl .nil (fun w hS=>?_)
  have e:P++(Y.take d++(x::(Y.drop d++S)))=P++(mrg (ltC cmp) [x] Y++S):=by
   have h9:=mrg_one_l hw (x:=x) (Y1:=Y.take d) (Y2:=Y.drop d) (fun y hy=>by obtain ⟨k,hk,hky⟩:=mem_takeI hy;exact hlo k y hk hky) (fun y hy=>hhi d y (Nat.le_refl _) (head_drop hy))
   rw [List.take_append_drop] at h9
   rw [h9];simp
  rw [e] at hS
  exact ⟨rfl,hS⟩
 have hx2:X.length≠1:=by intro e;rw [e] at h28;simp at h28
 refine jN 10 ?_
 refine WL.bin (v:= .int .i64 ((Y.length:Nat):Int)) rfl rfl rfl (fun w=>run_subK (i:=m) (k:=Y.length) (s:=b) (by omega) (by omega) _ _ _ w) ?_
 refine jN 4 ?_
 refine WC.cond rfl (fun h80=>?_) (fun h80=>?_)
 ·have hy1:Y.length=1:=by simp at h80;omega
  obtain ⟨y,rfl⟩:=List.length_eq_one_iff.1 hy1
  have hyQ:Q y:=hQy y (by simp)
  refine jN 18 ?_
  refine WC.loop (α:=Nat×Nat) (fun z=>z.1≤z.2∧z.2≤X.length∧(∀ k x,k<z.1→X[k]?=some x→ltC cmp y x=false)∧(∀ k x,z.2≤k→X[k]?=some x→ltC cmp y x=true)) (fun z=>[(0,.slice (some ⟨g,0,none⟩) n c),(1,.int .i64 (a:Int)),(2,.int .i64 (m:Int)),(3,.int .i64 (b:Int)),(4,.func (.func kc) us.toArray cap.toArray),(14,.int .i64 ((a+z.1:Nat):Int)),(15,.int .i64 ((a+z.2:Nat):Int))]) (fun _=>[jW g n c 67 3 ((P++(X++([y]++S))).flatMap prC)]) (fun z=>z.2 - z.1) ((0,X.length)) ?_ ?_ ?_ ?_
  ·exact ⟨Nat.zero_le _,Nat.le_refl _,fun k y h=>by omega,fun k y h1 h2=>by (have:=(List.getElem?_eq_some_iff.1 h2).1;omega)⟩
  ·exact ⟨rfl,rfl,rfl,rfl,rfl,rfl,by (show some (Value.int .i64 (m:Int))=some (Value.int .i64 ((a+X.length:Nat):Int));rw [show m=a+X.length by omega]),trivial⟩
  ·rfl
  rintro ⟨s,e⟩ ⟨hse,hel,hlo,hhi⟩
  dsimp only at hse hel hlo hhi
  show WC _ _ _ _ _ _ _ [(0,.slice (some ⟨g,0,none⟩) n c),(1,.int .i64 (a:Int)),(2,.int .i64 (m:Int)),(3,.int .i64 (b:Int)),(4,.func (.func kc) us.toArray cap.toArray),(14,.int .i64 ((a+s:Nat):Int)),(15,.int .i64 ((a+e:Nat):Int))] [jW g n c 67 3 ((P++(X++([y]++S))).flatMap prC)]
  refine jN 11 ?_
  refine WC.cond rfl (fun h85=>?_) (fun h85=>?_)
  ·have hlt:s<e:=by simp at h85;omega
   refine jN 10 ?_
   refine WL.bin (v:= .int .i64 (((a+s)+(a+e):Nat):Int)) rfl rfl rfl (fun w=>run_addN6 (by omega) (by omega) _ _ _ w) ?_
   refine jN 1 ?_
   refine WL.convert rfl rfl (v:= .int .u64 (((a+s)+(a+e):Nat):Int)) (fun w hS=>conv_iu (by omega) w) ?_
   refine jN 1 ?_
   refine WL.bin (v:= .int .u64 ((((a+s)+(a+e)) / 2:Nat):Int)) rfl rfl rfl (fun w=>run_shr1 (by omega) _ _ _ w) ?_
   refine jN 1 ?_
   refine WL.convert rfl rfl (v:= .int .i64 ((((a+s)+(a+e)) / 2:Nat):Int)) (fun w hS=>conv_ui (by omega) w) ?_
   obtain ⟨q,hq,hq1,hq2⟩:∃ q,((a+s)+(a+e)) / 2=a+q∧s≤q∧q<e:=⟨((a+s)+(a+e)) / 2 - a,by omega,by omega,by omega⟩
   rw [hq]
   obtain ⟨x,hx⟩:∃ x,X[q]?=some x:=⟨_,List.getElem?_eq_getElem (by omega)⟩
   have hxm:=List.mem_of_getElem? hx
   refine jN 5 ?_
   refine WC.draws [([9],fun w=>∀ jj v,(prC y)[jj]?=some v→w.cell? ⟨g,0+(m)*3+jj,none⟩=some v),([9],fun w=>∀ jj v,(prC x)[jj]?=some v→w.cell? ⟨g,0+(a+q)*3+jj,none⟩=some v)] (by kernel_rfl) (fun w hS=>facts_cons ((fun jj v hv=>by rw [Nat.zero_add];exact rowc_cells (hS.ok (jW g n c 67 3 ((P++(X++([y]++S))).flatMap prC)) jM) (flat_at (cells:=prC) (sz:=3) (fun _ _=>rfl) (show (P++(X++([y]++S)))[m]?=some y from at_seg (q:=0) (by omega) rfl) jj _ hv))) (facts_cons ((fun jj v hv=>by rw [Nat.zero_add];exact rowc_cells (hS.ok (jW g n c 67 3 ((P++(X++([y]++S))).flatMap prC)) jM) (flat_at (cells:=prC) (sz:=3) (fun _ _=>rfl) (show (P++(X++([y]++S)))[a+q]?=some x from at_seg1 (by omega) hx) jj _ hv))) (facts_nil))) ?_
   refine jQ [0,1,2] ?_
   refine jT 3 rfl (Yl.indexAddr F.sl62 rfl rfl (by omega)) ?_
   refine jF 4 0 rfl rfl (Yl.loadN F.agg67 rfl rfl) ?_
   refine jQ [5,6] ?_
   refine jT 7 rfl (Yl.indexAddr F.sl62 rfl rfl (by omega)) ?_
   refine jF 8 1 rfl rfl (Yl.loadN F.agg67 rfl rfl) ?_
   refine jA 9 rfl ?_
   refine WL.callFC (β:=Unit) (res:=fun _=> .int .i64 (cmp y x)) (cs:=fun _=>[]) (Cs:=[]) (O':=[]) (us:=us) (cap:=cap) hkc (fun d h=>by cases h;rfl) rfl rfl (List.Perm.refl _) (by simp) (by simp) (fun w hS _=>(hcmp _ _ hS y x hyQ (hQx _ hxm)).mono (fun e w2 h=>⟨(),h⟩)) (fun _=>?_)
   refine jG ?_
   refine jQ [10,11] ?_
   refine jD ?_
   refine jN 1 ?_
   refine WC.cond rfl (fun h103=>?_) (fun h103=>?_)
   ·have hge:ltC cmp y x=false:=by simpa using h103
    refine jN 4 ?_
    refine WL.bin (v:= .int .i64 ((a+(q+1):Nat):Int)) rfl rfl rfl (fun w=>by rw [show a+(q+1)=(a+q)+1 by omega];exact run_addN6 (n:=1) (by omega) (by decide) _ _ _ w) ?_
    refine jN 4 ?_
    refine WQ.back (q+1,e) ?_ ?_ ?_ ?_
    ·exact ⟨by show q+1≤e;omega,hel,fun k x9 h1 h2=>hw.tr x9 x y (srt_le hw hX h2 hx (by (dsimp only at h1);omega)) hge,hhi⟩
    ·show e - (q+1)<e - s;omega
    ·exact ⟨rfl,rfl,rfl,rfl,rfl,rfl,rfl,trivial⟩
    rfl
   have hge:ltC cmp y x=true:=by simpa using h103
   refine jN 7 ?_
   refine WQ.back (s,q) ?_ ?_ ?_ ?_
   ·exact ⟨hq1,by show q≤X.length;omega,hlo,fun k x9 h1 h2=>hw.lt_le hge (srt_le hw hX hx h2 h1)⟩
   ·show q - s<e - s;omega
   ·exact ⟨rfl,rfl,rfl,rfl,rfl,rfl,rfl,trivial⟩
   rfl
  have hee:e=s:=by simp at h85;omega
  subst hee
  refine jN 15 ?_
  refine WC.chunks (C':=[jW g n c 67 3 ((P++(X.take X.length++(y::(X.drop X.length++S)))).flatMap prC)]) (fun w hS=>by have e:P++(X.take X.length++(y::(X.drop X.length++S)))=P++(X++([y]++S)):=(by simp);rw [e];exact hS) ?_
  refine WC.loop (α:=Nat) (fun d=>e≤d∧d≤X.length) (fun d=>[(0,.slice (some ⟨g,0,none⟩) n c),(1,.int .i64 (a:Int)),(2,.int .i64 (m:Int)),(3,.int .i64 (b:Int)),(4,.func (.func kc) us.toArray cap.toArray),(14,.int .i64 ((a+e:Nat):Int)),(17,.int .i64 ((a+d:Nat):Int))]) (fun d=>[jW g n c 67 3 ((P++(X.take d++(y::(X.drop d++S)))).flatMap prC)]) (fun d=>d) (X.length) ?_ ?_ ?_ ?_
  ·exact ⟨hel,Nat.le_refl _⟩
  ·exact ⟨rfl,rfl,rfl,rfl,rfl,rfl,by (show some (Value.int .i64 (m:Int))=some (Value.int .i64 ((a+X.length:Nat):Int));rw [show m=a+X.length by omega]),trivial⟩
  ·rfl
  rintro d ⟨hd,hd2⟩
  show WC _ _ _ _ _ _ _ [(0,.slice (some ⟨g,0,none⟩) n c),(1,.int .i64 (a:Int)),(2,.int .i64 (m:Int)),(3,.int .i64 (b:Int)),(4,.func (.func kc) us.toArray cap.toArray),(14,.int .i64 ((a+e:Nat):Int)),(17,.int .i64 ((a+d:Nat):Int))] [jW g n c 67 3 ((P++(X.take d++(y::(X.drop d++S)))).flatMap prC)]
  refine jN 11 ?_
  refine WC.cond rfl (fun h110=>?_) (fun h110=>?_)
  ·have hde:e<d:=by simp at h110;omega
   obtain ⟨d,rfl⟩:∃ k,d=k+1:=⟨d - 1,by omega⟩
   obtain ⟨x,hx⟩:∃ x,X[d]?=some x:=⟨_,List.getElem?_eq_getElem (by omega)⟩
   refine WC.chunks (C':=[jW g n c 67 3 (((P++X.take d)++x::([]++y::(X.drop (d+1)++S))).flatMap prC)]) (fun w hS=>by have e:(P++X.take d)++x::([]++y::(X.drop (d+1)++S))=P++(X.take (d+1)++(y::(X.drop (d+1)++S))):=(by rw [take_at hx];simp);rw [e];exact hS) ?_
   have e1:(((P++X.take d)++x::([]++y::(X.drop (d+1)++S))).set (a+(d+1)) x).set (a+d) y=(P++X.take d)++y::([]++x::(X.drop (d+1)++S)):=swp' (by simp<;>omega) (by simp<;>omega)
   have e2:(((P++X.take d)++x::([]++y::(X.drop (d+1)++S))).set (a+d) y).set (a+(d+1)) x=(P++X.take d)++y::([]++x::(X.drop (d+1)++S)):=swp (by simp<;>omega) (by simp<;>omega)
   refine jN 4 ?_
   refine WC.cutPE (α:=Unit) (fun _=>[(0,.slice (some ⟨g,0,none⟩) n c),(1,.int .i64 (a:Int)),(2,.int .i64 (m:Int)),(3,.int .i64 (b:Int)),(4,.func (.func kc) us.toArray cap.toArray),(14,.int .i64 ((a+e:Nat):Int)),(17,.int .i64 ((a+(d+1):Nat):Int))]) (fun _=>[jW g n c 67 3 (((P++X.take d)++y::([]++x::(X.drop (d+1)++S))).flatMap prC)]) (fun c a d v w h=>by cases d<;>exact h) (fun Q' hP hQ=>?_) (fun xE=>?_)
   ·refine WC.draws [([15,17],fun w=>∀ jj v,(prC x)[jj]?=some v→w.cell? ⟨g,0+(a+d)*3+jj,none⟩=some v),([15,17],fun w=>∀ jj v,(prC y)[jj]?=some v→w.cell? ⟨g,0+(a+(d+1))*3+jj,none⟩=some v)] (by kernel_rfl) (fun w hS=>facts_cons ((fun jj v hv=>by rw [Nat.zero_add];exact rowc_cells (hS.ok (jW g n c 67 3 (((P++X.take d)++x::([]++y::(X.drop (d+1)++S))).flatMap prC)) jM) (flat_at (cells:=prC) (sz:=3) (fun _ _=>rfl) (show ((P++X.take d)++x::([]++y::(X.drop (d+1)++S)))[a+d]?=some x from at_app' (by simp<;>omega)) jj _ hv))) (facts_cons ((fun jj v hv=>by rw [Nat.zero_add];exact rowc_cells (hS.ok (jW g n c 67 3 (((P++X.take d)++x::([]++y::(X.drop (d+1)++S))).flatMap prC)) jM) (flat_at (cells:=prC) (sz:=3) (fun _ _=>rfl) (show ((P++X.take d)++x::([]++y::(X.drop (d+1)++S)))[a+(d+1)]?=some y by rw [show (P++X.take d)++x::([]++y::(X.drop (d+1)++S))=((P++X.take d)++[x])++y::(X.drop (d+1)++S) by simp];exact at_app' (by simp<;>omega)) jj _ hv))) (facts_nil))) ?_
    refine jQ [0,1,2,3] ?_
    refine jT 4 rfl (Yl.bin (v:= .int .i64 ((a+d:Nat):Int)) rfl rfl (fun w=>run_subK (i:=1) (k:=a+d) (s:=a+(d+1)) (by omega) (by omega) _ _ _ w)) ?_
    refine jQ [5,6] ?_
    refine jT 7 rfl (Yl.bin (v:= .int .i64 ((a+d:Nat):Int)) rfl rfl (fun w=>run_subK (i:=1) (k:=a+d) (s:=a+(d+1)) (by omega) (by omega) _ _ _ w)) ?_
    refine jT 8 rfl (Yl.indexAddr F.sl62 rfl rfl (by omega)) ?_
    refine jF 9 0 rfl rfl (Yl.loadN F.agg67 rfl rfl) ?_
    refine jQ [10,11] ?_
    refine jT 12 rfl (Yl.indexAddr F.sl62 rfl rfl (by omega)) ?_
    refine jF 13 1 rfl rfl (Yl.loadN F.agg67 rfl rfl) ?_
    refine jT 14 rfl (Yl.indexAddr F.sl62 rfl rfl (by omega)) ?_
    refine jA 15 rfl ?_
    refine WL.storeRow (n:=n) F.agg67 rfl rfl rfl jO (by omega) jU (by rw [Nat.zero_add];exact setN_flat (fun _=>rfl) (by simp<;>omega)) ?_
    refine jG ?_
    refine jT 16 rfl (Yl.indexAddr F.sl62 rfl rfl (by omega)) ?_
    refine jA 17 rfl ?_
    refine WL.storeRow (n:=n) F.agg67 rfl rfl rfl jO (by omega) jU (by rw [Nat.zero_add];exact setN_flat (fun _=>rfl) (by simp<;>omega)) ?_
    refine jG ?_
    refine jD ?_
    refine WQ.chunks (C':=[jW g n c 67 3 (((P++X.take d)++y::([]++x::(X.drop (d+1)++S))).flatMap prC)]) (fun w hS=>by first | (have h9:=hS;rw [e1] at h9;exact h9) | (have h9:=hS;rw [e2] at h9;exact h9)) ?_
    exact WQ.byCut (hQ ()) ⟨rfl,rfl,rfl,rfl,rfl,rfl,rfl,trivial⟩
   show WQ _ _ _ _ _ _ [(0,.slice (some ⟨g,0,none⟩) n c),(1,.int .i64 (a:Int)),(2,.int .i64 (m:Int)),(3,.int .i64 (b:Int)),(4,.func (.func kc) us.toArray cap.toArray),(14,.int .i64 ((a+e:Nat):Int)),(17,.int .i64 ((a+(d+1):Nat):Int))] [jW g n c 67 3 (((P++X.take d)++y::([]++x::(X.drop (d+1)++S))).flatMap prC)]
   refine jN 6 ?_
   refine WL.bin (v:= .int .i64 ((a+d:Nat):Int)) rfl rfl rfl (fun w=>run_subK (i:=1) (k:=a+d) (s:=a+(d+1)) (by omega) (by omega) _ _ _ w) ?_
   refine jN 3 ?_
   refine WQ.chunks (C':=[jW g n c 67 3 ((P++(X.take d++(y::(X.drop d++S)))).flatMap prC)]) (fun w hS=>by have e:P++(X.take d++(y::(X.drop d++S)))=(P++X.take d)++y::([]++x::(X.drop (d+1)++S)):=(by rw [drop_at hx];simp);rw [e];exact hS) ?_
   refine WQ.back d ?_ ?_ ?_ ?_
   ·exact ⟨by omega,by omega⟩
   ·omega
   ·exact ⟨rfl,rfl,rfl,rfl,rfl,rfl,rfl,trivial⟩
   rfl
  have hde:d=e:=by simp at h110;omega
  subst hde
  refine jN 7 ?_
  refine WQ.ret (rs:=[]) rfl .nil (fun w hS=>?_)
  have e:P++(X.take d++(y::(X.drop d++S)))=P++(mrg (ltC cmp) X [y]++S):=by
   have h9:=mrg_one_r hw (y:=y) (X1:=X.take d) (X2:=X.drop d) (fun x hx=>by obtain ⟨k,hk,hkx⟩:=mem_takeI hx;exact hlo k x hk hkx) (fun x hx=>hhi d x (Nat.le_refl _) (head_drop hx))
   rw [List.take_append_drop] at h9
   rw [h9];simp
  rw [e] at hS
  exact ⟨rfl,hS⟩
 have hy2:Y.length≠1:=by intro e;rw [e] at h80;simp at h80
 refine jN 9 ?_
 refine WL.bin (v:= .int .i64 (((a)+(b):Nat):Int)) rfl rfl rfl (fun w=>run_addN6 (by omega) (by omega) _ _ _ w) ?_
 refine jN 1 ?_
 refine WL.convert rfl rfl (v:= .int .u64 (((a)+(b):Nat):Int)) (fun w hS=>conv_iu (by omega) w) ?_
 refine jN 1 ?_
 refine WL.bin (v:= .int .u64 ((((a)+(b)) / 2:Nat):Int)) rfl rfl rfl (fun w=>run_shr1 (by omega) _ _ _ w) ?_
 refine jN 1 ?_
 refine WL.convert rfl rfl (v:= .int .i64 ((((a)+(b)) / 2:Nat):Int)) (fun w hS=>conv_ui (by omega) w) ?_
 obtain ⟨mid,hmid⟩:∃ mid,(a+b) / 2=mid:=⟨_,rfl⟩
 rw [hmid]
 refine jN 11 ?_
 refine WL.bin (v:= .int .i64 ((mid+m:Nat):Int)) rfl rfl rfl (fun w=>run_addN6 (by omega) (by omega) _ _ _ w) ?_
 refine jN 6 ?_
 obtain ⟨s0,r0,hsT,hsF⟩:∃ s0 r0:Nat,(mid<m→s0=mid+m - b∧mid=r0)∧(¬ mid<m→a=s0∧m=r0):=by
  by_cases hmm:mid<m
  ·exact ⟨mid+m - b,mid,fun _=>⟨rfl,rfl⟩,fun h=>absurd hmm h⟩
  ·exact ⟨a,m,fun h=>absurd h hmm,fun _=>⟨rfl,rfl⟩⟩
 refine jN 17 ?_
 refine WC.cutF [(0,.slice (some ⟨g,0,none⟩) n c),(1,.int .i64 (a:Int)),(2,.int .i64 (m:Int)),(3,.int .i64 (b:Int)),(4,.func (.func kc) us.toArray cap.toArray),(18,.int .i64 ((mid:Nat):Int)),(19,.int .i64 ((mid+m:Nat):Int)),(20,.int .i64 ((s0:Nat):Int)),(21,.int .i64 ((r0:Nat):Int))] (fun Q' hQ=>?_) ?_
 ·refine WC.cond rfl (fun h140=>?_) (fun h140=>?_)
  ·have hmm:mid<m:=by simp at h140;omega
   obtain ⟨hs1,hs2⟩:=hsT hmm
   subst hs1 hs2
   refine jN 7 ?_
   refine WL.bin (v:= .int .i64 (((mid+m - b):Nat):Int)) rfl rfl rfl (fun w=>run_subK (i:=b) (k:=(mid+m - b)) (s:=mid+m) (by omega) (by omega) _ _ _ w) ?_
   refine jN 10 ?_
   exact WQ.byCut hQ ⟨rfl,rfl,rfl,rfl,rfl,rfl,rfl,rfl,rfl,trivial⟩
  have hmm: ¬ mid<m:=by simp at h140;omega
  obtain ⟨hs1,hs2⟩:=hsF hmm
  subst hs1 hs2
  refine jN 14 ?_
  exact WQ.byCut hQ ⟨rfl,rfl,rfl,rfl,rfl,rfl,rfl,rfl,rfl,trivial⟩
 show WQ _ _ _ _ _ _ [(0,.slice (some ⟨g,0,none⟩) n c),(1,.int .i64 (a:Int)),(2,.int .i64 (m:Int)),(3,.int .i64 (b:Int)),(4,.func (.func kc) us.toArray cap.toArray),(18,.int .i64 ((mid:Nat):Int)),(19,.int .i64 ((mid+m:Nat):Int)),(20,.int .i64 ((s0:Nat):Int)),(21,.int .i64 ((r0:Nat):Int))] [jW g n c 67 3 ((P++(X++(Y++S))).flatMap prC)]
 have hs0a:a≤s0∧s0≤r0∧r0≤m∧r0≤mid:=by
  by_cases hmm:mid<m
  ·have:=hsT hmm;omega
  ·have:=hsF hmm;omega
 refine jN 6 ?_
 refine WL.bin (v:= .int .i64 (((mid+m - 1):Nat):Int)) rfl rfl rfl (fun w=>run_subK (i:=1) (k:=(mid+m - 1)) (s:=mid+m) (by omega) (by omega) _ _ _ w) ?_
 refine jN 6 ?_
 refine WC.loop (α:=Nat×Nat) (fun z=>s0≤z.1∧z.1≤z.2∧z.2≤r0∧(z.1=s0∨(∃ x y,X[(z.1 - 1) - a]?=some x∧Y[mid+m - 1 - (z.1 - 1) - m]?=some y∧ltC cmp y x=false))∧(z.2=r0∨(∃ x y,X[z.2 - a]?=some x∧Y[mid+m - 1 - z.2 - m]?=some y∧ltC cmp y x=true))) (fun z=>[(0,.slice (some ⟨g,0,none⟩) n c),(1,.int .i64 (a:Int)),(2,.int .i64 (m:Int)),(3,.int .i64 (b:Int)),(4,.func (.func kc) us.toArray cap.toArray),(18,.int .i64 ((mid:Nat):Int)),(19,.int .i64 ((mid+m:Nat):Int)),(20,.int .i64 ((z.1:Nat):Int)),(21,.int .i64 ((z.2:Nat):Int)),(22,.int .i64 ((mid+m - 1:Nat):Int))]) (fun _=>[jW g n c 67 3 ((P++(X++(Y++S))).flatMap prC)]) (fun z=>z.2 - z.1) ((s0,r0)) ?_ ?_ ?_ ?_
 ·exact ⟨Nat.le_refl _,hs0a.2.1,Nat.le_refl _,.inl rfl,.inl rfl⟩
 ·exact ⟨rfl,rfl,rfl,rfl,rfl,rfl,rfl,rfl,rfl,rfl,trivial⟩
 ·rfl
 rintro ⟨s,e⟩ ⟨hs1,hs2,hs3,hlo,hhi⟩
 dsimp only at hs1 hs2 hs3 hlo hhi
 show WC _ _ _ _ _ _ _ [(0,.slice (some ⟨g,0,none⟩) n c),(1,.int .i64 (a:Int)),(2,.int .i64 (m:Int)),(3,.int .i64 (b:Int)),(4,.func (.func kc) us.toArray cap.toArray),(18,.int .i64 ((mid:Nat):Int)),(19,.int .i64 ((mid+m:Nat):Int)),(20,.int .i64 ((s:Nat):Int)),(21,.int .i64 ((e:Nat):Int)),(22,.int .i64 ((mid+m - 1:Nat):Int))] [jW g n c 67 3 ((P++(X++(Y++S))).flatMap prC)]
 refine jN 11 ?_
 refine WC.cond rfl (fun h151=>?_) (fun h151=>?_)
 ·have hlt:s<e:=by simp at h151;omega
  refine jN 10 ?_
  refine WL.bin (v:= .int .i64 (((s)+(e):Nat):Int)) rfl rfl rfl (fun w=>run_addN6 (by omega) (by omega) _ _ _ w) ?_
  refine jN 1 ?_
  refine WL.convert rfl rfl (v:= .int .u64 (((s)+(e):Nat):Int)) (fun w hS=>conv_iu (by omega) w) ?_
  refine jN 1 ?_
  refine WL.bin (v:= .int .u64 ((((s)+(e)) / 2:Nat):Int)) rfl rfl rfl (fun w=>run_shr1 (by omega) _ _ _ w) ?_
  refine jN 1 ?_
  refine WL.convert rfl rfl (v:= .int .i64 ((((s)+(e)) / 2:Nat):Int)) (fun w hS=>conv_ui (by omega) w) ?_
  obtain ⟨q,hq,hq1,hq2⟩:∃ q,(s+e) / 2=q∧s≤q∧q<e:=⟨(s+e) / 2,rfl,by omega,by omega⟩
  rw [hq]
  have hqm:q<mid∧q<m∧a≤q:=by omega
  have hqy:m≤mid+m - 1 - q∧mid+m - 1 - q - m<Y.length:=by
   by_cases hmm:mid<m
   ·have:=hsT hmm;omega
   ·have:=hsF hmm;omega
  obtain ⟨x,hx⟩:∃ x,X[q - a]?=some x:=⟨_,List.getElem?_eq_getElem (by omega)⟩
  obtain ⟨y,hy⟩:∃ y,Y[mid+m - 1 - q - m]?=some y:=⟨_,List.getElem?_eq_getElem hqy.2⟩
  have hxm:=List.mem_of_getElem? hx
  have hym:=List.mem_of_getElem? hy
  refine jN 5 ?_
  refine WC.draws [([11],fun w=>∀ jj v,(prC y)[jj]?=some v→w.cell? ⟨g,0+(mid+m - 1 - q)*3+jj,none⟩=some v),([11],fun w=>∀ jj v,(prC x)[jj]?=some v→w.cell? ⟨g,0+(q)*3+jj,none⟩=some v)] (by kernel_rfl) (fun w hS=>facts_cons ((fun jj v hv=>by rw [Nat.zero_add];exact rowc_cells (hS.ok (jW g n c 67 3 ((P++(X++(Y++S))).flatMap prC)) jM) (flat_at (cells:=prC) (sz:=3) (fun _ _=>rfl) (show (P++(X++(Y++S)))[mid+m - 1 - q]?=some y from at_seg (by omega) hy) jj _ hv))) (facts_cons ((fun jj v hv=>by rw [Nat.zero_add];exact rowc_cells (hS.ok (jW g n c 67 3 ((P++(X++(Y++S))).flatMap prC)) jM) (flat_at (cells:=prC) (sz:=3) (fun _ _=>rfl) (show (P++(X++(Y++S)))[q]?=some x from at_seg1 (by omega) hx) jj _ hv))) (facts_nil))) ?_
  refine jQ [0,1,2,3] ?_
  refine jT 4 rfl (Yl.bin (v:= .int .i64 (((mid+m - 1 - q):Nat):Int)) rfl rfl (fun w=>run_subK (i:=q) (k:=(mid+m - 1 - q)) (s:=mid+m - 1) (by omega) (by omega) _ _ _ w)) ?_
  refine jT 5 rfl (Yl.indexAddr F.sl62 rfl rfl (by omega)) ?_
  refine jF 6 0 rfl rfl (Yl.loadN F.agg67 rfl rfl) ?_
  refine jQ [7,8] ?_
  refine jT 9 rfl (Yl.indexAddr F.sl62 rfl rfl (by omega)) ?_
  refine jF 10 1 rfl rfl (Yl.loadN F.agg67 rfl rfl) ?_
  refine jA 11 rfl ?_
  refine WL.callFC (β:=Unit) (res:=fun _=> .int .i64 (cmp y x)) (cs:=fun _=>[]) (Cs:=[]) (O':=[]) (us:=us) (cap:=cap) hkc (fun d h=>by cases h;rfl) rfl rfl (List.Perm.refl _) (by simp) (by simp) (fun w hS _=>(hcmp _ _ hS y x (hQy _ hym) (hQx _ hxm)).mono (fun e w2 h=>⟨(),h⟩)) (fun _=>?_)
  refine jG ?_
  refine jQ [12,13] ?_
  refine jD ?_
  refine jN 1 ?_
  refine WC.cond rfl (fun h171=>?_) (fun h171=>?_)
  ·have hge:ltC cmp y x=false:=by simpa using h171
   refine jN 4 ?_
   refine WL.bin (v:= .int .i64 ((q+1:Nat):Int)) rfl rfl rfl (fun w=>run_addN6 (n:=1) (by omega) (by decide) _ _ _ w) ?_
   refine jN 4 ?_
   refine WQ.back (q+1,e) ?_ ?_ ?_ ?_
   ·exact ⟨by show s0≤q+1;omega,by show q+1≤e;omega,hs3,.inr ⟨x,y,hx,hy,hge⟩,hhi⟩
   ·show e - (q+1)<e - s;omega
   ·exact ⟨rfl,rfl,rfl,rfl,rfl,rfl,rfl,rfl,rfl,rfl,trivial⟩
   rfl
  have hge:ltC cmp y x=true:=by simpa using h171
  refine jN 7 ?_
  refine WQ.back (s,q) ?_ ?_ ?_ ?_
  ·exact ⟨hs1,hq1,by show q≤r0;omega,hlo,.inr ⟨x,y,hx,hy,hge⟩⟩
  ·show q - s<e - s;omega
  ·exact ⟨rfl,rfl,rfl,rfl,rfl,rfl,rfl,rfl,rfl,rfl,trivial⟩
  rfl
 have hee:e=s:=by simp at h151;omega
 subst hee
 refine jN 7 ?_
 obtain ⟨en,hen⟩:∃ en,en=mid+m - e:=⟨_,rfl⟩
 have hbb:m≤en∧en≤b:=by
  by_cases hmm:mid<m
  ·have:=hsT hmm;omega
  ·have:=hsF hmm;omega
 have hsp:=sym_split hw (X:=X) (Y:=Y) (s:=e - a) (e:=en - m) hX hY ?_ ?_
 rotate_left 1
 ·rcases hlo with h9 | ⟨x,y,h1,h2,h3⟩
  ·by_cases hmm:mid<m
   ·exact .inr (.inl (by have:=hsT hmm;omega))
   exact .inl (by have:=hsF hmm;omega)
  by_cases h0:e - a=0
  ·exact .inl h0
  by_cases h00:Y.length≤en - m
  ·exact .inr (.inl h00)
  exact .inr (.inr ⟨x,y,by rw [show e - a - 1=e - 1 - a by omega];exact h1,by rw [show en - m=mid+m - 1 - (e - 1) - m by omega];exact h2,h3⟩)
 ·rcases hhi with h9 | ⟨x,y,h1,h2,h3⟩
  ·by_cases hmm:mid<m
   ·exact .inl (by have:=hsT hmm;omega)
   exact .inr (.inl (by have:=hsF hmm;omega))
  by_cases h0:en - m=0
  ·exact .inl h0
  exact .inr (.inr ⟨x,y,h1,by rw [show en - m - 1=mid+m - 1 - e - m by omega];exact h2,h3⟩)
 have x1l:(X.take (e - a)).length=e - a:=by rw [List.length_take];omega
 have x2l:(X.drop (e - a)).length=m - e:=by rw [List.length_drop];omega
 have y1l:(Y.take (en - m)).length=en - m:=by rw [List.length_take];omega
 have y2l:(Y.drop (en - m)).length=b - en:=by rw [List.length_drop];omega
 have e9: ¬ (e<m∧m<en)→P++((X.take (e - a))++((Y.take (en - m))++((X.drop (e - a))++((Y.drop (en - m))++S))))=P++(X++(Y++S)):=fun hn9=>by
  have h8:(X.drop (e - a))++(Y.take (en - m))=(Y.take (en - m))++(X.drop (e - a)):=by
   by_cases hm9:e<m
   ·rw [List.eq_nil_of_length_eq_zero (l:=(Y.take (en - m))) (by omega)];simp
   ·rw [List.eq_nil_of_length_eq_zero (l:=(X.drop (e - a))) (by omega)];simp
  rw [← List.append_assoc (Y.take (en - m)) (X.drop (e - a)),← h8,List.append_assoc,← List.append_assoc (X.take (e - a)) (X.drop (e - a)),List.take_append_drop,← List.append_assoc (Y.take (en - m)) (Y.drop (en - m)),List.take_append_drop]
 have e7: ¬ (a<e∧e<mid)→P++(mrg (ltC cmp) (X.take (e - a)) (Y.take (en - m))++((X.drop (e - a))++((Y.drop (en - m))++S)))=P++((X.take (e - a))++((Y.take (en - m))++((X.drop (e - a))++((Y.drop (en - m))++S)))):=fun hn9=>by
  have h8:mrg (ltC cmp) (X.take (e - a)) (Y.take (en - m))=(X.take (e - a))++(Y.take (en - m)):=by
   by_cases hm9:a<e
   ·rw [List.eq_nil_of_length_eq_zero (l:=(Y.take (en - m))) (by omega),mrg_nil,List.append_nil]
   ·rw [List.eq_nil_of_length_eq_zero (l:=(X.take (e - a))) (by omega),nil_mrg,List.nil_append]
  rw [h8,List.append_assoc]
 have e6: ¬ (mid<en∧en<b)→P++(mrg (ltC cmp) (X.take (e - a)) (Y.take (en - m))++(mrg (ltC cmp) (X.drop (e - a)) (Y.drop (en - m))++S))=P++(mrg (ltC cmp) (X.take (e - a)) (Y.take (en - m))++((X.drop (e - a))++((Y.drop (en - m))++S))):=fun hn9=>by
  have h8:mrg (ltC cmp) (X.drop (e - a)) (Y.drop (en - m))=(X.drop (e - a))++(Y.drop (en - m)):=by
   by_cases hm9:mid<en
   ·rw [List.eq_nil_of_length_eq_zero (l:=(Y.drop (en - m))) (by omega),mrg_nil,List.append_nil]
   ·rw [List.eq_nil_of_length_eq_zero (l:=(X.drop (e - a))) (by omega),nil_mrg,List.nil_append]
  rw [h8,List.append_assoc (X.drop (e - a))]
 refine jN 5 ?_
 refine WL.bin (v:= .int .i64 ((en:Nat):Int)) rfl rfl rfl (fun w=>run_subK (i:=e) (k:=en) (s:=mid+m) (by omega) (by omega) _ _ _ w) ?_
 refine jN 6 ?_
 refine WC.cutF [(185,.bool (decide (e<m)&&decide (m<en))),(0,.slice (some ⟨g,0,none⟩) n c),(1,.int .i64 (a:Int)),(2,.int .i64 (m:Int)),(3,.int .i64 (b:Int)),(4,.func (.func kc) us.toArray cap.toArray),(18,.int .i64 ((mid:Nat):Int)),(20,.int .i64 ((e:Nat):Int)),(24,.int .i64 ((en:Nat):Int))] (fun Q' hQ=>?_) ?_
 ·refine jN 9 ?_
  refine WA.splitB (i:=181) rfl (fun hgg=>?_) (fun hgg=>?_)
  refine jN 12 ?_
  rotate_left
  refine jN 9 ?_
  rotate_left
  all_goals
   refine WQ.byCut hQ (subF_bool ?_ ⟨rfl,rfl,rfl,rfl,rfl,rfl,rfl,rfl,trivial⟩ rfl)
   first | (rw [show decide (e<m)=true from decide_eq_true (by simp at hgg;omega),Bool.true_and];exact decide_eq_decide.2 (by omega)) | (rw [show decide (e<m)=false from decide_eq_false (by simp at hgg;omega)];rfl)
 refine jN 1 ?_
 refine WC.cutQ ([(0,.slice (some ⟨g,0,none⟩) n c),(1,.int .i64 (a:Int)),(2,.int .i64 (m:Int)),(3,.int .i64 (b:Int)),(4,.func (.func kc) us.toArray cap.toArray),(18,.int .i64 ((mid:Nat):Int)),(20,.int .i64 ((e:Nat):Int)),(24,.int .i64 ((en:Nat):Int))]) ([jW g n c 67 3 ((P++((X.take (e - a))++((Y.take (en - m))++((X.drop (e - a))++((Y.drop (en - m))++S))))).flatMap prC)]) (fun c a d v w h=>by cases d<;>exact h) (fun Q' hP hQ=>?_) ?_
 ·refine WC.cond rfl (fun h185=>?_) (fun h185=>?_)
  have hcc:e<m∧m<en:=by simpa using h185
  refine jN 1 ?_
  refine WA.chunks (C':=[jW g n c 67 3 (((P++(X.take (e - a)))++((X.drop (e - a))++((Y.take (en - m))++((Y.drop (en - m))++S)))).flatMap prC)]) (fun w hS=>by have e9:(P++(X.take (e - a)))++((X.drop (e - a))++((Y.take (en - m))++((Y.drop (en - m))++S)))=P++(X++(Y++S)):=(by rw [List.append_assoc P,← List.append_assoc (X.take (e - a)),List.take_append_drop,← List.append_assoc (Y.take (en - m)),List.take_append_drop]);rw [e9];exact hS) ?_
  refine jN 11 ?_
  refine WL.callC (β:=Unit) (res:=fun _=> .tuple #[]) (cs:=fun _=>[jW g n c 67 3 (((P++(X.take (e - a)))++((Y.take (en - m))++((X.drop (e - a))++((Y.drop (en - m))++S)))).flatMap prC)]) (Cs:=[jW g n c 67 3 (((P++(X.take (e - a)))++((X.drop (e - a))++((Y.take (en - m))++((Y.drop (en - m))++S)))).flatMap prC)]) (O':=[g]) F.fun191 (fun d h=>by cases h;rfl) rfl (List.Perm.refl _) row_O1P row_O2P (fun w hS hS2=>(rotP_c (P++(X.take (e - a))) (X.drop (e - a)) (Y.take (en - m)) ((Y.drop (en - m))++S) g n c (.func (.func kc) us.toArray cap.toArray) rfl e m en (by rw [List.length_append];omega) (by rw [List.length_append];omega) (by rw [List.length_append];omega) (by omega) (by omega) (by rw [← hnl];simp only [List.length_append];omega) hnc w hS2).mono (fun e w2 h=>⟨(),h⟩)) (fun _=>?_)
  rotate_left
  have hcc: ¬ (e<m∧m<en):=by simpa using h185
  rotate_left
  all_goals
   refine jN 1 ?_
   first | (refine WQ.chunks (C':=[jW g n c 67 3 ((P++((X.take (e - a))++((Y.take (en - m))++((X.drop (e - a))++((Y.drop (en - m))++S))))).flatMap prC)]) (fun w hS=>by have e8:P++((X.take (e - a))++((Y.take (en - m))++((X.drop (e - a))++((Y.drop (en - m))++S))))=(P++(X.take (e - a)))++((Y.take (en - m))++((X.drop (e - a))++((Y.drop (en - m))++S))):=(by rw [List.append_assoc P]);rw [e8];exact hS) ?_;exact WQ.byCut hQ ⟨rfl,rfl,rfl,rfl,rfl,rfl,rfl,rfl,trivial⟩) | (refine WQ.chunks (C':=[jW g n c 67 3 ((P++((X.take (e - a))++((Y.take (en - m))++((X.drop (e - a))++((Y.drop (en - m))++S))))).flatMap prC)]) (fun w hS=>by rw [e9 hcc];exact hS) ?_;exact WQ.byCut hQ ⟨rfl,rfl,rfl,rfl,rfl,rfl,rfl,rfl,trivial⟩)
 show WQ _ _ _ _ _ _ [(0,.slice (some ⟨g,0,none⟩) n c),(1,.int .i64 (a:Int)),(2,.int .i64 (m:Int)),(3,.int .i64 (b:Int)),(4,.func (.func kc) us.toArray cap.toArray),(18,.int .i64 ((mid:Nat):Int)),(20,.int .i64 ((e:Nat):Int)),(24,.int .i64 ((en:Nat):Int))] [jW g n c 67 3 ((P++((X.take (e - a))++((Y.take (en - m))++((X.drop (e - a))++((Y.drop (en - m))++S))))).flatMap prC)]
 refine jN 3 ?_
 refine WC.cutF [(199,.bool (decide (a<e)&&decide (e<mid))),(0,.slice (some ⟨g,0,none⟩) n c),(1,.int .i64 (a:Int)),(2,.int .i64 (m:Int)),(3,.int .i64 (b:Int)),(4,.func (.func kc) us.toArray cap.toArray),(18,.int .i64 ((mid:Nat):Int)),(20,.int .i64 ((e:Nat):Int)),(24,.int .i64 ((en:Nat):Int))] (fun Q' hQ=>?_) ?_
 ·refine jN 9 ?_
  refine WA.splitB (i:=195) rfl (fun hgg=>?_) (fun hgg=>?_)
  refine jN 12 ?_
  rotate_left
  refine jN 9 ?_
  rotate_left
  all_goals
   refine WQ.byCut hQ (subF_bool ?_ ⟨rfl,rfl,rfl,rfl,rfl,rfl,rfl,rfl,trivial⟩ rfl)
   first | (rw [show decide (a<e)=true from decide_eq_true (by simp at hgg;omega),Bool.true_and];exact decide_eq_decide.2 (by omega)) | (rw [show decide (a<e)=false from decide_eq_false (by simp at hgg;omega)];rfl)
 refine jN 1 ?_
 refine WC.cutQ ([(0,.slice (some ⟨g,0,none⟩) n c),(1,.int .i64 (a:Int)),(2,.int .i64 (m:Int)),(3,.int .i64 (b:Int)),(4,.func (.func kc) us.toArray cap.toArray),(18,.int .i64 ((mid:Nat):Int)),(20,.int .i64 ((e:Nat):Int)),(24,.int .i64 ((en:Nat):Int))]) ([jW g n c 67 3 ((P++(mrg (ltC cmp) (X.take (e - a)) (Y.take (en - m))++((X.drop (e - a))++((Y.drop (en - m))++S)))).flatMap prC)]) (fun c a d v w h=>by cases d<;>exact h) (fun Q' hP hQ=>?_) ?_
 ·refine WC.cond rfl (fun h199=>?_) (fun h199=>?_)
  have hcd:a<e∧e<mid:=by simpa using h199
  refine jN 12 ?_
  refine WL.callC (β:=Unit) (res:=fun _=> .tuple #[]) (cs:=fun _=>[jW g n c 67 3 ((P++(mrg (ltC cmp) (X.take (e - a)) (Y.take (en - m))++((X.drop (e - a))++((Y.drop (en - m))++S)))).flatMap prC)]) (Cs:=[jW g n c 67 3 ((P++((X.take (e - a))++((Y.take (en - m))++((X.drop (e - a))++((Y.drop (en - m))++S))))).flatMap prC)]) (O':=[g]) F.fun162 (fun d h=>by cases h;rfl) rfl (List.Perm.refl _) row_O1P row_O2P (fun w hS hS2=>(hrec (P) (X.take (e - a)) (Y.take (en - m)) ((X.drop (e - a))++((Y.drop (en - m))++S)) a e mid (by first | omega | (simp only [List.length_append,mrg_len];omega)) (by first | omega | (simp only [List.length_append,mrg_len];omega)) (by first | omega | (simp only [List.length_append,mrg_len];omega)) (by omega) (by omega) (by omega) (hX.sublist (List.take_sublist _ _)) (hY.sublist (List.take_sublist _ _)) (by simp only [List.length_append,mrg_len];omega) (fun x hx=>hQx x (List.mem_of_mem_take hx)) (fun y hy=>hQy y (List.mem_of_mem_take hy)) w (hcmp.next hS) hS2).mono (fun e w2 h=>⟨(),h⟩)) (fun _=>?_)
  rotate_left
  have hcd: ¬ (a<e∧e<mid):=by simpa using h199
  rotate_left
  all_goals
   refine jN 1 ?_
   first | (exact WQ.byCut hQ ⟨rfl,rfl,rfl,rfl,rfl,rfl,rfl,rfl,trivial⟩) | (refine WQ.chunks (C':=[jW g n c 67 3 ((P++(mrg (ltC cmp) (X.take (e - a)) (Y.take (en - m))++((X.drop (e - a))++((Y.drop (en - m))++S)))).flatMap prC)]) (fun w hS=>by rw [e7 hcd];exact hS) ?_;exact WQ.byCut hQ ⟨rfl,rfl,rfl,rfl,rfl,rfl,rfl,rfl,trivial⟩)
 show WQ _ _ _ _ _ _ [(0,.slice (some ⟨g,0,none⟩) n c),(1,.int .i64 (a:Int)),(2,.int .i64 (m:Int)),(3,.int .i64 (b:Int)),(4,.func (.func kc) us.toArray cap.toArray),(18,.int .i64 ((mid:Nat):Int)),(20,.int .i64 ((e:Nat):Int)),(24,.int .i64 ((en:Nat):Int))] [jW g n c 67 3 ((P++(mrg (ltC cmp) (X.take (e - a)) (Y.take (en - m))++((X.drop (e - a))++((Y.drop (en - m))++S)))).flatMap prC)]
 refine jN 2 ?_
 refine WC.cutF [(213,.bool (decide (mid<en)&&decide (en<b))),(0,.slice (some ⟨g,0,none⟩) n c),(1,.int .i64 (a:Int)),(2,.int .i64 (m:Int)),(3,.int .i64 (b:Int)),(4,.func (.func kc) us.toArray cap.toArray),(18,.int .i64 ((mid:Nat):Int)),(20,.int .i64 ((e:Nat):Int)),(24,.int .i64 ((en:Nat):Int))] (fun Q' hQ=>?_) ?_
 ·refine jN 9 ?_
  refine WA.splitB (i:=209) rfl (fun hgg=>?_) (fun hgg=>?_)
  refine jN 12 ?_
  rotate_left
  refine jN 9 ?_
  rotate_left
  all_goals
   refine WQ.byCut hQ (subF_bool ?_ ⟨rfl,rfl,rfl,rfl,rfl,rfl,rfl,rfl,trivial⟩ rfl)
   first | (rw [show decide (mid<en)=true from decide_eq_true (by simp at hgg;omega),Bool.true_and];exact decide_eq_decide.2 (by omega)) | (rw [show decide (mid<en)=false from decide_eq_false (by simp at hgg;omega)];rfl)
 refine jN 1 ?_
 refine WC.cond rfl (fun h213=>?_) (fun h213=>?_)
 ·have hce:mid<en∧en<b:=by simpa using h213
  refine jN 1 ?_
  refine WA.chunks (C':=[jW g n c 67 3 (((P++mrg (ltC cmp) (X.take (e - a)) (Y.take (en - m)))++((X.drop (e - a))++((Y.drop (en - m))++S))).flatMap prC)]) (fun w hS=>by have e8:(P++mrg (ltC cmp) (X.take (e - a)) (Y.take (en - m)))++((X.drop (e - a))++((Y.drop (en - m))++S))=P++(mrg (ltC cmp) (X.take (e - a)) (Y.take (en - m))++((X.drop (e - a))++((Y.drop (en - m))++S))):=(by rw [List.append_assoc P]);rw [e8];exact hS) ?_
  refine jN 11 ?_
  refine WL.callC (β:=Unit) (res:=fun _=> .tuple #[]) (cs:=fun _=>[jW g n c 67 3 (((P++mrg (ltC cmp) (X.take (e - a)) (Y.take (en - m)))++(mrg (ltC cmp) (X.drop (e - a)) (Y.drop (en - m))++S)).flatMap prC)]) (Cs:=[jW g n c 67 3 (((P++mrg (ltC cmp) (X.take (e - a)) (Y.take (en - m)))++((X.drop (e - a))++((Y.drop (en - m))++S))).flatMap prC)]) (O':=[g]) F.fun162 (fun d h=>by cases h;rfl) rfl (List.Perm.refl _) row_O1P row_O2P (fun w hS hS2=>(hrec (P++mrg (ltC cmp) (X.take (e - a)) (Y.take (en - m))) (X.drop (e - a)) (Y.drop (en - m)) (S) mid en b (by first | omega | (simp only [List.length_append,mrg_len];omega)) (by first | omega | (simp only [List.length_append,mrg_len];omega)) (by first | omega | (simp only [List.length_append,mrg_len];omega)) (by omega) (by omega) (by omega) (hX.sublist (List.drop_sublist _ _)) (hY.sublist (List.drop_sublist _ _)) (by simp only [List.length_append,mrg_len];omega) (fun x hx=>hQx x (List.mem_of_mem_drop hx)) (fun y hy=>hQy y (List.mem_of_mem_drop hy)) w (hcmp.next hS) hS2).mono (fun e w2 h=>⟨(),h⟩)) (fun _=>?_)
  refine jN 1 ?_
  refine WQ.fin (rs:=[]) rfl .nil (fun w hS=>?_)
  have e5:P++(mrg (ltC cmp) (X.take (e - a)) (Y.take (en - m))++(mrg (ltC cmp) (X.drop (e - a)) (Y.drop (en - m))++S))=P++(mrg (ltC cmp) X Y++S):=by rw [hsp,List.append_assoc]
  rw [show (P++mrg (ltC cmp) (X.take (e - a)) (Y.take (en - m)))++(mrg (ltC cmp) (X.drop (e - a)) (Y.drop (en - m))++S)=P++(mrg (ltC cmp) (X.take (e - a)) (Y.take (en - m))++(mrg (ltC cmp) (X.drop (e - a)) (Y.drop (en - m))++S)) by rw [List.append_assoc P],e5] at hS
  exact ⟨rfl,hS⟩
 have hce: ¬ (mid<en∧en<b):=by simpa using h213
 refine jN 1 ?_
 refine WQ.fin (rs:=[]) rfl .nil (fun w hS=>?_)
 have e5:P++(mrg (ltC cmp) (X.take (e - a)) (Y.take (en - m))++(mrg (ltC cmp) (X.drop (e - a)) (Y.drop (en - m))++S))=P++(mrg (ltC cmp) X Y++S):=by rw [hsp,List.append_assoc]
 rw [← e6 hce,e5] at hS
 exact ⟨rfl,hS⟩
end Go.Proofs.YtedbajbgnmaakaaGreatDoor
