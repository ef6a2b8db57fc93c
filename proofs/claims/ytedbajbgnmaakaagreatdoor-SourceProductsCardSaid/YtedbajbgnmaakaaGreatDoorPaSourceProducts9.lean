/- Parts of the walk, put together by a program. By an AI agent. -/
import Derived.Test.YtedbajbgnmaakaaGreatDoorPaSourceProducts8
import Derived.Lib.LaidTab
set_option linter.unusedSimpArgs false
set_option linter.unusedVariables false
namespace Go.X
open Go Go.Eng Go.RowKit Dg Go.Proofs Go.Proofs.YtedbajbgnmaakaaGreatDoor
noncomputable def orcR:Orc:=⟨fun f=>Nat.beq f 43||Nat.beq f 62||Nat.beq f 45||Nat.beq f 24,orX (keptX kA) (orX (keptX kB) dgX),lr0⟩
theorem orcR_run :CallOk Tryz.prog orcR.run:= @orX_ok _ _ _ @kA_ok (@orX_ok _ _ _ @kB_ok @dgX_ok)
def sgS :List SV:=[.str [60,61],.str [62,61],.str [61,61],.str [33,61],.str [38,38],.str [124,124],.str [43],.str [45],.str [42],.str [47],.str [37],.str [60],.str [62],.str [61],.str [33],.str [40],.str [41],.str [123],.str [125],.str [44],.str [59],.str [58]]
def preW :List (Nat×Blk):=[(0,.ro sgS),(4,.ro [.opq 10]),(10,.dead)]
def kW :Kept:=⟨6,[],1000,preW,[(false,.bool true,preW,9603)]⟩
theorem kW_kb :keptB (goX Tryz.prog orcR 300) kW=true:=by decide+kernel
theorem kW_ok :CallOk Tryz.prog (keptX kW):= @keptX_ok Tryz.prog (goX Tryz.prog orcR 300) (@eval_call Tryz.prog noNG orcR @orcR_run (@lr0_ok _) hmix 300) kW kW_kb
theorem kW_run :keptX kW 6 [] (putAll .lf preW) 1000=some [(false,.bool true,putAll (putAll .lf preW) (postL preW preW),9603)]:=by
 have h:(Nat.beq 6 kW.f&&Nat.beq 1000 kW.n&&eqSVs [] kW.vs&&allB (fun s b=>hasB (putAll .lf preW) s b) kW.pre&&kW.out.all fun y=>allB (fun s _=>freshB (putAll .lf preW) kW.pre s) y.2.2.1)=true:=by decide+kernel
 unfold keptX
 rw [h]
 rfl
theorem preW_small :smallB preW=true:=by decide+kernel
theorem preW_get (s:Nat):(putAll .lf preW).get s=if s=0 then some (.ro sgS) else if s=4 then some (.ro [.opq 10]) else if s=10 then some .dead else none:=by
 rw [putAll_get _ preW_small,TrB.get_lf]
 unfold preW
 simp only [lkB_cons]
 by_cases h0:s=0
 ·rw [if_pos h0,if_pos h0]
 rw [if_neg h0,if_neg h0]
 by_cases h1:s=4
 ·rw [if_pos h1,if_pos h1]
 rw [if_neg h1,if_neg h1]
 by_cases h2:s=10
 ·rw [if_pos h2,if_pos h2]
 rw [if_neg h2,if_neg h2];rfl
theorem preW_get0 :(putAll (putAll .lf preW) (postL preW preW)).get 0=some (.ro sgS)∧(putAll (putAll .lf preW) (postL preW preW)).get 4=some (.ro [.opq 10]):=by
 have hs:smallB (postL preW preW)=true:=postL_small preW_small
 have q0:liveK preW 0=true:=by decide+kernel
 have q1:liveK preW 4=true:=by decide+kernel
 refine ⟨?_,?_⟩
 ·rw [putAll_get _ hs,postL_lk,if_pos q0];rfl
 rw [putAll_get _ hs,postL_lk,if_pos q1];rfl
theorem sgS_V (ρ:Rho):dvs ρ sgS=sgV:=by rfl
theorem awake_c (w:World) (hl:LibW w) (hg:SgW w):Eng.Pure Tryz.prog 6 [] w (.bool true):=by
 obtain ⟨ev,hev,hev2⟩:=hl.es
 have hone:ev.oneCell'=true:=by
  rcases hev2 with rfl | ⟨te,pe,rfl⟩<;>rfl
 obtain ⟨p0,hp0⟩:∃ p:As,p=⟨some 0,0,.bool true,w.heap[0]?,rfl⟩:=⟨_,rfl⟩
 obtain ⟨p1,hp1⟩:∃ p:As,p=⟨some 4,0,.bool true,w.heap[4]?,rfl⟩:=⟨_,rfl⟩
 obtain ⟨p2,hp2⟩:∃ p:As,p=⟨none,0,ev,none,hone⟩:=⟨_,rfl⟩
 let σ:Asg:=fun s=>if s=0 then some p0 else if s=4 then some p1 else if s=10 then some p2 else none
 have s0:σ 0=some p0:=rfl
 have s1:σ 4=some p1:=rfl
 have s10:σ 10=some p2:=rfl
 have z0:0<w.heap.size:=by
  have h:=hg 0 _ (show sgV[0]?=some (Value.string (str [60,61])) from rfl)
  rcases Nat.lt_or_ge 0 w.heap.size with h2 | h2
  ·exact h2
  ·have:w.heap[0]?=none:=Array.getElem?_eq_none h2
   simp [World.cell?,this] at h
 have z1:4<w.heap.size:=by
  rcases Nat.lt_or_ge 4 w.heap.size with h2 | h2
  ·exact h2
  ·have:w.heap[4]?=none:=Array.getElem?_eq_none h2
   simp [World.cell?,this] at hev
 obtain ⟨K,hK⟩:∃ K,putAll .lf preW=K:=⟨_,rfl⟩
 have hKg:=preW_get
 rw [hK] at hKg
 have b0:∀ {ρ:Rho},Ext σ ρ→bl ρ 0=0:=fun {ρ} hE=>by unfold bl;rw [hE 0 p0 s0,hp0];rfl
 have b1:∀ {ρ:Rho},Ext σ ρ→bl ρ 4=4:=fun {ρ} hE=>by unfold bl;rw [hE 4 p1 s1,hp1];rfl
 have hkind:∀ {ρ:Rho} {s:Nat} {x:Chunk},(K.get s).map (bch ρ s)=some x→(s=0∧x=bch ρ 0 (.ro sgS))∨(s=4∧x=bch ρ 4 (.ro [.opq 10]))∨(s=10∧x=noC):=fun {ρ s x} h=>by
  rw [hKg] at h
  by_cases h0:s=0
  ·subst h0;rw [if_pos rfl] at h;exact .inl ⟨rfl,(Option.some.inj h).symm⟩
  ·rw [if_neg h0] at h
   by_cases h1:s=4
   ·subst h1;rw [if_pos rfl] at h;exact .inr (.inl ⟨rfl,(Option.some.inj h).symm⟩)
   ·rw [if_neg h1] at h
    by_cases h2:s=10
    ·subst h2;rw [if_pos rfl] at h;exact .inr (.inr ⟨rfl,(Option.some.inj h).symm⟩)
    ·rw [if_neg h2] at h;cases h
 have hM:MemS w [0,4] σ K w:=by
  refine ⟨fun ρ hE=>?_,fun s=>?_⟩
  ·refine ⟨rfl,rfl,rfl,Nat.le_refl _,fun _ _ _=>rfl,fun c hc=>?_,fun c hc k hk=>?_,List.pairwise_singleton _ _⟩
   ·rw [List.mem_singleton.1 hc]
    refine ⟨fun s x hs=>?_,fun s t x y hs ht hne k hk hk2=>?_⟩
    ·rcases hkind hs with ⟨_,rfl⟩ | ⟨_,rfl⟩ | ⟨_,rfl⟩
     ·refine ⟨by rw [b0 hE,hE 0 p0 s0,hp0],fun j x hx=>?_⟩
      rw [b0 hE]
      exact hg j _ (by rw [← sgS_V ρ];exact dvs_get hx)
     ·refine ⟨by rw [b1 hE,hE 4 p1 s1,hp1],fun j x hx=>?_⟩
      rw [b1 hE]
      cases j with
      | zero=>
       simp only [List.getElem?_cons_zero,Option.some.injEq] at hx
       subst hx
       rw [dv,hE 10 p2 s10,hp2]
       exact hev
      | succ j=>simp at hx
     ·trivial
    ·have e0:=b0 hE
     have e1:=b1 hE
     rcases hkind hs with ⟨rfl,rfl⟩ | ⟨rfl,rfl⟩ | ⟨rfl,rfl⟩
     ·rcases hkind ht with ⟨rfl,rfl⟩ | ⟨rfl,rfl⟩ | ⟨rfl,rfl⟩
      ·exact hne rfl
      ·have h1:k=bl ρ 0:=hk
       have h2:k=bl ρ 4:=hk2
       omega
      ·cases hk2
     ·rcases hkind ht with ⟨rfl,rfl⟩ | ⟨rfl,rfl⟩ | ⟨rfl,rfl⟩
      ·have h1:k=bl ρ 4:=hk
       have h2:k=bl ρ 0:=hk2
       omega
      ·exact hne rfl
      ·cases hk2
     ·cases hk
   ·rw [List.mem_singleton.1 hc] at hk
    obtain ⟨s,x,hs,hx⟩:=hk
    rcases hkind hs with ⟨_,rfl⟩ | ⟨_,rfl⟩ | ⟨_,rfl⟩
    ·have h1:k=bl ρ 0:=hx
     rw [b0 hE] at h1;subst h1
     exact ⟨z0,fun _=>by simp⟩
    ·have h1:k=bl ρ 4:=hx
     rw [b1 hE] at h1;subst h1
     exact ⟨z1,fun _=>by simp⟩
    ·cases hx
  ·rw [hKg]
   show _↔(if s=0 then some p0 else if s=4 then some p1 else if s=10 then some p2 else none)=none
   by_cases h0:s=0
   ·rw [if_pos h0,if_pos h0];simp
   ·rw [if_neg h0,if_neg h0]
    by_cases h1:s=4
    ·rw [if_pos h1,if_pos h1];simp
    ·rw [if_neg h1,if_neg h1]
     by_cases h2:s=10
     ·rw [if_pos h2,if_pos h2];simp
     ·rw [if_neg h2,if_neg h2];simp
 have hG:MemG σ K:=⟨fun s cs hs=>by
  rw [hKg] at hs
  by_cases h0:s=0
  ·subst h0;exact ⟨p0,s0,by rw [hp0]⟩
  ·rw [if_neg h0] at hs
   by_cases h1:s=4
   ·subst h1;exact ⟨p1,s1,by rw [hp1]⟩
   ·rw [if_neg h1] at hs
    by_cases h2:s=10
    ·rw [if_pos h2] at hs;cases hs
    ·rw [if_neg h2] at hs;cases hs⟩
 have hrun:=kW_run
 rw [hK] at hrun
 have hget:=preW_get0
 rw [hK] at hget
 obtain ⟨_,hcall⟩:=kW_ok hrun
 refine (hcall (us:=[]) hM hG (fun _ _=>rfl)).mono ?_
 rintro e w' ⟨x,hx,u,he,τ,hle,hu,hM2,hG2⟩
 rw [List.mem_singleton.1 hx] at he hu hM2
 have hu2:=hu τ.rho τ.rho_ext
 rw [hu2] at he
 refine ⟨he,?_⟩
 have hS:=hM2.st τ.rho τ.rho_ext
 have hm:=List.mem_singleton_self (memC τ.rho (putAll K (postL preW preW)))
 have ff:=hS.ok _ hm
 have hE:Ext σ τ.rho:=(Asg.rho_ext τ).le hle
 refine ⟨hS.os,hS.tape,hS.output,hS.size,fun k hk _=>?_,by simp,by simp,.nil⟩
 by_cases h0:k=0
 ·subst h0
  have q:(bch τ.rho 0 (.ro sgS)).ok w':=ff.1 0 _ (by show ((putAll K (postL preW preW)).get 0).map _=_;rw [hget.1];rfl)
  have:=q.1
  rw [b0 hE,hE 0 p0 s0,hp0] at this
  exact this
 by_cases h1:k=4
 ·subst h1
  have q:(bch τ.rho 4 (.ro [.opq 10])).ok w':=ff.1 4 _ (by show ((putAll K (postL preW preW)).get 4).map _=_;rw [hget.2];rfl)
  have:=q.1
  rw [b1 hE,hE 4 p1 s1,hp1] at this
  exact this
 exact hS.old k hk (by simp [h0,h1])
end Go.X
namespace Go.Proofs.YtedbajbgnmaakaaGreatDoor
open Go Go.Eng Go.Proofs Go.RowKit Fm
theorem cells_of_strs {H:Type} {enc:TypeId×Value→H} {P:Program} {w:World} {base:Nat} {sp:Nat→Bool} {held:Bool} {fuel:Nat} {t e:TypeId} {n:Nat} {cs:List Value} {zs:List (List UInt8)} {p:List MemPlace}
  (ht:P.underlying t=some (.array n e)) (he:P.underlying e=some .string) (hce:P.cellsOf e=1) (hct:P.cellsOf t=n)
  (h:DataW.trod enc P w base sp held fuel t cs=some (.agg (zs.map fun z=> .lit (.string z)),p)):cs=zs.map fun z=>Value.string (str z):=by
 cases fuel with
 | zero=>simp [DataW.trod] at h
 | succ fuel=>
  simp only [DataW.trod,ht,hce,hct,Nat.mul_one] at h
  split at h
  ·rename_i hl
   obtain ⟨xs,hm,hx⟩:=Option.map_eq_some_iff.1 h
   have hxs:xs.map (·.1)=zs.map fun z=>(DataW.lit (.string z):DataW H):=by
    have:=congrArg Prod.fst hx
    simpa using this
   have hxl:xs.length=n:=by simpa using Lib.mapM_length hm
   have hzl:zs.length=n:=by
    have:=congrArg List.length hxs
    simp at this
    omega
   apply List.ext_getElem?
   intro i
   by_cases hi:i<n
   ·obtain ⟨b,hb,hf⟩:=Lib.mapM_at hm i i (by simp [hi])
    obtain ⟨z,hc,rfl,_⟩:=DataW.trod_string he hf
    have h1:cs[i]?=some (.string z):=by
     have:=congrArg (·[0]?) hc
     simpa [List.getElem?_take,List.getElem?_drop] using this
    have h2:(xs.map (·.1))[i]?=some (DataW.lit (.string z.data.toList):DataW H):=by simp [hb]
    rw [hxs] at h2
    simp only [List.getElem?_map,Option.map_eq_some_iff,DataW.lit.injEq,Lit.string.injEq] at h2
    obtain ⟨z',hz',rfl⟩:=h2
    rw [h1,List.getElem?_map,hz']
    show some (Value.string z)=some (Value.string (str z.data.toList))
    rw [← str_of z]
   ·rw [List.getElem?_eq_none (by omega),List.getElem?_eq_none (by simp;omega)]
  ·cases h
theorem strs_of_head {P:Program} {W:World} {name:String} {zs:List (List UInt8)} {rest:List (String×DataW Unit)} {g:Nat} {t e:TypeId} {n:Nat}
  (hg:P.globalNamed name=some g) (hty:(P.globals[g]?).map (·.type)=some t) (ht:P.underlying t=some (.array n e)) (he:P.underlying e=some .string) (hce:P.cellsOf e=1) (hct:P.cellsOf t=n)
  (h:laidMet P ((name,.agg (zs.map fun z=> .lit (.string z)))::rest) W) (j:Nat) (v:Value) (hv:(zs.map fun z=>Value.string (str z))[j]?=some v):W.cell? ⟨g,j,none⟩=some v:=by
 obtain ⟨ps,⟨g',t',cs,fuel,p,q,hg',ht',hvar,hd,_,_⟩,_⟩:=h
 obtain rfl:=Option.some.inj (hg.symm.trans hg')
 obtain rfl:=Option.some.inj (hty.symm.trans ht')
 have hc:=cells_of_strs ht he hce hct hd
 have:=World.var?_cell hg hvar j
 rw [this]
 have e:cs[j]?=cs.toList[j]?:=by simp
 rw [e,hc,hv]
open Go Go.Eng Go.Proofs Dg
theorem SourceProductsW_c (x:RwV) (q:List QB) (qa:Option Addr) (qc:Nat) (most:Int) (w:World) (hl:LibW w) (hg:SgW w) (hx:RwR w x) (hql:q.length≤LM) (hq:RdSl qC 2 w q qa) (hqo:∀ z∈q,qOk z):Go.Eng.Pure Tryz.prog 4 [.agg (rwC x).toArray,.slice qa q.length qc,.int .i64 most] w (.bool true):=
 SourceProducts_c x q qa qc most w hl hg (fun w h1 h2=>X.awake_c w h1 h2) hx hql hq hqo
end Go.Proofs.YtedbajbgnmaakaaGreatDoor
