/- Parts of the walk, put together by a program. By an AI agent. -/
import Derived.WalkKit
import Derived.WalkLawsBesides
import Derived.WalkSpells
import Derived.Laws.AppendOwnNone
import Derived.OrdersHeld
import Derived.Recover
import Derived.Test.YtedbajbgnmaakaaGreatDoorRows
import Derived.ProofKit
import Derived.Lib.Builder
import Derived.Lib.UnsafeStr
import Derived.Lib.AppendStr
import Derived.Laws.MakeOwn
import Derived.Test.YtedbajbgnmaakaaGreatDoorProg
import Derived.KernelRfl
import Derived.Scope
import Derived.ChangeStays
import Derived.ChangeOld
import Derived.Deep.Strs
import Derived.Deep.Matrix
import Derived.SliceStrings
import Derived.MapKept
import Derived.WideMake
import Derived.ChangeKeysEq
import Derived.WideKeyRuns
set_option linter.unusedSimpArgs false
set_option linter.unusedVariables false
namespace Go.Eng
open Go Go.RowKit
abbrev FL :=List (Nat×Value)
def lk :FL→Nat→Option Value
 | [],_=>none
 | (k,v)::r,i=>bif Nat.beq k i then some v else lk r i
def ev (L:FL):Operand→Option Value
 | .tmp t=>lk L t
 | .const v=>some v
 | .global g=>some (.pointer (some ⟨g,0,none⟩))
 | .func f=>some (.func (.func f) #[] #[])
structure Fr (N:Nat) (D:List Deferred) (L:FL) (a:Act):Prop where
 defers:a.defers=D
 size:a.tmps.size=N
 get:∀ i v,lk L i=some v→a.tmps[i]?=some v
theorem Fr.ev {N D L a} (h:Fr N D L a) {x:Operand} {v:Value} (hx:ev L x=some v):a.eval x=v:=by
 cases x with
 | tmp t=>have:=h.get t v hx;simp [Act.eval,this]
 | const u=>simpa [Eng.ev,Act.eval] using hx
 | global g=>simpa [Eng.ev,Act.eval] using hx
 | func f=>simpa [Eng.ev,Act.eval] using hx
theorem Fr.put {N D L a} (h:Fr N D L a) (d:Nat) (v:Value) (hd:Nat.blt d N=true):Fr N D ((d,v)::L) (a.put (some d) v):=by
 have hd':d<a.tmps.size:=by rw [h.size];exact Nat.le_of_ble_eq_true hd
 refine ⟨h.defers,by simp [Act.put,h.size],fun i u hu=>?_⟩
 simp only [lk] at hu
 by_cases hi:d=i
 ·subst hi
  simp at hu
  subst hu
  simp [Act.put,hd']
 have:Nat.beq d i=false:=by
  cases h':Nat.beq d i with
  | true=>exact absurd (Nat.eq_of_beq_eq_true h') hi
  | false=>rfl
 simp only [this,cond_false] at hu
 simp [Act.put,Array.getElem?_setIfInBounds_ne hi,h.get i u hu]
def subF (L:FL):FL→Prop
 | []=>True
 | (i,v)::r=>lk L i=some v∧subF L r
theorem subF_get {L:FL}:∀ {M:FL},subF L M→∀ i v,lk M i=some v→lk L i=some v
 | (k,u)::M,h,i,v,hv=>by
  simp only [lk] at hv
  cases hk:Nat.beq k i with
  | true=>
   have e:k=i:=Nat.eq_of_beq_eq_true hk
   simp only [hk,cond_true,Option.some.injEq] at hv
   subst hv;subst e
   exact h.1
  | false=>
   simp only [hk,cond_false] at hv
   exact subF_get h.2 i v hv
theorem Fr.sub {N D L M a} (h:Fr N D L a) (hs:subF L M):Fr N D M a:=
 ⟨h.defers,h.size,fun i v hv=>h.get i v (subF_get hs i v hv)⟩
def fl0 :List Value→Nat→FL
 | [],_=>[]
 | v::r,k=>(k,v)::fl0 r (k+1)
theorem lk_fl0 :∀ (vs:List Value) (k i:Nat) (v:Value),lk (fl0 vs k) i=some v→k≤i∧vs[i - k]?=some v
 | [],_,_,_,h=>by simp [fl0,lk] at h
 | u::r,k,i,v,h=>by
  simp only [fl0,lk] at h
  cases hk:Nat.beq k i with
  | true=>
   have e:k=i:=Nat.eq_of_beq_eq_true hk
   simp only [hk,cond_true,Option.some.injEq] at h
   subst h;subst e
   simp
  | false=>
   simp only [hk,cond_false] at h
   obtain ⟨h1,h2⟩:=lk_fl0 r (k+1) i v h
   refine ⟨by omega,?_⟩
   rw [show i - k=(i - (k+1))+1 by omega]
   simpa using h2
theorem Fr.init (args:List Value) (N:Nat) (h:args.length≤N):
  Fr N [] (fl0 args 0) {tmps:=args.toArray++Array.replicate (N - args.length) undef,defers:=[]}:=by
 refine ⟨rfl,by simp;omega,fun i v hv=>?_⟩
 obtain ⟨_,h2⟩:=lk_fl0 args 0 i v hv
 simp only [Nat.sub_zero] at h2
 have hi:i<args.length:=(List.getElem?_eq_some_iff.1 h2).1
 rw [Array.getElem?_append_left (by simpa using hi)]
 simpa using h2
structure Chunk where
 fp:Nat→Prop
 ok:World→Prop
 loc:∀ w w':World,(∀ k,fp k→w'.heap[k]?=w.heap[k]?)→ok w→ok w'
structure St (w0:World) (O:List Nat) (C:List Chunk) (w:World):Prop where
 os:w.os=w0.os
 tape:w.tape=w0.tape
 output:w.output=w0.output
 size:w0.heap.size≤w.heap.size
 old:∀ k,k<w0.heap.size→k∉O→w.heap[k]?=w0.heap[k]?
 ok:∀ c∈C,c.ok w
 bnd:∀ c∈C,∀ k,c.fp k→k<w.heap.size∧(k<w0.heap.size→k∈O)
 disj:C.Pairwise (fun c d=>∀ k,c.fp k→ ¬ d.fp k)
def pt (b:Nat) (cs:List Value) (e:TypeId):Chunk where
 fp k:=k=b
 ok w:=w.heap[b]?=some (.cells cs.toArray e (0,0))
 loc w w' h hw:=by rw [h b rfl];exact hw
theorem St.init (w:World):St w [] [] w:=
 ⟨rfl,rfl,rfl,Nat.le_refl _,fun _ _ _=>rfl,by simp,by simp,.nil⟩
theorem lt_of_heap {w:World} {b:Nat} {o:Obj} (h:w.heap[b]?=some o):b<w.heap.size:=(Array.getElem?_eq_some_iff.1 h).1
theorem St.alloc {w0 O C w} (h:St w0 O C w) (cs:List Value) (e:TypeId):
  St w0 O (pt w.heap.size cs e::C) (w.alloc (.cells cs.toArray e)):=by
 have hh:∀ k,k<w.heap.size→(w.alloc (.cells cs.toArray e)).heap[k]?=w.heap[k]?:=fun k hk=>Below.heap_alloc w _ k hk
 refine ⟨h.os,h.tape,h.output,by have:=h.size;simp;omega,fun k hk ho=>?_,?_,?_,?_⟩
 ·rw [hh k (Nat.lt_of_lt_of_le hk h.size)];exact h.old k hk ho
 ·intro c hc
  rcases List.mem_cons.1 hc with rfl | hc
  ·show (w.heap.push _)[w.heap.size]?=_
   simp
  exact (h.ok c hc |> fun hok=>c.loc w _ (fun k hk=>hh k (h.bnd c hc k hk).1) hok)
 ·intro c hc k hk
  rcases List.mem_cons.1 hc with rfl | hc
  ·have:k=w.heap.size:=hk
   subst this
   exact ⟨by simp,fun hlt=>absurd hlt (Nat.not_lt.2 h.size)⟩
  exact ⟨by have:=(h.bnd c hc k hk).1;simp;omega,(h.bnd c hc k hk).2⟩
 refine List.Pairwise.cons (fun c hc k hk hk'=>?_) h.disj
 have:k=w.heap.size:=hk
 subst this
 exact Nat.lt_irrefl _ (h.bnd c hc _ hk').1
inductive Upd (c c':Chunk):List Chunk→List Chunk→Prop
 | here {r}:Upd c c' (c::r) (c'::r)
 | there {x r r'}:Upd c c' r r'→Upd c c' (x::r) (x::r')
inductive Rem (c:Chunk):List Chunk→List Chunk→Prop
 | here {r}:Rem c (c::r) r
 | there {x r r'}:Rem c r r'→Rem c (x::r) (x::r')
theorem Upd.mem {c c':Chunk} {C C':List Chunk} (h:Upd c c' C C'):c∈C:=by
 induction h with
 | here=>simp
 | there _ ih=>simp [ih]
theorem Rem.perm {c:Chunk} {C C':List Chunk} (h:Rem c C C'):C.Perm (c::C'):=by
 induction h with
 | here=>exact List.Perm.refl _
 | there _ ih=>exact (List.Perm.cons _ ih).trans (List.Perm.swap _ _ _)
theorem Upd.perm {c c':Chunk} {C C':List Chunk} (h:Upd c c' C C'):∃ R,C.Perm (c::R)∧C'.Perm (c'::R):=by
 induction h with
 | here=>exact ⟨_,List.Perm.refl _,List.Perm.refl _⟩
 | there _ ih=>
  obtain ⟨R,h1,h2⟩:=ih
  exact ⟨_,(List.Perm.cons _ h1).trans (List.Perm.swap _ _ _),(List.Perm.cons _ h2).trans (List.Perm.swap _ _ _)⟩
theorem St.perm {w0 O C C' w} (h:St w0 O C w) (hp:C.Perm C'):St w0 O C' w:=
 ⟨h.os,h.tape,h.output,h.size,h.old,fun c hc=>h.ok c (hp.mem_iff.2 hc),fun c hc=>h.bnd c (hp.mem_iff.2 hc),
  (hp.pairwise_iff (fun hxy k hk hk'=>hxy k hk' hk)).1 h.disj⟩
theorem St.drop {w0 O c C w} (h:St w0 O (c::C) w):St w0 O C w:=
 ⟨h.os,h.tape,h.output,h.size,h.old,fun d hd=>h.ok d (List.mem_cons_of_mem _ hd),fun d hd=>h.bnd d (List.mem_cons_of_mem _ hd),(List.pairwise_cons.1 h.disj).2⟩
theorem St.sublist {w0 O C C' w} (h:St w0 O C w) (hs:C'.Sublist C):St w0 O C' w:=
 ⟨h.os,h.tape,h.output,h.size,h.old,fun d hd=>h.ok d (hs.subset hd),fun d hd=>h.bnd d (hs.subset hd),h.disj.sublist hs⟩
theorem St.row {w0 O C C' w} {b:Nat} {cs cs':List Value} {e:TypeId} (h:St w0 O C w) (hu:Upd (pt b cs e) (pt b cs' e) C C'):
  St w0 O C' (w.setRow b cs'.toArray):=by
 obtain ⟨R,p1,p2⟩:=hu.perm
 have h1:=h.perm p1
 refine St.perm ?_ p2.symm
 have hb:w.heap[b]?=some (.cells cs.toArray e (0,0)):=h1.ok _ (List.mem_cons_self ..)
 have hbO:=(h1.bnd _ (List.mem_cons_self ..) b rfl)
 have hoth:∀ k,k≠b→(w.setRow b cs'.toArray).heap[k]?=w.heap[k]?:=fun k hk=>setRow_other w b k _ hk
 have hdis:=List.pairwise_cons.1 h1.disj
 refine ⟨h.os,h.tape,h.output,by simpa using h.size,fun k hk ho=>?_,?_,?_,?_⟩
 ·by_cases hkb:k=b
  ·subst hkb;exact absurd (hbO.2 hk) ho
  rw [hoth k hkb];exact h.old k hk ho
 ·intro c hc
  rcases List.mem_cons.1 hc with rfl | hc
  ·exact setRow_heap w b _ _ e _ hb
  refine c.loc w _ (fun k hk=>hoth k (fun e=>?_)) (h1.ok c (List.mem_cons_of_mem _ hc))
  exact hdis.1 c hc k e hk
 ·intro c hc k hk
  rcases List.mem_cons.1 hc with rfl | hc
  ·have:k=b:=hk
   subst this
   exact ⟨by simpa using hbO.1,hbO.2⟩
  simpa using h1.bnd c (List.mem_cons_of_mem _ hc) k hk
 exact List.Pairwise.cons (fun c hc k hk hk'=>hdis.1 c hc k hk hk') hdis.2
theorem St.heap {w0 O C w} (h:St w0 O C w) {b:Nat} {cs:List Value} {e:TypeId} (hm:pt b cs e∈C):w.heap[b]?=some (.cells cs.toArray e (0,0)):=h.ok _ hm
theorem St.cell {w0 O C w} (h:St w0 O C w) {b off:Nat} {cs:List Value} {e:TypeId} {v:Value} (hm:pt b cs e∈C) (hv:cs[off]?=some v):
  w.cell? ⟨b,off,none⟩=some v:=by
 simp [World.cell?,h.heap hm,hv]
theorem St.drew {w0 O C w} (h:St w0 O C w):St w0 O C w.drew:=
 ⟨h.os,h.tape,h.output,h.size,h.old,fun c hc=>c.loc w _ (fun _ _=>rfl) (h.ok c hc),h.bnd,h.disj⟩
theorem St.call {w0 O O' C w w'} {cs:List Chunk} (h:St w0 O C w) (hc:St w O' cs w') (hO:∀ k∈O',k<w.heap.size→(∀ c∈C,¬ c.fp k)∧(k<w0.heap.size→k∈O)):
  St w0 O (cs++C) w':=by
 have hst:∀ c∈C,∀ k,c.fp k→w'.heap[k]?=w.heap[k]?:=fun c hcC k hk=>
  hc.old k (h.bnd c hcC k hk).1 (fun hko=>(hO k hko (h.bnd c hcC k hk).1).1 c hcC hk)
 refine ⟨hc.os.trans h.os,hc.tape.trans h.tape,hc.output.trans h.output,Nat.le_trans h.size hc.size,fun k hk ho=>?_,?_,?_,?_⟩
 ·have hkw:=Nat.lt_of_lt_of_le hk h.size
  rw [hc.old k hkw (fun hko=>ho ((hO k hko hkw).2 hk))]
  exact h.old k hk ho
 ·intro c hcm
  rcases List.mem_append.1 hcm with hcm | hcm
  ·exact hc.ok c hcm
  exact c.loc w w' (hst c hcm) (h.ok c hcm)
 ·intro c hcm k hk
  rcases List.mem_append.1 hcm with hcm | hcm
  ·refine ⟨(hc.bnd c hcm k hk).1,fun hlt=>?_⟩
   have hkw:=Nat.lt_of_lt_of_le hlt h.size
   exact (hO k ((hc.bnd c hcm k hk).2 hkw) hkw).2 hlt
  exact ⟨Nat.lt_of_lt_of_le (h.bnd c hcm k hk).1 hc.size,(h.bnd c hcm k hk).2⟩
 refine List.pairwise_append.2 ⟨hc.disj,h.disj,fun c hcm d hdm k hk hk'=>?_⟩
 have hkw:=(h.bnd d hdm k hk').1
 exact (hO k ((hc.bnd c hcm k hk).2 hkw) hkw).1 d hdm hk'
theorem St.call0 {w0 O C w w'} {cs:List Chunk} (h:St w0 O C w) (hc:St w [] cs w'):St w0 O (cs++C) w':=
 h.call hc (by simp)
section
variable {P : Program} {w0 : World} {O : List Nat} {ops : Array Oper} {Q : Exit → Act → World → Prop} {N : Nat} {D : List Deferred} {L : FL} {C : List Chunk} {K : Act → World → Prop}
def WA (w0:World) (O:List Nat) (K:Act→World→Prop) (N:Nat) (D:List Deferred) (L:FL) (C:List Chunk):Prop:=
 ∀ a w,Fr N D L a→St w0 O C w→K a w
def wpO (P:Program) (ops:Array Oper) (Q:Exit→Act→World→Prop) (o:Oper) (K:Act→World→Prop) (a:Act) (w:World):Prop:=
 if Region.wanted o (yielded ops a.tmps) then o.wp P a w K Q∨(o.asks P a w∧LetsOut Q) else K (a.put o.dst undef) w
def WK (P:Program) (w0:World) (O:List Nat) (ops:Array Oper) (Q:Exit→Act→World→Prop) (o:Oper) (K:Act→World→Prop) (N:Nat) (D:List Deferred) (L:FL) (C:List Chunk):Prop:=
 WA w0 O (wpO P ops Q o K) N D L C
def Yl (P:Program) (N:Nat) (D:List Deferred) (L:FL) (F:World→Prop) (o:Oper) (v:Value):Prop:=
 ∀ a w,Fr N D L a→F w→(execOp a.eval o).run P w= .ok (.value v) w
def WC (P:Program) (w0:World) (O:List Nat) (c:Code) (Q:Exit→Act→World→Prop) (N:Nat) (D:List Deferred) (L:FL) (C:List Chunk):Prop:=
 ∀ a w,Fr N D L a→St w0 O C w→c.wp P Q a w
def WQ (w0:World) (O:List Nat) (Q:Exit→Act→World→Prop) (e:Exit) (N:Nat) (D:List Deferred) (L:FL) (C:List Chunk):Prop:=
 ∀ a w,Fr N D L a→St w0 O C w→Q e a w
theorem WC.seq {x y:Code} (h:WC P w0 O x (Exit.then (y.wp P Q) Q) N D L C):WC P w0 O (.seq x y) Q N D L C:=fun a w hF hS=>wp_seq (h a w hF hS)
theorem WC.skip (h:WQ w0 O Q .normal N D L C):WC P w0 O .skip Q N D L C:=fun a w hF hS=>wp_skip (h a w hF hS)
theorem WC.ret (h:WQ w0 O Q .ret N D L C):WC P w0 O .ret Q N D L C:=fun a w hF hS=>wp_ret (h a w hF hS)
theorem WC.exit {i:Nat} (h:WQ w0 O Q (.exit i) N D L C):WC P w0 O (.exit i) Q N D L C:=fun a w hF hS=>wp_exit (h a w hF hS)
theorem WC.block {i:Nat} {c:Code} (h:WC P w0 O c (Exit.inBlock i Q) N D L C):WC P w0 O (.block i c) Q N D L C:=fun a w hF hS=>wp_block (h a w hF hS)
theorem WC.region {i:Nat} {l:List Oper} (h:WA w0 O (wpList P l.toArray Q l) N D L C):WC P w0 O (.region i l.toArray false) Q N D L C:=fun a w hF hS=>wp_region_lit (h a w hF hS)
theorem WC.cond {c:Operand} {x y:Code} {t:Bool} (hc:ev L c=some (.bool t)) (ht:t=true→WC P w0 O x Q N D L C) (hf:t=false→WC P w0 O y Q N D L C):
  WC P w0 O (.cond c x y) Q N D L C:=fun a w hF hS=>wp_cond_split (hF.ev hc) (fun h=>ht h a w hF hS) (fun h=>hf h a w hF hS)
theorem WC.condT {c:Operand} {x y:Code} (hc:ev L c=some (.bool true)) (h:WC P w0 O x Q N D L C):WC P w0 O (.cond c x y) Q N D L C:=
 fun a w hF hS=>wp_cond_true (hF.ev hc) (h a w hF hS)
theorem WC.condF {c:Operand} {x y:Code} (hc:ev L c=some (.bool false)) (h:WC P w0 O y Q N D L C):WC P w0 O (.cond c x y) Q N D L C:=
 fun a w hF hS=>wp_cond_false (hF.ev hc) (h a w hF hS)
theorem WL.nil (h:WQ w0 O Q .normal N D L C):WA w0 O (wpList P ops Q []) N D L C:=fun a w hF hS=>wpList_nil (h a w hF hS)
theorem WQ.then_normal {y:Code} (h:WC P w0 O y Q N D L C):WQ w0 O (Exit.then (y.wp P Q) Q) .normal N D L C:=h
theorem WQ.then_ret {K:Act→World→Prop} (h:WQ w0 O Q .ret N D L C):WQ w0 O (Exit.then K Q) .ret N D L C:=h
theorem WQ.then_exit {K:Act→World→Prop} {i:Nat} (h:WQ w0 O Q (.exit i) N D L C):WQ w0 O (Exit.then K Q) (.exit i) N D L C:=h
theorem WQ.block_normal {i:Nat} (h:WQ w0 O Q .normal N D L C):WQ w0 O (Exit.inBlock i Q) .normal N D L C:=h
theorem WQ.block_ret {i:Nat} (h:WQ w0 O Q .ret N D L C):WQ w0 O (Exit.inBlock i Q) .ret N D L C:=h
theorem WQ.block_exit {i:Nat} (h:WQ w0 O Q .normal N D L C):WQ w0 O (Exit.inBlock i Q) (.exit i) N D L C:=fun a w hF hS=>by
 show (if i=i then _ else _);rw [if_pos rfl];exact h a w hF hS
def Back (w0:World) (O:List Nat) (N:Nat) (D:List Deferred) {α:Type} (p:α→Prop) (I:α→FL) (J:α→List Chunk) (μ:α→Nat) (n:Nat) (a:Act) (w:World):Prop:=
 ∃ x,p x∧μ x<n∧Fr N D (I x) a∧St w0 O (J x) w
theorem wp_loop_ghost {P:Program} {c:Code} {Q:Exit→Act→World→Prop} {α:Type} (I:α→Act→World→Prop) (μ:α→Nat)
  (round:∀ x a w,I x a w→c.wp P (Exit.then (fun a' w'=>∃ x',I x' a' w'∧μ x'<μ x) Q) a w):
  ∀ x a w,I x a w→(Code.loop c).wp P Q a w:=by
 intro x a w h0 b k cs
 have key:∀ n x a w,μ x=n→I x a w→
   ∃ e a' w',Q e a' w'∧Arrives P (lone (b.at a (.code c:: .inLoop c::k)) cs w) b k cs e a' w':=by
  intro n
  induction n using Nat.strongRecOn with
  | _ n ih=>
   intro x a w hn hI
   obtain ⟨e,a₁,w₁,hq,harr⟩:=round x a w hI b (.inLoop c::k) cs
   cases e with
   | normal=>
    obtain ⟨x₁,hI₁,hlt⟩:=hq
    obtain ⟨e₂,a₂,w₂,hq₂,harr₂⟩:=ih (μ x₁) (hn▸hlt) x₁ a₁ w₁ rfl hI₁
    exact ⟨e₂,a₂,w₂,hq₂,.of_steps (Steps.trans harr (.one step_inLoop)) harr₂⟩
   | exit id=>exact ⟨_,a₁,w₁,hq,.pass (x:= .inLoop c) rfl (fun _ _=> .inl (by simp)) harr⟩
   | goto l=>exact ⟨_,a₁,w₁,hq,.pass (x:= .inLoop c) rfl (fun _ _=> .inl (by simp)) harr⟩
   | ret=>exact ⟨_,a₁,w₁,hq,.pass (x:= .inLoop c) rfl (fun _ _=> .inl (by simp)) harr⟩
   | panic ch=>exact ⟨_,a₁,w₁,hq,.pass (x:= .inLoop c) rfl (fun _ _=> .inl (by simp)) harr⟩
   | outgrown=>exact ⟨_,a₁,w₁,hq,.pass (x:= .inLoop c) rfl (fun _ _=> .inl (by simp)) harr⟩
 obtain ⟨e,a',w',hq,harr⟩:=key _ x a w rfl h0
 exact ⟨e,a',w',hq,.of_steps (.one step_loop) harr⟩
theorem WC.loop {c:Code} {α:Type} (p:α→Prop) (I:α→FL) (J:α→List Chunk) (μ:α→Nat) (x:α)
  (hp:p x) (hL:subF L (I x)) (hC:C=J x)
  (round:∀ x,p x→WC P w0 O c (Exit.then (Back w0 O N D p I J μ (μ x)) Q) N D (I x) (J x)):WC P w0 O (.loop c) Q N D L C:=by
 intro a w hF hS
 refine wp_loop_ghost (fun x a w=>p x∧Fr N D (I x) a∧St w0 O (J x) w) μ ?_ x a w ⟨hp,hF.sub hL,hC▸hS⟩
 intro x a w ⟨hx,hF,hS⟩
 refine Code.wp_mono ?_ (round x hx a w hF hS)
 intro e a w hq
 cases e with
 | normal=>obtain ⟨x',h1,h2,h3,h4⟩:=hq;exact ⟨x',⟨h1,h3,h4⟩,h2⟩
 | _=>exact hq
theorem WQ.back {α:Type} {p:α→Prop} {I:α→FL} {J:α→List Chunk} {μ:α→Nat} {n:Nat} (x:α) (hp:p x) (hμ:μ x<n) (hL:subF L (I x)) (hC:C=J x):
  WQ w0 O (Exit.then (Back w0 O N D p I J μ n) Q) .normal N D L C:=fun a w hF hS=>⟨x,hp,hμ,hF.sub hL,hC▸hS⟩
theorem WC.chunks {c:Code} {C':List Chunk} (hs:∀ w,St w0 O C w→St w0 O C' w) (h:WC P w0 O c Q N D L C'):WC P w0 O c Q N D L C:=fun a w hF hS=>h a w hF (hs w hS)
theorem WA.chunks {C':List Chunk} (hs:∀ w,St w0 O C w→St w0 O C' w) (h:WA w0 O K N D L C'):WA w0 O K N D L C:=fun a w hF hS=>h a w hF (hs w hS)
theorem WQ.chunks {e:Exit} {C':List Chunk} (hs:∀ w,St w0 O C w→St w0 O C' w) (h:WQ w0 O Q e N D L C'):WQ w0 O Q e N D L C:=fun a w hF hS=>h a w hF (hs w hS)
theorem WQ.facts {e:Exit} {M:FL} (hs:subF L M) (h:WQ w0 O Q e N D M C):WQ w0 O Q e N D L C:=fun a w hF hS=>h a w (hF.sub hs) hS
theorem WC.know {c:Code} {φ:Prop} (hs:∀ w,St w0 O C w→φ) (h:φ→WC P w0 O c Q N D L C):WC P w0 O c Q N D L C:=fun a w hF hS=>h (hs w hS) a w hF hS
theorem WA.know {φ:Prop} (hs:∀ w,St w0 O C w→φ) (h:φ→WA w0 O K N D L C):WA w0 O K N D L C:=fun a w hF hS=>h (hs w hS) a w hF hS
variable {rest : List Oper} {d : Nat} {ty : TypeId} {pos : String} {af : Array Edge}
theorem wpo_val {o:Oper} {a:Act} {w w':World} {v:Value} (hg:o.guard=none) (hr:(execOp a.eval o).run P w= .ok (.value v) w') (h:K (a.put o.dst v) w'):wpO P ops Q o K a w:=by
 unfold wpO
 rw [if_pos (by simp [Region.wanted,hg])]
 exact .inl (by unfold Oper.wp;rw [hr];exact h)
theorem wpo_skip {o:Oper} {a:Act} {w w':World} (hg:o.guard=none) (hr:(execOp a.eval o).run P w= .ok .skip w') (h:K (a.put o.dst undef) w'):wpO P ops Q o K a w:=by
 unfold wpO
 rw [if_pos (by simp [Region.wanted,hg])]
 exact .inl (by unfold Oper.wp;rw [hr];exact h)
theorem WL.step {o:Oper} {rest:List Oper} (h:WK P w0 O ops Q o (wpList P ops Q rest) N D L C):WA w0 O (wpList P ops Q (o::rest)) N D L C:=h
theorem WL.guardT {o:Oper} {j:Nat} {g:Bool} {dj:Nat} (hgd:o.guard=some (j,g)) (hj:(ops[j]?).bind (·.dst)=some dj) (hv:lk L dj=some (.bool g))
  (h:WK P w0 O ops Q {o with guard:=none} K N D L C):WK P w0 O ops Q o K N D L C:=fun a w hF hS=>by
 have h':=h a w hF hS
 have hw:Region.wanted o (yielded ops a.tmps)=true:=by
  have:=hF.get dj _ hv
  simp [Region.wanted,hgd,yielded,hj,this]
 unfold wpO at h' ⊢
 rw [if_pos hw]
 rw [if_pos (by simp [Region.wanted])] at h'
 exact h'
theorem WL.guardF {o:Oper} {j:Nat} {g c:Bool} {dj:Nat} (hgd:o.guard=some (j,g)) (hj:(ops[j]?).bind (·.dst)=some dj) (hd:o.dst=some d) (hv:lk L dj=some (.bool c)) (hne:(c==g)=false)
  (hdN:Nat.blt d N=true) (h:WA w0 O K N D ((d,undef)::L) C):WK P w0 O ops Q o K N D L C:=fun a w hF hS=>by
 have hw:Region.wanted o (yielded ops a.tmps)=false:=by
  have:=hF.get dj _ hv
  simp [Region.wanted,hgd,yielded,hj,this]
  simpa using hne
 unfold wpO
 rw [if_neg (by simp [hw])]
 rw [hd]
 exact h _ w (hF.put d undef hdN) hS
theorem WL.guardU {o:Oper} {j:Nat} {g:Bool} {dj:Nat} (hgd:o.guard=some (j,g)) (hj:(ops[j]?).bind (·.dst)=some dj) (hd:o.dst=some d) (hv:lk L dj=some undef)
  (hdN:Nat.blt d N=true) (h:WA w0 O K N D ((d,undef)::L) C):WK P w0 O ops Q o K N D L C:=fun a w hF hS=>by
 have hw:Region.wanted o (yielded ops a.tmps)=false:=by
  have:=hF.get dj _ hv
  simp [Region.wanted,hgd,yielded,hj,this,undef]
 unfold wpO
 rw [if_neg (by simp [hw])]
 rw [hd]
 exact h _ w (hF.put d undef hdN) hS
theorem WL.y {op:Op} {v:Value} {F:World→Prop} (hy:Yl P N D L F ⟨some d,op,ty,pos,af,none⟩ v) (hd:Nat.blt d N=true) (hF:∀ w,St w0 O C w→F w)
  (h:WA w0 O K N D ((d,v)::L) C):WK P w0 O ops Q ⟨some d,op,ty,pos,af,none⟩ K N D L C:=fun a w hFr hS=>
 wpo_val rfl (hy a w hFr (hF w hS)) (h _ w (hFr.put d v hd) hS)
theorem Yl.move {F:World→Prop} {x:Operand} {v:Value} (hx:ev L x=some v):Yl P N D L F ⟨some d,.move x,ty,pos,af,none⟩ (v):=fun a w hF _=>by simp [execOp,hF.ev hx]
theorem WL.move {x:Operand} {v:Value} (hd:Nat.blt d N=true) (hx:ev L x=some v) (h:WA w0 O K N D ((d,v)::L) C):
  WK P w0 O ops Q ⟨some d,.move x,ty,pos,af,none⟩ K N D L C:=WL.y (F:=fun _=>True) (Yl.move hx) hd (fun _ _=>trivial) h
theorem Yl.assign {F:World→Prop} {x:Operand} {v:Value} (hx:ev L x=some v):Yl P N D L F ⟨some d,.assign x,ty,pos,af,none⟩ (v):=fun a w hF _=>by simp [execOp,hF.ev hx]
theorem WL.assign {x:Operand} {v:Value} (hd:Nat.blt d N=true) (hx:ev L x=some v) (h:WA w0 O K N D ((d,v)::L) C):
  WK P w0 O ops Q ⟨some d,.assign x,ty,pos,af,none⟩ K N D L C:=WL.y (F:=fun _=>True) (Yl.assign hx) hd (fun _ _=>trivial) h
theorem Yl.pickT {F:World→Prop} {c x y:Operand} {v:Value} (hc:ev L c=some (.bool true)) (hx:ev L x=some v):Yl P N D L F ⟨some d,.pick c x y,ty,pos,af,none⟩ (v):=fun a w hF _=>by simp [execOp,hF.ev hc,hF.ev hx,asBool]
theorem WL.pickT {c x y:Operand} {v:Value} (hd:Nat.blt d N=true) (hc:ev L c=some (.bool true)) (hx:ev L x=some v) (h:WA w0 O K N D ((d,v)::L) C):
  WK P w0 O ops Q ⟨some d,.pick c x y,ty,pos,af,none⟩ K N D L C:=WL.y (F:=fun _=>True) (Yl.pickT hc hx) hd (fun _ _=>trivial) h
theorem Yl.pickF {F:World→Prop} {c x y:Operand} {v:Value} (hc:ev L c=some (.bool false)) (hx:ev L y=some v):Yl P N D L F ⟨some d,.pick c x y,ty,pos,af,none⟩ (v):=fun a w hF _=>by simp [execOp,hF.ev hc,hF.ev hx,asBool]
theorem WL.pickF {c x y:Operand} {v:Value} (hd:Nat.blt d N=true) (hc:ev L c=some (.bool false)) (hx:ev L y=some v) (h:WA w0 O K N D ((d,v)::L) C):
  WK P w0 O ops Q ⟨some d,.pick c x y,ty,pos,af,none⟩ K N D L C:=WL.y (F:=fun _=>True) (Yl.pickF hc hx) hd (fun _ _=>trivial) h
theorem Yl.nilCheck {F:World→Prop} {x:Operand} {b off:Nat} {s:Option Nat} (hx:ev L x=some (.pointer (some ⟨b,off,s⟩))):Yl P N D L F ⟨some d,.nilCheck x,ty,pos,af,none⟩ (.pointer (some ⟨b,off,s⟩)):=fun a w hF _=>by simp [execOp,hF.ev hx]
theorem WL.nilCheck {x:Operand} {b off:Nat} {s:Option Nat} (hd:Nat.blt d N=true) (hx:ev L x=some (.pointer (some ⟨b,off,s⟩))) (h:WA w0 O K N D ((d,.pointer (some ⟨b,off,s⟩))::L) C):
  WK P w0 O ops Q ⟨some d,.nilCheck x,ty,pos,af,none⟩ K N D L C:=WL.y (F:=fun _=>True) (Yl.nilCheck hx) hd (fun _ _=>trivial) h
theorem Yl.not {F:World→Prop} {x:Operand} {t:TypeId} {b:Bool} (hx:ev L x=some (.bool b)):Yl P N D L F ⟨some d,.unOp .not t x,ty,pos,af,none⟩ (.bool (!b)):=fun a w hF _=>by simp [execOp,hF.ev hx,Op.unary]
theorem WL.not {x:Operand} {t:TypeId} {b:Bool} (hd:Nat.blt d N=true) (hx:ev L x=some (.bool b)) (h:WA w0 O K N D ((d,.bool (!b))::L) C):
  WK P w0 O ops Q ⟨some d,.unOp .not t x,ty,pos,af,none⟩ K N D L C:=WL.y (F:=fun _=>True) (Yl.not hx) hd (fun _ _=>trivial) h
theorem Yl.extract {F:World→Prop} {x:Operand} {i:Nat} {vs:List Value} {v:Value} (hx:ev L x=some (.tuple vs.toArray)) (hv:vs[i]?=some v):Yl P N D L F ⟨some d,.extract x i,ty,pos,af,none⟩ (v):=fun a w hF _=>by simp [execOp,hF.ev hx,Instr.extract,hv]
theorem WL.extract {x:Operand} {i:Nat} {vs:List Value} {v:Value} (hd:Nat.blt d N=true) (hx:ev L x=some (.tuple vs.toArray)) (hv:vs[i]?=some v) (h:WA w0 O K N D ((d,v)::L) C):
  WK P w0 O ops Q ⟨some d,.extract x i,ty,pos,af,none⟩ K N D L C:=WL.y (F:=fun _=>True) (Yl.extract hx hv) hd (fun _ _=>trivial) h
theorem wrap_in {m:Int} (h1: -9223372036854775808≤m) (h2:m≤9223372036854775807):IntKind.i64.wrap m=m:=IntWalk.i64_in _ ⟨h1,h2⟩
theorem Yl.add {F:World→Prop} {x y:Operand} {t t':TypeId} {m n:Int} (hx:ev L x=some (.int .i64 m)) (hy:ev L y=some (.int .i64 n))
  (h1: -9223372036854775808≤m+n∧m+n≤9223372036854775807):Yl P N D L F ⟨some d,.binOp .add t x y t',ty,pos,af,none⟩ (.int .i64 (m+n)):=fun a w hF _=>by simp [execOp,hF.ev hx,hF.ev hy,binOp_add,eqGuard_add,Op.intArith,wrap_in h1.1 h1.2]
theorem WL.add {x y:Operand} {t t':TypeId} {m n:Int} (hd:Nat.blt d N=true) (hx:ev L x=some (.int .i64 m)) (hy:ev L y=some (.int .i64 n))
  (h1: -9223372036854775808≤m+n∧m+n≤9223372036854775807) (h:WA w0 O K N D ((d,.int .i64 (m+n))::L) C):
  WK P w0 O ops Q ⟨some d,.binOp .add t x y t',ty,pos,af,none⟩ K N D L C:=WL.y (F:=fun _=>True) (Yl.add hx hy h1) hd (fun _ _=>trivial) h
theorem Yl.sub {F:World→Prop} {x y:Operand} {t t':TypeId} {m n:Int} (hx:ev L x=some (.int .i64 m)) (hy:ev L y=some (.int .i64 n))
  (h1: -9223372036854775808≤m - n∧m - n≤9223372036854775807):Yl P N D L F ⟨some d,.binOp .sub t x y t',ty,pos,af,none⟩ (.int .i64 (m - n)):=fun a w hF _=>by simp [execOp,hF.ev hx,hF.ev hy,binOp_sub,eqGuard_sub,Op.intArith,wrap_in h1.1 h1.2]
theorem WL.sub {x y:Operand} {t t':TypeId} {m n:Int} (hd:Nat.blt d N=true) (hx:ev L x=some (.int .i64 m)) (hy:ev L y=some (.int .i64 n))
  (h1: -9223372036854775808≤m - n∧m - n≤9223372036854775807) (h:WA w0 O K N D ((d,.int .i64 (m - n))::L) C):
  WK P w0 O ops Q ⟨some d,.binOp .sub t x y t',ty,pos,af,none⟩ K N D L C:=WL.y (F:=fun _=>True) (Yl.sub hx hy h1) hd (fun _ _=>trivial) h
section
variable {x y : Operand} {t t' : TypeId} {k : IntKind} {m n : Int}
theorem Yl.eqI {F:World→Prop} (hx:ev L x=some (.int k m)) (hy:ev L y=some (.int k n)):Yl P N D L F ⟨some d,.binOp .eql t x y t',ty,pos,af,none⟩ (.bool (m==n)):=fun a w hF _=>by simp [execOp,hF.ev hx,hF.ev hy,binOp_eql,eqGuard_at_int]
theorem WL.eqI (hd:Nat.blt d N=true) (hx:ev L x=some (.int k m)) (hy:ev L y=some (.int k n)) (h:WA w0 O K N D ((d,.bool (m==n))::L) C):
  WK P w0 O ops Q ⟨some d,.binOp .eql t x y t',ty,pos,af,none⟩ K N D L C:=WL.y (F:=fun _=>True) (Yl.eqI hx hy) hd (fun _ _=>trivial) h
theorem Yl.neI {F:World→Prop} (hx:ev L x=some (.int k m)) (hy:ev L y=some (.int k n)):Yl P N D L F ⟨some d,.binOp .neq t x y t',ty,pos,af,none⟩ (.bool (m != n)):=fun a w hF _=>by simp [execOp,hF.ev hx,hF.ev hy,binOp_neq,eqGuard_at_int]
theorem WL.neI (hd:Nat.blt d N=true) (hx:ev L x=some (.int k m)) (hy:ev L y=some (.int k n)) (h:WA w0 O K N D ((d,.bool (m != n))::L) C):
  WK P w0 O ops Q ⟨some d,.binOp .neq t x y t',ty,pos,af,none⟩ K N D L C:=WL.y (F:=fun _=>True) (Yl.neI hx hy) hd (fun _ _=>trivial) h
theorem Yl.ltI {F:World→Prop} (hx:ev L x=some (.int k m)) (hy:ev L y=some (.int k n)):Yl P N D L F ⟨some d,.binOp .lss t x y t',ty,pos,af,none⟩ (.bool (decide (m<n))):=fun a w hF _=>by simp [execOp,hF.ev hx,hF.ev hy,binOp_lss,eqGuard_at_int]
theorem WL.ltI (hd:Nat.blt d N=true) (hx:ev L x=some (.int k m)) (hy:ev L y=some (.int k n)) (h:WA w0 O K N D ((d,.bool (decide (m<n)))::L) C):
  WK P w0 O ops Q ⟨some d,.binOp .lss t x y t',ty,pos,af,none⟩ K N D L C:=WL.y (F:=fun _=>True) (Yl.ltI hx hy) hd (fun _ _=>trivial) h
theorem Yl.leI {F:World→Prop} (hx:ev L x=some (.int k m)) (hy:ev L y=some (.int k n)):Yl P N D L F ⟨some d,.binOp .leq t x y t',ty,pos,af,none⟩ (.bool (decide (m≤n))):=fun a w hF _=>by simp [execOp,hF.ev hx,hF.ev hy,binOp_leq,eqGuard_at_int]
theorem WL.leI (hd:Nat.blt d N=true) (hx:ev L x=some (.int k m)) (hy:ev L y=some (.int k n)) (h:WA w0 O K N D ((d,.bool (decide (m≤n)))::L) C):
  WK P w0 O ops Q ⟨some d,.binOp .leq t x y t',ty,pos,af,none⟩ K N D L C:=WL.y (F:=fun _=>True) (Yl.leI hx hy) hd (fun _ _=>trivial) h
theorem Yl.gtI {F:World→Prop} (hx:ev L x=some (.int k m)) (hy:ev L y=some (.int k n)):Yl P N D L F ⟨some d,.binOp .gtr t x y t',ty,pos,af,none⟩ (.bool (decide (n<m))):=fun a w hF _=>by simp [execOp,hF.ev hx,hF.ev hy,binOp_gtr,eqGuard_at_int]
theorem WL.gtI (hd:Nat.blt d N=true) (hx:ev L x=some (.int k m)) (hy:ev L y=some (.int k n)) (h:WA w0 O K N D ((d,.bool (decide (n<m)))::L) C):
  WK P w0 O ops Q ⟨some d,.binOp .gtr t x y t',ty,pos,af,none⟩ K N D L C:=WL.y (F:=fun _=>True) (Yl.gtI hx hy) hd (fun _ _=>trivial) h
theorem Yl.geI {F:World→Prop} (hx:ev L x=some (.int k m)) (hy:ev L y=some (.int k n)):Yl P N D L F ⟨some d,.binOp .geq t x y t',ty,pos,af,none⟩ (.bool (decide (n≤m))):=fun a w hF _=>by simp [execOp,hF.ev hx,hF.ev hy,binOp_geq,eqGuard_at_int]
theorem WL.geI (hd:Nat.blt d N=true) (hx:ev L x=some (.int k m)) (hy:ev L y=some (.int k n)) (h:WA w0 O K N D ((d,.bool (decide (n≤m)))::L) C):
  WK P w0 O ops Q ⟨some d,.binOp .geq t x y t',ty,pos,af,none⟩ K N D L C:=WL.y (F:=fun _=>True) (Yl.geI hx hy) hd (fun _ _=>trivial) h
end
def str (l:List UInt8):ByteArray:=⟨l.toArray⟩
theorem str_toList (l:List UInt8):(str l).toList=l:=ByteArray.toList_mk l
theorem str_size (l:List UInt8):(str l).size=l.length:=by simp [str,ByteArray.size]
theorem str_extract (l:List UInt8) (i j:Nat):(str l).extract i j=str ((l.drop i).take (j - i)):=ByteArray.extract_mk l i j
theorem str_append (x y:List UInt8):str x++str y=str (x++y):=ByteArray.mk_append_mk x y
theorem str_of (s:ByteArray):s=str s.data.toList:=by cases s;simp [str]
theorem str_get (l:List UInt8) (i:Nat) (h:i<l.length):(str l)[i]?=some l[i]:=by
 have hs:i<(str l).size:=by rw [str_size];exact h
 rw [ByteArray.getElem?_lt' _ _ hs]
 congr 1
section
variable {x y : Operand} {t t' : TypeId} {m n : List UInt8}
theorem Yl.eqS {F:World→Prop} (hx:ev L x=some (.string (str m))) (hy:ev L y=some (.string (str n))):Yl P N D L F ⟨some d,.binOp .eql t x y t',ty,pos,af,none⟩ (.bool (m==n)):=fun a w hF _=>by simp [execOp,hF.ev hx,hF.ev hy,binOp_string_eql,eqGuard_at_string,str_toList]
theorem Yl.neS {F:World→Prop} (hx:ev L x=some (.string (str m))) (hy:ev L y=some (.string (str n))):Yl P N D L F ⟨some d,.binOp .neq t x y t',ty,pos,af,none⟩ (.bool (!(m==n))):=fun a w hF _=>by simp [execOp,hF.ev hx,hF.ev hy,binOp_string_neq,eqGuard_at_string,str_toList]
theorem WL.neS (hd:Nat.blt d N=true) (hx:ev L x=some (.string (str m))) (hy:ev L y=some (.string (str n))) (h:WA w0 O K N D ((d,.bool (!(m==n)))::L) C):
  WK P w0 O ops Q ⟨some d,.binOp .neq t x y t',ty,pos,af,none⟩ K N D L C:=WL.y (F:=fun _=>True) (Yl.neS hx hy) hd (fun _ _=>trivial) h
theorem Yl.addS {F:World→Prop} (hx:ev L x=some (.string (str m))) (hy:ev L y=some (.string (str n))) (hb:m.length+n.length≤9223372036854775807):Yl P N D L F ⟨some d,.binOp .add t x y t',ty,pos,af,none⟩ (.string (str (m++n))):=fun a w hF _=>by
   simp [execOp,hF.ev hx,hF.ev hy,binOp_string_add,eqGuard_at_string,run_string_add_sum (P:=P) (w:=w) (str m) (str n) (by simpa [str_size] using hb),str_append]
theorem WL.addS (hd:Nat.blt d N=true) (hx:ev L x=some (.string (str m))) (hy:ev L y=some (.string (str n))) (hb:m.length+n.length≤9223372036854775807) (h:WA w0 O K N D ((d,.string (str (m++n)))::L) C):
  WK P w0 O ops Q ⟨some d,.binOp .add t x y t',ty,pos,af,none⟩ K N D L C:=WL.y (F:=fun _=>True) (Yl.addS hx hy hb) hd (fun _ _=>trivial) h
theorem Yl.lenS {F:World→Prop} (ht:P.underlying t=some .string) (hx:ev L x=some (.string (str m))):Yl P N D L F ⟨some d,.call {callee:= .builtin .len,args:=#[x],argTypes:=#[t]},ty,pos,af,none⟩ (.int .i64 m.length):=fun a w hF _=>by
   simp [execOp,resolve,invoke,builtin,hF.ev hx,run_len_string (P:=P) (w:=w) t ty (str m) ht,goInt,str_size]
theorem WL.lenS (ht:P.underlying t=some .string) (hd:Nat.blt d N=true) (hx:ev L x=some (.string (str m))) (h:WA w0 O K N D ((d,.int .i64 m.length)::L) C):
  WK P w0 O ops Q ⟨some d,.call {callee:= .builtin .len,args:=#[x],argTypes:=#[t]},ty,pos,af,none⟩ K N D L C:=WL.y (F:=fun _=>True) (Yl.lenS ht hx) hd (fun _ _=>trivial) h
theorem Yl.indexS {F:World→Prop} {k:IntKind} {i:Nat} {c:UInt8} (ht:P.underlying t=some .string) (hx:ev L x=some (.string (str m))) (hy:ev L y=some (.int k i)) (hc:m[i]?=some c):Yl P N D L F ⟨some d,.index t x y,ty,pos,af,none⟩ (.int .u8 c.toNat):=fun a w hF _=>by
   have hi:i<m.length:=(List.getElem?_eq_some_iff.1 hc).1
   have hcv:m[i]=c:=(List.getElem?_eq_some_iff.1 hc).2
   simp [execOp,hF.ev hx,hF.ev hy,Instr.index,run_underlying ht,asIntOf,str_get m i hi,hcv]
end
end
open Go Go.RowKit
def aggB (P:Program) (t:TypeId):Option Bool:=match P.underlying t with
 | some (.struct _)=>some true
 | some (.array _ _)=>some true
 | some _=>some false
 | none=>none
def sizeB (P:Program) (t:TypeId):Option Nat:=(P.info? t).map (·.size)
def zeroB (P:Program) (t:TypeId):Option (List Value):=((P.info? t).bind (·.zero)).map (·.cells.toList)
def fldB (P:Program) (t:TypeId) (f:Nat):Option Nat:=match P.underlying t with
 | some (.struct fields)=>match fields[f]? with
  | some fd=>match sizeB P fd.type with
   | some (_+1)=>some fd.offset
   | _=>none
  | none=>none
 | _=>none
def funB (P:Program) (f:FuncId):Option Bool:=match P.funcs[f]? with
 | some fn => some (!(fn.name == "runtime.NumGoroutine") && fn.body.isSome)
 | none=>none
structure One (P:Program) (t:TypeId):Prop where
 agg:aggB P t=some false
 size:sizeB P t=some 1
structure Agg (P:Program) (t:TypeId) (n:Nat):Prop where
 agg:aggB P t=some true
 size:sizeB P t=some n
structure SlT (P:Program) (t e:TypeId) (n:Nat):Prop where
 und:P.underlying t=some (.slice e)
 size:sizeB P e=some n
section
variable {P : Program} {w0 : World} {O : List Nat} {ops : Array Oper} {Q : Exit → Act → World → Prop} {N : Nat} {D : List Deferred} {L : FL} {C : List Chunk} {K : Act → World → Prop}
variable {rest : List Oper} {d : Nat} {ty : TypeId} {pos : String} {af : Array Edge}
theorem run_sizeOf {t:TypeId} {n:Nat} (h:sizeB P t=some n) (w:World):(sizeOf t).run P w= .ok n w:=by
 unfold sizeB at h
 cases hi:P.info? t with
 | none=>simp [hi] at h
 | some i=>simp [hi] at h;simp [sizeOf,typeInfo,hi,h]
theorem run_isAgg {t:TypeId} {b:Bool} (h:aggB P t=some b) (w:World):(isAgg t).run P w= .ok b w:=by
 unfold aggB at h
 cases hu:P.underlying t with
 | none=>simp [hu] at h
 | some d=>cases d<;>simp [hu] at h<;>subst h<;>simp [isAgg,run_underlying hu]
theorem run_zeroValue {t:TypeId} {zs:List Value} (h:zeroB P t=some zs) (w:World):∃ z,(zeroValue t).run P w= .ok z w∧z.cells=zs.toArray:=by
 unfold zeroB at h
 cases hi:P.info? t with
 | none=>simp [hi] at h
 | some i=>
  cases hz:i.zero with
  | none=>simp [hi,hz] at h
  | some z=>
   simp [hi,hz] at h
   exact ⟨z,by simp [zeroValue,typeInfo,hi,hz],by simp [← h]⟩
theorem run_load1 {t:TypeId} (ht:One P t) {w:World} {a:Addr} {v:Value} (hc:w.cell? a=some v):(Instr.loadAt t (.pointer (some a))).run P w= .ok v w:=by
 simp [Instr.loadAt,Instr.sureAddr,loadVar,run_isAgg ht.agg,hc]
theorem run_loadN {t:TypeId} {n:Nat} (ht:Agg P t n) {w:World} {a:Addr} {vs:List Value} (hl:vs.length=n) (hc:∀ j v,vs[j]?=some v→w.cell? (a.add j)=some v):
  (Instr.loadAt t (.pointer (some a))).run P w= .ok (.agg vs.toArray) w:=by
 subst hl
 simp [Instr.loadAt,Instr.sureAddr,loadVar,run_isAgg ht.agg,run_sizeOf ht.size,run_loadCells_list (P:=P) w a vs hc]
theorem add_blk (b o j:Nat):(⟨b,o,none⟩:Addr).add j=⟨b,o+j,none⟩:=Addr.add_lit b o j
theorem Yl.load1 {t:TypeId} {x:Operand} {b off:Nat} {v:Value} (ht:One P t) (hx:ev L x=some (.pointer (some ⟨b,off,none⟩))):
  Yl P N D L (fun w=>w.cell? ⟨b,off,none⟩=some v) ⟨some d,.load t x,ty,pos,af,none⟩ v:=fun a w hF hc=>by simp [execOp,hF.ev hx,run_load1 ht hc]
theorem Yl.loadN {t:TypeId} {x:Operand} {b off n:Nat} {vs:List Value} (ht:Agg P t n) (hx:ev L x=some (.pointer (some ⟨b,off,none⟩))) (hl:vs.length=n):
  Yl P N D L (fun w=>∀ j v,vs[j]?=some v→w.cell? ⟨b,off+j,none⟩=some v) ⟨some d,.load t x,ty,pos,af,none⟩ (.agg vs.toArray):=fun a w hF hc=>by
 have:=run_loadN ht hl (fun j v hv=>by rw [add_blk];exact hc j v hv)
 simp [execOp,hF.ev hx,this]
theorem WL.load1 {t:TypeId} {x:Operand} {b off:Nat} {v:Value} (ht:One P t) (hd:Nat.blt d N=true) (hx:ev L x=some (.pointer (some ⟨b,off,none⟩)))
  (hc:∀ w,St w0 O C w→w.cell? ⟨b,off,none⟩=some v) (h:WA w0 O K N D ((d,v)::L) C):
  WK P w0 O ops Q ⟨some d,.load t x,ty,pos,af,none⟩ K N D L C:=WL.y (Yl.load1 ht hx) hd hc h
theorem WL.loadN {t:TypeId} {x:Operand} {b off n:Nat} {vs:List Value} (ht:Agg P t n) (hd:Nat.blt d N=true) (hx:ev L x=some (.pointer (some ⟨b,off,none⟩))) (hl:vs.length=n)
  (hc:∀ w,St w0 O C w→∀ j v,vs[j]?=some v→w.cell? ⟨b,off+j,none⟩=some v) (h:WA w0 O K N D ((d,.agg vs.toArray)::L) C):
  WK P w0 O ops Q ⟨some d,.load t x,ty,pos,af,none⟩ K N D L C:=WL.y (Yl.loadN ht hx hl) hd hc h
theorem WL.loadP {t:TypeId} {x:Operand} {b off:Nat} {cs:List Value} {e:TypeId} {v:Value} (ht:One P t) (hd:Nat.blt d N=true) (hx:ev L x=some (.pointer (some ⟨b,off,none⟩)))
  (hm:pt b cs e∈C) (hv:cs[off]?=some v) (h:WA w0 O K N D ((d,v)::L) C):
  WK P w0 O ops Q ⟨some d,.load t x,ty,pos,af,none⟩ K N D L C:=WL.load1 ht hd hx (fun w hS=>hS.cell hm hv) h
theorem WL.loadW {t:TypeId} {x:Operand} {b n:Nat} {cs:List Value} {e:TypeId} (ht:Agg P t n) (hd:Nat.blt d N=true) (hx:ev L x=some (.pointer (some ⟨b,0,none⟩)))
  (hm:pt b cs e∈C) (hl:cs.length=n) (h:WA w0 O K N D ((d,.agg cs.toArray)::L) C):
  WK P w0 O ops Q ⟨some d,.load t x,ty,pos,af,none⟩ K N D L C:=WL.loadN ht hd hx hl (fun w hS j v hv=>by rw [Nat.zero_add];exact hS.cell hm hv) h
theorem St.oldc {w:World} (h:St w0 O C w) {p:Addr} {v:Value} (hc:w0.cell? p=some v) (hO:p.block∉O):w.cell? p=some v:=by
 have:=h.old p.block (World.block_lt_of_cell? w0 p hc) hO
 rw [World.cell?_of_block (w:=w0) (w':=w) this];exact hc
theorem wpo_new {o:Oper} {a:Act} {w:World} {cs:List Value} {e:TypeId} (hg:o.guard=none) (hd:o.dst=some d) (hdN:Nat.blt d N=true)
  (hr:(execOp a.eval o).run P w= .ok (.value (.pointer (some ⟨w.heap.size,0,none⟩))) (w.alloc (.cells cs.toArray e)))
  (hF:Fr N D L a) (hS:St w0 O C w) (h:∀ b,WA w0 O K N D ((d,.pointer (some ⟨b,0,none⟩))::L) (pt b cs e::C)):wpO P ops Q o K a w:=by
 refine wpo_val hg hr ?_
 rw [hd]
 exact h w.heap.size _ _ (hF.put d _ hdN) (hS.alloc cs e)
theorem WL.alloc {e:TypeId} {zs:List Value} (hz:zeroB P e=some zs) (hd:Nat.blt d N=true)
  (h:∀ b,WA w0 O K N D ((d,.pointer (some ⟨b,0,none⟩))::L) (pt b zs e::C)):
  WK P w0 O ops Q ⟨some d,.alloc e,ty,pos,af,none⟩ K N D L C:=fun a w hF hS=>by
 obtain ⟨z,hz1,hz2⟩:=run_zeroValue hz w
 exact wpo_new rfl rfl hd (by simp [execOp,Instr.alloc,hz1,newVar,newRow,hz2]) hF hS h
theorem WL.boxN {e:TypeId} {x:Operand} {cs:List Value} (hd:Nat.blt d N=true) (hx:ev L x=some (.agg cs.toArray))
  (h:∀ b,WA w0 O K N D ((d,.pointer (some ⟨b,0,none⟩))::L) (pt b cs e::C)):
  WK P w0 O ops Q ⟨some d,.box e x,ty,pos,af,none⟩ K N D L C:=fun a w hF hS=>
 wpo_new rfl rfl hd (by simp [execOp,Instr.box,newVar,newRow,hF.ev hx,Value.cells]) hF hS h
theorem cells_one {v:Value} (h:v.oneCell'=true):v.cells=#[v]:=by cases v<;>first | rfl | (simp [Value.oneCell'] at h)
theorem WL.box1 {e:TypeId} {x:Operand} {v:Value} (hv:v.oneCell'=true) (hd:Nat.blt d N=true) (hx:ev L x=some v)
  (h:∀ b,WA w0 O K N D ((d,.pointer (some ⟨b,0,none⟩))::L) (pt b [v] e::C)):
  WK P w0 O ops Q ⟨some d,.box e x,ty,pos,af,none⟩ K N D L C:=fun a w hF hS=>
 wpo_new rfl rfl hd (by simp [execOp,Instr.box,newVar,newRow,hF.ev hx,cells_one hv]) hF hS h
inductive SetN :List Value→Nat→List Value→List Value→Prop
 | nil:SetN [] 0 [] []
 | done {cs}:SetN cs 0 [] cs
 | put {c cs v vs cs'}:SetN cs 0 vs cs'→SetN (c::cs) 0 (v::vs) (v::cs')
 | skip {c cs n vs cs'}:SetN cs n vs cs'→SetN (c::cs) (n+1) vs (c::cs')
theorem SetN.eq {cs n vs cs'} (h:SetN cs n vs cs'):cs.take n++vs++cs.drop (n+vs.length)=cs'∧n+vs.length≤cs.length:=by
 induction h with
 | nil=>simp
 | done=>simp
 | put _ ih=>
  obtain ⟨h1,h2⟩:=ih
  simp only [List.take_zero,List.nil_append,Nat.zero_add] at h1 h2 ⊢
  refine ⟨?_,by simp;omega⟩
  simp [h1]
 | skip _ ih=>
  obtain ⟨h1,h2⟩:=ih
  refine ⟨?_,by simp;omega⟩
  simp only [List.take_succ_cons,List.cons_append,List.cons.injEq,true_and,Nat.add_right_comm,List.drop_succ_cons]
  exact h1
theorem run_storeN {t:TypeId} {w:World} {b off:Nat} {cs cs' vs:List Value} {e:TypeId} {v:Value} (hs:sizeB P t=some vs.length) (hvc:v.cells=vs.toArray) (h1:∀ u∈vs,u.oneCell'=true)
  (hb:w.heap[b]?=some (.cells cs.toArray e (0,0))) (hn:SetN cs off vs cs'):(Instr.storeAt t (.pointer (some ⟨b,off,none⟩)) v).run P w= .ok () (w.setRow b cs'.toArray):=by
 obtain ⟨e1,e2⟩:=hn.eq
 have:=run_storeCells_at P b off e vs 0 cs.toArray w hb (by simpa using e2) h1
 simp only [Nat.add_zero] at this
 simp [Instr.storeAt,Instr.sureAddr,storeVar,run_sizeOf hs,hvc,this,← e1]
theorem WL.store1 {t:TypeId} {x y:Operand} {b off:Nat} {cs cs':List Value} {e:TypeId} {v:Value} {C':List Chunk} (ht:One P t) (hx:ev L x=some (.pointer (some ⟨b,off,none⟩))) (hy:ev L y=some v) (hv:v.oneCell'=true)
  (hu:Upd (pt b cs e) (pt b cs' e) C C') (hn:SetN cs off [v] cs') (h:WA w0 O K N D L C'):
  WK P w0 O ops Q ⟨none,.store t x y,ty,pos,af,none⟩ K N D L C:=fun a w hF hS=>by
 have hr:=run_storeN (P:=P) (t:=t) (vs:=[v]) ht.size (cells_one hv) (by simpa using hv) (hS.heap hu.mem) hn
 exact wpo_skip rfl (by simp [execOp,hF.ev hx,hF.ev hy,hr]) (h _ _ hF (hS.row hu))
theorem WL.storeN {t:TypeId} {n:Nat} {x y:Operand} {b off:Nat} {cs cs' vs:List Value} {e:TypeId} {C':List Chunk} (ht:Agg P t n) (hx:ev L x=some (.pointer (some ⟨b,off,none⟩))) (hy:ev L y=some (.agg vs.toArray)) (hl:vs.length=n)
  (hv:∀ u∈vs,u.oneCell'=true) (hu:Upd (pt b cs e) (pt b cs' e) C C') (hn:SetN cs off vs cs') (h:WA w0 O K N D L C'):
  WK P w0 O ops Q ⟨none,.store t x y,ty,pos,af,none⟩ K N D L C:=fun a w hF hS=>by
 subst hl
 have hr:=run_storeN (P:=P) (t:=t) (v:= .agg vs.toArray) ht.size rfl hv (hS.heap hu.mem) hn
 exact wpo_skip rfl (by simp [execOp,hF.ev hx,hF.ev hy,hr]) (h _ _ hF (hS.row hu))
theorem run_fieldAt {t:TypeId} {f off:Nat} (hf:fldB P t f=some off) {w:World} {a:Addr}:(Instr.fieldAt t (.pointer (some a)) f).run P w= .ok (.pointer (some (a.add off))) w:=by
 unfold fldB at hf
 split at hf
 ·rename_i fields hu
  split at hf
  ·rename_i fd hfd
   split at hf
   ·rename_i k hk
    simp at hf
    subst hf
    simp [Instr.fieldAt,run_underlying hu,hfd,Instr.sureAddr,fieldPlace,run_sizeOf hk]
   cases hf
  cases hf
 cases hf
theorem Yl.fieldAddr {F:World→Prop} {t:TypeId} {f k:Nat} {x:Operand} {b off:Nat} (hf:fldB P t f=some k) (hx:ev L x=some (.pointer (some ⟨b,off,none⟩))):Yl P N D L F ⟨some d,.fieldAddr t x f,ty,pos,af,none⟩ (.pointer (some ⟨b,off+k,none⟩)):=fun a w hF _=>by
   have:=run_fieldAt (P:=P) hf (w:=w) (a:=⟨b,off,none⟩)
   simp [execOp,hF.ev hx,this,add_blk]
theorem WL.fieldAddr {t:TypeId} {f k:Nat} {x:Operand} {b off:Nat} (hf:fldB P t f=some k) (hd:Nat.blt d N=true) (hx:ev L x=some (.pointer (some ⟨b,off,none⟩)))
  (h:WA w0 O K N D ((d,.pointer (some ⟨b,off+k,none⟩))::L) C):
  WK P w0 O ops Q ⟨some d,.fieldAddr t x f,ty,pos,af,none⟩ K N D L C:=WL.y (F:=fun _=>True) (Yl.fieldAddr hf hx) hd (fun _ _=>trivial) h
theorem Yl.fieldAddr0 {F:World→Prop} {t:TypeId} {f k:Nat} {x:Operand} {b:Nat} (hf:fldB P t f=some k) (hx:ev L x=some (.pointer (some ⟨b,0,none⟩))):
  Yl P N D L F ⟨some d,.fieldAddr t x f,ty,pos,af,none⟩ (.pointer (some ⟨b,k,none⟩)):=by
 have:=Yl.fieldAddr (P:=P) (N:=N) (D:=D) (L:=L) (F:=F) (d:=d) (ty:=ty) (pos:=pos) (af:=af) hf hx
 rwa [Nat.zero_add] at this
theorem WL.fieldAddr0 {t:TypeId} {f k:Nat} {x:Operand} {b:Nat} (hf:fldB P t f=some k) (hd:Nat.blt d N=true) (hx:ev L x=some (.pointer (some ⟨b,0,none⟩)))
  (h:WA w0 O K N D ((d,.pointer (some ⟨b,k,none⟩))::L) C):
  WK P w0 O ops Q ⟨some d,.fieldAddr t x f,ty,pos,af,none⟩ K N D L C:=WL.y (F:=fun _=>True) (Yl.fieldAddr0 hf hx) hd (fun _ _=>trivial) h
theorem run_indexAt {t e:TypeId} {n:Nat} (ht:SlT P t e n) {w:World} {b off len cap:Nat} {k:IntKind} {i:Nat} (hi:i<len):
  (Instr.indexAt t (.slice (some ⟨b,off,none⟩) len cap) (.int k i)).run P w= .ok (.pointer (some ⟨b,off+i*n,none⟩)) w:=by
 have h1:(0:Int)≤(i:Int)∧(i:Int)<(len:Int):=by omega
 simp [Instr.indexAt,run_underlying ht.und,asIntOf,h1,hi,run_sizeOf ht.size,add_blk]
theorem Yl.indexAddr {F:World→Prop} {t e:TypeId} {n:Nat} {x y:Operand} {b off len cap:Nat} {k:IntKind} {i:Nat} (ht:SlT P t e n) (hx:ev L x=some (.slice (some ⟨b,off,none⟩) len cap)) (hy:ev L y=some (.int k i)) (hi:i<len):Yl P N D L F ⟨some d,.indexAddr t x y,ty,pos,af,none⟩ (.pointer (some ⟨b,off+i*n,none⟩)):=fun a w hF _=>by
   simp [execOp,hF.ev hx,hF.ev hy,run_indexAt (P:=P) ht (w:=w) (k:=k) hi]
theorem WL.indexAddr {t e:TypeId} {n:Nat} {x y:Operand} {b off len cap:Nat} {k:IntKind} {i:Nat} (ht:SlT P t e n) (hd:Nat.blt d N=true) (hx:ev L x=some (.slice (some ⟨b,off,none⟩) len cap)) (hy:ev L y=some (.int k i)) (hi:i<len)
  (h:WA w0 O K N D ((d,.pointer (some ⟨b,off+i*n,none⟩))::L) C):
  WK P w0 O ops Q ⟨some d,.indexAddr t x y,ty,pos,af,none⟩ K N D L C:=WL.y (F:=fun _=>True) (Yl.indexAddr ht hx hy hi) hd (fun _ _=>trivial) h
theorem Yl.lenSl {F:World→Prop} {t e:TypeId} {x:Operand} {a0:Option Addr} {len cap:Nat} (ht:P.underlying t=some (.slice e)) (hx:ev L x=some (.slice a0 len cap)):Yl P N D L F ⟨some d,.call {callee:= .builtin .len,args:=#[x],argTypes:=#[t]},ty,pos,af,none⟩ (.int .i64 len):=fun a w hF _=>by
   simp [execOp,resolve,invoke,builtin,hF.ev hx,Builtin.len_,run_underlying ht,goInt]
theorem WL.lenSl {t e:TypeId} {x:Operand} {a0:Option Addr} {len cap:Nat} (ht:P.underlying t=some (.slice e)) (hd:Nat.blt d N=true) (hx:ev L x=some (.slice a0 len cap)) (h:WA w0 O K N D ((d,.int .i64 len)::L) C):
  WK P w0 O ops Q ⟨some d,.call {callee:= .builtin .len,args:=#[x],argTypes:=#[t]},ty,pos,af,none⟩ K N D L C:=WL.y (F:=fun _=>True) (Yl.lenSl ht hx) hd (fun _ _=>trivial) h
def evp (L:FL):List (Nat×Operand)→Option (List (Nat×Value))
 | []=>some []
 | (i,x)::r=>match ev L x,evp L r with
  | some v,some vs=>some ((i,v)::vs)
  | _,_=>none
theorem evp_eq {a:Act} (hF:Fr N D L a):∀ {pl:List (Nat×Operand)} {ps:List (Nat×Value)},evp L pl=some ps→pl.map (fun p=>(p.1,a.eval p.2))=ps
 | [],ps,h=>by simp [evp] at h;simp [h]
 | (i,x)::r,ps,h=>by
  simp only [evp] at h
  cases hx:ev L x with
  | none=>simp [hx] at h
  | some v=>
   cases hr:evp L r with
   | none=>simp [hx,hr] at h
   | some us=>
    simp [hx,hr] at h
    subst h
    simp [hF.ev hx,evp_eq hF hr]
theorem evp_arr {a:Act} (hF:Fr N D L a) {parts:List (Nat×Operand)} {ps:List (Nat×Value)} (h:evp L parts=some ps):(parts.toArray.map fun (i,x)=>(i,a.eval x))=ps.toArray:=by
 apply Array.ext'
 simp only [Array.toList_map]
 exact evp_eq hF h
inductive Built (pl:Nat→Option (Nat×Nat)):List Value→List (Nat×Value)→List Value→Prop
 | nil {cs}:Built pl cs [] cs
 | one {cs cs1 cs2 i off v ps}:pl i=some (off,1)→v.oneCell'=true→SetN cs off [v] cs1→Built pl cs1 ps cs2→Built pl cs ((i,v)::ps) cs2
 | agg {cs cs1 cs2 i off n vs ps}:pl i=some (off,n)→vs.length=n→SetN cs off vs cs1→Built pl cs1 ps cs2→Built pl cs ((i,.agg (List.toArray vs))::ps) cs2
theorem foldl_seg (base:Nat):∀ (vs:List Value) (k:Nat) (cs:List Value),base+k+vs.length≤cs.length→
  (vs.zipIdx k).foldl (fun (a:Array Value) (p:Value×Nat)=>a.setIfInBounds (base+p.2) p.1) cs.toArray=(cs.take (base+k)++vs++cs.drop (base+k+vs.length)).toArray
 | [],k,cs,_=>by simp
 | v::vs,k,cs,h=>by
  simp only [List.zipIdx_cons,List.foldl_cons]
  have e:cs.toArray.setIfInBounds (base+k) v=(cs.set (base+k) v).toArray:=by simp
  rw [e,foldl_seg base vs (k+1) (cs.set (base+k) v) (by simp at h ⊢;omega)]
  have:=list_seg_step cs (base+k) v vs (by simp at h;omega)
  simp only [List.length_cons]
  rw [← this]
  simp [Nat.add_assoc]
theorem fill_step {pl:Nat→Option (Nat×Nat)} {i off n:Nat} {v:Value} {vs cs cs1:List Value} {ps:List (Nat×Value)} (hp:pl i=some (off,n)) (hv:v.cells=vs.toArray) (hl:vs.length=n) (hs:SetN cs off vs cs1):
  Instr.fill pl cs.toArray ((i,v)::ps)=Instr.fill pl cs1.toArray ps:=by
 obtain ⟨h1,h2⟩:=hs.eq
 have hsz:v.cells.size=n:=by rw [hv];simpa using hl
 have hc:(decide (v.cells.size≠n)||decide (off+v.cells.size>cs.toArray.size))=false:=by
  simp only [hsz,ne_eq,not_true_eq_false,decide_false,Bool.false_or,decide_eq_false_iff_not]
  simp;omega
 have hfold:=foldl_seg off vs 0 cs (by simpa using h2)
 simp only [Nat.add_zero] at hfold
 have e:cs1.toArray=v.cells.zipIdx.foldl (fun (a:Array Value) (p:Value×Nat)=>a.setIfInBounds (off+p.2) p.1) cs.toArray:=by
  rw [← h1,← hfold,hv]
  simp
 rw [e,Instr.fill]
 simp only [hp,hc]
 rw [if_neg (by simp)]
theorem Built.fill {pl:Nat→Option (Nat×Nat)} {cs cs':List Value} {ps:List (Nat×Value)} (h:Built pl cs ps cs'):Instr.fill pl cs.toArray ps=some cs'.toArray:=by
 induction h with
 | nil=>rfl
 | one hp hv hs _ ih=>rw [fill_step hp (cells_one hv) rfl hs];exact ih
 | @agg cs cs1 cs2 i off n vs ps hp hl hs _ ih=>rw [fill_step (vs:=vs) hp rfl hl hs];exact ih
def placesB (P:Program) (t:TypeId):Option (List (Nat×Nat)):=match P.underlying t with
 | some (.struct fields)=>fields.toList.mapM (fun f=>(P.info? f.type).map fun i=>(f.offset,i.size))
 | _=>none
structure StT (P:Program) (t:TypeId) (zs:List Value) (pl:List (Nat×Nat)):Prop where
 zero:zeroB P t=some zs
 places:placesB P t=some pl
theorem Yl.build {F:World→Prop} {t:TypeId} {parts:List (Nat×Operand)} {ps:List (Nat×Value)} {zs cs:List Value} {pl:List (Nat×Nat)} (ht:StT P t zs pl) (hp:evp L parts=some ps) (hb:Built (fun i=>pl[i]?) zs ps cs):Yl P N D L F ⟨some d,.build t parts.toArray,ty,pos,af,none⟩ (.agg cs.toArray):=fun a w hF _=>by
   have hbu:P.built t ps=some cs.toArray:=by
    have h1:=ht.zero
    have h2:=ht.places
    unfold zeroB at h1
    unfold placesB at h2
    unfold Program.built
    cases hi:P.info? t with
    | none=>simp [hi] at h1
    | some it=>
     cases hz:it.zero with
     | none=>simp [hi,hz] at h1
     | some z=>
      simp only [hi,hz,Option.bind_some,Option.map_some,Option.some.injEq] at h1
      cases hu:P.underlying t with
      | none=>simp [hu] at h2
      | some dd=>
       cases dd<;>simp only [hu] at h2<;>try (cases h2;done)
       simp only [hz,h2]
       have hfl:=hb.fill
       have e:z.cells=zs.toArray:=by rw [← h1]
       rw [e]
       simpa using hfl
   have:=run_build w t ps.toArray cs.toArray (by simpa using hbu)
   simp [execOp,evp_arr hF hp,this]
theorem WL.build {t:TypeId} {parts:List (Nat×Operand)} {ps:List (Nat×Value)} {zs cs:List Value} {pl:List (Nat×Nat)} (ht:StT P t zs pl) (hp:evp L parts=some ps) (hb:Built (fun i=>pl[i]?) zs ps cs) (hd:Nat.blt d N=true)
  (h:WA w0 O K N D ((d,.agg cs.toArray)::L) C):
  WK P w0 O ops Q ⟨some d,.build t parts.toArray,ty,pos,af,none⟩ K N D L C:=WL.y (F:=fun _=>True) (Yl.build ht hp hb) hd (fun _ _=>trivial) h
theorem Yl.makeIface {F:World→Prop} {t:TypeId} {x:Operand} {v:Value} (ht:P.concrete t=true) (hx:ev L x=some v):Yl P N D L F ⟨some d,.makeInterface t x,ty,pos,af,none⟩ (.iface t v):=fun a w hF _=>by simp [execOp,hF.ev hx,run_makeInterface (P:=P) w t v ht]
theorem run_callFunc {f:FuncId} (hf:funB P f=some true) (args:Array Value) (w:World):(callFunc f args).run P w= .ok (.enter f args) w:=by
 unfold funB at hf
 cases hfn:P.funcs[f]? with
 | none=>simp [hfn] at hf
 | some fn=>
  simp only [hfn,Option.some.injEq,Bool.and_eq_true,Bool.not_eq_true'] at hf
  have hb:fn.body.isNone=false:=by cases hh:fn.body<;>simp [hh] at hf ⊢
  simp only [callFunc,Sem.run_bind,run_program,Result.andThen_ok,hfn,hf.1,hb,Bool.false_eq_true,if_false,Sem.run_pure]
def evs (L:FL):List Operand→Option (List Value)
 | []=>some []
 | x::r=>match ev L x,evs L r with
  | some v,some vs=>some (v::vs)
  | _,_=>none
theorem Fr.evs {a:Act} (hF:Fr N D L a):∀ {xs:List Operand} {vs:List Value},evs L xs=some vs→xs.map a.eval=vs
 | [],vs,h=>by simp [Eng.evs] at h;simp [h]
 | x::r,vs,h=>by
  simp only [Eng.evs] at h
  cases hx:Eng.ev L x with
  | none=>simp [hx] at h
  | some v=>
   cases hr:Eng.evs L r with
   | none=>simp [hx,hr] at h
   | some us=>
    simp [hx,hr] at h
    subst h
    simp [hF.ev hx,Fr.evs hF hr]
theorem wpo_call {o:Oper} {a:Act} {w:World} {f:FuncId} {args:Array Value} (hg:o.guard=none) (hr:(execOp a.eval o).run P w= .ok (.enter f args) w)
  (h:Calls P f args w fun
   | .returned v,w'=>K (a.put o.dst v) w'
   | .panicked ch,w'=>Q (.panic ch) a w'
   | .outgrown,_=>LetsOut Q):wpO P ops Q o K a w:=by
 unfold wpO
 rw [if_pos (by simp [Region.wanted,hg])]
 refine .inl ?_
 unfold Oper.wp
 rw [hr,Oper.upon_enter]
 exact h
def After (w0:World) (O:List Nat) (Q:Exit→Act→World→Prop) (K:Act→World→Prop) (N:Nat) (D:List Deferred) (L:FL) (dst:Option Tmp) (C:List Chunk):Ending→Prop
 | .returned v=>match dst with
  | some d=>WA w0 O K N D ((d,v)::L) C
  | none=>WA w0 O K N D L C
 | .panicked ch=>WQ w0 O Q (.panic ch) N D L C
 | .outgrown=>False
theorem After.use {dst:Option Tmp} {C':List Chunk} {e:Ending} (hd:∀ d,dst=some d→Nat.blt d N=true) (h:After w0 O Q K N D L dst C' e) {a:Act} {w':World} (hF:Fr N D L a) (hS:St w0 O C' w'):
  (match (motive:=Ending→World→Prop) e,w' with
   | .returned v,w'=>K (a.put dst v) w'
   | .panicked ch,w'=>Q (.panic ch) a w'
   | .outgrown,_=>LetsOut Q):=by
 cases e with
 | returned v=>
  cases dst with
  | none=>exact h a w' hF hS
  | some d=>exact h _ w' (hF.put d v (hd d rfl)) hS
 | panicked ch=>exact h a w' hF hS
 | outgrown=>exact h.elim
theorem WL.call0 {β:Type} {f:FuncId} {xs:List Operand} {tys:Array TypeId} {dst:Option Tmp} {vs:List Value} {res:β→Ending} {cs:β→List Chunk} {ψ:β→Prop}
  (hf:funB P f=some true) (hd:∀ d,dst=some d→Nat.blt d N=true) (hx:evs L xs=some vs)
  (hc:∀ w,St w0 O C w→Calls P f vs.toArray w fun e w'=>∃ x,ψ x∧e=res x∧St w [] (cs x) w')
  (h:∀ x,ψ x→After w0 O Q K N D L dst (cs x++C) (res x)):
  WK P w0 O ops Q ⟨dst,.call {callee:= .value (.func f),args:=xs.toArray,argTypes:=tys},ty,pos,af,none⟩ K N D L C:=fun a w hF hS=>by
 have ha:xs.toArray.map a.eval=vs.toArray:=by apply Array.ext';simp [hF.evs hx]
 refine wpo_call (f:=f) (args:=vs.toArray) rfl ?_ ?_
 ·simp [execOp,resolve,Deferred.ofValue,Act.eval,invoke,ha,run_callFunc hf]
 refine (hc w hS).mono fun e w' ⟨x,hψ,he,hS'⟩=>?_
 subst he
 exact (h x hψ).use hd hF (hS.call0 hS')
theorem enter {f:FuncId} {fn:Func} {c:Code} {args:List Value} {w:World} {R:Ending→World→Prop} (hf:P.funcs[f]?=some fn) (hb:fn.body=some c) (hn:fn.ntmps=N) (hl:Nat.ble args.length N=true) (hS:St w O C w)
  (h:WC P w O c (bodyPost P fn R) N [] (fl0 args 0) C):Calls P f args.toArray w R:=by
 refine calls_of_wp hf hb ?_
 subst hn
 have:=h _ w (Fr.init args fn.ntmps (Nat.le_of_ble_eq_true hl)) hS
 simpa using this
inductive RV (P:Program) (L:FL) (C:List Chunk):List ResultVar→List Value→Prop
 | nil:RV P L C [] []
 | tmp {t v rs vs}:lk L t=some v→RV P L C rs vs→RV P L C (.tmp t::rs) (v::vs)
 | cell1 {t ty b cs e v rs vs}:One P ty→lk L t=some (.pointer (some ⟨b,0,none⟩))→pt b cs e∈C→cs[0]?=some v→RV P L C rs vs→RV P L C (.cell t ty::rs) (v::vs)
 | cellN {t ty n b cs e rs vs}:Agg P ty n→lk L t=some (.pointer (some ⟨b,0,none⟩))→pt b cs e∈C→cs.length=n→RV P L C rs vs→RV P L C (.cell t ty::rs) (.agg cs.toArray::vs)
theorem Fr.evT {a:Act} (hF:Fr N D L a) {t:Nat} {v:Value} (h:lk L t=some v):a.tmps.getD t undef=v:=by
 have:=hF.get t v h
 rw [Array.getD_eq_getD_getElem?,this];rfl
def rvf (a:Act):ResultVar→Sem Value
 | .tmp t=>pure (a.tmps.getD t undef)
 | .cell b t=>do loadVar t (← asAddr (a.tmps.getD b undef))
theorem RV.run {rs:List ResultVar} {vs:List Value} (h:RV P L C rs vs) {a:Act} {w:World} (hF:Fr N D L a) (hS:St w0 O C w):
  (rs.mapM (rvf a)).run P w= .ok vs w:=by
 induction h with
 | nil=>simp
 | tmp hv _ ih=>
  have:=hF.get _ _ hv
  have h1:=hF.evT hv
  simp only [List.mapM_cons,rvf,h1,Sem.run_bind,Sem.run_pure,Result.andThen_ok,ih]
 | cell1 ht hv hm hc _ ih=>
  have:=hF.get _ _ hv
  have h1:=hF.evT hv
  have h2:=run_load1 (P:=P) ht (hS.cell hm hc)
  simp only [Instr.loadAt,Instr.sureAddr,Sem.run_bind,Sem.run_pure,Result.andThen_ok] at h2
  simp only [List.mapM_cons,rvf,h1,asAddr,Sem.run_bind,Sem.run_pure,Result.andThen_ok,h2,ih]
 | cellN ht hv hm hl _ ih=>
  have:=hF.get _ _ hv
  have h1:=hF.evT hv
  have h2:=run_loadN (P:=P) ht (a:=⟨_,0,none⟩) hl (fun j v hj=>by rw [add_blk,Nat.zero_add];exact hS.cell hm hj)
  simp only [Instr.loadAt,Instr.sureAddr,Sem.run_bind,Sem.run_pure,Result.andThen_ok] at h2
  simp only [List.mapM_cons,rvf,h1,asAddr,Sem.run_bind,Sem.run_pure,Result.andThen_ok,h2,ih]
def tup :List Value→Value
 | [v]=>v
 | vs=> .tuple vs.toArray
theorem run_results {fn:Func} {rs:List ResultVar} (hr:fn.results=rs.toArray) {vs:List Value} (h:RV P L C rs vs) {a:Act} {w:World} (hF:Fr N D L a) (hS:St w0 O C w):
  (results fn a.tmps).run P w= .ok (tup vs) w:=by
 have h1:=h.run hF hS
 have hlen:vs.length=rs.length:=by
  clear h1 hr
  induction h<;>simp [*]
 have e:results fn a.tmps=(do let vs ← fn.results.mapM (rvf a);pure (if h:vs.size=1 then vs[0] else .tuple vs)):=by
  unfold results
  congr 1
 rw [e,hr]
 simp only [Array.mapM_eq_mapM_toList,Sem.run_bind,Sem.run_map,h1,Result.andThen_ok,Sem.run_pure]
 congr 1
 match vs with
 | []=>rfl
 | [v]=>rfl
 | _::_::_=>simp [tup]
theorem WQ.ret {fn:Func} {R:Ending→World→Prop} {rs:List ResultVar} {vs:List Value} (hr:fn.results=rs.toArray) (h:RV P L C rs vs) (hR:∀ w,St w0 O C w→R (.returned (tup vs)) w):
  WQ w0 O (bodyPost P fn R) .ret N [] L C:=fun a w hF hS=>⟨hF.defers,_,run_results hr h hF hS,hR w hS⟩
theorem WQ.fin {fn:Func} {R:Ending→World→Prop} {rs:List ResultVar} {vs:List Value} (hr:fn.results=rs.toArray) (h:RV P L C rs vs) (hR:∀ w,St w0 O C w→R (.returned (tup vs)) w):
  WQ w0 O (bodyPost P fn R) .normal N [] L C:=fun a w hF hS=>⟨hF.defers,_,run_results hr h hF hS,hR w hS⟩
end
open Go Go.RowKit
section
variable {P : Program} {w0 : World} {O : List Nat} {ops : Array Oper} {Q : Exit → Act → World → Prop} {N : Nat} {D : List Deferred} {L : FL} {C : List Chunk} {K : Act → World → Prop}
variable {rest : List Oper} {d : Nat} {ty : TypeId} {pos : String} {af : Array Edge}
theorem Fr.shadow {a:Act} (hF:Fr N D L a) {i:Nat} {v:Value} (hv:lk L i=some v):Fr N D ((i,v)::L) a:=
 ⟨hF.defers,hF.size,fun j u hu=>by
  simp only [lk] at hu
  cases hk:Nat.beq i j with
  | true=>
   have e:i=j:=Nat.eq_of_beq_eq_true hk
   simp only [hk,cond_true,Option.some.injEq] at hu
   subst hu;subst e
   exact hF.get _ _ hv
  | false=>
   simp only [hk,cond_false] at hu
   exact hF.get j u hu⟩
theorem WA.splitB {i:Nat} {b:Bool} (hv:lk L i=some (.bool b)) (ht:b=true→WA w0 O K N D ((i,.bool true)::L) C) (hf:b=false→WA w0 O K N D ((i,.bool false)::L) C):
  WA w0 O K N D L C:=fun a w hF hS=>by
 cases b with
 | true=>exact ht rfl a w (hF.shadow hv) hS
 | false=>exact hf rfl a w (hF.shadow hv) hS
theorem WA.say (i:Nat) (v:Value) (hv:lk L i=some v) (h:WA w0 O K N D ((i,v)::L) C):WA w0 O K N D L C:=fun a w hF hS=>h a w (hF.shadow hv) hS
theorem WC.say {c:Code} (i:Nat) (v:Value) (hv:lk L i=some v) (h:WC P w0 O c Q N D ((i,v)::L) C):WC P w0 O c Q N D L C:=fun a w hF hS=>h a w (hF.shadow hv) hS
theorem Yl.makeFunc {F:World→Prop} {fn:Fn} {xs ys:List Operand} {us vs:List Value} (hx:evs L xs=some us) (hy:evs L ys=some vs):Yl P N D L F ⟨some d,.makeFunc fn xs.toArray ys.toArray,ty,pos,af,none⟩ (.func fn us.toArray vs.toArray):=fun a w hF _=>by
   have h1:xs.toArray.map a.eval=us.toArray:=by apply Array.ext';simp [hF.evs hx]
   have h2:ys.toArray.map a.eval=vs.toArray:=by apply Array.ext';simp [hF.evs hy]
   simp [execOp,Instr.makeFunc,h1,h2]
theorem WL.makeFunc {fn:Fn} {xs ys:List Operand} {us vs:List Value} (hd:Nat.blt d N=true) (hx:evs L xs=some us) (hy:evs L ys=some vs) (h:WA w0 O K N D ((d,.func fn us.toArray vs.toArray)::L) C):
  WK P w0 O ops Q ⟨some d,.makeFunc fn xs.toArray ys.toArray,ty,pos,af,none⟩ K N D L C:=WL.y (F:=fun _=>True) (Yl.makeFunc hx hy) hd (fun _ _=>trivial) h
theorem WC.cutF {c:Code} (M:FL) (hx:∀ Q',WQ w0 O Q' .normal N D M C→WC P w0 O c Q' N D L C) (hy:WQ w0 O Q .normal N D M C):WC P w0 O c Q N D L C:=hx Q hy
theorem WQ.byCut {e:Exit} {M:FL} (h:WQ w0 O Q e N D M C) (hs:subF L M):WQ w0 O Q e N D L C:=WQ.facts hs h
theorem subF_bool {M:FL} {i:Nat} {b b':Bool} (hb:b'=b) (hM:subF L M) (hv:lk L i=some (.bool b)):subF L ((i,.bool b')::M):=⟨by rw [hb];exact hv,hM⟩
def NoLook (Q:Exit→Act→World→Prop):Prop:=∀ c (a:Act) (d:Option Tmp) (v:Value) w,Q (.panic c) (a.put d v) w→Q (.panic c) a w
theorem WC.cutP {c:Code} (M:FL) (hq:NoLook Q) (hx:∀ Q',NoLook Q'→WQ w0 O Q' .normal N D M C→WC P w0 O c Q' N D L C) (hy:WQ w0 O Q .normal N D M C):WC P w0 O c Q N D L C:=hx Q hq hy
def Pure (P:Program) (f:FuncId) (vs:List Value) (w:World) (v:Value):Prop:=Calls P f vs.toArray w fun e w'=>e= .returned v∧St w [] [] w'
theorem WL.callV {f:FuncId} {xs:List Operand} {tys:Array TypeId} {vs:List Value} {v:Value}
  (hf:funB P f=some true) (hd:Nat.blt d N=true) (hx:evs L xs=some vs)
  (hc:∀ w,St w0 O C w→Pure P f vs w v) (h:WA w0 O K N D ((d,v)::L) C):
  WK P w0 O ops Q ⟨some d,.call {callee:= .value (.func f),args:=xs.toArray,argTypes:=tys},ty,pos,af,none⟩ K N D L C:=
 WL.call0 (β:=Unit) (res:=fun _=> .returned v) (cs:=fun _=>[]) (ψ:=fun _=>True) hf (fun d' e=>by cases e;exact hd) hx
  (fun w hS=>(hc w hS).mono fun e w' ⟨h1,h2⟩=>⟨(),trivial,h1,h2⟩) (fun _ _=>h)
theorem WL.callF0 {β:Type} {f:FuncId} {x:Operand} {xs:List Operand} {tys:Array TypeId} {dst:Option Tmp} {vs us cap:List Value} {res:β→Ending} {cs:β→List Chunk} {ψ:β→Prop}
  (hf:funB P f=some true) (hd:∀ d,dst=some d→Nat.blt d N=true) (hfv:ev L x=some (.func (.func f) us.toArray cap.toArray)) (hx:evs L xs=some vs)
  (hc:∀ w,St w0 O C w→Calls P f (us++vs++cap).toArray w fun e w'=>∃ x,ψ x∧e=res x∧St w [] (cs x) w')
  (h:∀ x,ψ x→After w0 O Q K N D L dst (cs x++C) (res x)):
  WK P w0 O ops Q ⟨dst,.call {callee:= .value x,args:=xs.toArray,argTypes:=tys},ty,pos,af,none⟩ K N D L C:=fun a w hF hS=>by
 have ha:xs.toArray.map a.eval=vs.toArray:=by apply Array.ext';simp [hF.evs hx]
 refine wpo_call (f:=f) (args:=(us++vs++cap).toArray) rfl ?_ ?_
 ·simp [execOp,resolve,Deferred.ofValue,hF.ev hfv,invoke,ha,run_callFunc hf]
 refine (hc w hS).mono fun e w' ⟨x,hψ,he,hS'⟩=>?_
 subst he
 exact (h x hψ).use hd hF (hS.call0 hS')
theorem ownsRow_loc {w w':World} {base:Nat} {e:TypeId} {sz:Nat} {v:Value} {n:Nat} {xs:List Value} (h:∀ k,v.ownBlock=some k→w'.heap[k]?=w.heap[k]?) (hw:w.ownsRow base e sz v n xs):w'.ownsRow base e sz v n xs:=by
 obtain ⟨h1,h2⟩:=hw
 refine ⟨h1,?_⟩
 rcases h2 with h2 | ⟨g,cap,cur,hv,hg,hh,r⟩
 ·exact .inl h2
 exact .inr ⟨g,cap,cur,hv,hg,by rw [h g (by rw [hv];rfl)];exact hh,r⟩
def rowc (v:Value) (n:Nat) (e:TypeId) (sz:Nat) (xs:List Value):Chunk where
 fp k:=v.ownBlock=some k
 ok w:=w.ownsRow 0 e sz v n xs
 loc w w' h hw:=ownsRow_loc h hw
theorem ownsRow_slice {w:World} {base:Nat} {e:TypeId} {sz:Nat} {v:Value} {n:Nat} {xs:List Value} (h:w.ownsRow base e sz v n xs):∃ a cap,v= .slice a n cap:=by
 rcases h.2 with ⟨rfl,rfl⟩ | ⟨g,cap,cur,hv,_⟩
 ·exact ⟨none,0,rfl⟩
 exact ⟨_,cap,hv⟩
theorem St.swap {w:World} {c c':Chunk} {C1:List Chunk} (h:St w0 O (c::C1) w) (hok:c.ok w→c'.ok w) (hfp:∀ k,c'.fp k→c.fp k):St w0 O (c'::C1) w:=by
 have hd:=List.pairwise_cons.1 h.disj
 refine ⟨h.os,h.tape,h.output,h.size,h.old,fun x hx=>?_,fun x hx k hk=>?_,?_⟩
 ·rcases List.mem_cons.1 hx with rfl | hx
  ·exact hok (h.ok c (List.mem_cons_self ..))
  exact h.ok x (List.mem_cons_of_mem _ hx)
 ·rcases List.mem_cons.1 hx with rfl | hx
  ·exact h.bnd c (List.mem_cons_self ..) k (hfp k hk)
  exact h.bnd x (List.mem_cons_of_mem _ hx) k hk
 exact List.Pairwise.cons (fun x hx k hk hk'=>hd.1 x hx k (hfp k hk) hk') hd.2
theorem rowc_of_pt {b:Nat} {cs:List Value} {e:TypeId} {sz n:Nat} (hl:cs.length=n*sz) (hn:n≤maxLen) {w:World} (h:(pt b cs e).ok w):(rowc (.slice (some ⟨b,0,none⟩) n n) n e sz cs).ok w:=
 ⟨hl,.inr ⟨b,n,cs.toArray,rfl,Nat.zero_le _,h,Nat.le_refl _,hn,by simp [hl],by rw [← hl];simp⟩⟩
theorem append_st {t ty e:TypeId} {sz bytes:Nat} {i:TypeInfo} {z:Value} {v:Value} {n m c bx ox:Nat} {xs news:List Value} {C1:List Chunk} {w:World}
  (ht:P.underlying t=some (.slice e)) (hi:P.info? e=some i) (hz:i.zero=some z) (hsize:i.size=sz) (hby:i.bytes=bytes) (hzs:z.cells.size=sz) (hsz:0<sz)
  (hS1:St w0 O (rowc v n e sz xs::C1) w) (hnews:∀ j u,news[j]?=some u→w.cell? ⟨bx,ox+j,none⟩=some u) (hl:news.length=m*sz) (h1:∀ u∈news,u.oneCell'=true)
  (h63:n+m≤maxLen) (hbytes:(n+m)*bytes≤140737488355328):
  ∃ a cap w',(Builtin.append_ #[t,t] ty #[v,.slice (some ⟨bx,ox,none⟩) m c]).run P w= .ok (.slice a (n+m) cap) w'∧St w0 O (rowc (.slice a (n+m) cap) (n+m) e sz (xs++news)::C1) w':=by
 have hown:w.ownsRow 0 e sz v n xs:=hS1.ok _ (List.mem_cons_self ..)
 have hnews':∀ j u,news[j]?=some u→w.cell? ((⟨bx,ox,none⟩:Addr).add j)=some u:=fun j u hu=>by rw [add_blk];exact hnews j u hu
 have h63':n+m≤9223372036854775807:=by simp only [maxLen] at h63;omega
 have hd1:=List.pairwise_cons.1 hS1.disj
 have hbO:∀ k,v.ownBlock=some k→k<w.heap.size∧(k<w0.heap.size→k∈O):=fun k hk=>hS1.bnd _ (List.mem_cons_self ..) k hk
 obtain ⟨v',w',hr,hown',hg,hnil⟩:=run_append_own (P:=P) w 0 t ty e i z sz bytes ht hi hz hsize hby hzs hsz v n xs hown ⟨bx,ox,none⟩ m c news hl hnews' h1 h63 hbytes (Nat.zero_le _)
 obtain ⟨a',cap',rfl⟩:=ownsRow_slice hown'
 have hblk:∀ k,(Value.slice a' (n+m) cap').ownBlock=some k→v.ownBlock=some k∨w.heap.size≤k:=by
  intro k hk
  rcases hown.2 with ⟨hv,hn0⟩ | ⟨g,cp,cur,hv,_,hgg,hnc,_,hcs,_⟩
  ·subst hn0;subst hv
   by_cases hm:m=0
   ·have:Value.slice a' (0+m) cap'= .slice none 0 0:=hnil.2 ⟨rfl,hm⟩
    rw [this] at hk;simp [Value.ownBlock] at hk
   ·have hx:xs=[]:=List.eq_nil_of_length_eq_zero (by simpa using hown.1)
    subst hsize
    have hr2:=run_append_nil (P:=P) w t ty e i z ht hi hz ⟨bx,ox,none⟩ m c news hl hnews' (by omega) (by omega) (by rw [hby];have hb:=hbytes;simp only [Nat.zero_add] at hb;omega)
    have:=hr.symm.trans hr2
    injection this with e1 _
    injection e1 with e2 _ _
    subst e2
    simp only [Value.ownBlock,Option.some.injEq] at hk
    exact .inr (by omega)
  ·subst hsize
   by_cases hroom:n+m≤cp
   ·have hfit:n*i.size+news.length≤cur.size:=by rw [hl,hcs,← Nat.add_mul];exact Nat.mul_le_mul_right _ hroom
    subst hv
    have hr2:=run_append_room (P:=P) w t ty e i ht hi g n cp cur hgg ⟨bx,ox,none⟩ m c news hl hnews' h1 hroom hfit
    have:=hr.symm.trans hr2
    injection this with e1 _
    injection e1 with e2 _ _
    subst e2
    exact .inl hk
   ·subst hv
    have holds:∀ j u,xs[j]?=some u→w.cell? ((⟨g,0,none⟩:Addr).add j)=some u:=hown.cells (g:=g) rfl
    have hr2:=run_append_grow (P:=P) w t ty e i z ht hi hz ⟨g,0,none⟩ n cp xs hown.1 holds ⟨bx,ox,none⟩ m c news hl hnews' (by omega) (by omega) (growslice_fits (by omega) (by rw [hby];exact hbytes))
    have:=hr.symm.trans hr2
    injection this with e1 _
    injection e1 with e2 _ _
    subst e2
    simp only [Value.ownBlock,Option.some.injEq] at hk
    exact .inr (by omega)
 have hlt:∀ k,(Value.slice a' (n+m) cap').ownBlock=some k→k<w'.heap.size:=by
  intro k hk
  rcases hown'.2 with ⟨he,_⟩ | ⟨g,cp,cur,he,_,hh,_⟩
  ·rw [he] at hk;simp [Value.ownBlock] at hk
  ·have hgk:g=k:=by rw [he] at hk;simpa [Value.ownBlock] using hk
   subst hgk
   exact lt_of_heap hh
 have hold:∀ k,k<w.heap.size→v.ownBlock≠some k→w'.heap[k]?=w.heap[k]?:=fun k hk hne=>hg.block k hk (fun e=>hne e.symm)
 refine ⟨a',cap',w',hr,hg.os.trans hS1.os,hg.tape.trans hS1.tape,hg.output.trans hS1.output,Nat.le_trans hS1.size hg.size,fun k hk ho=>?_,fun x hx=>?_,fun x hx k hk=>?_,?_⟩
 ·rw [hold k (Nat.lt_of_lt_of_le hk hS1.size) (fun hv=>ho ((hbO k hv).2 hk))]
  exact hS1.old k hk ho
 ·rcases List.mem_cons.1 hx with rfl | hx
  ·exact hown'
  exact x.loc w w' (fun k hk=>hold k (hS1.bnd x (List.mem_cons_of_mem _ hx) k hk).1 (fun hv=>hd1.1 x hx k hv hk)) (hS1.ok x (List.mem_cons_of_mem _ hx))
 ·rcases List.mem_cons.1 hx with rfl | hx
  ·refine ⟨hlt k hk,fun hlt0=>?_⟩
   rcases hblk k hk with h | h
   ·exact (hbO k h).2 hlt0
   have:=hS1.size;omega
  have:=hS1.bnd x (List.mem_cons_of_mem _ hx) k hk
  exact ⟨Nat.lt_of_lt_of_le this.1 hg.size,this.2⟩
 refine List.Pairwise.cons (fun x hx k hk hk'=>?_) hd1.2
 rcases hblk k hk with h | h
 ·exact hd1.1 x hx k h hk'
 have:=(hS1.bnd x (List.mem_cons_of_mem _ hx) k hk').1;omega
theorem WL.append {s x:Operand} {t e:TypeId} {sz bytes:Nat} {i:TypeInfo} {z:Value} {v:Value} {n m c bx ox:Nat} {xs news:List Value} {C1:List Chunk} (hd:Nat.blt d N=true)
  (ht:P.underlying t=some (.slice e)) (hi:P.info? e=some i) (hz:i.zero=some z) (hsize:i.size=sz) (hby:i.bytes=bytes) (hzs:z.cells.size=sz) (hsz:0<sz)
  (hs:ev L s=some v) (hx:ev L x=some (.slice (some ⟨bx,ox,none⟩) m c)) (hr:Rem (rowc v n e sz xs) C C1)
  (hnews:∀ w,St w0 O C w→∀ j u,news[j]?=some u→w.cell? ⟨bx,ox+j,none⟩=some u) (hl:news.length=m*sz) (h1:∀ u∈news,u.oneCell'=true)
  (h63:n+m≤maxLen) (hbytes:(n+m)*bytes≤140737488355328)
  (h:∀ a cap,WA w0 O K N D ((d,.slice a (n+m) cap)::L) (rowc (.slice a (n+m) cap) (n+m) e sz (xs++news)::C1)):
  WK P w0 O ops Q ⟨some d,.call {callee:= .builtin .append,args:=#[s,x],argTypes:=#[t,t]},ty,pos,af,none⟩ K N D L C:=fun a w hF hS=>by
 obtain ⟨a',cap',w',hrun,hS'⟩:=append_st (P:=P) (ty:=ty) (c:=c) ht hi hz hsize hby hzs hsz (hS.perm hr.perm) (hnews w hS) hl h1 h63 hbytes
 refine wpo_val rfl ?_ (h a' cap' _ w' (hF.put d _ hd) hS')
 simp only [execOp,resolve,invoke,builtin,Sem.run_bind,Sem.run_pure,Result.andThen_ok,List.map_toArray,List.map_cons,List.map_nil,hF.ev hs,hF.ev hx,hrun]
structure ElT (P:Program) (t e:TypeId) (sz bytes:Nat):Prop where
 und:P.underlying t=some (.slice e)
 row:∃ i z,P.info? e=some i∧i.zero=some z∧i.size=sz∧i.bytes=bytes∧z.cells.size=sz
 pos:0<sz
def elB (P:Program) (t:TypeId):Option (TypeId×Nat×Nat×Nat):=match P.underlying t with
 | some (.slice e)=>match P.info? e with
  | some i=>match i.zero with
   | some z=>some (e,i.size,i.bytes,z.cells.size)
   | none=>none
  | none=>none
 | _=>none
theorem ElT.of {t e:TypeId} {sz bytes:Nat} (h:elB P t=some (e,sz,bytes,sz)) (hp:0<sz):ElT P t e sz bytes:=by
 unfold elB at h
 split at h
 ·rename_i e' hu
  split at h
  ·rename_i i hi
   split at h
   ·rename_i z hz
    simp only [Option.some.injEq,Prod.mk.injEq] at h
    obtain ⟨rfl,h1,h2,h3⟩:=h
    exact ⟨hu,⟨i,z,hi,hz,h1,h2,h3⟩,hp⟩
   cases h
  cases h
 cases h
theorem WL.appendE {s x:Operand} {t e:TypeId} {sz bytes:Nat} {v:Value} {n m c bx ox:Nat} {xs news:List Value} {C1:List Chunk} (hE:ElT P t e sz bytes) (hd:Nat.blt d N=true)
  (hs:ev L s=some v) (hx:ev L x=some (.slice (some ⟨bx,ox,none⟩) m c)) (hr:Rem (rowc v n e sz xs) C C1)
  (hnews:∀ w,St w0 O C w→∀ j u,news[j]?=some u→w.cell? ⟨bx,ox+j,none⟩=some u) (hl:news.length=m*sz) (h1:∀ u∈news,u.oneCell'=true)
  (h63:n+m≤maxLen) (hbytes:(n+m)*bytes≤140737488355328)
  (h:∀ a cap,WA w0 O K N D ((d,.slice a (n+m) cap)::L) (rowc (.slice a (n+m) cap) (n+m) e sz (xs++news)::C1)):
  WK P w0 O ops Q ⟨some d,.call {callee:= .builtin .append,args:=#[s,x],argTypes:=#[t,t]},ty,pos,af,none⟩ K N D L C:=by
 obtain ⟨i,z,h1',h2,h3,h4,h5⟩:=hE.row
 exact WL.append hd hE.und h1' h2 h3 h4 h5 hE.pos hs hx hr hnews hl h1 h63 hbytes h
theorem St.rowNil {w:World} (hS:St w0 O C w) (e:TypeId) (sz:Nat):St w0 O (rowc (.slice none 0 0) 0 e sz []::C) w:=
 ⟨hS.os,hS.tape,hS.output,hS.size,hS.old,fun x hx=>by
  rcases List.mem_cons.1 hx with rfl | hx
  ·exact World.ownsRow_nil w 0 e sz
  ·exact hS.ok x hx,fun x hx k hk=>by
  rcases List.mem_cons.1 hx with rfl | hx
  ·cases hk
  ·exact hS.bnd x hx k hk,List.Pairwise.cons (fun x hx k hk=>by cases hk) hS.disj⟩
structure ArT (P:Program) (t e:TypeId) (n sz:Nat) (zs:List Value):Prop where
 und:P.underlying t=some (.array n e)
 zero:zeroB P t=some zs
 size:sizeB P e=some sz
theorem Yl.buildA {F:World→Prop} {t e:TypeId} {n sz:Nat} {parts:List (Nat×Operand)} {ps:List (Nat×Value)} {zs cs:List Value} (ht:ArT P t e n sz zs) (hp:evp L parts=some ps) (hb:Built (fun i=>some (i*sz,sz)) zs ps cs):Yl P N D L F ⟨some d,.build t parts.toArray,ty,pos,af,none⟩ (.agg cs.toArray):=fun a w hF _=>by
   have hbu:P.built t ps=some cs.toArray:=by
    have h1:=ht.zero
    have h2:=ht.size
    unfold zeroB at h1
    unfold sizeB at h2
    unfold Program.built
    cases hi:P.info? t with
    | none=>simp [hi] at h1
    | some it=>
     cases hz:it.zero with
     | none=>simp [hi,hz] at h1
     | some z=>
      simp only [hi,hz,Option.bind_some,Option.map_some,Option.some.injEq] at h1
      cases he:P.info? e with
      | none=>simp [he] at h2
      | some ie=>
       simp only [he,Option.map_some,Option.some.injEq] at h2
       subst h2
       simp only [ht.und,hz,he]
       have e:z.cells=zs.toArray:=by rw [← h1]
       rw [e]
       exact hb.fill
   have:=run_build w t ps.toArray cs.toArray (by simpa using hbu)
   simp [execOp,evp_arr hF hp,this]
theorem WL.buildA {t e:TypeId} {n sz:Nat} {parts:List (Nat×Operand)} {ps:List (Nat×Value)} {zs cs:List Value} (ht:ArT P t e n sz zs) (hp:evp L parts=some ps) (hb:Built (fun i=>some (i*sz,sz)) zs ps cs) (hd:Nat.blt d N=true)
  (h:WA w0 O K N D ((d,.agg cs.toArray)::L) C):
  WK P w0 O ops Q ⟨some d,.build t parts.toArray,ty,pos,af,none⟩ K N D L C:=WL.y (F:=fun _=>True) (Yl.buildA ht hp hb) hd (fun _ _=>trivial) h
theorem WL.buildSlice {t e:TypeId} {sz len:Nat} {parts:List (Nat×Operand)} {ps:List (Nat×Value)} {zs cs:List Value} (ht:SlT P t e sz) (hz:zeroB P e=some zs) (hzl:zs.length=sz) (h0:Nat.blt 0 (len*sz)=true) (hmax:Nat.ble (len*sz) 16777216=true)
  (hp:evp L parts=some ps) (hb:Built (fun i=>some (i*sz,sz)) ((List.replicate len zs).flatten) ps cs) (hd:Nat.blt d N=true)
  (h:∀ b,WA w0 O K N D ((d,.slice (some ⟨b,0,none⟩) len len)::L) (pt b cs e::C)):
  WK P w0 O ops Q ⟨some d,.buildSlice t len parts.toArray,ty,pos,af,none⟩ K N D L C:=fun a w hF hS=>by
 obtain ⟨z,hz1,hz2⟩:=run_zeroValue hz w
 subst hzl
 have hmax': ¬ (len*zs.length>2 ^ 24):=by have:=Nat.le_of_ble_eq_true hmax;omega
 have hpos:0<len*zs.length:=Nat.le_of_ble_eq_true h0
 have hne: ¬ (len*zs.length=0):=by omega
 have hrep:(Array.range (len*zs.length)).map (zs.toArray[· % zs.toArray.size]!)=((List.replicate len zs).flatten).toArray:=by
  apply Array.ext'
  simp only [Array.toList_map,Array.toList_range,List.size_toArray]
  clear h hp hb hS hF hmax hmax' h0 hne
  have hzp:0<zs.length:=Nat.pos_of_mul_pos_left hpos |> fun h=>by rcases Nat.eq_zero_or_pos zs.length with h0 | h0;(rw [h0] at hpos;simp at hpos);exact h0
  apply List.ext_getElem?
  intro k
  simp only [List.getElem?_map]
  by_cases hk:k<len*zs.length
  ·have e1:(List.range (len*zs.length))[k]?=some k:=by simp [hk]
   rw [e1]
   have hkl:∀ (m k:Nat),k<m*zs.length→((List.replicate m zs).flatten)[k]?=zs[k % zs.length]?:=by
    intro m
    induction m with
    | zero=>intro k hk;simp at hk
    | succ m ih=>
     intro k hk
     rw [List.replicate_succ,List.flatten_cons]
     by_cases h1:k<zs.length
     ·rw [List.getElem?_append_left h1,Nat.mod_eq_of_lt h1]
     ·rw [List.getElem?_append_right (by omega),ih (k - zs.length) (by rw [Nat.succ_mul] at hk;omega),← Nat.mod_eq_sub_mod (by omega)]
   simp only [Option.map_some]
   rw [show ((List.replicate len zs).flatten.toArray.toList)[k]?=((List.replicate len zs).flatten)[k]? by simp,hkl len k hk]
   have hm:k % zs.length<zs.length:=Nat.mod_lt _ hzp
   simp [hm]
  ·rw [List.getElem?_eq_none (by simpa using hk)]
   simp only [Option.map_none]
   rw [List.getElem?_eq_none]
   simp [List.length_flatten]
   omega
 have hfill:=hb.fill
 have hr:(execOp a.eval ⟨some d,.buildSlice t len parts.toArray,ty,pos,af,none⟩).run P w= .ok (.value (.slice (some ⟨w.heap.size,0,none⟩) len len)) (w.alloc (.cells cs.toArray e)):=by
  simp only [execOp,Instr.buildSlice,evp_arr hF hp,Sem.run_bind,run_underlying ht.und,Result.andThen_ok,run_sizeOf ht.size,if_neg hmax',if_neg hne,hz1,Sem.run_pure,hz2,hrep,hfill,newRow,run_newObj,World.alloc_eq]
 refine wpo_val rfl hr ?_
 exact h w.heap.size _ _ (hF.put d _ hd) (hS.alloc cs e)
theorem run_bound {w:World} {k:IntKind} {i y:Nat} {code:BoundsCode} (h:i≤y):(Instr.sliceBound (.int k (i:Int)) y code).run P w= .ok i w:=by
 have h1:(0:Int)≤(i:Int)∧(i:Int)≤(y:Int):=by omega
 simp [Instr.sliceBound,asIntOf,h1,h]
theorem Yl.sliceSlTo {F:World→Prop} {t e:TypeId} {sz:Nat} {x y:Operand} {a0:Option Addr} {len cap n:Nat} {k:IntKind} (ht:SlT P t e sz) (hx:ev L x=some (.slice a0 len cap)) (hy:ev L y=some (.int k n)) (hn:n≤cap):
  Yl P N D L F ⟨some d,.slice t x none (some y) none,ty,pos,af,none⟩ (.slice a0 n cap):=fun a w hF _=>by
 have h1:=run_bound (P:=P) (w:=w) (k:=k) (i:=n) (y:=cap) (code:= .sliceAcap) hn
 by_cases hc:cap=0
 ·subst hc
  simp [execOp,Instr.sliceAt,Instr.slice,Instr.sliceBounds,hF.ev hx,hF.ev hy,run_underlying ht.und,h1,run_sizeOf ht.size]
 ·cases a0 with
  | none=>simp [execOp,Instr.sliceAt,Instr.slice,Instr.sliceBounds,hF.ev hx,hF.ev hy,run_underlying ht.und,h1,run_sizeOf ht.size]
  | some a1=>simp [execOp,Instr.sliceAt,Instr.slice,Instr.sliceBounds,hF.ev hx,hF.ev hy,run_underlying ht.und,h1,run_sizeOf ht.size,hc,Addr.add]
end
open Go Go.RowKit
inductive Tree where
 | mk (op:Int) (name:List UInt8) (kids:List Tree)
def Tree.op :Tree→Int | .mk o _ _=>o
def Tree.name :Tree→List UInt8 | .mk _ n _=>n
def Tree.kids :Tree→List Tree | .mk _ _ k=>k
def flat (vs:List Value):List Value:=vs.flatMap (·.cells.toList)
def cellsAt (w:World) (b off:Nat) (xs:List Value):Prop:=∀ j u,xs[j]?=some u→w.cell? ⟨b,off+j,none⟩=some u
mutual
def rdT (w:World):Tree→List Nat→Value→Prop
 | .mk op name kids,F,v=>∃ s,v= .agg #[.int .u8 op,.string (str name),s]∧
  ((kids=[]∧F=[]∧∃ a cap,s= .slice a 0 cap)∨
   (kids≠[]∧∃ b off cap G vs,s= .slice (some ⟨b,off,none⟩) kids.length cap∧F=b::G∧cellsAt w b off (flat vs)∧rdL w kids G vs))
def rdL (w:World):List Tree→List Nat→List Value→Prop
 | [],F,vs=>F=[]∧vs=[]
 | t::ts,F,vs=>∃ F1 F2 v vs',F=F1++F2∧vs=v::vs'∧rdT w t F1 v∧rdL w ts F2 vs'
end
theorem cellsAt_loc {w w':World} {b off:Nat} {xs:List Value} (hb:w'.heap[b]?=w.heap[b]?) (h:cellsAt w b off xs):cellsAt w' b off xs:=fun j u hu=>by
 rw [World.cell?_of_block (w:=w) (w':=w') (a:=⟨b,off+j,none⟩) hb];exact h j u hu
mutual
theorem rdT_loc {w w':World}:∀ {t:Tree} {F:List Nat} {v:Value},(∀ k∈F,w'.heap[k]?=w.heap[k]?)→rdT w t F v→rdT w' t F v
 | .mk op name kids,F,v,hk,h=>by
  simp only [rdT] at h ⊢
  obtain ⟨s,hv,h⟩:=h
  refine ⟨s,hv,?_⟩
  rcases h with h | ⟨hne,b,off,cap,G,vs,hs,hF,hc,hl⟩
  ·exact .inl h
  ·subst hF
   exact .inr ⟨hne,b,off,cap,G,vs,hs,rfl,cellsAt_loc (hk b (by simp)) hc,rdL_loc (fun k hkG=>hk k (by simp [hkG])) hl⟩
theorem rdL_loc {w w':World}:∀ {ts:List Tree} {F:List Nat} {vs:List Value},(∀ k∈F,w'.heap[k]?=w.heap[k]?)→rdL w ts F vs→rdL w' ts F vs
 | [],F,vs,hk,h=>by simp only [rdL] at h ⊢;exact h
 | t::ts,F,vs,hk,h=>by
  simp only [rdL] at h ⊢
  obtain ⟨F1,F2,v,vs',hF,hvs,h1,h2⟩:=h
  subst hF
  exact ⟨F1,F2,v,vs',rfl,hvs,rdT_loc (fun k hkF=>hk k (by simp [hkF])) h1,rdL_loc (fun k hkF=>hk k (by simp [hkF])) h2⟩
end
def own (F:List Nat) (t:Tree) (v:Value):Chunk where
 fp k:=k∈F
 ok w:=F.Nodup∧rdT w t F v
 loc w w' h hw:=⟨hw.1,rdT_loc h hw.2⟩
section
variable {P : Program} {w0 : World} {O : List Nat} {ops : Array Oper} {Q : Exit → Act → World → Prop} {N : Nat} {D : List Deferred} {L : FL} {C : List Chunk}
theorem St.join {w:World} {c d x:Chunk} {C1:List Chunk} (h:St w0 O (c::d::C1) w) (hfp:∀ k,x.fp k→c.fp k∨d.fp k) (hok:c.ok w→d.ok w→(∀ k,c.fp k→ ¬ d.fp k)→x.ok w):St w0 O (x::C1) w:=by
 have h1:=List.pairwise_cons.1 h.disj
 have h2:=List.pairwise_cons.1 h1.2
 refine ⟨h.os,h.tape,h.output,h.size,h.old,fun y hy=>?_,fun y hy k hk=>?_,List.Pairwise.cons (fun y hy k hk hk'=>?_) h2.2⟩
 ·rcases List.mem_cons.1 hy with rfl | hy
  ·exact hok (h.ok c (by simp)) (h.ok d (by simp)) (h1.1 d (by simp))
  exact h.ok y (by simp [hy])
 ·rcases List.mem_cons.1 hy with rfl | hy
  ·rcases hfp k hk with h' | h'
   ·exact h.bnd c (by simp) k h'
   exact h.bnd d (by simp) k h'
  exact h.bnd y (by simp [hy]) k hk
 rcases hfp k hk with h' | h'
 ·exact h1.1 y (by simp [hy]) k h' hk'
 exact h2.1 y hy k h' hk'
end
open Go Go.RowKit
section
variable {P : Program} {w0 : World} {O : List Nat} {ops : Array Oper} {Q : Exit → Act → World → Prop} {N : Nat} {D : List Deferred} {L : FL} {C : List Chunk} {K : Act → World → Prop}
def Sx (Fs:List (List Nat×(World→Prop))) (listed:Array Bool) (w:World):Prop:=∀ f∈Fs,(∀ j∈f.1,listed.getD j false=false)→f.2 w
def wpAnyT (P:Program) (ops:Array Oper) (Q:Exit→Act→World→Prop) (Fs:List (List Nat×(World→Prop))):Nat→Array Bool→Act→World→Prop
 | 0,listed,a,w=>Region.ready .any ops listed=[]∧Q .normal a w
 | fuel+1,listed,a,w=>
  (Region.ready .any ops listed=[]→Q .normal a w)∧
  ∀ i∈Region.ready .any ops listed,wpOp P ops Q i (fun a' w'=>Sx Fs (listed.setIfInBounds i true) w'∧wpAnyT P ops Q Fs fuel (listed.setIfInBounds i true) a' w') a w
variable {Fs : List (List Nat × (World → Prop))}
theorem wpAny_of_T :∀ (fuel:Nat) (listed:Array Bool) (a:Act) (w:World),wpAnyT P ops Q Fs fuel listed a w→wpAny P .any ops Q fuel listed a w
 | 0,_,_,_,h=>h
 | fuel+1,_,_,_,h=>⟨h.1,fun i hi=>wpOp_mono (fun a' w' h'=>wpAny_of_T fuel _ a' w' h'.2) (h.2 i hi)⟩
def Closed (ops:Array Oper) (listed:Array Bool):Prop:=∀ j oj,ops[j]?=some oj→listed.getD j false=true→∀ e∈oj.after,Region.binds .any e=true→listed.getD e.on false=true
theorem Closed.add {listed:Array Bool} {i:Nat} (h:Closed ops listed) (hi:i∈Region.ready .any ops listed):Closed ops (listed.setIfInBounds i true):=by
 intro j oj hj hl e he hb
 obtain ⟨_,oi,hoi,hall⟩:=mem_ready.1 hi
 by_cases hij:i=j
 ·subst hij
  have:oj=oi:=Option.some.inj (hj.symm.trans hoi)
  subst this
  exact getD_set_true (hall e he hb)
 rw [getD_set_ne false hij] at hl
 exact getD_set_true (h j oj hj hl e he hb)
def reach (ops:Array Oper):Nat→Nat→Nat→Bool
 | 0,_,_=>false
 | n+1,j,i=>match ops[j]? with
  | some oj=>oj.after.any fun e=>Region.binds .any e&&(e.on==i||reach ops n e.on i)
  | none=>false
theorem reach_not {listed:Array Bool} (hc:Closed ops listed) {i:Nat} (hi:listed.getD i false=false):∀ (n j:Nat),reach ops n j i=true→listed.getD j false=false
 | 0,j,h=>by simp [reach] at h
 | n+1,j,h=>by
  simp only [reach] at h
  split at h
  ·rename_i oj hj
   obtain ⟨e,he,hb⟩:=Array.any_eq_true'.1 h
   simp only [Bool.and_eq_true,Bool.or_eq_true,beq_iff_eq] at hb
   cases hl:listed.getD j false with
   | false=>rfl
   | true=>
    have h1:=hc j oj hj hl e he hb.1
    rcases hb.2 with h2 | h2
    ·rw [h2,hi] at h1;cases h1
    ·rw [reach_not hc hi n e.on h2] at h1;cases h1
  ·cases h
theorem getD_false_of_true {listed:Array Bool} {i:Nat} (h:listed.getD i true=false):listed.getD i false=false:=by
 rcases Nat.lt_or_ge i listed.size with h' | h'
 ·simp [h'] at h ⊢;exact h
 simp [Array.getElem?_eq_none h'] at h
theorem getD_set_ne' {listed:Array Bool} {i j:Nat} (d:Bool) (h:i≠j):(listed.setIfInBounds i true).getD j d=listed.getD j d:=getD_set_ne d h
theorem Sx.less {listed:Array Bool} {i:Nat} {w:World} (h:Sx Fs listed w):Sx Fs (listed.setIfInBounds i true) w:=fun f hf hj=>h f hf fun j hjm=>by
 have:=hj j hjm
 by_cases hij:i=j
 ·subst hij
  rcases Nat.lt_or_ge i listed.size with h' | h'
  ·simp [h'] at this
  ·simp [Array.getElem?_eq_none h']
 ·rwa [getD_set_ne' false hij] at this
theorem Sx.more {listed:Array Bool} {i:Nat} {w:World} (hi:∀ f∈Fs,i∉f.1) (h:Sx Fs (listed.setIfInBounds i true) w):Sx Fs listed w:=fun f hf hj=>h f hf fun j hjm=>by
 have hij:i≠j:=fun e=>hi f hf (e▸hjm)
 rw [getD_set_ne' false hij];exact hj j hjm
theorem wpAnyT_first {i:Nat} {oi:Oper} {v:Value} {Y:World→Prop} (hi:ops[i]?=some oi) (hsel:∀ (j:Nat) (o:Oper) cs b,ops[j]?=some o→o.op≠ .select cs b)
  (hQ:∀ c a w,Q (.panic c) (a.put oi.dst v) w→Q (.panic c) a w) (hiD:∀ f∈Fs,i∉f.1)
  (hneed:∀ (listed:Array Bool) (w:World),Closed ops listed→listed.getD i false=false→Sx Fs listed w→Y w):
  ∀ (fuel:Nat) (listed:Array Bool) (a:Act) (w:World),Closed ops listed→
   (∀ j oj,ops[j]?=some oj→j≠i→listed.getD j true=false→(∀ e∈oj.after,Region.binds .any e=true→e.on≠i)→oi.apart ops oj=true)→
   i∈Region.ready .any ops listed→YieldsIf P ops Y oi v a→Sx Fs listed w→
   wpAnyT P ops Q Fs fuel (listed.setIfInBounds i true) (a.put oi.dst v) w→wpAnyT P ops Q Fs (fuel+1) listed a w:=by
 intro fuel
 induction fuel with
 | zero=>
  intro listed a w hc _ hr hy hS H
  refine ⟨fun h=>(by rw [h] at hr;cases hr),fun j hj=>?_⟩
  by_cases hji:j=i
  ·subst hji;exact hy.wpOp hi (hneed listed w hc (getD_false_of_true (mem_ready.1 hr).1) hS) ⟨hS.less,H⟩
  ·have:=ready_mono hj hji
   rw [H.1] at this
   cases this
 | succ fuel ih=>
  intro listed a w hc hfree hr hy hS H
  refine ⟨fun h=>(by rw [h] at hr;cases hr),fun j hj=>?_⟩
  by_cases hji:j=i
  ·subst hji;exact hy.wpOp hi (hneed listed w hc (getD_false_of_true (mem_ready.1 hr).1) hS) ⟨hS.less,H⟩
  ·have h1:=H.2 j (ready_mono hj hji)
   obtain ⟨hjun,oj,hoj,hall⟩:=mem_ready.1 hj
   have hnot:∀ e∈oj.after,Region.binds .any e=true→e.on≠i:=fun e he hb heq=>by
    have h1:=hall e he hb
    have h0:=(mem_ready.1 hr).1
    rw [heq,getD_false_of_true h0] at h1
    cases h1
   have h2:=wpOp_putIf hoj (hfree j oj hoj hji hjun hnot) (fun cs b=>hsel i oi cs b hi) (fun cs b=>hsel j oj cs b hoj) hQ hy h1
   have hfree':∀ k ok,ops[k]?=some ok→k≠i→(listed.setIfInBounds j true).getD k true=false→
     (∀ e∈ok.after,Region.binds .any e=true→e.on≠i)→oi.apart ops ok=true:=fun k ok hk hki hun hno=>by
    refine hfree k ok hk hki ?_ hno
    by_cases hjk:j=k
    ·subst hjk;exact hjun
    ·rw [getD_set_ne true hjk] at hun;exact hun
   refine wpOp_mono (fun a' w' h3=>?_) h2
   obtain ⟨hy',hS',H'⟩:=h3
   rw [Array.setIfInBounds_comm _ _ (Ne.symm hji)] at hS' H'
   have hSj:=Sx.more hiD hS'
   exact ⟨hSj,ih (listed.setIfInBounds j true) a' w' (hc.add hj) hfree' (ready_mono hr (Ne.symm hji)) hy' hSj H'⟩
def WD (P:Program) (w0:World) (O:List Nat) (ops:Array Oper) (Q:Exit→Act→World→Prop) (Fs:List (List Nat×(World→Prop))) (fuel:Nat) (listed:Array Bool) (N:Nat) (D:List Deferred) (L:FL) (C:List Chunk):Prop:=
 Closed ops listed→WA w0 O (fun a w=>Sx Fs listed w→wpAnyT P ops Q Fs fuel listed a w) N D L C
theorem WC.draws {id:Nat} {l:List Oper} (Fs:List (List Nat×(World→Prop))) (hm:P.follows .mixedOrders=true) (hF:∀ w,St w0 O C w→∀ f∈Fs,f.2 w)
  (h:WD P w0 O l.toArray Q Fs l.length (Array.replicate l.length false) N D L C):WC P w0 O (.region id l.toArray true) Q N D L C:=fun a w hFr hS=>by
 refine wp_region_any hm (wpAny_of_T (Fs:=Fs) _ _ _ _ ?_)
 have hc:Closed l.toArray (Array.replicate l.length false):=by
  intro j oj _ hl
  rcases Nat.lt_or_ge j l.length with h' | h'
  ·simp [h'] at hl
  ·simp [h'] at hl
 have:=h hc a w.drew hFr hS.drew (fun f hf _=>hF w.drew hS.drew f hf)
 simpa using this
theorem WD.take {i d fuel:Nat} {oi:Oper} {v:Value} {Y:World→Prop} {listed:Array Bool} (hi:ops[i]?=some oi) (hd:oi.dst=some d) (hdN:Nat.blt d N=true) (hg:oi.guard=none) (hs:Region.noSelect ops=true)
  (hf:Region.free .any ops listed i=true) (hr:(Region.ready .any ops listed).contains i=true) (hQ:∀ c a w,Q (.panic c) (a.put oi.dst v) w→Q (.panic c) a w)
  (hiD:(Fs.all fun f=> !f.1.contains i)=true) (hneed:∀ (listed:Array Bool) (w:World),Closed ops listed→listed.getD i false=false→Sx Fs listed w→Y w)
  (hy:Yl P N D L Y oi v) (h:WD P w0 O ops Q Fs fuel (listed.setIfInBounds i true) N D ((d,v)::L) C):WD P w0 O ops Q Fs (fuel+1) listed N D L C:=fun hc a w hFr hS hSx=>by
 have hrm:i∈Region.ready .any ops listed:=by simpa using hr
 have hiD':∀ f∈Fs,i∉f.1:=fun f hf' hm=>by
  have:=List.all_eq_true.1 hiD f hf'
  simp at this
  exact this hm
 refine wpAnyT_first hi (Region.noSelect_spec hs) hQ hiD' hneed fuel listed a w hc (Region.free_spec hi hf) hrm (.inl ⟨by simp [Region.wanted,hg],fun w' hw'=>hy a w' hFr hw'⟩) hSx ?_
 have:=h (hc.add hrm) (a.put (some d) v) w (hFr.put d v hdN) hS hSx.less
 rw [hd]
 exact this
theorem WD.skip {i d fuel j dj:Nat} {oi:Oper} {g c:Bool} {listed:Array Bool} (hi:ops[i]?=some oi) (hd:oi.dst=some d) (hdN:Nat.blt d N=true) (hg:oi.guard=some (j,g)) (hj:(ops[j]?).bind (·.dst)=some dj) (hv:lk L dj=some (.bool c)) (hne:(c==g)=false) (hs:Region.noSelect ops=true)
  (hf:Region.free .any ops listed i=true) (hr:(Region.ready .any ops listed).contains i=true) (hQ:∀ c a w,Q (.panic c) (a.put oi.dst undef) w→Q (.panic c) a w)
  (hiD:(Fs.all fun f=> !f.1.contains i)=true)
  (h:WD P w0 O ops Q Fs fuel (listed.setIfInBounds i true) N D ((d,undef)::L) C):WD P w0 O ops Q Fs (fuel+1) listed N D L C:=fun hc a w hFr hS hSx=>by
 have hrm:i∈Region.ready .any ops listed:=by simpa using hr
 have hiD':∀ f∈Fs,i∉f.1:=fun f hf' hm=>by
  have:=List.all_eq_true.1 hiD f hf'
  simp at this
  exact this hm
 have hw:Region.wanted oi (yielded ops a.tmps)=false:=by
  have:=hFr.get dj _ hv
  simp [Region.wanted,hg,yielded,hj,this]
  simpa using hne
 refine wpAnyT_first (Y:=fun _=>True) hi (Region.noSelect_spec hs) hQ hiD' (fun _ _ _ _ _=>trivial) fuel listed a w hc (Region.free_spec hi hf) hrm (.inr ⟨hw,rfl⟩) hSx ?_
 have:=h (hc.add hrm) (a.put (some d) undef) w (hFr.put d undef hdN) hS hSx.less
 rw [hd]
 exact this
theorem WD.skipU {i d fuel j dj:Nat} {oi:Oper} {g:Bool} {listed:Array Bool} (hi:ops[i]?=some oi) (hd:oi.dst=some d) (hdN:Nat.blt d N=true) (hg:oi.guard=some (j,g)) (hj:(ops[j]?).bind (·.dst)=some dj) (hv:lk L dj=some undef) (hs:Region.noSelect ops=true)
  (hf:Region.free .any ops listed i=true) (hr:(Region.ready .any ops listed).contains i=true) (hQ:∀ c a w,Q (.panic c) (a.put oi.dst undef) w→Q (.panic c) a w)
  (hiD:(Fs.all fun f=> !f.1.contains i)=true)
  (h:WD P w0 O ops Q Fs fuel (listed.setIfInBounds i true) N D ((d,undef)::L) C):WD P w0 O ops Q Fs (fuel+1) listed N D L C:=fun hc a w hFr hS hSx=>by
 have hrm:i∈Region.ready .any ops listed:=by simpa using hr
 have hiD':∀ f∈Fs,i∉f.1:=fun f hf' hm=>by
  have:=List.all_eq_true.1 hiD f hf'
  simp at this
  exact this hm
 have hw:Region.wanted oi (yielded ops a.tmps)=false:=by
  have:=hFr.get dj _ hv
  simp [Region.wanted,hg,yielded,hj,this,undef]
 refine wpAnyT_first (Y:=fun _=>True) hi (Region.noSelect_spec hs) hQ hiD' (fun _ _ _ _ _=>trivial) fuel listed a w hc (Region.free_spec hi hf) hrm (.inr ⟨hw,rfl⟩) hSx ?_
 have:=h (hc.add hrm) (a.put (some d) undef) w (hFr.put d undef hdN) hS hSx.less
 rw [hd]
 exact this
theorem WD.takeG {i d fuel j dj:Nat} {oi:Oper} {g:Bool} {v:Value} {Y:World→Prop} {listed:Array Bool} (hi:ops[i]?=some oi) (hd:oi.dst=some d) (hdN:Nat.blt d N=true) (hg:oi.guard=some (j,g)) (hj:(ops[j]?).bind (·.dst)=some dj) (hv:lk L dj=some (.bool g)) (hs:Region.noSelect ops=true)
  (hf:Region.free .any ops listed i=true) (hr:(Region.ready .any ops listed).contains i=true) (hQ:∀ c a w,Q (.panic c) (a.put oi.dst v) w→Q (.panic c) a w)
  (hiD:(Fs.all fun f=> !f.1.contains i)=true) (hneed:∀ (listed:Array Bool) (w:World),Closed ops listed→listed.getD i false=false→Sx Fs listed w→Y w)
  (hy:Yl P N D L Y {oi with guard:=none} v) (h:WD P w0 O ops Q Fs fuel (listed.setIfInBounds i true) N D ((d,v)::L) C):WD P w0 O ops Q Fs (fuel+1) listed N D L C:=fun hc a w hFr hS hSx=>by
 have hrm:i∈Region.ready .any ops listed:=by simpa using hr
 have hiD':∀ f∈Fs,i∉f.1:=fun f hf' hm=>by
  have:=List.all_eq_true.1 hiD f hf'
  simp at this
  exact this hm
 have hw:Region.wanted oi (yielded ops a.tmps)=true:=by
  have:=hFr.get dj _ hv
  simp [Region.wanted,hg,yielded,hj,this]
 refine wpAnyT_first hi (Region.noSelect_spec hs) hQ hiD' hneed fuel listed a w hc (Region.free_spec hi hf) hrm (.inl ⟨hw,fun w' hw'=>hy a w' hFr hw'⟩) hSx ?_
 have:=h (hc.add hrm) (a.put (some d) v) w (hFr.put d v hdN) hS hSx.less
 rw [hd]
 exact this
theorem WD.one {i fuel:Nat} {oi:Oper} {listed:Array Bool} (hr:Region.ready .any ops listed=[i]) (hi:ops[i]?=some oi)
  (h:WK P w0 O ops Q oi (fun a w=>Sx Fs (listed.setIfInBounds i true) w∧wpAnyT P ops Q Fs fuel (listed.setIfInBounds i true) a w) N D L C):WD P w0 O ops Q Fs (fuel+1) listed N D L C:=fun hc a w hFr hS hSx=>by
 refine ⟨fun h=>(by rw [h] at hr;cases hr),fun j hj=>?_⟩
 rw [hr] at hj
 simp only [List.mem_singleton] at hj
 subst hj
 have:=h a w hFr hS
 unfold wpOp
 simp only [hi]
 exact this
theorem WD.two {i j fuel:Nat} {oi oj:Oper} {listed:Array Bool} (hr:Region.ready .any ops listed=[i,j]) (hi:ops[i]?=some oi) (hj:ops[j]?=some oj)
  (h:WK P w0 O ops Q oi (fun a w=>Sx Fs (listed.setIfInBounds i true) w∧wpAnyT P ops Q Fs fuel (listed.setIfInBounds i true) a w) N D L C)
  (h':WK P w0 O ops Q oj (fun a w=>Sx Fs (listed.setIfInBounds j true) w∧wpAnyT P ops Q Fs fuel (listed.setIfInBounds j true) a w) N D L C):WD P w0 O ops Q Fs (fuel+1) listed N D L C:=fun hc a w hFr hS hSx=>by
 refine ⟨fun h=>(by rw [h] at hr;cases hr),fun k hk=>?_⟩
 rw [hr] at hk
 simp only [List.mem_cons,List.not_mem_nil,or_false] at hk
 rcases hk with rfl | rfl
 ·have:=h a w hFr hS
  unfold wpOp
  simp only [hi]
  exact this
 ·have:=h' a w hFr hS
  unfold wpOp
  simp only [hj]
  exact this
theorem WD.on {i fuel:Nat} {listed:Array Bool} (hc:Closed ops (listed.setIfInBounds i true)) (hS:∀ w,St w0 O C w→Sx Fs (listed.setIfInBounds i true) w) (h:WD P w0 O ops Q Fs fuel (listed.setIfInBounds i true) N D L C):
  WA w0 O (fun a w=>Sx Fs (listed.setIfInBounds i true) w∧wpAnyT P ops Q Fs fuel (listed.setIfInBounds i true) a w) N D L C:=fun a w hFr hSt=>
 ⟨hS w hSt,h hc a w hFr hSt (hS w hSt)⟩
theorem WD.done {fuel:Nat} {listed:Array Bool} (hr:Region.ready .any ops listed=[]) (h:WQ w0 O Q .normal N D L C):WD P w0 O ops Q Fs fuel listed N D L C:=fun hc a w hFr hS hSx=>by
 cases fuel with
 | zero=>exact ⟨hr,h a w hFr hS⟩
 | succ n=>exact ⟨fun _=>h a w hFr hS,by rw [hr];simp⟩
def closedB (ops:Array Oper) (listed:Array Bool):Bool:=(List.range ops.size).all fun j=> !listed.getD j false||match ops[j]? with
 | some oj=>oj.after.all fun e=> !Region.binds .any e||listed.getD e.on false
 | none=>true
theorem closed_of {listed:Array Bool} (h:closedB ops listed=true):Closed ops listed:=by
 intro j oj hj hl e he hb
 have hlt:j<ops.size:=(Array.getElem?_eq_some_iff.1 hj).1
 have h1:=List.all_eq_true.1 h j (List.mem_range.2 hlt)
 simp only [hl,Bool.not_true,Bool.false_or,hj] at h1
 have h2:=Array.all_eq_true_iff_forall_mem.1 h1 e he
 simpa [hb] using h2
theorem need_fact {i n:Nat} {ds:List Nat} {Y:World→Prop} (hm:(ds,Y)∈Fs) (hr:(ds.all fun j=>reach ops n j i)=true):
  ∀ (listed:Array Bool) (w:World),Closed ops listed→listed.getD i false=false→Sx Fs listed w→Y w:=fun listed w hc hi hS=>
 hS (ds,Y) hm fun j hj=>reach_not hc hi n j (List.all_eq_true.1 hr j hj)
theorem need_at {i:Nat} (k n:Nat) {ds:List Nat} {Y:World→Prop} (hm:Fs[k]?=some (ds,Y)) (hr:(ds.all fun j=>reach ops n j i)=true):
  ∀ (listed:Array Bool) (w:World),Closed ops listed→listed.getD i false=false→Sx Fs listed w→Y w:=need_fact (List.mem_of_getElem? hm) hr
theorem Sx.none {listed:Array Bool} {w:World}:Sx [] listed w:=fun f hf=>by cases hf
theorem Sx.keep {listed:Array Bool} {w:World} {ds:List Nat} {Y:World→Prop} (h:Y w) (hr:Sx Fs listed w):Sx ((ds,Y)::Fs) listed w:=fun f hf hj=>by
 rcases List.mem_cons.1 hf with rfl | hf
 ·exact h
 ·exact hr f hf hj
theorem Sx.gone {listed:Array Bool} {w:World} {ds:List Nat} {Y:World→Prop} (hl:(ds.any fun j=>listed.getD j false)=true) (hr:Sx Fs listed w):Sx ((ds,Y)::Fs) listed w:=fun f hf hj=>by
 rcases List.mem_cons.1 hf with rfl | hf
 ·obtain ⟨j,hm,hl⟩:=List.any_eq_true.1 hl
  rw [hj j hm] at hl;cases hl
 ·exact hr f hf hj
theorem facts_nil {w:World}:∀ f∈([]:List (List Nat×(World→Prop))),f.2 w:=fun f hf=>by cases hf
theorem facts_cons {w:World} {ds:List Nat} {Y:World→Prop} (h:Y w) (hr:∀ f∈Fs,f.2 w):∀ f∈((ds,Y)::Fs),f.2 w:=fun f hf=>by
 rcases List.mem_cons.1 hf with rfl | hf
 ·exact h
 ·exact hr f hf
theorem need_none {i:Nat}:∀ (listed:Array Bool) (w:World),Closed ops listed→listed.getD i false=false→Sx Fs listed w→(fun _:World=>True) w:=fun _ _ _ _ _=>trivial
end
open Go Go.RowKit
section
variable {P : Program} {w0 : World} {O : List Nat} {ops : Array Oper} {Q : Exit → Act → World → Prop} {N : Nat} {D : List Deferred} {L : FL} {C : List Chunk} {K : Act → World → Prop}
variable {d : Nat} {ty : TypeId} {pos : String} {af : Array Edge}
theorem St.pick {w:World} {c:Chunk} {C1:List Chunk} (h:St w0 O C w) (hr:Rem c C C1):St w0 O (c::C1) w:=h.perm hr.perm
theorem St.rowOf {w:World} {b n:Nat} {cs:List Value} {e:TypeId} {sz:Nat} (h:St w0 O (pt b cs e::C) w) (hl:cs.length=n*sz) (hn:n≤maxLen):St w0 O (rowc (.slice (some ⟨b,0,none⟩) n n) n e sz cs::C) w:=
 h.swap (rowc_of_pt hl hn) (fun k hk=>by simpa [rowc,Value.ownBlock,pt,eq_comm] using hk)
end
open Go Go.RowKit
section
variable {P : Program} {w0 : World} {O : List Nat} {ops : Array Oper} {Q : Exit → Act → World → Prop} {N : Nat} {D : List Deferred} {L : FL} {C : List Chunk} {K : Act → World → Prop}
variable {d : Nat} {ty : TypeId} {pos : String} {af : Array Edge}
theorem WA.chunksE {α:Type} {C':α→List Chunk} (hs:∀ w,St w0 O C w→∃ x,St w0 O (C' x) w) (h:∀ x,WA w0 O K N D L (C' x)):WA w0 O K N D L C:=fun a w hF hS=>by
 obtain ⟨x,hx⟩:=hs w hS
 exact h x a w hF hx
theorem WQ.chunksE {e:Exit} {α:Type} {C':α→List Chunk} (hs:∀ w,St w0 O C w→∃ x,St w0 O (C' x) w) (h:∀ x,WQ w0 O Q e N D L (C' x)):WQ w0 O Q e N D L C:=fun a w hF hS=>by
 obtain ⟨x,hx⟩:=hs w hS
 exact h x a w hF hx
theorem run_indexAtA {t e:TypeId} {n sz:Nat} {zs:List Value} (ht:ArT P t e n sz zs) {w:World} {b off:Nat} {k:IntKind} {i:Nat} (hi:i<n):
  (Instr.indexAt t (.pointer (some ⟨b,off,none⟩)) (.int k i)).run P w= .ok (.pointer (some ⟨b,off+i*sz,none⟩)) w:=by
 have h1:(0:Int)≤(i:Int)∧(i:Int)<(n:Int):=by omega
 simp [Instr.indexAt,run_underlying ht.und,asIntOf,h1,hi,run_sizeOf ht.size,add_blk,Instr.sureAddr]
theorem Yl.indexAddrA {F:World→Prop} {t e:TypeId} {n sz:Nat} {zs:List Value} {x y:Operand} {b off:Nat} {k:IntKind} {i:Nat} (ht:ArT P t e n sz zs) (hx:ev L x=some (.pointer (some ⟨b,off,none⟩))) (hy:ev L y=some (.int k i)) (hi:i<n):
  Yl P N D L F ⟨some d,.indexAddr t x y,ty,pos,af,none⟩ (.pointer (some ⟨b,off+i*sz,none⟩)):=fun a w hF _=>by
   simp [execOp,hF.ev hx,hF.ev hy,run_indexAtA (P:=P) ht (w:=w) (k:=k) hi]
theorem WL.indexAddrA {t e:TypeId} {n sz:Nat} {zs:List Value} {x y:Operand} {b off:Nat} {k:IntKind} {i:Nat} (ht:ArT P t e n sz zs) (hd:Nat.blt d N=true) (hx:ev L x=some (.pointer (some ⟨b,off,none⟩))) (hy:ev L y=some (.int k i)) (hi:i<n)
  (h:WA w0 O K N D ((d,.pointer (some ⟨b,off+i*sz,none⟩))::L) C):
  WK P w0 O ops Q ⟨some d,.indexAddr t x y,ty,pos,af,none⟩ K N D L C:=WL.y (F:=fun _=>True) (Yl.indexAddrA ht hx hy hi) hd (fun _ _=>trivial) h
end
open Go Go.RowKit
section
variable {P : Program} {w0 : World} {O : List Nat} {ops : Array Oper} {Q : Exit → Act → World → Prop} {N : Nat} {D : List Deferred} {L : FL} {C : List Chunk} {K : Act → World → Prop}
variable {d : Nat} {ty : TypeId} {pos : String} {af : Array Edge}
def QS (P:Program) (fn:Func) (c₀:Frame) (cs:List Frame) (R:Ending→FrameMode→World→Prop) (u':FrameMode):Exit→Act→World→Prop:=
 fun e a w=>bodyPostS P fn c₀ cs R e a ({c₀ with mode:=u'}::cs) w
end
open Go Go.RowKit
section
variable {P : Program} {w0 : World} {O : List Nat} {ops : Array Oper} {Q : Exit → Act → World → Prop} {N : Nat} {D : List Deferred} {L : FL} {C : List Chunk} {K : Act → World → Prop}
variable {d : Nat} {ty : TypeId} {pos : String} {af : Array Edge}
theorem WL.bin {b:BinOp} {t t2:TypeId} {x y:Operand} {vx vy v:Value} (hd:Nat.blt d N=true) (hx:ev L x=some vx) (hy:ev L y=some vy)
  (hr:∀ w,(do eqGuard b t x y vx vy;binOp b t vx vy:Sem Value).run P w= .ok v w) (h:WA w0 O K N D ((d,v)::L) C):
  WK P w0 O ops Q ⟨some d,.binOp b t x y t2,ty,pos,af,none⟩ K N D L C:=fun a w hF hS=>by
 refine wpo_val rfl ?_ (h _ w (hF.put d v hd) hS)
 have:=hr w
 simp only [Sem.run_bind] at this
 simp only [execOp,hF.ev hx,hF.ev hy,Sem.run_bind,this,Result.andThen_ok,Sem.run_pure]
end
end Go.Eng
namespace Go.Proofs.YtedbajbgnmaakaaGreatDoor
open Go Go.Eng Go.Proofs Go.ChangeShapes Go.WideShapes Go.ChangeAt Go.RowKit Go.ChangeMaps
theorem und_string :Tryz.prog.underlying 9=some .string:=by kernel_rfl
theorem ownKnob_none :ownKnob Tryz.prog.godebug=none:=by kernel_rfl
theorem St.kept {w w':World} {C:List Chunk} {may:MemPlace→Prop} (h:St w [] C w'):w.keptBut w' may:=by
 refine ⟨h.os,h.output,fun i hi=>?_⟩
 rw [h.old i hi (by simp)]
 cases h2:w.heap[i]? with
 | none=>rfl
 | some o=>cases o with
  | cells c t fr=>exact ⟨rfl,rfl,rfl,fun _ _=>rfl⟩
  | map es clock=>exact .inr ⟨rfl,rfl⟩
  | _=>rfl
end Go.Proofs.YtedbajbgnmaakaaGreatDoor
namespace Go.Eng
open Go Go.RowKit Go.Lib
section
variable {P : Program} {w0 : World} {O : List Nat} {ops : Array Oper} {Q : Exit → Act → World → Prop} {N : Nat} {D : List Deferred} {L : FL} {C : List Chunk} {K : Act → World → Prop}
variable {d : Nat} {ty : TypeId} {pos : String} {af : Array Edge}
theorem St.focus {w:World} {Cs C1:List Chunk} {O':List Nat} (h:St w0 O (Cs++C1) w) (hO:∀ c∈Cs,∀ k,c.fp k→k∈O'):St w O' Cs w:=
 ⟨rfl,rfl,rfl,Nat.le_refl _,fun _ _ _=>rfl,fun c hc=>h.ok c (List.mem_append_left _ hc),fun c hc k hk=>⟨(h.bnd c (List.mem_append_left _ hc) k hk).1,fun _=>hO c hc k hk⟩,(List.pairwise_append.1 h.disj).1⟩
theorem St.callC {w w':World} {Cs C1 cs:List Chunk} {O':List Nat} (h:St w0 O (Cs++C1) w) (hc:St w O' cs w') (hO:∀ k∈O',∃ c∈Cs,c.fp k):St w0 O (cs++C1) w':=by
 have h1:=List.pairwise_append.1 h.disj
 have h2:St w0 O C1 w:=h.sublist (List.sublist_append_right _ _)
 refine h2.call hc (fun k hk _=>?_)
 obtain ⟨c,hc1,hc2⟩:=hO k hk
 exact ⟨fun x hx hk'=>h1.2.2 c hc1 x hx k hc2 hk',fun hlt=>(h.bnd c (List.mem_append_left _ hc1) k hc2).2 hlt⟩
theorem WL.callC {β:Type} {f:FuncId} {xs:List Operand} {tys:Array TypeId} {vs:List Value} {res:β→Value} {cs:β→List Chunk} {Cs C1:List Chunk} {O':List Nat}
  (hf:funB P f=some true) (hd:∀ d',(some d:Option Nat)=some d'→Nat.blt d' N=true) (hx:evs L xs=some vs) (hp:C.Perm (Cs++C1)) (hO1:∀ c∈Cs,∀ k,c.fp k→k∈O') (hO2:∀ k∈O',∃ c∈Cs,c.fp k)
  (hc:∀ w,St w0 O (Cs++C1) w→St w O' Cs w→Calls P f vs.toArray w fun e w'=>∃ x,e= .returned (res x)∧St w O' (cs x) w')
  (h:∀ x,WA w0 O K N D ((d,res x)::L) (cs x++C1)):
  WK P w0 O ops Q ⟨some d,.call {callee:= .value (.func f),args:=xs.toArray,argTypes:=tys},ty,pos,af,none⟩ K N D L C:=fun a w hF hS=>by
 have ha:xs.toArray.map a.eval=vs.toArray:=by apply Array.ext';simp [hF.evs hx]
 have hS1:=hS.perm hp
 refine wpo_call (f:=f) (args:=vs.toArray) rfl ?_ ?_
 ·simp [execOp,resolve,Deferred.ofValue,Act.eval,invoke,ha,run_callFunc hf]
 refine (hc w hS1 (hS1.focus hO1)).mono fun e w' ⟨x,he,hS'⟩=>?_
 subst he
 exact h x _ w' (hF.put d _ (hd d rfl)) (hS1.callC hS' hO2)
theorem WL.callFC {β:Type} {f:FuncId} {x:Operand} {xs:List Operand} {tys:Array TypeId} {vs us cap:List Value} {res:β→Value} {cs:β→List Chunk} {Cs C1:List Chunk} {O':List Nat}
  (hf:funB P f=some true) (hd:∀ d',(some d:Option Nat)=some d'→Nat.blt d' N=true) (hfv:ev L x=some (.func (.func f) us.toArray cap.toArray)) (hx:evs L xs=some vs) (hp:C.Perm (Cs++C1)) (hO1:∀ c∈Cs,∀ k,c.fp k→k∈O') (hO2:∀ k∈O',∃ c∈Cs,c.fp k)
  (hc:∀ w,St w0 O (Cs++C1) w→St w O' Cs w→Calls P f (us++vs++cap).toArray w fun e w'=>∃ x,e= .returned (res x)∧St w O' (cs x) w')
  (h:∀ x,WA w0 O K N D ((d,res x)::L) (cs x++C1)):
  WK P w0 O ops Q ⟨some d,.call {callee:= .value x,args:=xs.toArray,argTypes:=tys},ty,pos,af,none⟩ K N D L C:=fun a w hF hS=>by
 have ha:xs.toArray.map a.eval=vs.toArray:=by apply Array.ext';simp [hF.evs hx]
 have hS1:=hS.perm hp
 refine wpo_call (f:=f) (args:=(us++vs++cap).toArray) rfl ?_ ?_
 ·simp [execOp,resolve,Deferred.ofValue,hF.ev hfv,invoke,ha,run_callFunc hf]
 refine (hc w hS1 (hS1.focus hO1)).mono fun e w' ⟨x,he,hS'⟩=>?_
 subst he
 exact h x _ w' (hF.put d _ (hd d rfl)) (hS1.callC hS' hO2)
theorem WL.convert {t1 t2:TypeId} {x:Operand} {vx v:Value} (hd:Nat.blt d N=true) (hx:ev L x=some vx) (hr:∀ w,St w0 O C w→(convert t1 t2 vx).run P w= .ok v w)
  (h:WA w0 O K N D ((d,v)::L) C):WK P w0 O ops Q ⟨some d,.convert t1 t2 x,ty,pos,af,none⟩ K N D L C:=fun a w hF hS=>by
 refine wpo_val rfl ?_ (h _ w (hF.put d _ hd) hS)
 simp [execOp,hF.ev hx,hr w hS]
end
end Go.Eng
namespace Fm
open Go.Eng
def inWordB (c:UInt8):Bool:=c==95||(48≤c&&c≤57)||(97≤c&&c≤122)||(65≤c&&c≤90)
def isNameB (s:List UInt8):Bool:=match s with
 | []=>false
 | c::_=>decide (s.length≤32)&& !(48≤c&&c≤57)&&s.all inWordB
def blanks :List UInt8→Nat
 | []=>0
 | c::r=>if c=32 then blanks r+1 else 0
def signs :List (List UInt8):=[[60,61,62],[61,62],[33],[38],[94],[124],[63],[58],[40],[41]]
def pre (rest s:List UInt8):Bool:=decide (s.length≤rest.length)&&rest.take s.length==s
def word (rest:List UInt8):List UInt8:=rest.takeWhile inWordB
def tok (rest:List UInt8):Option (List UInt8):=
 if rest=[] then some [] else
 match signs.find? (pre rest) with
 | some s=>some s
 | none=>if word rest=[48]∨word rest=[49]∨isNameB (word rest)=true then some (word rest) else none
inductive NR where
 | ok (at_:Nat) (word:List UInt8)
 | bad (at_:Nat)
def next (text:List UInt8) (at_:Nat) (w:List UInt8):NR:=
 let p:=at_+w.length
 let q:=p+blanks (text.drop p)
 match tok (text.drop q) with
 | some x=> .ok q x
 | none=> .bad q
end Fm
namespace Fm
end Fm
namespace Fm
open Go.Eng
end Fm
namespace Fm
open Go Go.Eng
def kidsOf (op:Int):Int×Bool:=
 if op=1∨op=2∨op=3 then (0,true) else if op=4 then (1,true) else if op=5∨op=6∨op=7 then (-1,true) else if op=8∨op=9 then (2,true) else if op=10 then (3,true) else (0,false)
def kidsBad (op:Int) (n:Nat):Bool:= !(kidsOf op).2||((kidsOf op).1== -1&&decide ((n:Int)<2))||(!((kidsOf op).1== -1)&& !((n:Int)==(kidsOf op).1))
def rightB (t:Tree):Bool:= !kidsBad t.op t.kids.length&&(if t.op=3 then isNameB t.name else t.name==[])
mutual
def validT :Nat→Tree→Nat→Option Nat
 | lv,.mk op name kids,left=>if lv=0∨left=0∨rightB (.mk op name kids)=false then none else validL (lv - 1) kids (left - 1)
def validL :Nat→List Tree→Nat→Option Nat
 | _,[],left=>some left
 | lv,t::ts,left=>match validT lv t left with
  | none=>none
  | some l=>validL lv ts l
end
end Fm
namespace Go.Eng
open Go Go.RowKit
section
variable {P : Program} {w0 : World} {O : List Nat} {ops : Array Oper} {Q : Exit → Act → World → Prop} {N : Nat} {D : List Deferred} {L : FL} {C : List Chunk} {K : Act → World → Prop}
variable {d : Nat} {ty : TypeId} {pos : String} {af : Array Edge}
end
end Go.Eng
namespace Fm
open Go Go.Eng
def fuel (text:List UInt8):Nat:=12*text.length+9
end Fm
namespace Fm
open Go Go.Eng
def signS (op:Int) (i:Int):List UInt8:=
 if op=5 then [38] else if op=7 then [94] else if op=6 then [124] else if op=8 then [61,62] else if op=9 then [60,61,62] else if i=1 then [63] else [58]
def bareN (op:Int) (i:Int):Nat:=
 if op=5 then 0 else if op=7 then 1 else if op=6 then 2 else if op=8∧i=0 then 3 else if op=8∨op=9 then 4 else if i=0 then 5 else 6
def bareL :List Int:=[5,7,6,8,9,10]
mutual
def putS :Tree→List UInt8
 | .mk op name kids=>if op=1 then [48] else if op=2 then [49] else if op=3 then name else if op=4 then [33]++putN kids else putK op 0 kids
def putN :List Tree→List UInt8
 | []=>[]
 | k::_=>if k.op≤4 then putS k else [40]++putS k++[41]
def putK :Int→Int→List Tree→List UInt8
 | _,_,[]=>[]
 | op,i,k::ks=>(if 0<i then [32]++signS op i++[32] else [])++(if (bareL.take (bareN op i)).contains k.op||decide (k.op≤4) then putS k else [40]++putS k++[41])++putK op (i+1) ks
end
mutual
def notOk :Tree→Bool
 | .mk op _ kids=>(!(op==4)|| !kids.isEmpty)&&notOkL kids
def notOkL :List Tree→Bool
 | []=>true
 | k::ks=>notOk k&&notOkL ks
end
end Fm
namespace Fm
open Go Go.Eng
abbrev Kn :=Nat×Nat
end Fm
namespace Go.Eng
open Go Go.RowKit Go.Lib
section
variable {P : Program} {w0 : World} {O : List Nat} {ops : Array Oper} {Q : Exit → Act → World → Prop} {N : Nat} {D : List Deferred} {L : FL} {C : List Chunk} {K : Act → World → Prop}
variable {d : Nat} {ty : TypeId} {pos : String} {af : Array Edge}
theorem wrap_u32 {n:Nat} (h:n<4294967296):IntKind.u32.wrap (n:Int)=(n:Int):=by
 simp only [IntKind.wrap,IntKind.bits,IntKind.signed,Bool.false_and,Bool.false_eq_true,if_false]
 omega
theorem run_or {a b:Nat} (ha:a<4294967296) (hb:b<4294967296) (t:TypeId) (x y:Operand) (w:World):
  (do eqGuard .or t x y (.int .u32 (a:Int)) (.int .u32 (b:Int));binOp .or t (.int .u32 (a:Int)) (.int .u32 (b:Int)):Sem Value).run P w= .ok (.int .u32 ((a|||b:Nat):Int)) w:=by
 have h1:(a|||b)<2 ^ 32:=Nat.or_lt_two_pow (by omega) (by omega)
 simp only [eqGuard,binOp,Op.intBits,IntKind.bits]
 have h2:((BitVec.ofNat 32 a)|||(BitVec.ofNat 32 b)).toNat=a|||b:=by
  rw [BitVec.toNat_or,BitVec.toNat_ofNat,BitVec.toNat_ofNat,Nat.mod_eq_of_lt (by omega),Nat.mod_eq_of_lt (by omega)]
 simp
 show IntKind.u32.wrap ((((BitVec.ofNat 32 a)|||(BitVec.ofNat 32 b)).toNat:Nat):Int)=_
 rw [h2]
 exact wrap_u32 (by omega)
theorem run_and {a b:Nat} (ha:a<4294967296) (hb:b<4294967296) (t:TypeId) (x y:Operand) (w:World):
  (do eqGuard .and t x y (.int .u32 (a:Int)) (.int .u32 (b:Int));binOp .and t (.int .u32 (a:Int)) (.int .u32 (b:Int)):Sem Value).run P w= .ok (.int .u32 ((a&&&b:Nat):Int)) w:=by
 have h1:(a&&&b)≤a:=Nat.and_le_left
 simp only [eqGuard,binOp,Op.intBits,IntKind.bits]
 have h2:((BitVec.ofNat 32 a)&&&(BitVec.ofNat 32 b)).toNat=a&&&b:=by
  rw [BitVec.toNat_and,BitVec.toNat_ofNat,BitVec.toNat_ofNat,Nat.mod_eq_of_lt (by omega),Nat.mod_eq_of_lt (by omega)]
 simp
 show IntKind.u32.wrap ((((BitVec.ofNat 32 a)&&&(BitVec.ofNat 32 b)).toNat:Nat):Int)=_
 rw [h2]
 exact wrap_u32 (by omega)
theorem run_shl1 {k:Nat} (hk:k<32) (t:TypeId) (x y:Operand) (w:World):
  (do eqGuard .shl t x y (.int .u32 1) (.int .i64 (k:Int));binOp .shl t (.int .u32 1) (.int .i64 (k:Int)):Sem Value).run P w= .ok (.int .u32 ((2 ^ k:Nat):Int)) w:=by
 have h1: ¬ (k:Int)<0:=by omega
 have h2:min (k:Int).toNat 32=k:=by omega
 have h3:2 ^ k<4294967296:=Nat.lt_of_lt_of_le (Nat.pow_lt_pow_right (by decide) hk) (by decide)
 have h4:=wrap_u32 h3
 simp only [eqGuard,binOp,Op.shift,IntKind.bits,h1,if_false,h2]
 simp only [Int.natCast_pow] at h4
 simp at h4
 simp [h4]
theorem run_shr {a k:Nat} (hk:k<32) (t:TypeId) (x y:Operand) (w:World):
  (do eqGuard .shr t x y (.int .u32 (a:Int)) (.int .i64 (k:Int));binOp .shr t (.int .u32 (a:Int)) (.int .i64 (k:Int)):Sem Value).run P w= .ok (.int .u32 ((a>>>k:Nat):Int)) w:=by
 have h1: ¬ (k:Int)<0:=by omega
 have h2:min (k:Int).toNat 32=k:=by omega
 simp only [eqGuard,binOp,Op.shift,IntKind.bits,h1,if_false,h2]
 have h5:(a:Int).fdiv (2 ^ k)=((a>>>k:Nat):Int):=by
  rw [Nat.shiftRight_eq_div_pow,show ((2:Int) ^ k)=((2 ^ k:Nat):Int) by simp,Int.fdiv_eq_ediv_of_nonneg _ (Int.natCast_nonneg _),Int.natCast_ediv]
 simp [h5]
end
open Go Go.RowKit Go.Lib
section
variable {P : Program} {w0 : World} {O : List Nat} {ops : Array Oper} {Q : Exit → Act → World → Prop} {N : Nat} {D : List Deferred} {L : FL} {C : List Chunk} {K : Act → World → Prop}
variable {d : Nat} {ty : TypeId} {pos : String} {af : Array Edge}
theorem Yl.bin {F:World→Prop} {b:BinOp} {t t2:TypeId} {x y:Operand} {vx vy v:Value} (hx:ev L x=some vx) (hy:ev L y=some vy)
  (hr:∀ w,(do eqGuard b t x y vx vy;binOp b t vx vy:Sem Value).run P w= .ok v w):Yl P N D L F ⟨some d,.binOp b t x y t2,ty,pos,af,none⟩ v:=fun a w hF _=>by
 have:=hr w
 simp only [Sem.run_bind] at this
 simp only [execOp,hF.ev hx,hF.ev hy,Sem.run_bind,this,Result.andThen_ok,Sem.run_pure]
theorem WL.buildSlice0 {t e:TypeId} {sz:Nat} (ht:SlT P t e sz) (hd:Nat.blt d N=true) (h:∀ b,WA w0 O K N D ((d,.slice (some ⟨b,0,none⟩) 0 0)::L) (pt b [] e::C)):
  WK P w0 O ops Q ⟨some d,.buildSlice t 0 #[],ty,pos,af,none⟩ K N D L C:=fun a w hF hS=>by
 refine wpo_val rfl ?_ (h _ _ _ (hF.put d _ hd) (hS.alloc _ _))
 simp [execOp,Instr.buildSlice,run_underlying ht.und,run_sizeOf ht.size,Instr.fill,newRow,Array.range_zero']
theorem rowc_addr {w:World} {a:Option Addr} {n m cap sz:Nat} {e:TypeId} {xs:List Value} (h:(rowc (.slice a m cap) n e sz xs).ok w) (hn:0<n):∃ g,a=some ⟨g,0,none⟩∧m=n∧n≤cap:=by
 rcases (show w.ownsRow 0 e sz (.slice a m cap) n xs from h).2 with ⟨_,h0⟩ | ⟨g,cp,cur,hv,_,_,hle,_⟩
 ·omega
 injection hv with ha hm hc
 exact ⟨g,ha,hm,by omega⟩
theorem rowc_cell {w:World} {g n cap:Nat} {e:TypeId} {xs:List Value} {j:Nat} {u:Value} (h:(rowc (.slice (some ⟨g,0,none⟩) n cap) n e 1 xs).ok w) (hu:xs[j]?=some u):w.cell? ⟨g,j,none⟩=some u:=by
 have:=(show w.ownsRow 0 e 1 (.slice (some ⟨g,0,none⟩) n cap) n xs from h).cells (g:=g) rfl j u hu
 rwa [add_blk,Nat.zero_add] at this
end
end Go.Eng
namespace Fm
theorem testBit_shift (a k:Nat):((((a>>>k)&&&1:Nat):Int)==1)=a.testBit k:=by
 rw [Nat.testBit,Nat.and_comm]
 have:(a>>>k)&&&1=0∨(a>>>k)&&&1=1:=by
  have:=Nat.and_one_is_mod (a>>>k)
  omega
 rw [Nat.and_comm] at this
 rcases this with h | h<;>rw [h]<;>rfl
end Fm
namespace Go.Eng
open Go Go.RowKit
theorem jM {α:Type} {c:α} {C:List α} (h:c∈C:=by repeat (first | exact List.Mem.head _ | apply List.Mem.tail)):c∈C:=h
theorem jR {c:Chunk} {C C1:List Chunk} (h:Rem c C C1:=by repeat (first | exact Rem.here | apply Rem.there)):Rem c C C1:=h
theorem jU {c d:Chunk} {C C1:List Chunk} (h:Upd c d C C1:=by repeat (first | exact Upd.here | apply Upd.there)):Upd c d C C1:=h
theorem jS {a b c:List Value} {n:Nat} (h:SetN a n b c:=by repeat constructor):SetN a n b c:=h
theorem jB {pl:Nat→Option (Nat×Nat)} {a c:List Value} {p:List (Nat×Value)} (h:Built pl a p c:=by repeat (first | exact Built.nil | apply Built.one rfl rfl (by repeat constructor) | apply Built.agg rfl rfl (by repeat constructor))):Built pl a p c:=h
theorem jO {vs:List Value} (h:∀ u∈vs,u.oneCell'=true:=by simp [Value.oneCell']):∀ u∈vs,u.oneCell'=true:=h
inductive Keep :List Chunk→List Chunk→Prop
  | nil {C}:Keep C []
  | cons {c C C1 C'}:Rem c C C1→Keep C1 C'→Keep C (c::C')
theorem Keep.st {w0:World} {O:List Nat} {C C':List Chunk} {w:World} (k:Keep C C') (h:St w0 O C w):St w0 O C' w:=by
  have key:∃ R,C.Perm (C'++R):=by
    clear h
    induction k with
    | nil=>exact ⟨_,List.Perm.refl _⟩
    | cons hr _ ih=>
      obtain ⟨R,hp⟩:=ih
      exact ⟨R,hr.perm.trans (List.Perm.cons _ hp)⟩
  obtain ⟨R,hp⟩:=key
  exact (h.perm hp).sublist (List.sublist_append_left _ _)
theorem jK {w0:World} {O:List Nat} {C C':List Chunk} {w:World} (h:St w0 O C w) (k:Keep C C':=by repeat (first | exact Keep.nil | refine Keep.cons (by repeat (first | exact Rem.here | apply Rem.there)) ?_)):St w0 O C' w:=k.st h
class OneI (P:Program) (t:TypeId):Prop where out:One P t
class AggI (P:Program) (t:TypeId) (n:outParam Nat):Prop where out:Agg P t n
class FldI (P:Program) (t f:Nat) (k:outParam Nat):Prop where out:fldB P t f=some k
class StrI (P:Program) (t:TypeId):Prop where out:P.underlying t=some .string
class SliI (P:Program) (t:TypeId) (e:outParam TypeId):Prop where out:P.underlying t=some (.slice e)
class SlI (P:Program) (t:TypeId) (e n:outParam Nat):Prop where out:SlT P t e n
class StI (P:Program) (t:TypeId) (zs:outParam (List Value)) (pl:outParam (List (Nat×Nat))):Prop where out:StT P t zs pl
section
variable {P : Program} {w0 : World} {O : List Nat} {ops : Array Oper} {Q : Exit → Act → World → Prop} {N : Nat} {D : List Deferred} {L : FL} {C : List Chunk} {K : Act → World → Prop}
variable {d : Nat} {ty : TypeId} {pos : String} {af : Array Edge}
theorem mLoadP {t:TypeId} [i:OneI P t] {x:Operand} {b off:Nat} {cs:List Value} {e:TypeId} {v:Value} (hd:Nat.blt d N=true) (hx:ev L x=some (.pointer (some ⟨b,off,none⟩)))
    (hm:pt b cs e∈C) (hv:cs[off]?=some v) (h:WA w0 O K N D ((d,v)::L) C):
    WK P w0 O ops Q ⟨some d,.load t x,ty,pos,af,none⟩ K N D L C:=WL.loadP i.out hd hx hm hv h
theorem mLoadW {t:TypeId} {n:Nat} [i:AggI P t n] {x:Operand} {b:Nat} {cs:List Value} {e:TypeId} (hd:Nat.blt d N=true) (hx:ev L x=some (.pointer (some ⟨b,0,none⟩)))
    (hm:pt b cs e∈C) (hl:cs.length=n) (h:WA w0 O K N D ((d,.agg cs.toArray)::L) C):
    WK P w0 O ops Q ⟨some d,.load t x,ty,pos,af,none⟩ K N D L C:=WL.loadW i.out hd hx hm hl h
theorem mFld {t:TypeId} {f k:Nat} [i:FldI P t f k] {x:Operand} {b:Nat} (hd:Nat.blt d N=true) (hx:ev L x=some (.pointer (some ⟨b,0,none⟩)))
    (h:WA w0 O K N D ((d,.pointer (some ⟨b,k,none⟩))::L) C):
    WK P w0 O ops Q ⟨some d,.fieldAddr t x f,ty,pos,af,none⟩ K N D L C:=WL.fieldAddr0 i.out hd hx h
theorem mLenS {t:TypeId} [i:StrI P t] {x:Operand} {m:List UInt8} (hd:Nat.blt d N=true) (hx:ev L x=some (.string (str m))) (h:WA w0 O K N D ((d,.int .i64 m.length)::L) C):
    WK P w0 O ops Q ⟨some d,.call {callee:= .builtin .len,args:=#[x],argTypes:=#[t]},ty,pos,af,none⟩ K N D L C:=WL.lenS i.out hd hx h
theorem mLenSl {t e:TypeId} [i:SliI P t e] {x:Operand} {a0:Option Addr} {len cap:Nat} (hd:Nat.blt d N=true) (hx:ev L x=some (.slice a0 len cap)) (h:WA w0 O K N D ((d,.int .i64 len)::L) C):
    WK P w0 O ops Q ⟨some d,.call {callee:= .builtin .len,args:=#[x],argTypes:=#[t]},ty,pos,af,none⟩ K N D L C:=WL.lenSl i.out hd hx h
theorem mStore1 {t:TypeId} [i:OneI P t] {x y:Operand} {b off:Nat} {cs cs':List Value} {e:TypeId} {v:Value} {C':List Chunk} (hx:ev L x=some (.pointer (some ⟨b,off,none⟩))) (hy:ev L y=some v) (hv:v.oneCell'=true)
    (hu:Upd (pt b cs e) (pt b cs' e) C C') (hn:SetN cs off [v] cs') (h:WA w0 O K N D L C'):
    WK P w0 O ops Q ⟨none,.store t x y,ty,pos,af,none⟩ K N D L C:=WL.store1 i.out hx hy hv hu hn h
theorem mStoreN {t:TypeId} {n:Nat} [i:AggI P t n] {x y:Operand} {b off:Nat} {cs cs' vs:List Value} {e:TypeId} {C':List Chunk} (hx:ev L x=some (.pointer (some ⟨b,off,none⟩))) (hy:ev L y=some (.agg vs.toArray)) (hl:vs.length=n)
    (hv:∀ u∈vs,u.oneCell'=true) (hu:Upd (pt b cs e) (pt b cs' e) C C') (hn:SetN cs off vs cs') (h:WA w0 O K N D L C'):
    WK P w0 O ops Q ⟨none,.store t x y,ty,pos,af,none⟩ K N D L C:=WL.storeN i.out hx hy hl hv hu hn h
theorem mBuild {t:TypeId} {zs cs:List Value} {pl:List (Nat×Nat)} [i:StI P t zs pl] {parts:List (Nat×Operand)} {ps:List (Nat×Value)} (hp:evp L parts=some ps) (hb:Built (fun i=>pl[i]?) zs ps cs) (hd:Nat.blt d N=true)
    (h:WA w0 O K N D ((d,.agg cs.toArray)::L) C):
    WK P w0 O ops Q ⟨some d,.build t parts.toArray,ty,pos,af,none⟩ K N D L C:=WL.build i.out hp hb hd h
end
section
variable {P : Program} {w0 : World} {O : List Nat} {ops : Array Oper} {Q : Exit → Act → World → Prop} {N : Nat} {D : List Deferred} {L : FL} {C : List Chunk} {K : Act → World → Prop}
theorem tagWQ {e:Exit} (h:WQ w0 O Q e N D L C):WQ w0 O Q e N D L C:=h
theorem tagWC {c:Code} (h:WC P w0 O c Q N D L C):WC P w0 O c Q N D L C:=h
theorem tagG {dst:Option Tmp} {op:Op} {ty:TypeId} {pos:String} {af:Array Edge} {g:Nat×Bool} (h:WK P w0 O ops Q ⟨dst,op,ty,pos,af,some g⟩ K N D L C):WK P w0 O ops Q ⟨dst,op,ty,pos,af,some g⟩ K N D L C:=h
end
inductive Mech :Nat→Prop→Prop→Prop
  | zero {G}:Mech 0 G G
  | succ {n G G1 G'}:(G1→G)→Mech n G1 G'→Mech (n+1) G G'
theorem Mech.run {n:Nat} {G G':Prop} (m:Mech n G G') (h:G'):G:=by
  induction m with
  | zero=>exact h
  | succ f _ ih=>exact f (ih h)
theorem jN (n:Nat) {G G':Prop} (h:G') (t:Mech n G G':=by
  repeat (first
    | exact Mech.zero
    | (apply Mech.succ
       · intro h
         first
         | ((with_reducible apply WL.step);exact h)
         | ((with_reducible apply tagG);first
           | ((with_reducible apply WL.guardF);exact rfl;exact rfl;exact rfl;exact rfl;exact rfl;exact rfl;exact h)
           | ((with_reducible apply WL.guardT);exact rfl;exact rfl;exact rfl;exact h)
           | ((with_reducible apply WL.guardU);exact rfl;exact rfl;exact rfl;exact rfl;exact rfl;exact h)
           | ((with_reducible apply WL.guardF');exact rfl;exact rfl;exact rfl;exact rfl;exact rfl;exact h))
         | ((with_reducible apply WL.move);exact rfl;exact rfl;exact h)
         | ((with_reducible apply WL.assign);exact rfl;exact rfl;exact h)
         | ((with_reducible apply tagWQ);first
           | ((with_reducible apply WQ.then_normal);exact h)
           | ((with_reducible apply WQ.then_ret);exact h)
           | ((with_reducible apply WQ.block_ret);exact h)
           | ((with_reducible apply WQ.block_normal);exact h)
           | ((with_reducible apply WQ.then_exit);exact h)
           | ((with_reducible apply WQ.block_exit);exact h)
           | ((with_reducible apply WQ.block_other);exact rfl;exact h)
           | ((with_reducible apply WQ.then_panic);exact h)
           | ((with_reducible apply WQ.block_panic);exact h))
         | ((with_reducible apply tagWC);first
           | ((with_reducible apply WC.seq);exact h)
           | ((with_reducible apply WC.region);exact h)
           | ((with_reducible apply WC.ret);exact h)
           | ((with_reducible apply WC.skip);exact h)
           | ((with_reducible apply WC.block);exact h)
           | ((with_reducible apply WC.condT);exact rfl;exact h)
           | ((with_reducible apply WC.condF);exact rfl;exact h)
           | ((with_reducible apply WC.exit);exact h))
         | ((with_reducible apply WL.nil);exact h)
         | ((with_reducible apply mLoadP);exact rfl;exact rfl;exact jM;exact rfl;exact h)
         | ((with_reducible apply mLoadW);exact rfl;exact rfl;exact jM;exact rfl;exact h)
         | ((with_reducible apply mFld);exact rfl;exact rfl;exact h)
         | ((with_reducible apply WL.pickF);exact rfl;exact rfl;exact rfl;exact h)
         | ((with_reducible apply WL.pickT);exact rfl;exact rfl;exact rfl;exact h)
         | ((with_reducible apply mStoreN);exact rfl;exact rfl;exact rfl;exact jO;exact jU;exact jS;exact h)
         | ((with_reducible apply mStore1);exact rfl;exact rfl;exact rfl;exact jU;exact jS;exact h)
         | ((with_reducible apply mBuild);exact rfl;exact jB;exact rfl;exact h)
         | ((with_reducible apply mLenSl);exact rfl;exact rfl;exact h)
         | ((with_reducible apply mLenS);exact rfl;exact rfl;exact h)
         | ((with_reducible apply WL.not);exact rfl;exact rfl;exact h)
         | ((with_reducible apply WL.extract);exact rfl;exact rfl;exact rfl;exact h)
         | ((with_reducible apply WL.nilCheck);exact rfl;exact rfl;exact h)
         | ((with_reducible apply WL.makeFunc);exact rfl;exact rfl;exact rfl;exact h)
         | ((with_reducible apply WL.add);exact rfl;exact rfl;exact rfl;exact ⟨by clear h;omega,by clear h;omega⟩;exact h)
         | ((with_reducible apply WL.eqI);exact rfl;exact rfl;exact rfl;exact h)
         | ((with_reducible apply WL.ltI);exact rfl;exact rfl;exact rfl;exact h)
         | ((with_reducible apply WL.neI);exact rfl;exact rfl;exact rfl;exact h)
         | ((with_reducible apply WL.leI);exact rfl;exact rfl;exact rfl;exact h)
         | ((with_reducible apply WL.gtI);exact rfl;exact rfl;exact rfl;exact h)
         | ((with_reducible apply WL.geI);exact rfl;exact rfl;exact rfl;exact h)
         | ((with_reducible apply WL.sub);exact rfl;exact rfl;exact rfl;exact ⟨by clear h;omega,by clear h;omega⟩;exact h)
         | ((with_reducible apply WL.eqS);exact rfl;exact rfl;exact rfl;exact h)
         | ((with_reducible apply WL.neS);exact rfl;exact rfl;exact rfl;exact h)))):G:=t.run h
section
variable {P : Program} {w0 : World} {O : List Nat} {ops : Array Oper} {Q : Exit → Act → World → Prop} {N : Nat} {D : List Deferred} {L : FL} {C : List Chunk} {K : Act → World → Prop}
variable {Fs : List (List Nat × (World → Prop))}
def jfwd (i:Nat):List Oper→List Bool→List Bool
  | [],acc=>acc
  | o::os,acc=>jfwd i os (acc++[o.after.any fun e=>Region.binds .any e&&(e.on==i||acc.getD e.on false)])
theorem jfwd_not {listed:Array Bool} (hc:Closed ops listed) {i:Nat} (hi:listed.getD i false=false):∀ (os:List Oper) (acc:List Bool),ops.toList.drop acc.length=os→(∀ x,acc.getD x false=true→listed.getD x false=false)→∀ x,(jfwd i os acc).getD x false=true→listed.getD x false=false
  | [],acc,_,h,x,hx=>h x hx
  | o::os,acc,hd,h,x,hx=>by
    have hlt:acc.length<ops.toList.length:=by
      by_cases hl:acc.length<ops.toList.length
      · exact hl
      · rw [List.drop_eq_nil_of_le (by omega)] at hd;cases hd
    rw [List.drop_eq_getElem_cons hlt] at hd
    injection hd with h1 h2
    have ho:ops[acc.length]?=some o:=by
      rw [← Array.getElem?_toList,List.getElem?_eq_getElem hlt,h1]
    refine jfwd_not hc hi os _ (by rw [List.length_append];exact h2) (fun y hy=>?_) x hx
    by_cases hyl:y<acc.length
    · rw [List.getD_eq_getElem?_getD,List.getElem?_append_left hyl,← List.getD_eq_getElem?_getD] at hy
      exact h y hy
    · rw [List.getD_eq_getElem?_getD,List.getElem?_append_right (by omega)] at hy
      have hye:y=acc.length:=by
        by_cases he:y - acc.length=0
        · omega
        · rw [List.getElem?_eq_none (by simp;omega)] at hy;simp at hy
      subst hye
      simp only [Nat.sub_self,List.getElem?_cons_zero,Option.getD_some] at hy
      obtain ⟨e,he,hb⟩:=Array.any_eq_true'.1 hy
      simp only [Bool.and_eq_true,Bool.or_eq_true,beq_iff_eq] at hb
      cases hl:listed.getD acc.length false with
      | false=>rfl
      | true=>
        have h3:=hc acc.length o ho hl e he hb.1
        rcases hb.2 with h4 | h4
        · rw [h4,hi] at h3;cases h3
        · rw [h _ h4] at h3;cases h3
def jall (l:List Bool) (ds:List Nat):Bool:=ds.all fun j=>l.getD j false
theorem jneed {i:Nat} (k:Nat) {ds:List Nat} {Y:World→Prop} (hm:Fs[k]?=some (ds,Y)) (hr:jall (jfwd i ops.toList []) ds=true):
    ∀ (listed:Array Bool) (w:World),Closed ops listed→listed.getD i false=false→Sx Fs listed w→Y w:=fun listed w hc hi hS=>
  hS (ds,Y) (List.mem_of_getElem? hm) fun j hj=>jfwd_not hc hi ops.toList [] rfl (fun x hx=>by simp at hx) j (List.all_eq_true.1 hr j hj)
theorem jT (i:Nat) {d fuel:Nat} {oi:Oper} {v:Value} {listed:Array Bool} (hi:ops[i]?=some oi) (hy:Yl P N D L (fun _=>True) oi v) (h:WD P w0 O ops Q Fs fuel (listed.setIfInBounds i true) N D ((d,v)::L) C)
    (hd:oi.dst=some d:=by exact rfl) (hdN:Nat.blt d N=true:=by exact rfl) (hg:oi.guard=none:=by exact rfl) (hs:Region.noSelect ops=true:=by kernel_rfl)
    (hf:Region.free .any ops listed i=true:=by kernel_rfl) (hr:(Region.ready .any ops listed).contains i=true:=by kernel_rfl) (hQ:∀ c a w,Q (.panic c) (a.put oi.dst v) w→Q (.panic c) a w:=by intro c a w h;first | exact h | exact (by assumption:NoLook _) c a _ _ w h)
    (hiD:(Fs.all fun f=> !f.1.contains i)=true:=by kernel_rfl):WD P w0 O ops Q Fs (fuel+1) listed N D L C:=
  WD.take hi hd hdN hg hs hf hr hQ hiD need_none hy h
theorem jF (i k:Nat) {d fuel:Nat} {oi:Oper} {v:Value} {ds:List Nat} {Y:World→Prop} {listed:Array Bool} (hi:ops[i]?=some oi) (hm:Fs[k]?=some (ds,Y)) (hy:Yl P N D L Y oi v) (h:WD P w0 O ops Q Fs fuel (listed.setIfInBounds i true) N D ((d,v)::L) C)
    (hr2:jall (jfwd i ops.toList []) ds=true:=by kernel_rfl) (hd:oi.dst=some d:=by exact rfl) (hdN:Nat.blt d N=true:=by exact rfl) (hg:oi.guard=none:=by exact rfl) (hs:Region.noSelect ops=true:=by kernel_rfl)
    (hf:Region.free .any ops listed i=true:=by kernel_rfl) (hr:(Region.ready .any ops listed).contains i=true:=by kernel_rfl) (hQ:∀ c a w,Q (.panic c) (a.put oi.dst v) w→Q (.panic c) a w:=by intro c a w h;first | exact h | exact (by assumption:NoLook _) c a _ _ w h)
    (hiD:(Fs.all fun f=> !f.1.contains i)=true:=by kernel_rfl):WD P w0 O ops Q Fs (fuel+1) listed N D L C:=
  WD.take hi hd hdN hg hs hf hr hQ hiD (jneed k hm hr2) hy h
theorem jA (i:Nat) {fuel:Nat} {oi:Oper} {listed:Array Bool} (hi:ops[i]?=some oi)
    (h:WK P w0 O ops Q oi (fun a w=>Sx Fs (listed.setIfInBounds i true) w∧wpAnyT P ops Q Fs fuel (listed.setIfInBounds i true) a w) N D L C) (hr:Region.ready .any ops listed=[i]:=by kernel_rfl):WD P w0 O ops Q Fs (fuel+1) listed N D L C:=WD.one hr hi h
theorem jG {i fuel:Nat} {listed:Array Bool} (h:WD P w0 O ops Q Fs fuel (listed.setIfInBounds i true) N D L C) (hc:closedB ops (listed.setIfInBounds i true)=true:=by kernel_rfl)
    (hS:∀ w,St w0 O C w→Sx Fs (listed.setIfInBounds i true) w:=by intro w hS;repeat (first | exact Sx.none | refine Sx.gone rfl ?_)):
    WA w0 O (fun a w=>Sx Fs (listed.setIfInBounds i true) w∧wpAnyT P ops Q Fs fuel (listed.setIfInBounds i true) a w) N D L C:=WD.on (closed_of hc) hS h
theorem jD {fuel:Nat} {listed:Array Bool} (h:WQ w0 O Q .normal N D L C) (hr:Region.ready .any ops listed=[]:=by kernel_rfl):WD P w0 O ops Q Fs fuel listed N D L C:=WD.done hr h
variable {d : Nat} {ty : TypeId} {pos : String} {af : Array Edge}
end
open Go Go.RowKit
inductive MechL :List Nat→Prop→Prop→Prop
  | nil {G}:MechL [] G G
  | cons {i l G G1 G'}:(G1→G)→MechL l G1 G'→MechL (i::l) G G'
theorem MechL.run {l:List Nat} {G G':Prop} (m:MechL l G G') (h:G'):G:=by
  induction m with
  | nil=>exact h
  | cons f _ ih=>exact f (ih h)
section
variable {P : Program} {w0 : World} {O : List Nat} {ops : Array Oper} {Q : Exit → Act → World → Prop} {N : Nat} {D : List Deferred} {L : FL} {C : List Chunk} {K : Act → World → Prop}
variable {Fs : List (List Nat × (World → Prop))} {l : List Nat} {G' : Prop}
theorem mT {i d fuel:Nat} {oi:Oper} {v:Value} {listed:Array Bool} (hi:ops[i]?=some oi) (hd:oi.dst=some d) (hdN:Nat.blt d N=true) (hg:oi.guard=none) (hy:Yl P N D L (fun _=>True) oi v) (hs:Region.noSelect ops=true)
    (hf:Region.free .any ops listed i=true) (hr:(Region.ready .any ops listed).contains i=true) (hQ:∀ c a w,Q (.panic c) (a.put oi.dst v) w→Q (.panic c) a w) (hiD:(Fs.all fun f=> !f.1.contains i)=true)
    (t:MechL l (WD P w0 O ops Q Fs fuel (listed.setIfInBounds i true) N D ((d,v)::L) C) G'):MechL (i::l) (WD P w0 O ops Q Fs (fuel+1) listed N D L C) G':= .cons (fun h=>WD.take hi hd hdN hg hs hf hr hQ hiD need_none hy h) t
theorem mV {i d fuel j dj:Nat} {oi:Oper} {g:Bool} {v:Value} {listed:Array Bool} (hi:ops[i]?=some oi) (hd:oi.dst=some d) (hdN:Nat.blt d N=true) (hg:oi.guard=some (j,g)) (hj:(ops[j]?).bind (·.dst)=some dj) (hv:lk L dj=some (.bool g)) (hy:Yl P N D L (fun _=>True) {oi with guard:=none} v) (hs:Region.noSelect ops=true)
    (hf:Region.free .any ops listed i=true) (hr:(Region.ready .any ops listed).contains i=true) (hQ:∀ c a w,Q (.panic c) (a.put oi.dst v) w→Q (.panic c) a w) (hiD:(Fs.all fun f=> !f.1.contains i)=true)
    (t:MechL l (WD P w0 O ops Q Fs fuel (listed.setIfInBounds i true) N D ((d,v)::L) C) G'):MechL (i::l) (WD P w0 O ops Q Fs (fuel+1) listed N D L C) G':= .cons (fun h=>WD.takeG hi hd hdN hg hj hv hs hf hr hQ hiD need_none hy h) t
theorem mZ {i d fuel j dj:Nat} {oi:Oper} {g c:Bool} {listed:Array Bool} (hi:ops[i]?=some oi) (hd:oi.dst=some d) (hdN:Nat.blt d N=true) (hg:oi.guard=some (j,g)) (hj:(ops[j]?).bind (·.dst)=some dj) (hv:lk L dj=some (.bool c)) (hne:(c==g)=false) (hs:Region.noSelect ops=true)
    (hf:Region.free .any ops listed i=true) (hr:(Region.ready .any ops listed).contains i=true) (hQ:∀ c a w,Q (.panic c) (a.put oi.dst undef) w→Q (.panic c) a w) (hiD:(Fs.all fun f=> !f.1.contains i)=true)
    (t:MechL l (WD P w0 O ops Q Fs fuel (listed.setIfInBounds i true) N D ((d,undef)::L) C) G'):MechL (i::l) (WD P w0 O ops Q Fs (fuel+1) listed N D L C) G':= .cons (fun h=>WD.skip hi hd hdN hg hj hv hne hs hf hr hQ hiD h) t
theorem mU {i d fuel j dj:Nat} {oi:Oper} {g:Bool} {listed:Array Bool} (hi:ops[i]?=some oi) (hd:oi.dst=some d) (hdN:Nat.blt d N=true) (hg:oi.guard=some (j,g)) (hj:(ops[j]?).bind (·.dst)=some dj) (hv:lk L dj=some undef) (hs:Region.noSelect ops=true)
    (hf:Region.free .any ops listed i=true) (hr:(Region.ready .any ops listed).contains i=true) (hQ:∀ c a w,Q (.panic c) (a.put oi.dst undef) w→Q (.panic c) a w) (hiD:(Fs.all fun f=> !f.1.contains i)=true)
    (t:MechL l (WD P w0 O ops Q Fs fuel (listed.setIfInBounds i true) N D ((d,undef)::L) C) G'):MechL (i::l) (WD P w0 O ops Q Fs (fuel+1) listed N D L C) G':= .cons (fun h=>WD.skipU hi hd hdN hg hj hv hs hf hr hQ hiD h) t
end
theorem jQ (l:List Nat) {G G':Prop} (h:G') (t:MechL l G G':=by
  repeat (first
    | exact MechL.nil
    | (apply mT;exact rfl;exact rfl;exact rfl;exact rfl;(first | exact Yl.move rfl | exact Yl.pickF rfl rfl | exact Yl.pickT rfl rfl | exact Yl.assign rfl | exact Yl.not rfl | exact Yl.nilCheck rfl | exact Yl.ltI rfl rfl | exact Yl.geI rfl rfl | exact Yl.gtI rfl rfl | exact Yl.leI rfl rfl | exact Yl.eqI rfl rfl | exact Yl.neI rfl rfl | exact Yl.eqS rfl rfl | exact Yl.neS rfl rfl);decide+kernel;decide+kernel;decide+kernel;(intro c a w h;first | exact h | exact (by assumption:NoLook _) c a _ _ w h);kernel_rfl)
    | (apply mU;exact rfl;exact rfl;exact rfl;exact rfl;exact rfl;exact rfl;decide+kernel;decide+kernel;decide+kernel;(intro c a w h;first | exact h | exact (by assumption:NoLook _) c a _ _ w h);kernel_rfl)
    | (apply mZ;exact rfl;exact rfl;exact rfl;exact rfl;exact rfl;exact rfl;exact rfl;decide+kernel;decide+kernel;decide+kernel;(intro c a w h;first | exact h | exact (by assumption:NoLook _) c a _ _ w h);kernel_rfl)
    | (apply mV;exact rfl;exact rfl;exact rfl;exact rfl;exact rfl;exact rfl;(first | exact Yl.move rfl | exact Yl.pickF rfl rfl | exact Yl.pickT rfl rfl | exact Yl.assign rfl | exact Yl.not rfl | exact Yl.nilCheck rfl | exact Yl.ltI rfl rfl | exact Yl.geI rfl rfl | exact Yl.gtI rfl rfl | exact Yl.leI rfl rfl | exact Yl.eqI rfl rfl | exact Yl.neI rfl rfl | exact Yl.eqS rfl rfl | exact Yl.neS rfl rfl);decide+kernel;decide+kernel;decide+kernel;(intro c a w h;first | exact h | exact (by assumption:NoLook _) c a _ _ w h);kernel_rfl))):G:=t.run h
abbrev jW (g n c:Nat) (e:TypeId) (s:Nat) (x:List Value):Chunk:=rowc (.slice (some ⟨g,0,none⟩) n c) n e s x
end Go.Eng
namespace Go.Proofs.YtedbajbgnmaakaaGreatDoor.F
open Go Go.Eng Go.Proofs
theorem one2 :One Tryz.prog 2:=⟨by kernel_rfl,by kernel_rfl⟩
theorem one3 :One Tryz.prog 3:=⟨by kernel_rfl,by kernel_rfl⟩
theorem one4 :One Tryz.prog 4:=⟨by kernel_rfl,by kernel_rfl⟩
theorem one5 :One Tryz.prog 5:=⟨by kernel_rfl,by kernel_rfl⟩
theorem one9 :One Tryz.prog 9:=⟨by kernel_rfl,by kernel_rfl⟩
theorem one23 :One Tryz.prog 23:=⟨by kernel_rfl,by kernel_rfl⟩
theorem one24 :One Tryz.prog 24:=⟨by kernel_rfl,by kernel_rfl⟩
theorem one30 :One Tryz.prog 30:=⟨by kernel_rfl,by kernel_rfl⟩
theorem one31 :One Tryz.prog 31:=⟨by kernel_rfl,by kernel_rfl⟩
theorem one34 :One Tryz.prog 34:=⟨by kernel_rfl,by kernel_rfl⟩
theorem one35 :One Tryz.prog 35:=⟨by kernel_rfl,by kernel_rfl⟩
theorem one40 :One Tryz.prog 40:=⟨by kernel_rfl,by kernel_rfl⟩
theorem one41 :One Tryz.prog 41:=⟨by kernel_rfl,by kernel_rfl⟩
theorem one48 :One Tryz.prog 48:=⟨by kernel_rfl,by kernel_rfl⟩
theorem one53 :One Tryz.prog 53:=⟨by kernel_rfl,by kernel_rfl⟩
theorem one73 :One Tryz.prog 73:=⟨by kernel_rfl,by kernel_rfl⟩
theorem one76 :One Tryz.prog 76:=⟨by kernel_rfl,by kernel_rfl⟩
theorem one127 :One Tryz.prog 127:=⟨by kernel_rfl,by kernel_rfl⟩
theorem one133 :One Tryz.prog 133:=⟨by kernel_rfl,by kernel_rfl⟩
theorem one156 :One Tryz.prog 156:=⟨by kernel_rfl,by kernel_rfl⟩
theorem one187 :One Tryz.prog 187:=⟨by kernel_rfl,by kernel_rfl⟩
theorem one207 :One Tryz.prog 207:=⟨by kernel_rfl,by kernel_rfl⟩
theorem one211 :One Tryz.prog 211:=⟨by kernel_rfl,by kernel_rfl⟩
theorem one212 :One Tryz.prog 212:=⟨by kernel_rfl,by kernel_rfl⟩
theorem one218 :One Tryz.prog 218:=⟨by kernel_rfl,by kernel_rfl⟩
theorem agg33 :Agg Tryz.prog 33 2:=⟨by kernel_rfl,by kernel_rfl⟩
theorem agg37 :Agg Tryz.prog 37 2:=⟨by kernel_rfl,by kernel_rfl⟩
theorem agg43 :Agg Tryz.prog 43 2:=⟨by kernel_rfl,by kernel_rfl⟩
theorem agg50 :Agg Tryz.prog 50 2:=⟨by kernel_rfl,by kernel_rfl⟩
theorem agg67 :Agg Tryz.prog 67 3:=⟨by kernel_rfl,by kernel_rfl⟩
theorem agg75 :Agg Tryz.prog 75 6:=⟨by kernel_rfl,by kernel_rfl⟩
theorem agg78 :Agg Tryz.prog 78 5:=⟨by kernel_rfl,by kernel_rfl⟩
theorem agg89 :Agg Tryz.prog 89 7:=⟨by kernel_rfl,by kernel_rfl⟩
theorem agg93 :Agg Tryz.prog 93 6:=⟨by kernel_rfl,by kernel_rfl⟩
theorem agg126 :Agg Tryz.prog 126 2:=⟨by kernel_rfl,by kernel_rfl⟩
theorem agg155 :Agg Tryz.prog 155 3:=⟨by kernel_rfl,by kernel_rfl⟩
theorem agg185 :Agg Tryz.prog 185 4:=⟨by kernel_rfl,by kernel_rfl⟩
theorem agg267 :Agg Tryz.prog 267 2:=⟨by kernel_rfl,by kernel_rfl⟩
theorem zero33 :zeroB Tryz.prog 33=some [.slice none 0 0,.slice none 0 0]:=by kernel_rfl
theorem zero37 :zeroB Tryz.prog 37=some [.slice none 0 0,.slice none 0 0]:=by kernel_rfl
theorem zero48 :zeroB Tryz.prog 48=some [.slice none 0 0]:=by kernel_rfl
theorem zero50 :zeroB Tryz.prog 50=some [.slice none 0 0,.int .i64 0]:=by kernel_rfl
theorem zero67 :zeroB Tryz.prog 67=some [.string (str []),.slice none 0 0,.int .i64 0]:=by kernel_rfl
theorem zero75 :zeroB Tryz.prog 75=some [.int .u8 0,.string (str []),.slice none 0 0,.int .i64 0,.int .i64 0,.slice none 0 0]:=by kernel_rfl
theorem zero78 :zeroB Tryz.prog 78=some [.int .u8 0,.slice none 0 0,.int .i64 0,.int .i64 0,.slice none 0 0]:=by kernel_rfl
theorem zero89 :zeroB Tryz.prog 89=some [.int .u8 0,.string (str []),.slice none 0 0,.int .i64 0,.int .i64 0,.slice none 0 0,.int .i64 0]:=by kernel_rfl
theorem zero126 :zeroB Tryz.prog 126=some [.string (str []),.bool false]:=by kernel_rfl
theorem zero127 :zeroB Tryz.prog 127=some [.map none]:=by kernel_rfl
theorem zero155 :zeroB Tryz.prog 155=some [.int .i64 0,.int .i64 0,.int .i64 0]:=by kernel_rfl
theorem zero185 :zeroB Tryz.prog 185=some [.int .i64 0,.int .i64 0,.int .u32 0,.bool false]:=by kernel_rfl
theorem zero211 :zeroB Tryz.prog 211=some [.map none]:=by kernel_rfl
theorem zero212 :zeroB Tryz.prog 212=some [.nilFunc]:=by kernel_rfl
theorem zero267 :zeroB Tryz.prog 267=some [.int .i64 0,.int .i64 0]:=by kernel_rfl
theorem fld33_0 :fldB Tryz.prog 33 0=some 0:=by kernel_rfl
theorem fld33_1 :fldB Tryz.prog 33 1=some 1:=by kernel_rfl
theorem fld37_0 :fldB Tryz.prog 37 0=some 0:=by kernel_rfl
theorem fld37_1 :fldB Tryz.prog 37 1=some 1:=by kernel_rfl
theorem fld43_0 :fldB Tryz.prog 43 0=some 0:=by kernel_rfl
theorem fld43_1 :fldB Tryz.prog 43 1=some 1:=by kernel_rfl
theorem fld50_0 :fldB Tryz.prog 50 0=some 0:=by kernel_rfl
theorem fld50_1 :fldB Tryz.prog 50 1=some 1:=by kernel_rfl
theorem fld67_0 :fldB Tryz.prog 67 0=some 0:=by kernel_rfl
theorem fld67_1 :fldB Tryz.prog 67 1=some 1:=by kernel_rfl
theorem fld69_0 :fldB Tryz.prog 69 0=some 0:=by kernel_rfl
theorem fld69_1 :fldB Tryz.prog 69 1=some 1:=by kernel_rfl
theorem fld75_0 :fldB Tryz.prog 75 0=some 0:=by kernel_rfl
theorem fld75_1 :fldB Tryz.prog 75 1=some 1:=by kernel_rfl
theorem fld75_2 :fldB Tryz.prog 75 2=some 2:=by kernel_rfl
theorem fld75_3 :fldB Tryz.prog 75 3=some 3:=by kernel_rfl
theorem fld75_4 :fldB Tryz.prog 75 4=some 4:=by kernel_rfl
theorem fld75_5 :fldB Tryz.prog 75 5=some 5:=by kernel_rfl
theorem fld78_0 :fldB Tryz.prog 78 0=some 0:=by kernel_rfl
theorem fld78_1 :fldB Tryz.prog 78 1=some 1:=by kernel_rfl
theorem fld78_2 :fldB Tryz.prog 78 2=some 2:=by kernel_rfl
theorem fld78_3 :fldB Tryz.prog 78 3=some 3:=by kernel_rfl
theorem fld78_4 :fldB Tryz.prog 78 4=some 4:=by kernel_rfl
theorem fld89_1 :fldB Tryz.prog 89 1=some 1:=by kernel_rfl
theorem fld89_5 :fldB Tryz.prog 89 5=some 5:=by kernel_rfl
theorem fld93_1 :fldB Tryz.prog 93 1=some 1:=by kernel_rfl
theorem fld93_5 :fldB Tryz.prog 93 5=some 5:=by kernel_rfl
theorem fld114_0 :fldB Tryz.prog 114 0=some 0:=by kernel_rfl
theorem fld114_1 :fldB Tryz.prog 114 1=some 1:=by kernel_rfl
theorem fld126_0 :fldB Tryz.prog 126 0=some 0:=by kernel_rfl
theorem fld126_1 :fldB Tryz.prog 126 1=some 1:=by kernel_rfl
theorem fld155_0 :fldB Tryz.prog 155 0=some 0:=by kernel_rfl
theorem fld155_1 :fldB Tryz.prog 155 1=some 1:=by kernel_rfl
theorem fld155_2 :fldB Tryz.prog 155 2=some 2:=by kernel_rfl
theorem fld185_0 :fldB Tryz.prog 185 0=some 0:=by kernel_rfl
theorem fld185_1 :fldB Tryz.prog 185 1=some 1:=by kernel_rfl
theorem fld185_2 :fldB Tryz.prog 185 2=some 2:=by kernel_rfl
theorem fld185_3 :fldB Tryz.prog 185 3=some 3:=by kernel_rfl
theorem fld209_0 :fldB Tryz.prog 209 0=some 0:=by kernel_rfl
theorem fld209_1 :fldB Tryz.prog 209 1=some 1:=by kernel_rfl
theorem fld220_0 :fldB Tryz.prog 220 0=some 0:=by kernel_rfl
theorem fld220_1 :fldB Tryz.prog 220 1=some 1:=by kernel_rfl
theorem fld220_2 :fldB Tryz.prog 220 2=some 3:=by kernel_rfl
theorem fld220_3 :fldB Tryz.prog 220 3=some 5:=by kernel_rfl
theorem stT50 :StT Tryz.prog 50 [.slice none 0 0,.int .i64 0] [(0,1),(1,1)]:=⟨by kernel_rfl,by kernel_rfl⟩
theorem stT67 :StT Tryz.prog 67 [.string (str []),.slice none 0 0,.int .i64 0] [(0,1),(1,2)]:=⟨by kernel_rfl,by kernel_rfl⟩
theorem stT69 :StT Tryz.prog 69 [.string (str []),.slice none 0 0] [(0,1),(1,1)]:=⟨by kernel_rfl,by kernel_rfl⟩
theorem stT89 :StT Tryz.prog 89 [.int .u8 0,.string (str []),.slice none 0 0,.int .i64 0,.int .i64 0,.slice none 0 0,.int .i64 0] [(0,1),(1,1),(2,1),(3,1),(4,1),(5,2)]:=⟨by kernel_rfl,by kernel_rfl⟩
theorem stT93 :StT Tryz.prog 93 [.int .u8 0,.string (str []),.slice none 0 0,.int .i64 0,.int .i64 0,.slice none 0 0] [(0,1),(1,1),(2,1),(3,1),(4,1),(5,1)]:=⟨by kernel_rfl,by kernel_rfl⟩
theorem stT95 :StT Tryz.prog 95 [.int .u8 0,.slice none 0 0,.int .i64 0,.int .i64 0,.slice none 0 0,.int .i64 0] [(0,1),(1,1),(2,1),(3,1),(4,2)]:=⟨by kernel_rfl,by kernel_rfl⟩
theorem stT97 :StT Tryz.prog 97 [.int .u8 0,.slice none 0 0,.int .i64 0,.int .i64 0,.slice none 0 0] [(0,1),(1,1),(2,1),(3,1),(4,1)]:=⟨by kernel_rfl,by kernel_rfl⟩
theorem stT126 :StT Tryz.prog 126 [.string (str []),.bool false] [(0,1),(1,1)]:=⟨by kernel_rfl,by kernel_rfl⟩
theorem stT155 :StT Tryz.prog 155 [.int .i64 0,.int .i64 0,.int .i64 0] [(0,1),(1,1),(2,1)]:=⟨by kernel_rfl,by kernel_rfl⟩
theorem stT185 :StT Tryz.prog 185 [.int .i64 0,.int .i64 0,.int .u32 0,.bool false] [(0,1),(1,1),(2,1),(3,1)]:=⟨by kernel_rfl,by kernel_rfl⟩
theorem arT190 :ArT Tryz.prog 190 188 24 2 [.int .i64 0,.int .i64 0,.int .i64 0,.int .i64 0,.int .i64 0,.int .i64 0,.int .i64 0,.int .i64 0,.int .i64 0,.int .i64 0,.int .i64 0,.int .i64 0,.int .i64 0,.int .i64 0,.int .i64 0,.int .i64 0,.int .i64 0,.int .i64 0,.int .i64 0,.int .i64 0,.int .i64 0,.int .i64 0,.int .i64 0,.int .i64 0,.int .i64 0,.int .i64 0,.int .i64 0,.int .i64 0,.int .i64 0,.int .i64 0,.int .i64 0,.int .i64 0,.int .i64 0,.int .i64 0,.int .i64 0,.int .i64 0,.int .i64 0,.int .i64 0,.int .i64 0,.int .i64 0,.int .i64 0,.int .i64 0,.int .i64 0,.int .i64 0,.int .i64 0,.int .i64 0,.int .i64 0,.int .i64 0]:=⟨by kernel_rfl,by kernel_rfl,by kernel_rfl⟩
theorem stT209 :StT Tryz.prog 209 [.slice none 0 0,.map none] [(0,1),(1,1)]:=⟨by kernel_rfl,by kernel_rfl⟩
theorem stT220 :StT Tryz.prog 220 [.pointer none,.slice none 0 0,.int .i64 0,.slice none 0 0,.int .i64 0,.map none] [(0,1),(1,2),(3,2),(5,1)]:=⟨by kernel_rfl,by kernel_rfl⟩
theorem arT267 :ArT Tryz.prog 267 3 2 1 [.int .i64 0,.int .i64 0]:=⟨by kernel_rfl,by kernel_rfl,by kernel_rfl⟩
theorem el30 :ElT Tryz.prog 30 89 7 96:=ElT.of (by kernel_rfl) (by decide)
theorem el31 :ElT Tryz.prog 31 95 6 80:=ElT.of (by kernel_rfl) (by decide)
theorem el34 :ElT Tryz.prog 34 93 6 88:=ElT.of (by kernel_rfl) (by decide)
theorem el35 :ElT Tryz.prog 35 97 5 72:=ElT.of (by kernel_rfl) (by decide)
theorem el48 :ElT Tryz.prog 48 155 3 24:=ElT.of (by kernel_rfl) (by decide)
theorem el53 :ElT Tryz.prog 53 24 1 4:=ElT.of (by kernel_rfl) (by decide)
theorem el60 :ElT Tryz.prog 60 69 2 40:=ElT.of (by kernel_rfl) (by decide)
theorem el62 :ElT Tryz.prog 62 67 3 48:=ElT.of (by kernel_rfl) (by decide)
theorem el73 :ElT Tryz.prog 73 3 1 8:=ElT.of (by kernel_rfl) (by decide)
theorem el279 :ElT Tryz.prog 279 185 4 24:=ElT.of (by kernel_rfl) (by decide)
theorem ez22 :zeroB Tryz.prog 43=some [.slice none 0 0,.slice none 0 0]:=by kernel_rfl
theorem ez30 :zeroB Tryz.prog 89=some [.int .u8 0,.string (str []),.slice none 0 0,.int .i64 0,.int .i64 0,.slice none 0 0,.int .i64 0]:=by kernel_rfl
theorem ez31 :zeroB Tryz.prog 95=some [.int .u8 0,.slice none 0 0,.int .i64 0,.int .i64 0,.slice none 0 0,.int .i64 0]:=by kernel_rfl
theorem ez34 :zeroB Tryz.prog 93=some [.int .u8 0,.string (str []),.slice none 0 0,.int .i64 0,.int .i64 0,.slice none 0 0]:=by kernel_rfl
theorem ez35 :zeroB Tryz.prog 97=some [.int .u8 0,.slice none 0 0,.int .i64 0,.int .i64 0,.slice none 0 0]:=by kernel_rfl
theorem ez48 :zeroB Tryz.prog 155=some [.int .i64 0,.int .i64 0,.int .i64 0]:=by kernel_rfl
theorem ez53 :zeroB Tryz.prog 24=some [.int .u32 0]:=by kernel_rfl
theorem ez60 :zeroB Tryz.prog 69=some [.string (str []),.slice none 0 0]:=by kernel_rfl
theorem ez62 :zeroB Tryz.prog 67=some [.string (str []),.slice none 0 0,.int .i64 0]:=by kernel_rfl
theorem ez73 :zeroB Tryz.prog 3=some [.int .i64 0]:=by kernel_rfl
theorem ez279 :zeroB Tryz.prog 185=some [.int .i64 0,.int .i64 0,.int .u32 0,.bool false]:=by kernel_rfl
theorem sl22 :SlT Tryz.prog 22 43 2:=⟨by kernel_rfl,by kernel_rfl⟩
theorem sl23 :SlT Tryz.prog 23 114 2:=⟨by kernel_rfl,by kernel_rfl⟩
theorem sl30 :SlT Tryz.prog 30 89 7:=⟨by kernel_rfl,by kernel_rfl⟩
theorem sl31 :SlT Tryz.prog 31 95 6:=⟨by kernel_rfl,by kernel_rfl⟩
theorem sl34 :SlT Tryz.prog 34 93 6:=⟨by kernel_rfl,by kernel_rfl⟩
theorem sl35 :SlT Tryz.prog 35 97 5:=⟨by kernel_rfl,by kernel_rfl⟩
theorem sl40 :SlT Tryz.prog 40 75 6:=⟨by kernel_rfl,by kernel_rfl⟩
theorem sl41 :SlT Tryz.prog 41 78 5:=⟨by kernel_rfl,by kernel_rfl⟩
theorem sl48 :SlT Tryz.prog 48 155 3:=⟨by kernel_rfl,by kernel_rfl⟩
theorem sl53 :SlT Tryz.prog 53 24 1:=⟨by kernel_rfl,by kernel_rfl⟩
theorem sl60 :SlT Tryz.prog 60 69 2:=⟨by kernel_rfl,by kernel_rfl⟩
theorem sl62 :SlT Tryz.prog 62 67 3:=⟨by kernel_rfl,by kernel_rfl⟩
theorem sl73 :SlT Tryz.prog 73 3 1:=⟨by kernel_rfl,by kernel_rfl⟩
theorem sl279 :SlT Tryz.prog 279 185 4:=⟨by kernel_rfl,by kernel_rfl⟩
theorem und9 :Tryz.prog.underlying 9=some .string:=by kernel_rfl
theorem und22 :Tryz.prog.underlying 22=some (.slice 43):=by kernel_rfl
theorem und23 :Tryz.prog.underlying 23=some (.slice 114):=by kernel_rfl
theorem und30 :Tryz.prog.underlying 30=some (.slice 89):=by kernel_rfl
theorem und34 :Tryz.prog.underlying 34=some (.slice 93):=by kernel_rfl
theorem und40 :Tryz.prog.underlying 40=some (.slice 75):=by kernel_rfl
theorem und41 :Tryz.prog.underlying 41=some (.slice 78):=by kernel_rfl
theorem und48 :Tryz.prog.underlying 48=some (.slice 155):=by kernel_rfl
theorem und53 :Tryz.prog.underlying 53=some (.slice 24):=by kernel_rfl
theorem und60 :Tryz.prog.underlying 60=some (.slice 69):=by kernel_rfl
theorem und62 :Tryz.prog.underlying 62=some (.slice 67):=by kernel_rfl
theorem und73 :Tryz.prog.underlying 73=some (.slice 3):=by kernel_rfl
theorem fun5 :funB Tryz.prog 5=some true:=by kernel_rfl
theorem fun6 :funB Tryz.prog 6=some true:=by kernel_rfl
theorem fun7 :funB Tryz.prog 7=some true:=by kernel_rfl
theorem fun12 :funB Tryz.prog 12=some true:=by kernel_rfl
theorem fun14 :funB Tryz.prog 14=some true:=by kernel_rfl
theorem fun19 :funB Tryz.prog 19=some true:=by kernel_rfl
theorem fun20 :funB Tryz.prog 20=some true:=by kernel_rfl
theorem fun21 :funB Tryz.prog 21=some true:=by kernel_rfl
theorem fun22 :funB Tryz.prog 22=some true:=by kernel_rfl
theorem fun23 :funB Tryz.prog 23=some true:=by kernel_rfl
theorem fun31 :funB Tryz.prog 31=some true:=by kernel_rfl
theorem fun43 :funB Tryz.prog 43=some true:=by kernel_rfl
theorem fun44 :funB Tryz.prog 44=some true:=by kernel_rfl
theorem fun45 :funB Tryz.prog 45=some true:=by kernel_rfl
theorem fun47 :funB Tryz.prog 47=some true:=by kernel_rfl
theorem fun48 :funB Tryz.prog 48=some true:=by kernel_rfl
theorem fun50 :funB Tryz.prog 50=some true:=by kernel_rfl
theorem fun58 :funB Tryz.prog 58=some true:=by kernel_rfl
theorem fun59 :funB Tryz.prog 59=some true:=by kernel_rfl
theorem fun60 :funB Tryz.prog 60=some true:=by kernel_rfl
theorem fun61 :funB Tryz.prog 61=some true:=by kernel_rfl
theorem fun62 :funB Tryz.prog 62=some true:=by kernel_rfl
theorem fun63 :funB Tryz.prog 63=some true:=by kernel_rfl
theorem fun64 :funB Tryz.prog 64=some true:=by kernel_rfl
theorem fun65 :funB Tryz.prog 65=some true:=by kernel_rfl
theorem fun66 :funB Tryz.prog 66=some true:=by kernel_rfl
theorem fun67 :funB Tryz.prog 67=some true:=by kernel_rfl
theorem fun69 :funB Tryz.prog 69=some true:=by kernel_rfl
theorem fun70 :funB Tryz.prog 70=some true:=by kernel_rfl
theorem fun71 :funB Tryz.prog 71=some true:=by kernel_rfl
theorem fun75 :funB Tryz.prog 75=some true:=by kernel_rfl
theorem fun76 :funB Tryz.prog 76=some true:=by kernel_rfl
theorem fun77 :funB Tryz.prog 77=some true:=by kernel_rfl
theorem fun78 :funB Tryz.prog 78=some true:=by kernel_rfl
theorem fun84 :funB Tryz.prog 84=some true:=by kernel_rfl
theorem fun85 :funB Tryz.prog 85=some true:=by kernel_rfl
theorem fun86 :funB Tryz.prog 86=some true:=by kernel_rfl
theorem fun87 :funB Tryz.prog 87=some true:=by kernel_rfl
theorem fun97 :funB Tryz.prog 97=some true:=by kernel_rfl
theorem fun98 :funB Tryz.prog 98=some true:=by kernel_rfl
theorem fun99 :funB Tryz.prog 99=some true:=by kernel_rfl
theorem fun100 :funB Tryz.prog 100=some true:=by kernel_rfl
theorem fun101 :funB Tryz.prog 101=some true:=by kernel_rfl
theorem fun102 :funB Tryz.prog 102=some true:=by kernel_rfl
theorem fun105 :funB Tryz.prog 105=some true:=by kernel_rfl
theorem fun106 :funB Tryz.prog 106=some true:=by kernel_rfl
theorem fun115 :funB Tryz.prog 115=some true:=by kernel_rfl
theorem fun120 :funB Tryz.prog 120=some true:=by kernel_rfl
theorem fun125 :funB Tryz.prog 125=some true:=by kernel_rfl
theorem fun126 :funB Tryz.prog 126=some true:=by kernel_rfl
theorem fun127 :funB Tryz.prog 127=some true:=by kernel_rfl
theorem fun137 :funB Tryz.prog 137=some true:=by kernel_rfl
theorem fun138 :funB Tryz.prog 138=some true:=by kernel_rfl
theorem fun139 :funB Tryz.prog 139=some true:=by kernel_rfl
theorem fun140 :funB Tryz.prog 140=some true:=by kernel_rfl
theorem fun141 :funB Tryz.prog 141=some true:=by kernel_rfl
theorem fun157 :funB Tryz.prog 157=some true:=by kernel_rfl
theorem fun162 :funB Tryz.prog 162=some true:=by kernel_rfl
theorem fun168 :funB Tryz.prog 168=some true:=by kernel_rfl
theorem fun191 :funB Tryz.prog 191=some true:=by kernel_rfl
theorem fun193 :funB Tryz.prog 193=some true:=by kernel_rfl
theorem fun221 :funB Tryz.prog 221=some true:=by kernel_rfl
instance :OneI Tryz.prog 3:=⟨one3⟩
instance :OneI Tryz.prog 4:=⟨one4⟩
instance :OneI Tryz.prog 9:=⟨one9⟩
instance :OneI Tryz.prog 23:=⟨one23⟩
instance :OneI Tryz.prog 30:=⟨one30⟩
instance :OneI Tryz.prog 40:=⟨one40⟩
instance :OneI Tryz.prog 41:=⟨one41⟩
instance :OneI Tryz.prog 48:=⟨one48⟩
instance :OneI Tryz.prog 73:=⟨one73⟩
instance :OneI Tryz.prog 127:=⟨one127⟩
instance :OneI Tryz.prog 187:=⟨one187⟩
instance :OneI Tryz.prog 211:=⟨one211⟩
instance :OneI Tryz.prog 212:=⟨one212⟩
instance :AggI Tryz.prog 33 2:=⟨agg33⟩
instance :AggI Tryz.prog 37 2:=⟨agg37⟩
instance :AggI Tryz.prog 43 2:=⟨agg43⟩
instance :AggI Tryz.prog 50 2:=⟨agg50⟩
instance :AggI Tryz.prog 67 3:=⟨agg67⟩
instance :AggI Tryz.prog 75 6:=⟨agg75⟩
instance :AggI Tryz.prog 78 5:=⟨agg78⟩
instance :AggI Tryz.prog 89 7:=⟨agg89⟩
instance :AggI Tryz.prog 126 2:=⟨agg126⟩
instance :AggI Tryz.prog 155 3:=⟨agg155⟩
instance :AggI Tryz.prog 185 4:=⟨agg185⟩
instance :AggI Tryz.prog 267 2:=⟨agg267⟩
instance :FldI Tryz.prog 33 0 0:=⟨fld33_0⟩
instance :FldI Tryz.prog 43 0 0:=⟨fld43_0⟩
instance :FldI Tryz.prog 43 1 1:=⟨fld43_1⟩
instance :FldI Tryz.prog 50 0 0:=⟨fld50_0⟩
instance :FldI Tryz.prog 50 1 1:=⟨fld50_1⟩
instance :FldI Tryz.prog 67 0 0:=⟨fld67_0⟩
instance :FldI Tryz.prog 67 1 1:=⟨fld67_1⟩
instance :FldI Tryz.prog 75 1 1:=⟨fld75_1⟩
instance :FldI Tryz.prog 75 2 2:=⟨fld75_2⟩
instance :FldI Tryz.prog 75 5 5:=⟨fld75_5⟩
instance :FldI Tryz.prog 89 1 1:=⟨fld89_1⟩
instance :FldI Tryz.prog 126 0 0:=⟨fld126_0⟩
instance :FldI Tryz.prog 126 1 1:=⟨fld126_1⟩
instance :FldI Tryz.prog 155 0 0:=⟨fld155_0⟩
instance :FldI Tryz.prog 155 1 1:=⟨fld155_1⟩
instance :FldI Tryz.prog 155 2 2:=⟨fld155_2⟩
instance :FldI Tryz.prog 185 0 0:=⟨fld185_0⟩
instance :FldI Tryz.prog 185 3 3:=⟨fld185_3⟩
instance :FldI Tryz.prog 209 0 0:=⟨fld209_0⟩
instance :StI Tryz.prog 50 [.slice none 0 0,.int .i64 0] [(0,1),(1,1)]:=⟨stT50⟩
instance :StI Tryz.prog 67 [.string (str []),.slice none 0 0,.int .i64 0] [(0,1),(1,2)]:=⟨stT67⟩
instance :StI Tryz.prog 69 [.string (str []),.slice none 0 0] [(0,1),(1,1)]:=⟨stT69⟩
instance :StI Tryz.prog 89 [.int .u8 0,.string (str []),.slice none 0 0,.int .i64 0,.int .i64 0,.slice none 0 0,.int .i64 0] [(0,1),(1,1),(2,1),(3,1),(4,1),(5,2)]:=⟨stT89⟩
instance :StI Tryz.prog 93 [.int .u8 0,.string (str []),.slice none 0 0,.int .i64 0,.int .i64 0,.slice none 0 0] [(0,1),(1,1),(2,1),(3,1),(4,1),(5,1)]:=⟨stT93⟩
instance :StI Tryz.prog 95 [.int .u8 0,.slice none 0 0,.int .i64 0,.int .i64 0,.slice none 0 0,.int .i64 0] [(0,1),(1,1),(2,1),(3,1),(4,2)]:=⟨stT95⟩
instance :StI Tryz.prog 97 [.int .u8 0,.slice none 0 0,.int .i64 0,.int .i64 0,.slice none 0 0] [(0,1),(1,1),(2,1),(3,1),(4,1)]:=⟨stT97⟩
instance :StI Tryz.prog 126 [.string (str []),.bool false] [(0,1),(1,1)]:=⟨stT126⟩
instance :StI Tryz.prog 155 [.int .i64 0,.int .i64 0,.int .i64 0] [(0,1),(1,1),(2,1)]:=⟨stT155⟩
instance :StI Tryz.prog 185 [.int .i64 0,.int .i64 0,.int .u32 0,.bool false] [(0,1),(1,1),(2,1),(3,1)]:=⟨stT185⟩
instance :StI Tryz.prog 209 [.slice none 0 0,.map none] [(0,1),(1,1)]:=⟨stT209⟩
instance :StI Tryz.prog 220 [.pointer none,.slice none 0 0,.int .i64 0,.slice none 0 0,.int .i64 0,.map none] [(0,1),(1,2),(3,2),(5,1)]:=⟨stT220⟩
instance :StrI Tryz.prog 9:=⟨und9⟩
instance :SliI Tryz.prog 22 43:=⟨und22⟩
instance :SliI Tryz.prog 23 114:=⟨und23⟩
instance :SliI Tryz.prog 30 89:=⟨und30⟩
instance :SliI Tryz.prog 34 93:=⟨und34⟩
instance :SliI Tryz.prog 40 75:=⟨und40⟩
instance :SliI Tryz.prog 41 78:=⟨und41⟩
instance :SliI Tryz.prog 48 155:=⟨und48⟩
instance :SliI Tryz.prog 53 24:=⟨und53⟩
instance :SliI Tryz.prog 60 69:=⟨und60⟩
instance :SliI Tryz.prog 62 67:=⟨und62⟩
instance :SliI Tryz.prog 73 3:=⟨und73⟩
end Go.Proofs.YtedbajbgnmaakaaGreatDoor.F
namespace Go.Proofs.YtedbajbgnmaakaaGreatDoor
open Go Go.Eng Go.Proofs
abbrev pp (bp:Nat):Value:= .pointer (some ⟨bp,0,none⟩)
theorem cell_of_heap {w:World} {b:Nat} {cs:List Value} {e:TypeId} {j:Nat} {v:Value} (h:w.heap[b]?=some (.cells cs.toArray e (0,0))) (hv:cs[j]?=some v):w.cell? ⟨b,j,none⟩=some v:=by
 simp [World.cell?,h,hv]
namespace F
end F
def ob (v:Value):List Nat:=match v.ownBlock with | some k=>[k] | none=>[]
theorem mem_ob {v:Value} {k:Nat}:k∈ob v↔v.ownBlock=some k:=by
 unfold ob
 cases v.ownBlock with
 | none=>simp
 | some j=>simp [eq_comm]
open Go Go.Eng Go.Proofs
section
variable {P : Program} {w0 : World} {O : List Nat} {ops : Array Oper} {Q : Exit → Act → World → Prop} {N : Nat} {D : List Deferred} {L : FL} {C : List Chunk} {K : Act → World → Prop}
variable {d : Nat} {ty : TypeId} {pos : String} {af : Array Edge}
end
open Go Go.Eng Go.Proofs
abbrev kv (k:Fm.Kn):Value:= .agg [.int .u32 (k.1:Int),.int .u32 (k.2:Int)].toArray
def RdC (w:World) (c:List Int) (a:Option Addr):Prop:=∀ j x,c[j]?=some x→∃ b off,a=some ⟨b,off,none⟩∧w.cell? ⟨b,off+j,none⟩=some (.int .i64 x)
theorem RdC.next {w0 w:World} {C:List Chunk} {c:List Int} {a:Option Addr} (h:RdC w0 c a) (hS:St w0 [] C w):RdC w c a:=fun j x hx=>by
 obtain ⟨b,off,ha,hc⟩:=h j x hx
 exact ⟨b,off,ha,hS.oldc hc (by simp)⟩
theorem pow32 {k:Nat} (h:k<32):2 ^ k<4294967296:=Nat.lt_of_lt_of_le (Nat.pow_lt_pow_right (by decide) h) (by decide)
abbrev Lit (l:Int):Prop:=l≠0∧ -32≤l∧l≤32
end Go.Proofs.YtedbajbgnmaakaaGreatDoor
namespace Go.Eng
open Go Go.RowKit
section
variable {P : Program} {w0 : World} {O : List Nat} {Q : Exit → Act → World → Prop} {N : Nat} {D : List Deferred} {L : FL} {C : List Chunk}
end
end Go.Eng
namespace Go.Proofs.YtedbajbgnmaakaaGreatDoor
open Go Go.Eng Go.Proofs
end Go.Proofs.YtedbajbgnmaakaaGreatDoor
namespace Go.Eng
open Go Go.RowKit
section
variable {P : Program} {w0 : World} {O : List Nat} {ops : Array Oper} {Q : Exit → Act → World → Prop} {N : Nat} {D : List Deferred} {L : FL} {C : List Chunk} {K : Act → World → Prop}
def FactsOk (w0:World) (O:List Nat) (L:FL) (C:List Chunk) (Fs:List (List Nat×(World→Prop))):Prop:=∀ w,St w0 O C w→∀ f∈Fs,f.2 w
def LoadOk (w0:World) (O:List Nat) (L:FL) (C:List Chunk) (Y:World→Prop):Prop:=∀ w,St w0 O C w→Y w
theorem FactsOk.nil :FactsOk w0 O L C []:=fun w hS f hf=>by cases hf
theorem FactsOk.cons {ds:List Nat} {Y:World→Prop} {Fs:List (List Nat×(World→Prop))} (h:LoadOk w0 O L C Y) (hr:FactsOk w0 O L C Fs):FactsOk w0 O L C ((ds,Y)::Fs):=fun w hS f hf=>by
 rcases List.mem_cons.1 hf with rfl | hf
 ·exact h w hS
 ·exact hr w hS f hf
theorem LoadOk.one {t b off:Nat} {cs:List Value} {e:TypeId} {v:Value} (hl:lk L t=some (.pointer (some ⟨b,0,none⟩))) (hm:pt b cs e∈C) (hv:cs[off]?=some v):LoadOk w0 O L C (fun w=>w.cell? ⟨b,off,none⟩=some v):=
 fun w hS=>hS.cell hm hv
theorem LoadOk.whole {t b:Nat} {cs:List Value} {e:TypeId} (hl:lk L t=some (.pointer (some ⟨b,0,none⟩))) (hm:pt b cs e∈C):LoadOk w0 O L C (fun w=>∀ j v,cs[j]?=some v→w.cell? ⟨b,0+j,none⟩=some v):=
 fun w hS j v hv=>by rw [Nat.zero_add];exact hS.cell hm hv
theorem LoadOk.by {Y:World→Prop} (h:∀ w,St w0 O C w→Y w):LoadOk w0 O L C Y:=h
theorem WC.drawsL {id:Nat} {l:List Oper} {Fs:List (List Nat×(World→Prop))} (hm:P.follows .mixedOrders=true) (hF:FactsOk w0 O L C Fs)
  (h:WD P w0 O l.toArray Q Fs l.length (Array.replicate l.length false) N D L C):WC P w0 O (.region id l.toArray true) Q N D L C:=WC.draws Fs hm hF h
end
end Go.Eng
namespace Fm
open Go Go.Eng
mutual
def rowT :Tree→List Tree
 | .mk op name kids=> .mk op name kids::rowL kids
def rowL :List Tree→List Tree
 | []=>[]
 | k::ks=>rowT k++rowL ks
end
mutual
def levT :Tree→Nat
 | .mk _ _ kids=>levL kids+1
def levL :List Tree→Nat
 | []=>0
 | k::ks=>max (levT k) (levL ks)
end
def oneB (t:Tree):Bool:=
 if t.op=3 then decide (t.kids.length=0)&&isNameB t.name
 else if t.name≠[] then false
 else if t.op=1∨t.op=2 then decide (t.kids.length=0)
 else if t.op=4 then decide (t.kids.length=1)
 else if t.op=5∨t.op=6∨t.op=7 then decide (2≤t.kids.length)
 else if t.op=8∨t.op=9 then decide (t.kids.length=2)
 else if t.op=10 then decide (t.kids.length=3) else false
end Fm
namespace Go.Eng
open Go Go.RowKit
structure Ext (wb w:World):Prop where
 size:wb.heap.size≤w.heap.size
 old:∀ k,k<wb.heap.size→w.heap[k]?=wb.heap[k]?
section
variable {P : Program} {w0 : World} {O : List Nat} {ops : Array Oper} {Q : Exit → Act → World → Prop} {N : Nat} {D : List Deferred} {L : FL} {C : List Chunk} {K : Act → World → Prop}
variable {d : Nat} {ty : TypeId} {pos : String} {af : Array Edge}
theorem rowc_cells {w:World} {g n cap sz:Nat} {e:TypeId} {xs:List Value} {j:Nat} {u:Value} (h:(jW g n cap e sz xs).ok w) (hu:xs[j]?=some u):w.cell? ⟨g,j,none⟩=some u:=by
 have:=(show w.ownsRow 0 e sz (.slice (some ⟨g,0,none⟩) n cap) n xs from h).cells (g:=g) rfl j u hu
 rwa [add_blk,Nat.zero_add] at this
end
end Go.Eng
namespace Fm
open Go Go.Eng
end Fm
namespace Go.Proofs.YtedbajbgnmaakaaGreatDoor
open Go Go.Eng Go.Proofs Go.ChangeShapes Go.WideShapes Go.ChangeAt Go.RowKit Go.ChangeMaps
def slicesPos (P:Program):Bool:=(List.range P.types.size).all fun t=>match P.underlying t with
 | some (.slice e)=>decide (0<P.cellsOf e)
 | _=>true
theorem slices_pos {P:Program} (h:slicesPos P=true) {t e:TypeId} (ht:t<P.types.size) (hu:P.underlying t=some (.slice e)):0<P.cellsOf e:=by
 have:=List.all_eq_true.1 h t (List.mem_range.2 ht)
 rw [hu] at this
 simpa using this
theorem try_laid :laidOutB Tryz.prog=true:=by kernel_rfl
theorem try_maps :mapsRowed Tryz.prog=true:=by kernel_rfl
theorem try_slices :slicesPos Tryz.prog=true:=by kernel_rfl
theorem St.same {w w':World} {C:List Chunk} (h:St w [] C w') (p:MemPlace) (hp:p.block<w.heap.size):w.sameAt w' p:=by
 have:=h.old p.block hp (by simp)
 cases p with
 | cell b off=>exact World.cell?_of_block (w:=w) (w':=w') (a:=⟨b,off,none⟩) this
 | map b=>exact this
theorem args_again {H:Type} {enc:TypeId×Value→H} {W W':World} {C:List Chunk} (hS:St W [] C W'):∀ {ts:List TypeId} {vs:List Value} {ds:List (DataW H)} {p:List MemPlace},(∀ t∈ts,t<Tryz.prog.types.size)→
  DataW.TrodAll enc Tryz.prog W 0 (fun _=>true) true ts vs ds p→DataW.TrodAll enc Tryz.prog W' 0 (fun b=>decide (b<W.heap.size)) true ts vs ds p
 | [],_,_,_,_,h=>by
  obtain ⟨rfl,rfl,rfl⟩:=trodAll_nil h
  exact trodAll_mk0
 | t::ts,_,_,_,ht,h=>by
  obtain ⟨v,vs1,d,ds1,a,b,rfl,rfl,rfl,h1,h2⟩:=trodAll_cons h
  refine ⟨a,b,?_,args_again hS (fun t' h'=>ht t' (List.mem_cons_of_mem _ h')) h2,rfl⟩
  obtain ⟨n,hn⟩:=h1
  have hlt:=DataW.trod_lt n t _ _ hn
  exact ⟨n,DataW.trod_stays (kids_rows try_laid try_maps) (fun h hu=>slices_pos try_slices h hu) (fun h=>by cases h) (ht t (List.mem_cons_self ..)) hn (fun p hp=>St.same hS p (hlt p hp)) (fun p hp=>by simpa using hlt p hp)⟩
theorem law_post' {H:Type} {enc:TypeId×Value→H} {f:Func} {s:ChangeSpec} {W W':World} {args:Array Value} {ds:List (DataW H)} {before:List MemPlace} (hrt:f.resultTypes=#[4]) (hps:∀ t∈f.params.toList,t<Tryz.prog.types.size) (hv:s.vars=[])
  (hW:DataW.Whole enc Tryz.prog f.params.toList s.vars false W args.toList ds [] before)
  (hr:(s.fn H ds).results=[.lit (.bool true)]) (ha:(s.fn H ds).args=ds) (hvs:(s.fn H ds).vars=[]) (hS:St W [] [] W'):
  s.post enc Tryz.prog f false true false false W args (.bool true) W':=by
 have hW':=hW
 obtain ⟨p,q,hA,hV,rfl,_,_⟩:=hW
 refine ⟨ds,[],p++q,[],p,[],hW',?_,?_,?_,St.kept hS,fun h=>by cases h⟩
 ·rw [List.append_nil,hr,hrt]
  exact trodAll_mk1 ⟨1,by simp [DataW.trod,Value.cells]⟩
 ·rw [List.append_nil,ha]
  exact args_again hS hps hA
 rw [List.append_nil,hvs,hv]
 rfl
theorem cells3 {w:World} {a:Addr} {cs:List Value} (h:w.cells? 0 a 3=some cs):∃ u0 u1 u2,cs=[u0,u1,u2]∧w.cell? a=some u0∧w.cell? (a.add 1)=some u1∧w.cell? (a.add 2)=some u2:=by
 unfold World.cells? at h
 rw [if_pos (Nat.zero_le _)] at h
 have hr:List.range 3=[0,1,2]:=rfl
 rw [hr] at h
 simp only [List.mapM_cons,List.mapM_nil] at h
 have h0:a.add 0=a:=by simp [Addr.add]
 rw [h0] at h
 cases e0:w.cell? a with
 | none=>simp [e0] at h
 | some u0=>
  cases e1:w.cell? (a.add 1) with
  | none=>simp [e0,e1] at h
  | some u1=>
   cases e2:w.cell? (a.add 2) with
   | none=>simp [e0,e1,e2] at h
   | some u2=>
    simp [e0,e1,e2] at h
    exact ⟨u0,u1,u2,h.symm,rfl,rfl,rfl⟩
theorem cell_spot {w:World} {a:Addr} {u:Value} (h:w.cell? a=some u):a.spot=none:=by
 unfold World.cell? at h
 split at h
 ·split at h
  ·cases h
  rename_i hs
  cases hh:a.spot with
  | none=>rfl
  | some x=>rw [hh] at hs;simp at hs
 cases h
theorem und3' :Tryz.prog.underlying 3=some (.int .i64):=by kernel_rfl
section
variable {H : Type} {enc : TypeId × Value → H} {W : World} {base : Nat} {held : Bool}
set_option maxRecDepth 100000 in
theorem open_i64 {sp:Nat→Bool} {v:Value} {d:DataW H} {p:List MemPlace} (hv:Value.okWide Tryz.prog W .any base 3 v) (h:DataW.Trod enc Tryz.prog W 0 sp held 3 v d p):
  ∃ n:Int,v= .int .i64 n∧ -9223372036854775808≤n∧n<9223372036854775808:=by
 obtain ⟨n,h1,_,_,h4⟩:=open_int und3' hv h
 refine ⟨n,h1,?_⟩
 have e1:IntKind.i64.min= -9223372036854775808:=by decide
 have e2:IntKind.i64.max=9223372036854775807:=by decide
 simp [Lit.wf,e1,e2] at h4
 omega
end
open Go Go.Eng Go.Proofs Go.ChangeShapes Go.WideShapes Go.ChangeAt Go.RowKit Go.ChangeMaps
open Go Go.Eng Go.Proofs
namespace F
end F
end Go.Proofs.YtedbajbgnmaakaaGreatDoor
namespace Go.Eng
open Go Go.RowKit
section
variable {P : Program} {w0 : World} {O : List Nat} {ops : Array Oper} {Q : Exit → Act → World → Prop} {N : Nat} {D : List Deferred} {L : FL} {C : List Chunk} {K : Act → World → Prop}
variable {d : Nat} {ty : TypeId} {pos : String} {af : Array Edge}
theorem run_append_zero {t e:TypeId} {sz:Nat} (ht:P.underlying t=some (.slice e)) (hs:sizeB P e=some sz) {a0 a1:Option Addr} {n cap c:Nat} (hn:n≤cap) (w:World):
  (Builtin.append_ #[t,t] ty #[.slice a1 n cap,.slice a0 0 c]).run P w= .ok (.slice a1 n cap) w:=by
 have hf:∀ a:Option Addr,(Builtin.firstCells sz 0 (.slice a 0 c)).run P w= .ok #[] w:=fun a=>by
  cases a with
  | none=>simp [Builtin.firstCells]
  | some a=>simp [Builtin.firstCells,loadCells,loadCellsFrom]
 cases a1 with
 | none=>simp [Builtin.append_,run_underlying ht,run_sizeOf hs,Builtin.lenOf,hn,hf]
 | some a1=>simp [Builtin.append_,run_underlying ht,run_sizeOf hs,Builtin.lenOf,hn,hf,storeCells]
theorem WL.appendC {s x:Operand} {t e:TypeId} {sz bytes:Nat} {v:Value} {n m c:Nat} {a0:Option Addr} {xs news:List Value} {C1:List Chunk} (hE:ElT P t e sz bytes) (hd:Nat.blt d N=true)
  (hs:ev L s=some v) (hx:ev L x=some (.slice a0 m c)) (hr:Rem (rowc v n e sz xs) C C1)
  (hnews:∀ w,St w0 O C w→m≠0→∃ bx ox,a0=some ⟨bx,ox,none⟩∧∀ j u,news[j]?=some u→w.cell? ⟨bx,ox+j,none⟩=some u) (hl:news.length=m*sz) (h1:∀ u∈news,u.oneCell'=true)
  (h63:n+m≤maxLen) (hbytes:(n+m)*bytes≤140737488355328)
  (h:∀ a cap,WA w0 O K N D ((d,.slice a (n+m) cap)::L) (rowc (.slice a (n+m) cap) (n+m) e sz (xs++news)::C1)):
  WK P w0 O ops Q ⟨some d,.call {callee:= .builtin .append,args:=#[s,x],argTypes:=#[t,t]},ty,pos,af,none⟩ K N D L C:=by
 by_cases hm:m=0
 ·subst hm
  have hn0:news=[]:=List.eq_nil_of_length_eq_zero (by simpa using hl)
  subst hn0
  intro a w hF hS
  have hS1:=hS.perm hr.perm
  have hown:w.ownsRow 0 e sz v n xs:=hS1.ok _ (List.mem_cons_self ..)
  obtain ⟨a',cap',rfl⟩:=ownsRow_slice hown
  have hle:n≤cap':=by
   rcases hown.2 with ⟨hv,h0⟩ | ⟨g,cp,cur,hv,_,_,hle,_⟩
   ·injection hv with _ _ h2;omega
   ·injection hv with _ _ h2;omega
  obtain ⟨i,z,h1',h2,h3,h4,h5⟩:=hE.row
  have hrun:=run_append_zero (P:=P) (ty:=ty) (sz:=sz) hE.und (by unfold sizeB;rw [h1'];simp [h3]) (a0:=a0) (a1:=a') (c:=c) hle w
  have h':=h a' cap'
  simp only [Nat.add_zero,List.append_nil] at h'
  refine wpo_val rfl ?_ (h' _ w (hF.put d _ hd) hS1)
  simp only [execOp,resolve,invoke,builtin,Sem.run_bind,Sem.run_pure,Result.andThen_ok,List.map_toArray,List.map_cons,List.map_nil,hF.ev hs,hF.ev hx,hrun]
 intro a w hF hS
 obtain ⟨bx,ox,rfl,_⟩:=hnews w hS hm
 exact WL.appendE hE hd hs hx hr (fun w hS=>by
  obtain ⟨bx',ox',he,hc⟩:=hnews w hS hm
  injection he with he
  injection he with e1 e2
  subst e1;subst e2
  exact hc) hl h1 h63 hbytes h a w hF hS
end
end Go.Eng
namespace Go.Proofs.YtedbajbgnmaakaaGreatDoor
open Go Go.Eng Go.Proofs
end Go.Proofs.YtedbajbgnmaakaaGreatDoor
namespace Go.Eng
open Go Go.RowKit
section
variable {P : Program} {w0 : World} {O : List Nat} {ops : Array Oper} {Q : Exit → Act → World → Prop} {N : Nat} {D : List Deferred} {L : FL} {C : List Chunk} {K : Act → World → Prop}
variable {d : Nat} {ty : TypeId} {pos : String} {af : Array Edge}
end
open Go Go.RowKit
section
variable {P : Program}
end
end Go.Eng
namespace Fm
open Go Go.Eng
end Fm
namespace Fm
open Go Go.Eng
end Fm
namespace Go.Proofs.YtedbajbgnmaakaaGreatDoor
open Go Go.Eng Go.Proofs
def T1 :Tree:= .mk 5 [] [.mk 3 [97] [],.mk 3 [98] [],.mk 5 [] [.mk 3 [99] [],.mk 3 [100] []]]
def T2 :Tree:= .mk 5 [] [.mk 6 [] [.mk 3 [97] [],.mk 3 [98] []],.mk 4 [] [.mk 3 [99] []]]
structure C1 where
 f:Nat
 out:List Int
 ad:Option Addr
 ac:Nat
structure C2 where
 i:Nat
 out:List Int
 ad:Option Addr
 ac:Nat
def Shaped (a:Option Addr):Prop:=a=none∨∃ b off,a=some ⟨b,off,none⟩
structure MD where
 M:Nat
 out:List Nat
 ad:Option Addr
 ac:Nat
open Go Go.Eng Go.Proofs Go.ChangeShapes Go.WideShapes Go.ChangeAt Go.RowKit Go.ChangeMaps
theorem wf_u8 {n:Int} (h:(Lit.int .u8 n).wf=true):0≤n∧n<256:=by
 have e1:IntKind.u8.min=0:=by decide
 have e2:IntKind.u8.max=255:=by decide
 simp [Lit.wf,e1,e2] at h
 omega
theorem wf_u32 {n:Int} (h:(Lit.int .u32 n).wf=true):0≤n∧n<4294967296:=by
 have e1:IntKind.u32.min=0:=by decide
 have e2:IntKind.u32.max=4294967295:=by decide
 simp [Lit.wf,e1,e2] at h
 omega
theorem list_of {α:Type} {P:Nat→α→Prop}:∀ n:Nat,(∀ i,i<n→∃ y,P i y)→∃ l:List α,l.length=n∧∀ i x,l[i]?=some x→P i x
 | 0,_=>⟨[],rfl,fun i x hx=>by simp at hx⟩
 | n+1,h=>by
  obtain ⟨l,h1,h2⟩:=list_of n (fun i hi=>h i (by omega))
  obtain ⟨y,hy⟩:=h n (by omega)
  refine ⟨l++[y],by simp [h1],fun i x hx=>?_⟩
  by_cases hi:i<l.length
  ·rw [List.getElem?_append_left hi] at hx
   exact h2 i x hx
  ·rw [List.getElem?_append_right (by omega)] at hx
   have hil:=(List.getElem?_eq_some_iff.1 hx).1
   simp at hil
   have:i=n:=by omega
   subst this
   rw [show i - l.length=0 by omega] at hx
   simp at hx
   subst hx
   exact hy
theorem undInt6 :Tryz.prog.underlying 3=some (.int .i64):=by kernel_rfl
theorem undInts6 :Tryz.prog.underlying 73=some (.slice 3):=by kernel_rfl
theorem cellsInt6 :Tryz.prog.cellsOf 3=1:=by kernel_rfl
end Go.Proofs.YtedbajbgnmaakaaGreatDoor
namespace Go.Eng
open Go Go.RowKit
theorem str_beq (a b:List UInt8):(str a==str b)=(a==b):=by
 show (a.toArray==b.toArray)=_
 simp
theorem St.allocObj {w0 w:World} {O:List Nat} {C:List Chunk} (h:St w0 O C w) (o:Obj) (c0:Chunk) (hf:∀ k,c0.fp k↔k=w.heap.size) (hok:c0.ok (w.alloc o)):St w0 O (c0::C) (w.alloc o):=by
 have hh:∀ k,k<w.heap.size→(w.alloc o).heap[k]?=w.heap[k]?:=fun k hk=>Below.heap_alloc w _ k hk
 refine ⟨h.os,h.tape,h.output,by have:=h.size;simp;omega,fun k hk ho=>?_,?_,?_,?_⟩
 ·rw [hh k (Nat.lt_of_lt_of_le hk h.size)];exact h.old k hk ho
 ·intro c hc
  rcases List.mem_cons.1 hc with rfl | hc
  ·exact hok
  exact (h.ok c hc |> fun hok=>c.loc w _ (fun k hk=>hh k (h.bnd c hc k hk).1) hok)
 ·intro c hc k hk
  rcases List.mem_cons.1 hc with rfl | hc
  ·have:k=w.heap.size:=(hf k).1 hk
   subst this
   exact ⟨by simp,fun hlt=>absurd hlt (Nat.not_lt.2 h.size)⟩
  exact ⟨by have:=(h.bnd c hc k hk).1;simp;omega,(h.bnd c hc k hk).2⟩
 refine List.Pairwise.cons (fun c hc k hk hk'=>?_) h.disj
 have:k=w.heap.size:=(hf k).1 hk
 subst this
 exact Nat.lt_irrefl _ (h.bnd c hc _ hk').1
theorem St.setObj {w0 w:World} {O:List Nat} {C C':List Chunk} {b:Nat} {c0 c1:Chunk} {o:Obj} (h:St w0 O C w) (hu:Upd c0 c1 C C') (hf:∀ k,c0.fp k↔k=b) (hf':∀ k,c1.fp k↔k=b) (hok:c1.ok {w with heap:=w.heap.setIfInBounds b o}):
  St w0 O C' {w with heap:=w.heap.setIfInBounds b o}:=by
 obtain ⟨R,p1,p2⟩:=hu.perm
 have h1:=h.perm p1
 refine St.perm ?_ p2.symm
 have hbO:=(h1.bnd _ (List.mem_cons_self ..) b ((hf b).2 rfl))
 have hoth:∀ k,k≠b→({w with heap:=w.heap.setIfInBounds b o}:World).heap[k]?=w.heap[k]?:=fun k hk=>by
  show (w.heap.setIfInBounds b o)[k]?=_
  rw [Array.getElem?_setIfInBounds_ne (Ne.symm hk)]
 have hdis:=List.pairwise_cons.1 h1.disj
 refine ⟨h.os,h.tape,h.output,by simpa using h.size,fun k hk ho=>?_,?_,?_,?_⟩
 ·by_cases hkb:k=b
  ·subst hkb;exact absurd (hbO.2 hk) ho
  rw [hoth k hkb];exact h.old k hk ho
 ·intro c hc
  rcases List.mem_cons.1 hc with rfl | hc
  ·exact hok
  refine c.loc w _ (fun k hk=>hoth k (fun e=>?_)) (h1.ok c (List.mem_cons_of_mem _ hc))
  exact hdis.1 c hc k ((hf k).2 e) hk
 ·intro c hc k hk
  rcases List.mem_cons.1 hc with rfl | hc
  ·have:k=b:=(hf' k).1 hk
   subst this
   exact ⟨by simpa using hbO.1,hbO.2⟩
  simpa using h1.bnd c (List.mem_cons_of_mem _ hc) k hk
 exact List.Pairwise.cons (fun c hc k hk hk'=>hdis.1 c hc k ((hf k).2 ((hf' k).1 hk)) hk') hdis.2
section
variable {P : Program} {w0 : World} {O : List Nat} {ops : Array Oper} {Q : Exit → Act → World → Prop} {N : Nat} {D : List Deferred} {L : FL} {C : List Chunk} {K : Act → World → Prop}
variable {d : Nat} {ty : TypeId} {pos : String} {af : Array Edge}
end
open Go Go.RowKit
def kidx {κ:Type} [DecidableEq κ]:List (κ×Value)→κ→Nat→Option (Nat×Value)
 | [],_,_=>none
 | p::r,k,i=>if p.1=k then some (i,p.2) else kidx r k (i+1)
def kfind {κ:Type} [DecidableEq κ]:List (κ×Value)→κ→Option Value
 | [],_=>none
 | p::r,k=>if p.1=k then some p.2 else kfind r k
theorem kidx_none {κ:Type} [DecidableEq κ]:∀ {kvs:List (κ×Value)} {k:κ} {i:Nat},kidx kvs k i=none↔kfind kvs k=none
 | [],_,_=>by simp [kidx,kfind]
 | p::r,k,i=>by
  unfold kidx kfind
  split
  ·simp
  ·exact kidx_none
theorem kidx_some {κ:Type} [DecidableEq κ]:∀ {kvs:List (κ×Value)} {k:κ} {i j:Nat} {v:Value},kidx kvs k i=some (j,v)→i≤j∧kvs[j - i]?=some (k,v)∧kfind kvs k=some v∧∀ v' k',kfind (kvs.set (j - i) (k,v')) k'=if k'=k then some v' else kfind kvs k'
 | [],_,_,_,_,h=>by simp [kidx] at h
 | p::r,k,i,j,v,h=>by
  unfold kidx at h
  by_cases hp:p.1=k
  ·rw [if_pos hp] at h
   simp only [Option.some.injEq,Prod.mk.injEq] at h
   obtain ⟨rfl,rfl⟩:=h
   subst hp
   refine ⟨Nat.le_refl _,by simp,by simp [kfind],fun v' k'=>?_⟩
   simp only [Nat.sub_self,List.set_cons_zero,kfind]
   by_cases hk:k'=p.1
   ·simp [hk]
   ·simp [hk,Ne.symm hk]
  ·rw [if_neg hp] at h
   obtain ⟨h1,h2,h3,h4⟩:=kidx_some h
   have e:j - i=(j - (i+1))+1:=by omega
   refine ⟨by omega,by rw [e];simpa using h2,by simp [kfind,hp,h3],fun v' k'=>?_⟩
   rw [e,List.set_cons_succ]
   simp only [kfind]
   by_cases hk:p.1=k'
   ·rw [if_pos hk,if_pos hk,if_neg (fun e=>hp (hk.trans e))]
   ·rw [if_neg hk,if_neg hk];exact h4 v' k'
theorem kfind_snoc {κ:Type} [DecidableEq κ]:∀ {kvs:List (κ×Value)} {k:κ} {v:Value},kfind kvs k=none→∀ k',kfind (kvs++[(k,v)]) k'=if k'=k then some v else kfind kvs k'
 | [],k,v,_,k'=>by
  simp only [List.nil_append,kfind]
  by_cases h:k'=k
  ·simp [h]
  ·simp [h,Ne.symm h]
 | p::r,k,v,h,k'=>by
  unfold kfind at h
  by_cases hp:p.1=k
  ·rw [if_pos hp] at h;cases h
  ·rw [if_neg hp] at h
   simp only [List.cons_append,kfind]
   by_cases hk:p.1=k'
   ·rw [if_pos hk,if_pos hk,if_neg (fun e=>hp (hk.trans e))]
   ·rw [if_neg hk,if_neg hk];exact kfind_snoc h k'
structure KeyT (P:Program) (kt:TypeId) {κ:Type} [DecidableEq κ] (enc:κ→Value):Prop where
 check:∀ e w k,(Instr.checkKey e 10000 kt (enc k)).run P w= .ok () w
 find:∀ w k (es:List MapEntry) (kvs:List (κ×Value)),es.map (fun e=>(e.key,e.val))=kvs.map (fun p=>(enc p.1,p.2))→(Instr.findKey kt (enc k) es).run P w= .ok (kidx kvs k 0) w
 stays:∀ w k,(Instr.keyThatStays (enc k) (enc k)).run P w= .ok (enc k) w
structure MapInv {κ:Type} (es:List MapEntry) (clock:Nat) (ks:List κ):Prop where
 born:(es.map (·.born)).Nodup
 past:∀ e∈es,e.born<clock
 keys:ks.Nodup
def mpg {κ:Type} [DecidableEq κ] (enc:κ→Value) (b:Nat) (f:κ→Option Value):Chunk where
 fp k:=k=b
 ok w:=∃ (es:Array MapEntry) (clock:Nat) (kvs:List (κ×Value)),w.heap[b]?=some (.map es clock)∧es.toList.map (fun e=>(e.key,e.val))=kvs.map (fun p=>(enc p.1,p.2))∧(∀ k,f k=kfind kvs k)∧MapInv es.toList clock (kvs.map Prod.fst)
 loc w w' h:=fun ⟨es,c,kvs,h1,h2⟩=>⟨es,c,kvs,(h b rfl).trans h1,h2⟩
theorem kfind_mem {κ:Type} [DecidableEq κ]:∀ {kvs:List (κ×Value)} {k:κ},kfind kvs k=none→k∉kvs.map Prod.fst
 | [],_,_=>by simp
 | p::r,k,h=>by
  unfold kfind at h
  by_cases hp:p.1=k
  ·rw [if_pos hp] at h;cases h
  ·rw [if_neg hp] at h
   simp only [List.map_cons,List.mem_cons,not_or]
   exact ⟨Ne.symm hp,kfind_mem h⟩
theorem MapInv.push {κ:Type} {es:List MapEntry} {clock:Nat} {ks:List κ} (h:MapInv es clock ks) {k:κ} (hk:k∉ks) (key val:Value):MapInv (es++[{key,val,born:=clock}]) (clock+1) (ks++[k]):=by
 refine ⟨?_,fun e he=>?_,?_⟩
 ·rw [List.map_append,List.nodup_append]
  refine ⟨h.born,by simp,fun a ha b hb=>?_⟩
  obtain ⟨e,he,rfl⟩:=List.mem_map.1 ha
  simp only [List.map_cons,List.map_nil,List.mem_singleton] at hb
  have:=h.past e he
  omega
 ·rcases List.mem_append.1 he with he | he
  ·exact Nat.lt_succ_of_lt (h.past e he)
  rw [List.mem_singleton.1 he];exact Nat.lt_succ_self _
 rw [List.nodup_append]
 refine ⟨h.keys,by simp,fun a ha b hb=>?_⟩
 rw [List.mem_singleton.1 hb]
 exact fun e=>hk (e▸ha)
theorem map_modify_same {α β:Type} (f:α→β) (g:α→α) (hg:∀ a,f (g a)=f a):∀ (l:List α) (j:Nat),(l.modify j g).map f=l.map f
 | [],j=>by simp
 | x::r,0=>by simp [hg]
 | x::r,j+1=>by simp [map_modify_same f g hg r j]
theorem MapInv.modify {κ:Type} {es:List MapEntry} {clock:Nat} {ks:List κ} (h:MapInv es clock ks) (g:MapEntry→MapEntry) (hg:∀ e,(g e).born=e.born) (j:Nat):MapInv (es.modify j g) clock ks:=by
 have hb:=map_modify_same (·.born) g hg es j
 refine ⟨by rw [hb];exact h.born,fun e he=>?_,h.keys⟩
 have:e.born∈(es.modify j g).map (·.born):=List.mem_map_of_mem he
 rw [hb] at this
 obtain ⟨e2,he2,e3⟩:=List.mem_map.1 this
 rw [← e3];exact h.past e2 he2
theorem map_modify_set {α β:Type} (f:α→β) (g:α→α):∀ (l:List α) (j:Nat) (a:α),l[j]?=some a→(l.modify j g).map f=(l.map f).set j (f (g a))
 | [],j,a,h=>by simp at h
 | x::r,0,a,h=>by simp at h;subst h;simp
 | x::r,j+1,a,h=>by
  simp only [List.getElem?_cons_succ] at h
  simp [map_modify_set f g r j a h]
section
variable {P : Program} {w0 : World} {O : List Nat} {ops : Array Oper} {Q : Exit → Act → World → Prop} {N : Nat} {D : List Deferred} {L : FL} {C : List Chunk} {K : Act → World → Prop}
variable {d : Nat} {ty : TypeId} {pos : String} {af : Array Edge}
variable {κ : Type} [DecidableEq κ] {enc : κ → Value} {kt : TypeId}
theorem WL.makeMapG (enc:κ→Value) {t:TypeId} (hd:Nat.blt d N=true) (h:∀ b,WA w0 O K N D ((d,.map (some b))::L) (mpg enc b (fun _=>none)::C)):
  WK P w0 O ops Q ⟨some d,.makeMap t none,ty,pos,af,none⟩ K N D L C:=fun a w hF hS=>by
 refine wpo_val rfl ?_ (h w.heap.size _ (w.alloc (.map #[] 0)) (hF.put d _ hd) (hS.allocObj _ (mpg enc w.heap.size (fun _=>none)) (fun k=>Iff.rfl) ⟨#[],0,[],by show (w.heap.push _)[w.heap.size]?=_;simp,rfl,fun _=>rfl,⟨by simp,by simp,by simp⟩⟩))
 have hr:=run_makeMap_plain (P:=P) (w:=w) t
 simp only [execOp,Option.map_none,Sem.run_bind,hr,Result.andThen_ok,Sem.run_pure]
theorem run_lookupG {t et:TypeId} {b:Nat} {k:κ} {f:κ→Option Value} {z:Value} (hm:P.underlying t=some (.map kt et)) (hk:KeyT P kt enc) (hz:∀ w,(zeroValue et).run P w= .ok z w) {w:World} (hok:(mpg enc b f).ok w) (cm:Bool):
  (Instr.lookup t (.map (some b)) (enc k) cm).run P w= .ok (bif cm then .tuple #[(f k).getD z,.bool (f k).isSome] else (f k).getD z) w:=by
 obtain ⟨es,clock,kvs,h1,h2,h3,_⟩:=hok
 have hf:=hk.find w k es.toList kvs h2
 cases hh:kidx kvs k 0 with
 | none=>
  have hn:f k=none:=by rw [h3,kidx_none.1 hh]
  rw [hh] at hf
  cases cm<;>simp [Instr.lookup,run_underlying hm,MapKept.run_getObj_map h1,hk.check,hf,Result.andThen,hz,hn]
 | some p=>
  obtain ⟨j,v⟩:=p
  have hn:f k=some v:=by rw [h3,(kidx_some hh).2.2.1]
  rw [hh] at hf
  cases cm<;>simp [Instr.lookup,run_underlying hm,MapKept.run_getObj_map h1,hk.check,hf,Result.andThen,hn]
theorem WL.lookupG {t et:TypeId} {x y:Operand} {b:Nat} {f:κ→Option Value} {z vy:Value} {cm:Bool} (k:κ) (hm:P.underlying t=some (.map kt et)) (hk:KeyT P kt enc) (hz:∀ w,(zeroValue et).run P w= .ok z w) (hd:Nat.blt d N=true)
  (hx:ev L x=some (.map (some b))) (hy:ev L y=some vy) (hvy:vy=enc k) (hmem:mpg enc b f∈C) (h:WA w0 O K N D ((d,bif cm then .tuple #[(f k).getD z,.bool (f k).isSome] else (f k).getD z)::L) C):
  WK P w0 O ops Q ⟨some d,.lookup t x y cm,ty,pos,af,none⟩ K N D L C:=fun a w hF hS=>by
 subst hvy
 refine wpo_val rfl ?_ (h _ w (hF.put d _ hd) hS)
 simp only [execOp,hF.ev hx,hF.ev hy,Sem.run_bind,run_lookupG hm hk hz (hS.ok _ hmem),Result.andThen_ok,Sem.run_pure]
theorem WL.lookupHit {t et:TypeId} {x y:Operand} {b:Nat} {f:κ→Option Value} {z v vy:Value} (k:κ) (hm:P.underlying t=some (.map kt et)) (hk:KeyT P kt enc) (hz:∀ w,(zeroValue et).run P w= .ok z w) (hd:Nat.blt d N=true)
  (hx:ev L x=some (.map (some b))) (hy:ev L y=some vy) (hvy:vy=enc k) (hmem:mpg enc b f∈C) (hf:f k=some v) (h:WA w0 O K N D ((d,.tuple [v,.bool true].toArray)::L) C):
  WK P w0 O ops Q ⟨some d,.lookup t x y true,ty,pos,af,none⟩ K N D L C:=WL.lookupG k hm hk hz hd hx hy hvy hmem (by rw [hf];exact h)
theorem WL.lookupMiss {t et:TypeId} {x y:Operand} {b:Nat} {f:κ→Option Value} {z vy:Value} (k:κ) (hm:P.underlying t=some (.map kt et)) (hk:KeyT P kt enc) (hz:∀ w,(zeroValue et).run P w= .ok z w) (hd:Nat.blt d N=true)
  (hx:ev L x=some (.map (some b))) (hy:ev L y=some vy) (hvy:vy=enc k) (hmem:mpg enc b f∈C) (hf:f k=none) (h:WA w0 O K N D ((d,.tuple [z,.bool false].toArray)::L) C):
  WK P w0 O ops Q ⟨some d,.lookup t x y true,ty,pos,af,none⟩ K N D L C:=WL.lookupG k hm hk hz hd hx hy hvy hmem (by rw [hf];exact h)
theorem WL.mapPutG {t et:TypeId} {x y z:Operand} {b:Nat} {f:κ→Option Value} {vy v:Value} {C':List Chunk} (k:κ) (hm:P.underlying t=some (.map kt et)) (hk:KeyT P kt enc)
  (hx:ev L x=some (.map (some b))) (hy:ev L y=some vy) (hvy:vy=enc k) (hz:ev L z=some v) (hu:Upd (mpg enc b f) (mpg enc b (fun q=>if q=k then some v else f q)) C C') (h:WA w0 O K N D L C'):
  WK P w0 O ops Q ⟨none,.mapUpdate t x y z,ty,pos,af,none⟩ K N D L C:=fun a w hF hS=>by
 subst hvy
 obtain ⟨es,clock,kvs,h1,h2,h3,hI⟩:=hS.ok _ hu.mem
 have hb:b<w.heap.size:=((hS.bnd _ hu.mem) b rfl).1
 have hf:=hk.find w k es.toList kvs h2
 cases hh:kidx kvs k 0 with
 | none=>
  rw [hh] at hf
  have hr:(Instr.mapUpdate t (.map (some b)) (enc k) v).run P w= .ok () {w with heap:=w.heap.setIfInBounds b (.map (es.push {key:=enc k,val:=v,born:=clock}) (clock+1))}:=by
   simp [Instr.mapUpdate,run_underlying hm,MapKept.run_getObj_map h1,hk.check,hf,MapKept.run_setObj_map _ h1,Result.andThen]
  refine wpo_skip rfl (w':={w with heap:=w.heap.setIfInBounds b (.map (es.push {key:=enc k,val:=v,born:=clock}) (clock+1))}) ?_ (h _ _ hF (hS.setObj hu (fun k=>Iff.rfl) (fun k=>Iff.rfl) ⟨es.push {key:=enc k,val:=v,born:=clock},clock+1,kvs++[(k,v)],?_,?_,?_,?_⟩))
  ·simp [execOp,hF.ev hx,hF.ev hy,hF.ev hz,hr]
  ·show (w.heap.setIfInBounds b _)[b]?=_
   rw [Array.getElem?_setIfInBounds_self_of_lt hb]
  ·simp [h2]
  ·intro q
   rw [kfind_snoc (kidx_none.1 hh) q]
   simp only [h3]
  ·have:=hI.push (kfind_mem (kidx_none.1 hh)) (enc k) v
   simpa using this
 | some p=>
  obtain ⟨j,u⟩:=p
  rw [hh] at hf
  obtain ⟨_,g2,g3,g4⟩:=kidx_some hh
  simp only [Nat.sub_zero] at g2 g4
  have hlen:es.toList.length=kvs.length:=by have:=congrArg List.length h2;simpa using this
  have hjl:j<es.toList.length:=by rw [hlen];exact (List.getElem?_eq_some_iff.1 g2).1
  have hej:es.toList[j]?=some es.toList[j]:=List.getElem?_eq_getElem hjl
  have hkey:es.toList[j].key=enc k:=by
   have e1:(es.toList.map (fun e=>(e.key,e.val)))[j]?=some (es.toList[j].key,es.toList[j].val):=by rw [List.getElem?_map,hej];rfl
   rw [h2,List.getElem?_map,g2] at e1
   simp only [Option.map_some,Option.some.injEq,Prod.mk.injEq] at e1
   exact e1.1.symm
  have hej':es[j]?=some es.toList[j]:=by rw [← Array.getElem?_toList];exact hej
  have hkey2:=hkey
  simp only [Array.getElem_toList] at hkey2
  have hr:(Instr.mapUpdate t (.map (some b)) (enc k) v).run P w= .ok () {w with heap:=w.heap.setIfInBounds b (.map (es.modify j fun e=>{e with key:=enc k,val:=v}) clock)}:=by
   simp [Instr.mapUpdate,run_underlying hm,MapKept.run_getObj_map h1,hk.check,hf,MapKept.run_setObj_map _ h1,Result.andThen,hej',hkey,hkey2,hk.stays]
  refine wpo_skip rfl (w':={w with heap:=w.heap.setIfInBounds b (.map (es.modify j fun e=>{e with key:=enc k,val:=v}) clock)}) ?_ (h _ _ hF (hS.setObj hu (fun k=>Iff.rfl) (fun k=>Iff.rfl) ⟨es.modify j fun e=>{e with key:=enc k,val:=v},clock,kvs.set j (k,v),?_,?_,?_,?_⟩))
  ·simp [execOp,hF.ev hx,hF.ev hy,hF.ev hz,hr]
  ·show (w.heap.setIfInBounds b _)[b]?=_
   rw [Array.getElem?_setIfInBounds_self_of_lt hb]
  ·rw [Array.toList_modify,map_modify_set _ _ _ _ _ hej,h2,List.map_set]
  ·intro q
   rw [g4 v q]
   simp only [h3]
  ·rw [Array.toList_modify]
   have e1:(kvs.set j (k,v)).map Prod.fst=kvs.map Prod.fst:=by
    rw [List.map_set]
    refine List.ext_getElem? fun i=>?_
    rw [List.getElem?_set]
    split
    ·rename_i e
     subst e
     have hj:j<kvs.length:=(List.getElem?_eq_some_iff.1 g2).1
     rw [if_pos (by simpa using hj),List.getElem?_map,g2];rfl
    ·rfl
   rw [e1]
   exact hI.modify (fun e=>{e with key:=enc k,val:=v}) (fun _=>rfl) j
end
def encI (n:Nat):Value:= .int .i64 (n:Int)
def enc2 (p:Nat×Nat):Value:= .agg #[.int .i64 (p.1:Int),.int .i64 (p.2:Int)]
def enc3 (p:Nat×Nat×Nat):Value:= .agg #[.int .i64 (p.1:Int),.int .i64 (p.2.1:Int),.int .i64 (p.2.2:Int)]
section
variable {P : Program} {kt : TypeId} {κ : Type} [DecidableEq κ] {enc : κ → Value}
theorem findNow_kidx {d:TypeDesc} (hs:∀ a b:κ,Instr.sameNow d (enc a) (enc b)=some (decide (b=a))) (k:κ):∀ (es:List MapEntry) (kvs:List (κ×Value)) (i:Nat),es.map (fun e=>(e.key,e.val))=kvs.map (fun p=>(enc p.1,p.2))→Instr.findNow d (enc k) es i=some (kidx kvs k i)
 | [],[],_,_=>rfl
 | [],p::r,_,h=>by simp at h
 | e::es,[],_,h=>by simp at h
 | e::es,p::r,i,h=>by
  simp only [List.map_cons,List.cons.injEq,Prod.mk.injEq] at h
  obtain ⟨⟨h1,h2⟩,h3⟩:=h
  unfold Instr.findNow kidx
  rw [h1,hs k p.1,h2]
  by_cases hp:p.1=k
  ·simp [hp]
  ·simp only [hp,decide_false,if_false]
   exact findNow_kidx hs k es r (i+1) h3
theorem findAsking_kidx {w:World} (hs:∀ a b:κ,(Op.equal kt (enc a) (enc b)).run P w= .ok (decide (b=a)) w) (k:κ):∀ (es:List MapEntry) (kvs:List (κ×Value)) (i:Nat),es.map (fun e=>(e.key,e.val))=kvs.map (fun p=>(enc p.1,p.2))→(Instr.findAsking kt (enc k) es i).run P w= .ok (kidx kvs k i) w
 | [],[],_,_=>by simp [Instr.findAsking,kidx]
 | [],p::r,_,h=>by simp at h
 | e::es,[],_,h=>by simp at h
 | e::es,p::r,i,h=>by
  simp only [List.map_cons,List.cons.injEq,Prod.mk.injEq] at h
  obtain ⟨⟨h1,h2⟩,h3⟩:=h
  unfold Instr.findAsking kidx
  simp only [Sem.run_bind,h1,hs k p.1,Result.andThen_ok,h2]
  by_cases hp:p.1=k
  ·simp [hp]
  ·simp only [hp,decide_false,if_false,Bool.false_eq_true]
   exact findAsking_kidx hs k es r (i+1) h3
theorem KeyT.nat (hu:P.underlying kt=some (.int .i64)):KeyT P kt encI where
 check e w k:=by unfold encI;exact MapKept.run_checkKey hu (by simp [MapKept.IsKey]) e 9999
 find w k es kvs h:=MapKept.run_findKey hu (findNow_kidx (d:= .int .i64) (fun a b=>by
  simp only [Instr.sameNow,encI,if_pos,Option.some.injEq]
  rw [Bool.eq_iff_iff];simp;omega) k es kvs 0 h)
 stays w k:=MapKept.run_keyThatStays (d:= .int .i64) (by simp [MapKept.IsKey,encI])
end
open Go Go.RowKit
section
variable {P : Program} {w0 : World} {O : List Nat} {Q : Exit → Act → World → Prop} {N : Nat} {D : List Deferred} {L : FL} {C : List Chunk}
theorem WC.cutPE {c:Code} {α:Type} (M:α→FL) (C':α→List Chunk) (hq:NoLook Q) (hx:∀ Q',NoLook Q'→(∀ x,WQ w0 O Q' .normal N D (M x) (C' x))→WC P w0 O c Q' N D L C) (hy:∀ x,WQ w0 O Q .normal N D (M x) (C' x)):WC P w0 O c Q N D L C:=hx Q hq hy
end
section
variable {ops : Array Oper} {Fs : List (List Nat × (World → Prop))}
def fwd (i:Nat):List Oper→List Bool→List Bool
 | [],acc=>acc
 | o::os,acc=>fwd i os (acc++[o.after.any fun e=>Region.binds .any e&&(e.on==i||acc.getD e.on false)])
theorem fwd_not {listed:Array Bool} (hc:Closed ops listed) {i:Nat} (hi:listed.getD i false=false):∀ (os:List Oper) (acc:List Bool),ops.toList.drop acc.length=os→(∀ x,acc.getD x false=true→listed.getD x false=false)→∀ x,(fwd i os acc).getD x false=true→listed.getD x false=false
 | [],acc,_,h,x,hx=>h x hx
 | o::os,acc,hd,h,x,hx=>by
  have hlt:acc.length<ops.toList.length:=by
   by_cases hl:acc.length<ops.toList.length
   ·exact hl
   ·rw [List.drop_eq_nil_of_le (by omega)] at hd;cases hd
  rw [List.drop_eq_getElem_cons hlt] at hd
  injection hd with h1 h2
  have ho:ops[acc.length]?=some o:=by
   rw [← Array.getElem?_toList,List.getElem?_eq_getElem hlt,h1]
  refine fwd_not hc hi os _ (by rw [List.length_append];exact h2) (fun y hy=>?_) x hx
  by_cases hyl:y<acc.length
  ·rw [List.getD_eq_getElem?_getD,List.getElem?_append_left hyl,← List.getD_eq_getElem?_getD] at hy
   exact h y hy
  ·rw [List.getD_eq_getElem?_getD,List.getElem?_append_right (by omega)] at hy
   have hye:y=acc.length:=by
    by_cases he:y - acc.length=0
    ·omega
    ·rw [List.getElem?_eq_none (by simp;omega)] at hy;simp at hy
   subst hye
   simp only [Nat.sub_self,List.getElem?_cons_zero,Option.getD_some] at hy
   obtain ⟨e,he,hb⟩:=Array.any_eq_true'.1 hy
   simp only [Bool.and_eq_true,Bool.or_eq_true,beq_iff_eq] at hb
   cases hl:listed.getD acc.length false with
   | false=>rfl
   | true=>
    have h3:=hc acc.length o ho hl e he hb.1
    rcases hb.2 with h4 | h4
    ·rw [h4,hi] at h3;cases h3
    ·rw [h _ h4] at h3;cases h3
def allIn (l:List Bool) (ds:List Nat):Bool:=ds.all fun j=>l.getD j false
theorem need_at2 {i:Nat} (k:Nat) {ds:List Nat} {Y:World→Prop} (hm:Fs[k]?=some (ds,Y)) (hr:allIn (fwd i ops.toList []) ds=true):
  ∀ (listed:Array Bool) (w:World),Closed ops listed→listed.getD i false=false→Sx Fs listed w→Y w:=fun listed w hc hi hS=>
 hS (ds,Y) (List.mem_of_getElem? hm) fun j hj=>fwd_not hc hi ops.toList [] rfl (fun x hx=>by simp at hx) j (List.all_eq_true.1 hr j hj)
end
open Go Go.RowKit Go.Proofs.YtedbajbgnmaakaaGreatDoor
def bun (F:List Nat) {α:Type} (Cs:α→List Chunk) (φ:α→Prop):Chunk where
 fp k:=k∈F
 ok w:=∃ x,φ x∧(∀ c∈Cs x,c.ok w)∧(Cs x).Pairwise (fun (c d:Chunk)=>∀ k:Nat,c.fp k→ ¬ d.fp k)∧(∀ c∈Cs x,∀ k,c.fp k→k∈F)∧∀ k∈F,∃ c∈Cs x,c.fp k
 loc w w' h:=fun ⟨x,h1,h2,h3,h4,h5⟩=>⟨x,h1,fun c hc=>c.loc w w' (fun k hk=>h k (h4 c hc k hk)) (h2 c hc),h3,h4,h5⟩
section
variable {P : Program} {w0 : World} {O : List Nat} {ops : Array Oper} {Q : Exit → Act → World → Prop} {N : Nat} {D : List Deferred} {L : FL} {C : List Chunk} {K : Act → World → Prop}
variable {d : Nat} {ty : TypeId} {pos : String} {af : Array Edge}
theorem St.bunOpen {w:World} {F:List Nat} {α:Type} {Cs:α→List Chunk} {φ:α→Prop} (h:St w0 O (bun F Cs φ::C) w):∃ x,φ x∧(∀ c∈Cs x,∀ k,c.fp k→k∈F)∧(∀ k∈F,∃ c∈Cs x,c.fp k)∧St w0 O (Cs x++C) w:=by
 obtain ⟨x,h1,h2,h3,h4,h5⟩:=h.ok _ (List.mem_cons_self ..)
 have hd:=List.pairwise_cons.1 h.disj
 refine ⟨x,h1,h4,h5,h.os,h.tape,h.output,h.size,h.old,fun c hc=>?_,fun c hc k hk=>?_,List.pairwise_append.2 ⟨h3,hd.2,fun c hc d hd' k hk hk'=>hd.1 d hd' k (h4 c hc k hk) hk'⟩⟩
 ·rcases List.mem_append.1 hc with hc | hc
  ·exact h2 c hc
  exact h.ok c (List.mem_cons_of_mem _ hc)
 rcases List.mem_append.1 hc with hc | hc
 ·exact h.bnd _ (List.mem_cons_self ..) k (h4 c hc k hk)
 exact h.bnd c (List.mem_cons_of_mem _ hc) k hk
theorem St.bunClose {w:World} {F:List Nat} {α:Type} {Cs:α→List Chunk} {φ:α→Prop} (x:α) (hφ:φ x) (h4:∀ c∈Cs x,∀ k,c.fp k→k∈F) (h5:∀ k∈F,∃ c∈Cs x,c.fp k) (h:St w0 O (Cs x++C) w):St w0 O (bun F Cs φ::C) w:=by
 have hd:=List.pairwise_append.1 h.disj
 refine ⟨h.os,h.tape,h.output,h.size,h.old,fun c hc=>?_,fun c hc k hk=>?_,List.Pairwise.cons (fun c hc k hk hk'=>?_) hd.2.1⟩
 ·rcases List.mem_cons.1 hc with rfl | hc
  ·exact ⟨x,hφ,fun c hc=>h.ok c (List.mem_append_left _ hc),hd.1,h4,h5⟩
  exact h.ok c (List.mem_append_right _ hc)
 ·rcases List.mem_cons.1 hc with rfl | hc
  ·obtain ⟨c',hc',hk'⟩:=h5 k hk
   exact h.bnd c' (List.mem_append_left _ hc') k hk'
  exact h.bnd c (List.mem_append_right _ hc) k hk
 obtain ⟨c',hc',hk2⟩:=h5 k hk
 exact hd.2.2 c' hc' c hc k hk2 hk'
theorem bun_O1 {F:List Nat} {α:Type} {Cs:α→List Chunk} {φ:α→Prop}:∀ c∈[bun F Cs φ],∀ k,c.fp k→k∈F:=by
 intro c hc k hk
 simp only [List.mem_singleton] at hc
 subst hc;exact hk
theorem bun_O2 {F:List Nat} {α:Type} {Cs:α→List Chunk} {φ:α→Prop}:∀ k∈F,∃ c∈[bun F Cs φ],c.fp k:=fun k hk=>⟨_,List.mem_singleton.2 rfl,hk⟩
def FpIs (c:Chunk) (F:List Nat):Prop:=∀ k,c.fp k↔k∈F
theorem FpIs.pt {b:Nat} {cs:List Value} {e:TypeId}:FpIs (pt b cs e) [b]:=fun k=>by
 show k=b↔_
 simp
theorem FpIs.mpg {κ:Type} [DecidableEq κ] {enc:κ→Value} {b:Nat} {f:κ→Option Value}:FpIs (mpg enc b f) [b]:=fun k=>by
 show k=b↔_
 simp
theorem FpIs.rowc {v:Value} {n:Nat} {e:TypeId} {sz:Nat} {xs:List Value}:FpIs (rowc v n e sz xs) (ob v):=fun k=>by
 rw [mem_ob];rfl
theorem FpIs.bun {F:List Nat} {α:Type} {Cs:α→List Chunk} {φ:α→Prop}:FpIs (bun F Cs φ) F:=fun k=>Iff.rfl
inductive FpL :List Chunk→List Nat→Prop
 | nil:FpL [] []
 | cons {c F Cs Fs}:FpIs c F→FpL Cs Fs→FpL (c::Cs) (F++Fs)
theorem FpL.one {Cs:List Chunk} {F:List Nat} (h:FpL Cs F):∀ c∈Cs,∀ k,c.fp k→k∈F:=by
 induction h with
 | nil=>intro c hc;cases hc
 | cons h1 h2 ih=>
  intro c hc k hk
  rcases List.mem_cons.1 hc with rfl | hc
  ·exact List.mem_append_left _ ((h1 k).1 hk)
  ·exact List.mem_append_right _ (ih c hc k hk)
theorem FpL.two {Cs:List Chunk} {F:List Nat} (h:FpL Cs F):∀ k∈F,∃ c∈Cs,c.fp k:=by
 induction h with
 | nil=>intro k hk;cases hk
 | cons h1 h2 ih=>
  intro k hk
  rcases List.mem_append.1 hk with hk | hk
  ·exact ⟨_,List.mem_cons_self ..,(h1 k).2 hk⟩
  ·obtain ⟨c,hc,hk⟩:=ih k hk
   exact ⟨c,List.mem_cons_of_mem _ hc,hk⟩
theorem St.bunClose' {w:World} {F:List Nat} {α:Type} {Cs:α→List Chunk} {φ:α→Prop} (x:α) (hφ:φ x) (hF:FpL (Cs x) F) (h:St w0 O (Cs x++C) w):St w0 O (bun F Cs φ::C) w:=h.bunClose x hφ hF.one hF.two
theorem St.apart {w:World} {C1:List Chunk} {F:List Nat} (h:St w0 O (C++C1) w) (h2:∀ k∈F,∃ c∈C,c.fp k) {z:Nat} (hz:z<w0.heap.size) (hO:z∉O):z∉F:=fun hk=>by
 obtain ⟨c,hc,hf⟩:=h2 z hk
 exact hO ((h.bnd c (List.mem_append_left _ hc) z hf).2 hz)
variable {κ : Type} [DecidableEq κ] {enc : κ → Value} {kt : TypeId}
theorem Yl.lookupG {t et:TypeId} {x y:Operand} {b:Nat} {f:κ→Option Value} {z vy v:Value} {cm:Bool} (k:κ) (hm:P.underlying t=some (.map kt et)) (hk:KeyT P kt enc) (hz:∀ w,(zeroValue et).run P w= .ok z w)
  (hx:ev L x=some (.map (some b))) (hy:ev L y=some vy) (hvy:vy=enc k) (hv:v=bif cm then .tuple #[(f k).getD z,.bool (f k).isSome] else (f k).getD z):Yl P N D L (fun w=>(mpg enc b f).ok w) ⟨some d,.lookup t x y cm,ty,pos,af,none⟩ v:=fun a w hF hok=>by
 subst hvy;subst hv
 simp only [execOp,hF.ev hx,hF.ev hy,Sem.run_bind,run_lookupG hm hk hz hok,Result.andThen_ok,Sem.run_pure]
theorem Yl.lookupHit {t et:TypeId} {x y:Operand} {b:Nat} {f:κ→Option Value} {z vy v:Value} (k:κ) (hm:P.underlying t=some (.map kt et)) (hk:KeyT P kt enc) (hz:∀ w,(zeroValue et).run P w= .ok z w)
  (hx:ev L x=some (.map (some b))) (hy:ev L y=some vy) (hvy:vy=enc k) (hf:f k=some v):Yl P N D L (fun w=>(mpg enc b f).ok w) ⟨some d,.lookup t x y true,ty,pos,af,none⟩ (.tuple [v,.bool true].toArray):=Yl.lookupG k hm hk hz hx hy hvy (by rw [hf];rfl)
theorem Yl.lookupMiss {t et:TypeId} {x y:Operand} {b:Nat} {f:κ→Option Value} {z vy:Value} (k:κ) (hm:P.underlying t=some (.map kt et)) (hk:KeyT P kt enc) (hz:∀ w,(zeroValue et).run P w= .ok z w)
  (hx:ev L x=some (.map (some b))) (hy:ev L y=some vy) (hvy:vy=enc k) (hf:f k=none):Yl P N D L (fun w=>(mpg enc b f).ok w) ⟨some d,.lookup t x y true,ty,pos,af,none⟩ (.tuple [z,.bool false].toArray):=Yl.lookupG k hm hk hz hx hy hvy (by rw [hf];rfl)
end
section
variable {P : Program} {kt : TypeId}
structure IntF (P:Program) (f:Field) (off:Nat):Prop where
 name : f.name ≠ "_"
 offset:f.offset=off
 plain:P.plainKey f.type=true
 int:P.underlying f.type=some (.int .i64)
def intFB (P : Program) (f : Field) (off : Nat) : Bool := f.name != "_" && f.offset == off && P.plainKey f.type && (match P.underlying f.type with | some (.int .i64) => true | _ => false)
theorem IntF.of {f:Field} {off:Nat} (h:intFB P f off=true):IntF P f off:=by
 unfold intFB at h
 simp only [Bool.and_eq_true,bne_iff_ne,beq_iff_eq] at h
 refine ⟨h.1.1.1,h.1.1.2,h.1.2,?_⟩
 have h2:=h.2
 split at h2
 ·assumption
 cases h2
theorem run_equal_int {t:TypeId} (hu:P.underlying t=some (.int .i64)) (d:Nat) (a b:Int) (w:World):(Op.equalIn (d+1) t (.int .i64 a) (.int .i64 b)).run P w= .ok (a==b) w:=by
 simp [Op.equalIn,run_underlying hu]
theorem KeyT.three {f0 f1 f2:Field} (hu:P.underlying kt=some (.struct #[f0,f1,f2])) (h0:IntF P f0 0) (h1:IntF P f1 1) (h2:IntF P f2 2) (hs:P.stoodInHeld kt=false):KeyT P kt enc3 where
 check e w k:=by
  unfold enc3
  show (Instr.checkKey e (9998+1+1) kt _).run P w=_
  rw [Instr.checkKey]
  simp only [Sem.run_bind,run_underlying hu,Result.andThen_ok]
  rw [← Array.forIn_toList]
  have p0:=run_part_plain w h0.plain (xs:=#[.int .i64 (k.1:Int),.int .i64 (k.2.1:Int),.int .i64 (k.2.2:Int)]) (off:=0) (v:= .int .i64 (k.1:Int)) rfl
  have p1:=run_part_plain w h1.plain (xs:=#[.int .i64 (k.1:Int),.int .i64 (k.2.1:Int),.int .i64 (k.2.2:Int)]) (off:=1) (v:= .int .i64 (k.2.1:Int)) rfl
  have p2:=run_part_plain w h2.plain (xs:=#[.int .i64 (k.1:Int),.int .i64 (k.2.1:Int),.int .i64 (k.2.2:Int)]) (off:=2) (v:= .int .i64 (k.2.2:Int)) rfl
  have c0:=MapKept.run_checkKey (w:=w) h0.int (k:= .int .i64 (k.1:Int)) (by simp [MapKept.IsKey]) e 9998
  have c1:=MapKept.run_checkKey (w:=w) h1.int (k:= .int .i64 (k.2.1:Int)) (by simp [MapKept.IsKey]) e 9998
  have c2:=MapKept.run_checkKey (w:=w) h2.int (k:= .int .i64 (k.2.2:Int)) (by simp [MapKept.IsKey]) e 9998
  simp only [List.forIn_cons,List.forIn_nil,h0.name,h1.name,h2.name,h0.offset,h1.offset,h2.offset,ne_eq,not_false_eq_true,if_true,Sem.run_bind,Sem.run_pure,p0,p1,p2,c0,c1,c2,Result.andThen_ok]
 find w k es kvs h:=by
  rw [run_findKey_eq w (by rw [hu])]
  refine findAsking_kidx (fun a b=>?_) k es kvs 0 h
  obtain ⟨a1,a2,a3⟩:=a
  obtain ⟨b1,b2,b3⟩:=b
  unfold enc3
  simp only
  show (Op.equalIn (9998+1+1) kt _ _).run P w=_
  rw [Op.equalIn]
  simp only [Sem.run_bind,run_underlying hu,Result.andThen_ok]
  have p0:=run_part_plain w h0.plain (xs:=#[.int .i64 (a1:Int),.int .i64 (a2:Int),.int .i64 (a3:Int)]) (off:=0) (v:= .int .i64 (a1:Int)) rfl
  have p1:=run_part_plain w h1.plain (xs:=#[.int .i64 (a1:Int),.int .i64 (a2:Int),.int .i64 (a3:Int)]) (off:=1) (v:= .int .i64 (a2:Int)) rfl
  have p2:=run_part_plain w h2.plain (xs:=#[.int .i64 (a1:Int),.int .i64 (a2:Int),.int .i64 (a3:Int)]) (off:=2) (v:= .int .i64 (a3:Int)) rfl
  have q0:=run_part_plain w h0.plain (xs:=#[.int .i64 (b1:Int),.int .i64 (b2:Int),.int .i64 (b3:Int)]) (off:=0) (v:= .int .i64 (b1:Int)) rfl
  have q1:=run_part_plain w h1.plain (xs:=#[.int .i64 (b1:Int),.int .i64 (b2:Int),.int .i64 (b3:Int)]) (off:=1) (v:= .int .i64 (b2:Int)) rfl
  have q2:=run_part_plain w h2.plain (xs:=#[.int .i64 (b1:Int),.int .i64 (b2:Int),.int .i64 (b3:Int)]) (off:=2) (v:= .int .i64 (b3:Int)) rfl
  have e0:=run_equal_int h0.int 9998 (a1:Int) (b1:Int) w
  have e1:=run_equal_int h1.int 9998 (a2:Int) (b2:Int) w
  have e2:=run_equal_int h2.int 9998 (a3:Int) (b3:Int) w
  simp only [run_program,Sem.run_bind,Result.andThen_ok,hs,Bool.false_eq_true,if_false]
  rw [← Array.forIn_toList]
  simp only [List.forIn_cons,List.forIn_nil,h0.name,h1.name,h2.name,h0.offset,h1.offset,h2.offset,ne_eq,not_false_eq_true,if_true,Sem.run_bind,p0,q0,e0,Result.andThen_ok]
  cases c0:((a1:Int)==(b1:Int)) with
  | false=>
   have: ¬ ((b1,b2,b3)=(a1,a2,a3)):=by
    simp only [beq_eq_false_iff_ne,ne_eq] at c0
    simp only [Prod.mk.injEq];omega
   simp [this]
  | true=>
   simp only [Bool.not_true,Bool.false_eq_true,if_false,Sem.run_bind,Sem.run_pure,Result.andThen_ok,p1,q1,e1]
   cases c1:((a2:Int)==(b2:Int)) with
   | false=>
    have: ¬ ((b1,b2,b3)=(a1,a2,a3)):=by
     simp only [beq_eq_false_iff_ne,ne_eq] at c1
     simp only [Prod.mk.injEq];omega
    simp [this]
   | true=>
    simp only [Bool.not_true,Bool.false_eq_true,if_false,Sem.run_bind,Sem.run_pure,Result.andThen_ok,p2,q2,e2]
    cases c2:((a3:Int)==(b3:Int)) with
    | false=>
     have: ¬ ((b1,b2,b3)=(a1,a2,a3)):=by
      simp only [beq_eq_false_iff_ne,ne_eq] at c2
      simp only [Prod.mk.injEq];omega
     simp [this]
    | true=>
     have:(b1,b2,b3)=(a1,a2,a3):=by
      simp only [beq_iff_eq] at c0 c1 c2
      simp only [Prod.mk.injEq];omega
     simp [this]
 stays w k:=by
  have:Instr.sameBits 10000 (enc3 k) (enc3 k)=true:=by
   unfold enc3
   show Instr.sameBits (9999+1) _ _=true
   simp [Instr.sameBits]
  simp [Instr.keyThatStays,this]
def threeB (P:Program) (kt:TypeId):Bool:=match P.underlying kt with
 | some (.struct fs)=>(match fs with
  | ⟨[f0,f1,f2]⟩=>intFB P f0 0&&intFB P f1 1&&intFB P f2 2&& !P.stoodInHeld kt
  | _=>false)
 | _=>false
theorem KeyT.threeOf (h:threeB P kt=true):KeyT P kt enc3:=by
 unfold threeB at h
 split at h
 ·rename_i fs hu
  split at h
  ·rename_i f0 f1 f2
   simp only [Bool.and_eq_true,Bool.not_eq_true'] at h
   exact KeyT.three hu (IntF.of h.1.1.1) (IntF.of h.1.1.2) (IntF.of h.1.2) h.2
  cases h
 cases h
theorem KeyT.two {e:TypeId} {i:TypeInfo} (hu:P.underlying kt=some (.array 2 e)) (he:P.underlying e=some (.int .i64)) (hp:P.plainKey e=true) (hi:P.info? e=some i) (hc:P.cellsOf e=1):KeyT P kt enc2 where
 check em w k:=by
  unfold enc2
  show (Instr.checkKey em (9998+1+1) kt _).run P w=_
  rw [Instr.checkKey]
  have p0:=run_part_plain w hp (xs:=#[.int .i64 (k.1:Int),.int .i64 (k.2:Int)]) (off:=0) (v:= .int .i64 (k.1:Int)) rfl
  have p1:=run_part_plain w hp (xs:=#[.int .i64 (k.1:Int),.int .i64 (k.2:Int)]) (off:=1) (v:= .int .i64 (k.2:Int)) rfl
  simp only [Sem.run_bind,run_underlying hu,Result.andThen_ok]
  have hsz:=Go.run_sizeOf w hi
  rw [hc] at hsz
  simp only [Std.Legacy.Range.forIn_eq_forIn_range',Std.Legacy.Range.size,Nat.sub_zero,Nat.add_one_sub_one,Nat.div_one]
  rw [show List.range' 0 2=[0,1] from rfl]
  have c0:=MapKept.run_checkKey (w:=w) he (k:= .int .i64 (k.1:Int)) (by simp [MapKept.IsKey]) em 9998
  have c1:=MapKept.run_checkKey (w:=w) he (k:= .int .i64 (k.2:Int)) (by simp [MapKept.IsKey]) em 9998
  simp only [List.forIn_cons,List.forIn_nil,Sem.run_bind,hsz,Result.andThen_ok,Nat.zero_mul,Nat.one_mul,p0,p1,c0,c1,Sem.run_pure]
 find w k es kvs h:=by
  rw [run_findKey_eq w (by rw [hu])]
  refine findAsking_kidx (fun a b=>?_) k es kvs 0 h
  obtain ⟨a1,a2⟩:=a
  obtain ⟨b1,b2⟩:=b
  unfold enc2
  simp only
  show (Op.equalIn (9998+1+1) kt _ _).run P w=_
  have p0:=run_part_plain w hp (xs:=#[.int .i64 (a1:Int),.int .i64 (a2:Int)]) (off:=0) (v:= .int .i64 (a1:Int)) rfl
  have p1:=run_part_plain w hp (xs:=#[.int .i64 (a1:Int),.int .i64 (a2:Int)]) (off:=1) (v:= .int .i64 (a2:Int)) rfl
  have q0:=run_part_plain w hp (xs:=#[.int .i64 (b1:Int),.int .i64 (b2:Int)]) (off:=0) (v:= .int .i64 (b1:Int)) rfl
  have q1:=run_part_plain w hp (xs:=#[.int .i64 (b1:Int),.int .i64 (b2:Int)]) (off:=1) (v:= .int .i64 (b2:Int)) rfl
  have e0:=run_equal_int he 9998 (a1:Int) (b1:Int) w
  have e1:=run_equal_int he 9998 (a2:Int) (b2:Int) w
  rw [run_equalIn_array w _ _ _ hu hi,hc]
  show (Op.eqItems _ _ _ _ _ [0,1]).run P w=_
  simp only [Op.eqItems,Sem.run_bind,Nat.zero_mul,Nat.one_mul,p0,p1,q0,q1,e0,e1,Result.andThen_ok]
  cases c0:((a1:Int)==(b1:Int)) with
  | false=>
   have: ¬ ((b1,b2)=(a1,a2)):=by
    simp only [beq_eq_false_iff_ne,ne_eq] at c0
    simp only [Prod.mk.injEq];omega
   simp [this]
  | true=>
   simp only [Bool.not_true,Bool.false_eq_true,if_false,Sem.run_bind,Sem.run_pure,Result.andThen_ok,p1,q1,e1]
   cases c1:((a2:Int)==(b2:Int)) with
   | false=>
    have: ¬ ((b1,b2)=(a1,a2)):=by
     simp only [beq_eq_false_iff_ne,ne_eq] at c1
     simp only [Prod.mk.injEq];omega
    simp [this]
   | true=>
    have:(b1,b2)=(a1,a2):=by
     simp only [beq_iff_eq] at c0 c1
     simp only [Prod.mk.injEq];omega
    simp [this]
 stays w k:=by
  have:Instr.sameBits 10000 (enc2 k) (enc2 k)=true:=by
   unfold enc2
   show Instr.sameBits (9999+1) _ _=true
   simp [Instr.sameBits]
  simp [Instr.keyThatStays,this]
def twoB (P:Program) (kt:TypeId):Bool:=match P.underlying kt with
 | some (.array 2 e)=>P.plainKey e&&P.cellsOf e==1&&(match P.underlying e with | some (.int .i64)=>true | _=>false)&&(P.info? e).isSome
 | _=>false
theorem KeyT.twoOf (h:twoB P kt=true):KeyT P kt enc2:=by
 unfold twoB at h
 split at h
 ·rename_i e hu
  simp only [Bool.and_eq_true,beq_iff_eq] at h
  have h2:=h.1.2
  split at h2
  ·rename_i he
   obtain ⟨i,hi⟩:=Option.isSome_iff_exists.1 h.2
   exact KeyT.two hu he h.1.1.1 hi h.1.1.2
  cases h2
 cases h
end
end Go.Eng
namespace Dg
theorem snocInd {α:Type} {motive:List α→Prop} (nil:motive []) (append_singleton:∀ l x,motive l→motive (l++[x])) (l:List α):motive l:=by
 have h:∀ m:List α,motive m.reverse:=by
  intro m
  induction m with
  | nil=>exact nil
  | cons x m ih=>rw [List.reverse_cons];exact append_singleton _ _ ih
 have:=h l.reverse
 rwa [List.reverse_reverse] at this
inductive BT where
 | lf (b:Bool)
 | nd (v:Nat) (lo hi:BT)
def BT.beq :BT→BT→Bool
 | .lf a,.lf b=>a==b
 | .nd v a b,.nd u c d=>v==u&&BT.beq a c&&BT.beq b d
 | _,_=>false
theorem BT.beq_iff :∀ {s t:BT},BT.beq s t=true↔s=t
 | .lf a,.lf b=>by simp [BT.beq]
 | .nd v a b,.nd u c d=>by
  simp only [BT.beq,Bool.and_eq_true,BT.beq_iff (s:=a),BT.beq_iff (s:=b),beq_iff_eq,BT.nd.injEq,and_assoc]
 | .lf a,.nd u c d=>by simp [BT.beq]
 | .nd v a b,.lf c=>by simp [BT.beq]
theorem BT.beq_self (t:BT):BT.beq t t=true:=BT.beq_iff.2 rfl
abbrev Cf :=Nat→Bool
def BT.ev :BT→Cf→Bool
 | .lf b,_=>b
 | .nd v lo hi,c=>bif c v then hi.ev c else lo.ev c
def BT.ok :Nat→BT→Prop
 | _,.lf _=>True
 | m,.nd v lo hi=>m≤v∧v<24∧lo≠hi∧lo.ok (v+1)∧hi.ok (v+1)
theorem BT.ok_mono :∀ {t:BT} {m n:Nat},t.ok n→m≤n→t.ok m
 | .lf _,_,_,_,_=>trivial
 | .nd v lo hi,m,n,h,hm=>⟨Nat.le_trans hm h.1,h.2⟩
def BT.size :BT→Nat
 | .lf _=>0
 | .nd _ lo hi=>lo.size+hi.size+1
theorem BT.size_le :∀ {t:BT} {m:Nat},t.ok m→m≤24→t.size+1≤2 ^ (24 - m)
 | .lf _,m,_,_=>Nat.one_le_two_pow
 | .nd v lo hi,m,h,hm=>by
  obtain ⟨h1,h2,_,h4,h5⟩:=h
  have a:=BT.size_le h4 (by omega)
  have b:=BT.size_le h5 (by omega)
  have e:2 ^ (24 - v)=2 ^ (24 - (v+1))+2 ^ (24 - (v+1)):=by
   rw [show 24 - v=(24 - (v+1))+1 by omega,Nat.pow_succ];omega
  have l:2 ^ (24 - v)≤2 ^ (24 - m):=Nat.pow_le_pow_right (by decide) (by omega)
  simp only [BT.size];omega
theorem BT.ev_above :∀ {t:BT} {m:Nat} {c d:Cf},t.ok m→(∀ i,m≤i→i<24→c i=d i)→t.ev c=t.ev d
 | .lf _,_,_,_,_,_=>rfl
 | .nd v lo hi,m,c,d,h,he=>by
  obtain ⟨h1,h2,_,h4,h5⟩:=h
  have a:=BT.ev_above h4 (fun i hi h24=>he i (by omega) h24)
  have b:=BT.ev_above h5 (fun i hi h24=>he i (by omega) h24)
  simp only [BT.ev,he v h1 h2,a,b]
def upd (c:Cf) (v:Nat) (b:Bool):Cf:=fun i=>if i=v then b else c i
theorem upd_self (c:Cf) (v:Nat) (b:Bool):upd c v b v=b:=if_pos rfl
theorem upd_ne (c:Cf) {v i:Nat} (b:Bool) (h:i≠v):upd c v b i=c i:=if_neg h
theorem BT.ev_upd {t:BT} {m v:Nat} (h:t.ok m) (hv:v<m) (c:Cf) (b:Bool):t.ev (upd c v b)=t.ev c:=
 BT.ev_above h (fun i hi _=>upd_ne _ _ (by omega))
theorem BT.ev_lo {v:Nat} {lo hi:BT} {m:Nat} (h:(BT.nd v lo hi).ok m) (c:Cf):(BT.nd v lo hi).ev (upd c v false)=lo.ev c:=by
 simp only [BT.ev,upd_self,cond_false]
 exact BT.ev_upd h.2.2.2.1 (Nat.lt_succ_self _) c false
theorem BT.ev_hi {v:Nat} {lo hi:BT} {m:Nat} (h:(BT.nd v lo hi).ok m) (c:Cf):(BT.nd v lo hi).ev (upd c v true)=hi.ev c:=by
 simp only [BT.ev,upd_self,cond_true]
 exact BT.ev_upd h.2.2.2.2 (Nat.lt_succ_self _) c true
theorem BT.unique :∀ {s t:BT} {m n:Nat},s.ok m→t.ok n→(∀ c,s.ev c=t.ev c)→s=t
 | .lf a,.lf b,_,_,_,_,he=>by have:=he (fun _=>false);simp only [BT.ev] at this;rw [this]
 | .lf a,.nd u c d,m,n,hs,ht,he=>by
  refine absurd ?_ ht.2.2.1
  refine BT.unique ht.2.2.2.1 ht.2.2.2.2 (fun x=>?_)
  rw [← BT.ev_lo ht x,← BT.ev_hi ht x,← he,← he];rfl
 | .nd u c d,.lf a,m,n,hs,ht,he=>by
  refine absurd ?_ hs.2.2.1
  refine BT.unique hs.2.2.2.1 hs.2.2.2.2 (fun x=>?_)
  rw [← BT.ev_lo hs x,← BT.ev_hi hs x,he,he];rfl
 | .nd v a b,.nd u c d,m,n,hs,ht,he=>by
  rcases Nat.lt_trichotomy v u with h | h | h
  ·refine absurd ?_ hs.2.2.1
   refine BT.unique hs.2.2.2.1 hs.2.2.2.2 (fun x=>?_)
   have ht':(BT.nd u c d).ok (v+1):=BT.ok_mono (m:=v+1) (n:=u) ⟨Nat.le_refl _,ht.2⟩ h
   rw [← BT.ev_lo hs x,← BT.ev_hi hs x,he,he,BT.ev_upd ht' (Nat.lt_succ_self _),BT.ev_upd ht' (Nat.lt_succ_self _)]
  ·subst h
   have h1:a=c:=BT.unique hs.2.2.2.1 ht.2.2.2.1 (fun x=>by rw [← BT.ev_lo hs x,← BT.ev_lo ht x,he])
   have h2:b=d:=BT.unique hs.2.2.2.2 ht.2.2.2.2 (fun x=>by rw [← BT.ev_hi hs x,← BT.ev_hi ht x,he])
   rw [h1,h2]
  ·refine absurd ?_ ht.2.2.1
   refine BT.unique ht.2.2.2.1 ht.2.2.2.2 (fun x=>?_)
   have hs':(BT.nd v a b).ok (u+1):=BT.ok_mono (m:=u+1) (n:=v) ⟨Nat.le_refl _,hs.2⟩ h
   rw [← BT.ev_lo ht x,← BT.ev_hi ht x,← he,← he,BT.ev_upd hs' (Nat.lt_succ_self _),BT.ev_upd hs' (Nat.lt_succ_self _)]
termination_by s t=>s.size+t.size
decreasing_by all_goals simp only [BT.size];omega
def mkN (v:Nat) (a b:BT):BT:=bif BT.beq a b then a else .nd v a b
theorem mkN_same (v:Nat) (a:BT):mkN v a a=a:=by simp [mkN,BT.beq_self]
theorem mkN_ne {v:Nat} {a b:BT} (h:a≠b):mkN v a b= .nd v a b:=by
 have:BT.beq a b=false:=by
  cases hb:BT.beq a b with
  | true=>exact absurd (BT.beq_iff.1 hb) h
  | false=>rfl
 simp [mkN,this]
theorem mkN_ok {v m:Nat} {a b:BT} (hm:m≤v) (hv:v<24) (ha:a.ok (v+1)) (hb:b.ok (v+1)):(mkN v a b).ok m:=by
 by_cases h:a=b
 ·subst h;rw [mkN_same];exact BT.ok_mono ha (by omega)
 rw [mkN_ne h];exact ⟨hm,hv,h,ha,hb⟩
theorem mkN_ev (v:Nat) (a b:BT) (c:Cf):(mkN v a b).ev c=bif c v then b.ev c else a.ev c:=by
 by_cases h:a=b
 ·subst h;rw [mkN_same];cases c v<;>rfl
 rw [mkN_ne h];rfl
abbrev Dec :=Nat×Nat×Nat
theorem getD_left {α:Type} {a b:List α} {d:α} {n:Nat} (h:n<a.length):(a++b).getD n d=a.getD n d:=by
 simp [List.getD,List.getElem?_append_left h]
theorem getD_right {α:Type} {a b:List α} {d:α} {n:Nat} (h:a.length≤n):(a++b).getD n d=b.getD (n - a.length) d:=by
 simp [List.getD,List.getElem?_append_right h]
def tabT (l:List Dec):List BT:=l.foldl (fun out x=>out++[.nd x.1 (out.getD x.2.1 (.lf false)) (out.getD x.2.2 (.lf false))]) [.lf false,.lf true]
def trs (l:List Dec) (p:Nat):BT:=(tabT l).getD p (.lf false)
theorem tabT_snoc (l:List Dec) (x:Dec):tabT (l++[x])=tabT l++[.nd x.1 (trs l x.2.1) (trs l x.2.2)]:=by
 simp only [tabT,trs,List.foldl_append,List.foldl_cons,List.foldl_nil]
theorem tabT_len :∀ l:List Dec,(tabT l).length=l.length+2:=by
 intro l
 induction l using snocInd with
 | nil=>rfl
 | append_singleton l x ih=>rw [tabT_snoc,List.length_append,ih];simp
theorem trs_zero (l:List Dec):trs l 0= .lf false∧trs l 1= .lf true:=by
 induction l using snocInd with
 | nil=>exact ⟨rfl,rfl⟩
 | append_singleton l x ih=>
  have:=tabT_len l
  unfold trs at ih ⊢
  rw [tabT_snoc,getD_left (by omega),getD_left (by omega)]
  exact ih
theorem trs_snoc_old {l:List Dec} {x:Dec} {p:Nat} (h:p<l.length+2):trs (l++[x]) p=trs l p:=by
 unfold trs;rw [tabT_snoc,getD_left (by rw [tabT_len];exact h)]
theorem trs_snoc_new (l:List Dec) (x:Dec):trs (l++[x]) (l.length+2)= .nd x.1 (trs l x.2.1) (trs l x.2.2):=by
 conv=>lhs;unfold trs
 rw [tabT_snoc,getD_right (by rw [tabT_len];exact Nat.le_refl _),tabT_len]
 simp
theorem trs_append {l m:List Dec} {p:Nat} (h:p<l.length+2):trs (l++m) p=trs l p:=by
 induction m using snocInd with
 | nil=>rw [List.append_nil]
 | append_singleton m x ih=>rw [← List.append_assoc,trs_snoc_old (by rw [List.length_append];omega),ih]
structure Mk (l:List Dec):Prop where
 kid:∀ k x,l[k]?=some x→x.1<24∧x.2.1<k+2∧x.2.2<k+2∧x.2.1≠x.2.2
 nodup:l.Nodup
theorem Mk.nil :Mk []:=⟨by simp,List.nodup_nil⟩
theorem Mk.init {l:List Dec} {x:Dec} (h:Mk (l++[x])):Mk l:=
 ⟨fun k y hy=>h.kid k y (by rw [List.getElem?_append_left (List.getElem?_eq_some_iff.1 hy).1];exact hy),(List.nodup_append.1 h.nodup).1⟩
theorem Mk.last {l:List Dec} {x:Dec} (h:Mk (l++[x])):x.1<24∧x.2.1<l.length+2∧x.2.2<l.length+2∧x.2.1≠x.2.2:=h.kid l.length x (by simp)
theorem Mk.snoc {l:List Dec} {x:Dec} (h:Mk l) (hx:x.1<24∧x.2.1<l.length+2∧x.2.2<l.length+2∧x.2.1≠x.2.2) (hn:x∉l):Mk (l++[x]):=by
 refine ⟨fun k y hy=>?_,List.nodup_append.2 ⟨h.nodup,by simp,fun a ha b hb=>?_⟩⟩
 ·by_cases hk:k<l.length
  ·rw [List.getElem?_append_left hk] at hy;exact h.kid k y hy
  have hlt:=(List.getElem?_eq_some_iff.1 hy).1
  simp at hlt
  have e:k=l.length:=by omega
  subst e
  simp at hy
  subst hy;exact hx
 simp only [List.mem_singleton] at hb
 subst hb
 exact fun e=>hn (e▸ha)
theorem Mk.at {l:List Dec}:Mk l→∀ {k:Nat} {x:Dec},l[k]?=some x→trs l (k+2)= .nd x.1 (trs l x.2.1) (trs l x.2.2):=by
 induction l using snocInd with
 | nil=>intro _ k x h;simp at h
 | append_singleton l y ih=>
  intro h k x hx
  by_cases hk:k<l.length
  ·rw [List.getElem?_append_left hk] at hx
   have hb:=h.init.kid k x hx
   rw [trs_snoc_old (by omega),trs_snoc_old (by omega),trs_snoc_old (by omega)]
   exact ih h.init hx
  ·have hlt:=(List.getElem?_eq_some_iff.1 hx).1
   simp at hlt
   have e:k=l.length:=by omega
   subst e
   simp at hx
   subst hx
   have hb:=h.last
   rw [trs_snoc_new,trs_snoc_old hb.2.1,trs_snoc_old hb.2.2.1]
theorem Mk.lf {l:List Dec} (h:Mk l) {p:Nat} {b:Bool} (hp:p<l.length+2) (he:trs l p= .lf b):p<2:=by
 rcases Nat.lt_or_ge p 2 with h2 | h2
 ·exact h2
 obtain ⟨k,rfl⟩:∃ k,p=k+2:=⟨p - 2,by omega⟩
 have hk:k<l.length:=by omega
 rw [h.at (List.getElem?_eq_getElem hk)] at he
 cases he
theorem Mk.inj {l:List Dec}:Mk l→∀ {p q:Nat},p<l.length+2→q<l.length+2→trs l p=trs l q→p=q:=by
 induction l using snocInd with
 | nil=>
  intro _ p q hp hq he
  simp at hp hq
  have h0:=(trs_zero ([]:List Dec)).1
  have h1:=(trs_zero ([]:List Dec)).2
  rcases p with _ | _ | p<;>rcases q with _ | _ | q<;>first | rfl | omega | skip
  ·rw [h0,h1] at he;simp at he
  ·rw [h0,h1] at he;simp at he
 | append_singleton l y ih=>
  intro h p q hp hq he
  have hlast:=h.last
  have key:∀ p,p<l.length+2→trs (l++[y]) p≠trs (l++[y]) (l.length+2):=by
   intro p hp he
   rw [trs_snoc_old hp,trs_snoc_new] at he
   rcases Nat.lt_or_ge p 2 with h2 | h2
   ·rcases p with _ | _ | p
    ·rw [(trs_zero l).1] at he;cases he
    ·rw [(trs_zero l).2] at he;cases he
    ·omega
   ·obtain ⟨k,rfl⟩:∃ k,p=k+2:=⟨p - 2,by omega⟩
    have hk:k<l.length:=by omega
    have hx:=List.getElem?_eq_getElem hk
    have hb:=h.init.kid k _ hx
    rw [h.init.at hx] at he
    simp only [BT.nd.injEq] at he
    obtain ⟨e1,e2,e3⟩:=he
    have e2':=ih h.init (by omega) (by omega) e2
    have e3':=ih h.init (by omega) (by omega) e3
    have e:l[k]=y:=Prod.ext e1 (Prod.ext e2' e3')
    have:=(List.nodup_append.1 h.nodup).2.2 l[k] (List.getElem_mem hk) y (by simp)
    exact this e
  simp only [List.length_append,List.length_cons,List.length_nil] at hp hq
  rcases Nat.lt_or_ge p (l.length+2) with hp' | hp'<;>rcases Nat.lt_or_ge q (l.length+2) with hq' | hq'
  ·rw [trs_snoc_old hp',trs_snoc_old hq'] at he
   exact ih h.init hp' hq' he
  ·have e:q=l.length+2:=by omega
   subst e
   exact absurd he (key p hp')
  ·have e:p=l.length+2:=by omega
   subst e
   exact absurd he.symm (key q hq')
  ·omega
def look (out:List Dec) (t:BT):Option Nat:=(List.range (out.length+2)).find? fun p=>BT.beq (trs out p) t
theorem look_some {out:List Dec} {t:BT} {p:Nat} (h:look out t=some p):p<out.length+2∧trs out p=t:=by
 unfold look at h
 have h1:=List.mem_of_find?_eq_some h
 have h2:=List.find?_some h
 exact ⟨List.mem_range.1 h1,BT.beq_iff.1 h2⟩
theorem look_none {out:List Dec} {t:BT} (h:look out t=none):∀ p,p<out.length+2→trs out p≠t:=by
 unfold look at h
 intro p hp he
 have:=List.find?_eq_none.1 h p (List.mem_range.2 hp)
 simp [he,BT.beq_self] at this
theorem look_eq {out:List Dec} (hm:Mk out) {t:BT} {p:Nat} (hp:p<out.length+2) (he:trs out p=t):look out t=some p:=by
 cases h:look out t with
 | none=>exact absurd he (look_none h p hp)
 | some q=>
  obtain ⟨h1,h2⟩:=look_some h
  rw [hm.inj h1 hp (h2.trans he.symm)]
def visitT :BT→List Dec→List Dec×Nat
 | .lf b,out=>(out,bif b then 1 else 0)
 | .nd v lo hi,out=>match look out (.nd v lo hi) with
  | some p=>(out,p)
  | none=>((visitT hi (visitT lo out).1).1++[(v,(visitT lo out).2,(visitT hi (visitT lo out).1).2)],(visitT hi (visitT lo out).1).1.length+2)
def canon (t:BT):List Dec×Nat:=visitT t []
theorem visitT_pre :∀ (t:BT) (out:List Dec),∃ r,(visitT t out).1=out++r
 | .lf b,out=>⟨[],by simp [visitT]⟩
 | .nd v lo hi,out=>by
  unfold visitT
  cases look out (.nd v lo hi) with
  | some p=>exact ⟨[],by simp⟩
  | none=>
   obtain ⟨r1,h1⟩:=visitT_pre lo out
   obtain ⟨r2,h2⟩:=visitT_pre hi (visitT lo out).1
   exact ⟨r1++r2++[(v,(visitT lo out).2,(visitT hi (visitT lo out).1).2)],by simp only;rw [h2,h1];simp⟩
theorem visitT_len (t:BT) (out:List Dec):out.length≤(visitT t out).1.length:=by
 obtain ⟨r,h⟩:=visitT_pre t out
 rw [h];simp
theorem visitT_at :∀ (t:BT) (out:List Dec),(visitT t out).2<(visitT t out).1.length+2∧trs (visitT t out).1 (visitT t out).2=t
 | .lf b,out=>by
  cases b with
  | false=>exact ⟨by simp [visitT],(trs_zero out).1⟩
  | true=>exact ⟨by simp [visitT],(trs_zero out).2⟩
 | .nd v lo hi,out=>by
  unfold visitT
  cases h:look out (.nd v lo hi) with
  | some p=>exact look_some h
  | none=>
   obtain ⟨a1,a2⟩:=visitT_at lo out
   obtain ⟨b1,b2⟩:=visitT_at hi (visitT lo out).1
   obtain ⟨r,hr⟩:=visitT_pre hi (visitT lo out).1
   refine ⟨by simp,?_⟩
   simp only
   rw [trs_snoc_new,b2]
   rw [hr,trs_append a1,a2]
theorem visitT_new :∀ (t:BT) (out:List Dec) (p:Nat),p<(visitT t out).1.length+2→p<out.length+2∨(trs (visitT t out).1 p).size≤t.size
 | .lf b,out,p,h=> .inl h
 | .nd v lo hi,out,p,h=>by
  unfold visitT at h ⊢
  cases hl:look out (.nd v lo hi) with
  | some q=>rw [hl] at h;exact .inl h
  | none=>
   rw [hl] at h
   simp only [List.length_append,List.length_cons,List.length_nil] at h ⊢
   by_cases hp:p=(visitT hi (visitT lo out).1).1.length+2
   ·right
    subst hp
    obtain ⟨a1,a2⟩:=visitT_at lo out
    obtain ⟨b1,b2⟩:=visitT_at hi (visitT lo out).1
    obtain ⟨r,hr⟩:=visitT_pre hi (visitT lo out).1
    rw [trs_snoc_new,b2]
    have:trs (visitT hi (visitT lo out).1).1 (visitT lo out).2=lo:=by rw [hr,trs_append a1,a2]
    simp only [this]
    exact Nat.le_refl _
   ·have hp':p<(visitT hi (visitT lo out).1).1.length+2:=by omega
    rw [trs_snoc_old hp']
    rcases visitT_new hi (visitT lo out).1 p hp' with h2 | h2
    ·rcases visitT_new lo out p h2 with h3 | h3
     ·exact .inl h3
     ·obtain ⟨r,hr⟩:=visitT_pre hi (visitT lo out).1
      rw [hr,trs_append h2]
      right;simp only [BT.size];omega
    ·right;simp only [BT.size];omega
theorem visitT_fresh {v:Nat} {lo hi:BT} {out:List Dec} (h:look out (.nd v lo hi)=none):∀ p,p<(visitT hi (visitT lo out).1).1.length+2→trs (visitT hi (visitT lo out).1).1 p≠ .nd v lo hi:=by
 intro p hp he
 rcases visitT_new hi (visitT lo out).1 p hp with h2 | h2
 ·rcases visitT_new lo out p h2 with h3 | h3
  ·obtain ⟨r1,h1⟩:=visitT_pre lo out
   obtain ⟨r2,h4⟩:=visitT_pre hi (visitT lo out).1
   rw [h4,trs_append h2,h1,trs_append h3] at he
   exact look_none h p h3 he
  obtain ⟨r,hr⟩:=visitT_pre hi (visitT lo out).1
  rw [hr,trs_append h2] at he
  rw [he] at h3
  simp only [BT.size] at h3;omega
 rw [he] at h2
 simp only [BT.size] at h2;omega
theorem visitT_mk :∀ {t:BT} {m:Nat} {out:List Dec},t.ok m→Mk out→Mk (visitT t out).1
 | .lf b,_,out,_,h=>h
 | .nd v lo hi,m,out,ht,h=>by
  unfold visitT
  cases hl:look out (.nd v lo hi) with
  | some q=>exact h
  | none=>
   have h1:=visitT_mk ht.2.2.2.1 h
   have h2:=visitT_mk ht.2.2.2.2 h1
   obtain ⟨a1,a2⟩:=visitT_at lo out
   obtain ⟨b1,b2⟩:=visitT_at hi (visitT lo out).1
   obtain ⟨r,hr⟩:=visitT_pre hi (visitT lo out).1
   have a2':trs (visitT hi (visitT lo out).1).1 (visitT lo out).2=lo:=by rw [hr,trs_append a1,a2]
   have a1':(visitT lo out).2<(visitT hi (visitT lo out).1).1.length+2:=Nat.lt_of_lt_of_le a1 (by have:=visitT_len hi (visitT lo out).1;omega)
   refine h2.snoc ⟨ht.2.1,a1',b1,fun e=>?_⟩ (fun hm=>?_)
   ·simp only at e
    rw [e,b2] at a2'
    exact ht.2.2.1 a2'.symm
   ·obtain ⟨k,hk⟩:=List.getElem?_of_mem hm
    have:=h2.at hk
    simp only at this
    rw [a2',b2] at this
    have hlt:=(List.getElem?_eq_some_iff.1 hk).1
    exact visitT_fresh hl (k+2) (by omega) this
theorem visitT_grow :∀ (t:BT) (out:List Dec),(visitT t out).1.length≤out.length+t.size
 | .lf b,out=>Nat.le_refl _
 | .nd v lo hi,out=>by
  unfold visitT
  cases look out (.nd v lo hi) with
  | some q=>simp
  | none=>
   have h1:=visitT_grow lo out
   have h2:=visitT_grow hi (visitT lo out).1
   simp only [List.length_append,List.length_cons,List.length_nil,BT.size];omega
theorem canon_mk {t:BT} {m:Nat} (h:t.ok m):Mk (canon t).1:=visitT_mk h Mk.nil
theorem canon_at (t:BT):(canon t).2<(canon t).1.length+2∧trs (canon t).1 (canon t).2=t:=visitT_at t []
theorem canon_len {t:BT} (h:t.ok 0):(canon t).1.length<16777216:=by
 have h1:=visitT_grow t []
 have h2:=BT.size_le h (by decide)
 have h3:(canon t).1.length≤t.size:=by simpa [canon] using h1
 have:(2:Nat) ^ (24 - 0)=16777216:=by decide
 omega
theorem canon_lf {t:BT} (h:t.ok 0) (b:Bool):(canon t).2=(bif b then 1 else 0)↔t= .lf b:=by
 constructor
 ·intro e
  rw [← (canon_at t).2,e]
  cases b
  ·exact (trs_zero _).1
  exact (trs_zero _).2
 rintro rfl;rfl
end Dg
