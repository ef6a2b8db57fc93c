/- Parts of the walk, put together by a program. By an AI agent. -/
import Derived.Test.YtedbajbgnmaakaaGreatDoorPaSourceLists6
set_option linter.unusedSimpArgs false
set_option linter.unusedVariables false
namespace Go.Proofs.YtedbajbgnmaakaaGreatDoor
open Go Go.Eng Go.Proofs Dg
set_option maxRecDepth 100000 in
set_option maxHeartbeats 4000000 in
theorem symD_c (g n c kc:Nat) (us cap:List Value) (Q:DgV→Prop) (cmp:DgV→DgV→Int) (hw:Swo (ltC cmp)) (hkc:funB Tryz.prog kc=some true) (hnc:n≤1000000):∀ (N:Nat) (P X Y S:List DgV) (a m b:Nat) (ha:a=P.length) (hm:m=P.length+X.length) (hb:b=P.length+X.length+Y.length) (hN:X.length+Y.length≤N) (hx0:0<X.length) (hy0:0<Y.length) (hX:Srt (ltC cmp) X) (hY:Srt (ltC cmp) Y) (hn:(P++(X++(Y++S))).length=n) (hQx:∀ x∈X,Q x) (hQy:∀ y∈Y,Q y) (w:World) (hcmp:CmpOk kc us cap dgC Q cmp w g) (hS0:St w [g] [jW g n c 95 6 ((P++(X++(Y++S))).flatMap dgC)] w),
  Calls Tryz.prog 161 [.slice (some ⟨g,0,none⟩) n c,.int .i64 (a:Int),.int .i64 (m:Int),.int .i64 (b:Int),.func (.func kc) us.toArray cap.toArray].toArray w fun e w'=>e= .returned (.tuple #[])∧St w [g] [jW g n c 95 6 ((P++(mrg (ltC cmp) X Y++S)).flatMap dgC)] w':=by
 let q1:Nat:=95
 let q2:Nat:=6
 let q3:=dgC
 have q4:= @F.sl31
 have q5:= @F.agg95
 have q6:= @F.fun190
 have q7:= @row_O1D
 have q8:= @row_O2D
 have q9:= @rotD_c
 have q10:= @F.fun161
 have qO:∀ x,∀ u∈dgC x,u.oneCell'=true:=fun x=>jO
 exact symK_c_s
end Go.Proofs.YtedbajbgnmaakaaGreatDoor
