import Derived.Test.YtkgllhkhdjodeaaGreatSpec4
set_option linter.unusedSimpArgs false
set_option linter.unusedVariables false
namespace Fm
open Go Go.Eng
/-! ### clauses -/
def litB (n l : Int) : Bool := !(l == 0) && decide (-n ≤ l) && decide (l ≤ n)
def fitsB (n : Int) (c : List Int) : Bool := decide (c.length ≤ 64) && c.all (litB n)
def mayE (n : Int) (ls : List (List Int)) : Int := if n < 0 ∨ 24 < n then 3 else if 4096 < ls.length then 2 else if ls.all (fitsB n) then 0 else 2
abbrev Kn := Nat × Nat
def hasK (k : Kn) (l : Int) : Bool := if 0 < l then k.1.testBit (l - 1).toNat else k.2.testBit (-l - 1).toNat
def withK (k : Kn) (l : Int) : Kn := if 0 < l then (k.1 ||| 2 ^ (l - 1).toNat, k.2) else (k.1, k.2 ||| 2 ^ (-l - 1).toNat)
def unitG (k : Kn) (op : Int) : List Int → Int × Bool
  | [] => (op, true)
  | l :: ls => if hasK k l then (0, false) else if hasK k (-l) || l == op then unitG k op ls else if op ≠ 0 then (0, false) else unitG k l ls
def unitK (k : Kn) (c : List Int) : Int × Bool := unitG k 0 c
def clash (k : Kn) : Bool := !(k.1 &&& k.2 == 0)
/-- One pass over the clauses: the conflict's literals, or the literals and whether there is one more. -/
def passK : List (List Int) → Kn → Bool → Kn ⊕ (Kn × Bool)
  | [], k, again => .inr (k, again)
  | c :: cs, k, again => if clash k then .inl k else if (unitK k c).2 && (unitK k c).1 == 0 then .inl k else if (unitK k c).2 then passK cs (withK k (unitK k c).1) true else passK cs k again
def closedF : Nat → List (List Int) → Kn → Option (Kn × Bool)
  | 0, _, _ => none
  | n + 1, ls, k => match passK ls k false with
    | .inl k' => some (k', false)
    | .inr (k', again) => if again then closedF n ls k' else some (k', !clash k')
/-- The first feature from i down that is not yet decided. -/
def openK (k : Kn) : Nat → Nat
  | 0 => 0
  | i + 1 => if !hasK k ((i + 1 : Nat) : Int) && !hasK k (-((i + 1 : Nat) : Int)) then i + 1 else openK k i
structure Ans where
  ok : Bool
  model : Nat
  proof : List (List Int)
/-- The search: where it stands is whether the last step was a conflict. -/
def solveF (n : Nat) : Nat → Bool → List (List Int) → List Int → List (List Int) → Option Ans
  | 0, _, _, _, _ => none
  | f + 1, false, all, path, proof => match closedF 65 all (path.foldl withK (0, 0)) with
    | none => none
    | some (k, true) => if openK k n = 0 then some ⟨true, k.1, []⟩ else solveF n f false all (path ++ [-(openK k n : Int)]) proof
    | some (k, false) => solveF n f true all path proof
  | f + 1, true, all, path, proof =>
    let step := path.map (fun x => -x)
    match path.getLast? with
    | none => some ⟨false, 0, proof ++ [step]⟩
    | some last => if last < 0 then solveF n f false (all ++ [step]) (path.dropLast ++ [-last]) (proof ++ [step]) else solveF n f true (all ++ [step]) path.dropLast (proof ++ [step])
end Fm

