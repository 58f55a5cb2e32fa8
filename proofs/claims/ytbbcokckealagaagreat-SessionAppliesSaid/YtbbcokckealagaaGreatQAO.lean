/-
  Walk of the rules: the fold of a condition, by nothing: whether it is proper.
-/
import Derived.Test.YtbbcokckealagaaGreatQAN
namespace Go.Proofs.YtbbcokckealagaaGreat
set_option linter.unusedVariables false
set_option linter.unusedSimpArgs false
abbrev unP (n : Nat) : List (List PV) := List.replicate n []
def foldN : Nat → List Tm → Option Nat
  | n, [] => some n
  | n, t :: r => if badT n t = true then none else foldN (n - (arityF t.1).toNat + 1) r
def foldNE (c : List Tm) : Bool := if 16 < c.length then false else decide (foldN 0 c = some 1)
def properF (c : List Tm) : Bool := foldNE c || decide (c = [])
abbrev ruC (r : Ru) (f : Bool) : List AV := r.hd.cells ++ [.sl 2 (tmP r.cond) f]
def validF (r : Ru) : Bool :=
  if properF r.cond = true ∧ nameB r.hd.role = true then
    (if r.hd.kind = 1 then nameB r.hd.cls && decide (r.hd.pct = 0)
     else if r.hd.kind = 2 then (decide (r.hd.cls = []) && decide (0 ≤ r.hd.pct)) && decide (r.hd.pct ≤ 100)
     else if r.hd.kind = 3 then decide (r.hd.cls = []) && decide (r.hd.pct = 0) else false)
  else false
theorem foldN_app : ∀ (x : List Tm) (n : Nat) (y : List Tm), foldN n (x ++ y) = (foldN n x).bind fun d => foldN d y
  | [], n, y => rfl
  | t :: x, n, y => by
    rw [List.cons_append, foldN, foldN]
    split
    · rfl
    · exact foldN_app x _ y
def Prop1 (c : List Tm) : Prop := foldN 0 c = some 1
end Go.Proofs.YtbbcokckealagaaGreat
