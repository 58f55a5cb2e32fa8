/-
  Walks of chapter 11: the bounds of given boxes.
-/
import Derived.Test.YtgnlohecllokhaaMdE
namespace Go.Proofs.Ytgnlohecllokhaa
set_option linter.unusedVariables false
set_option linter.unusedSimpArgs false
def keepM (m : List (List Int)) : Bool := m.all fun x => decide (x.length ≤ 12)
def keepOk (b : Bx) : Bool := decide (b.rates.length ≤ 70) && (decide (b.sizes.length ≤ 70) && (decide (b.maps.length ≤ 20) && keepM b.maps))
def keepB (l : List Bx) (n : Int) : Bool := decide ((l.length : Int) ≤ n) && l.all keepOk
end Go.Proofs.Ytgnlohecllokhaa
