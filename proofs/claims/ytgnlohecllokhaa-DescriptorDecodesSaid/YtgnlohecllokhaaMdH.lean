/-
  Walks of chapter 11: changed descriptors.
-/
import Derived.Test.YtgnlohecllokhaaMdG
namespace Go.Proofs.Ytgnlohecllokhaa
set_option linter.unusedVariables false
set_option linter.unusedSimpArgs false
def spT : List (List UInt8) := [[], [49, 97], [97, 32, 98], [120]]
def spoilD (d : Ds) (w n : Int) : Ds :=
  if w % 10 = 0 then { d with dir := n % 4 }
  else if w % 10 = 1 then { d with dom := 65530 + n % 12 }
  else if w % 10 = 2 then { d with lat := 1048574 + n % 4 }
  else if w % 10 = 3 then { d with drift := 2046 + n % 4 }
  else if w % 10 = 4 then { d with jit := 4094 + n % 4 }
  else if w % 10 = 5 then { d with name := spT.getD (n % 4).toNat [] }
  else if w % 10 = 6 then { d with boxes := [] }
  else if w % 10 = 7 then { d with boxes := d.boxes ++ List.replicate (7 + (n % 3).toNat - d.boxes.length) (d.boxes.headD {}) }
  else d
end Go.Proofs.Ytgnlohecllokhaa
