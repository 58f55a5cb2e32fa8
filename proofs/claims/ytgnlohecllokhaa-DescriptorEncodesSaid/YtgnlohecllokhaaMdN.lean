/-
  The law DescriptorDecodes: the walk.
-/
import Derived.Test.YtgnlohecllokhaaMdL
namespace Go.Proofs.Ytgnlohecllokhaa
set_option linter.unusedVariables false
set_option linter.unusedSimpArgs false
abbrev llP (L : List (List UInt8)) : List (List PV) := L.map fun p => [PV.sl 1 (bsP p)]
end Go.Proofs.Ytgnlohecllokhaa
