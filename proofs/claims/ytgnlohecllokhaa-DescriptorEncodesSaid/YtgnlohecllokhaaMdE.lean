/-
  Walks of chapters 10 and 11: sameness of boxes and descriptors.
-/
import Derived.Test.YtgnlohecllokhaaMdD
namespace Go.Proofs.Ytgnlohecllokhaa
set_option linter.unusedVariables false
set_option linter.unusedSimpArgs false
end Go.Proofs.Ytgnlohecllokhaa
