/-
  The law DescriptorBack: the walk.
-/
import Derived.Test.YtgnlohecllokhaaMdJ
namespace Go.Proofs.Ytgnlohecllokhaa
set_option linter.unusedVariables false
set_option linter.unusedSimpArgs false
end Go.Proofs.Ytgnlohecllokhaa
