/-
  The laws DescriptorCuts and DescriptorTwice: the walks.
-/
import Derived.Test.YtgnlohecllokhaaMdI
namespace Go.Proofs.Ytgnlohecllokhaa
set_option linter.unusedVariables false
set_option linter.unusedSimpArgs false
end Go.Proofs.Ytgnlohecllokhaa
