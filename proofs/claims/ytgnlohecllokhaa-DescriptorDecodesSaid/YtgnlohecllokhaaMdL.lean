/-
  The law DescriptorTwice: the walk.
-/
import Derived.Test.YtgnlohecllokhaaMdK
namespace Go.Proofs.Ytgnlohecllokhaa
set_option linter.unusedVariables false
set_option linter.unusedSimpArgs false
end Go.Proofs.Ytgnlohecllokhaa
