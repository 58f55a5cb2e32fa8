/-
  Walk of chapter 11: Decode, the reference.
-/
import Derived.Test.YtgnlohecllokhaaDsF
import Derived.Test.YtgnlohecllokhaaDsC
namespace Go.Proofs.Ytgnlohecllokhaa
set_option linter.unusedVariables false
set_option linter.unusedSimpArgs false
end Go.Proofs.Ytgnlohecllokhaa
