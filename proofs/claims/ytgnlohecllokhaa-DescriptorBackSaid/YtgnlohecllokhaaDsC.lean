/-
  Walks of chapter 11: the bytes of descriptors, the reference.
-/
import Derived.Test.YtgnlohecllokhaaDsB
namespace Go.Proofs.Ytgnlohecllokhaa
set_option linter.unusedVariables false
set_option linter.unusedSimpArgs false
end Go.Proofs.Ytgnlohecllokhaa
