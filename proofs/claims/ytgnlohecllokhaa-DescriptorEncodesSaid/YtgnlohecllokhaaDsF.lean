/-
  Walks of chapter 11: reading descriptors, the reference's reader.
-/
import Derived.Test.YtgnlohecllokhaaDsE
namespace Go.Proofs.Ytgnlohecllokhaa
set_option linter.unusedVariables false
set_option linter.unusedSimpArgs false
end Go.Proofs.Ytgnlohecllokhaa
