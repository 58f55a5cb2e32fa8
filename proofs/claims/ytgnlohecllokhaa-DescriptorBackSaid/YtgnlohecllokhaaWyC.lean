/-
  Walks of chapter 1: numbers, texts and sums, the reference.
-/
import Derived.Test.YtgnlohecllokhaaWyB
namespace Go.Proofs.Ytgnlohecllokhaa
set_option linter.unusedVariables false
set_option linter.unusedSimpArgs false
end Go.Proofs.Ytgnlohecllokhaa
