/-
  The arguments of the law SessionCompacts.
-/
import Derived.Test.YtbbcokckealagaaGreatQEG
import Derived.Test.YtbbcokckealagaaGreatScD
namespace Go.Proofs.YtbbcokckealagaaGreat
set_option linter.unusedVariables false
set_option linter.unusedSimpArgs false
end Go.Proofs.YtbbcokckealagaaGreat
