/-
  Walks of the reference's Number and Format.
-/
import Derived.Test.YtpacgphnpalepaaDoorQAA
import Derived.Test.YtpacgphnpalepaaDoorIto
import Derived.Test.YtpacgphnpalepaaDoorQAF
namespace Go.Proofs.YtpacgphnpalepaaDoor
set_option linter.unusedVariables false
set_option linter.unusedSimpArgs false
end Go.Proofs.YtpacgphnpalepaaDoor
