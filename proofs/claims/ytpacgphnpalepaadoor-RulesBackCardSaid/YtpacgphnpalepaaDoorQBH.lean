/-
  Walks of the reference's rules: which conditions are true.
-/
import Derived.Test.YtpacgphnpalepaaDoorQBA
import Derived.Test.YtpacgphnpalepaaDoorQAN
import Derived.Test.YtpacgphnpalepaaDoorQAP
import Derived.Test.YtpacgphnpalepaaDoorQAI
import Derived.Test.YtpacgphnpalepaaDoorQAJ
import Derived.Test.YtpacgphnpalepaaDoorQAO
import Derived.Test.YtpacgphnpalepaaDoorASh
namespace Go.Proofs.YtpacgphnpalepaaDoor
set_option linter.unusedVariables false
set_option linter.unusedSimpArgs false
theorem stepC_le {l : List Int} {s : Cs} (h : s.a ≤ l.length) : (stepC l s).a ≤ l.length := by
  rw [stepC]
  split
  · exact dkA_le h
  split
  · exact dkA_le h
  split
  · exact dkA_le (dkA_le h)
  · exact dkA_le (dkA_le h)
theorem runC_le {l : List Int} : ∀ (k : Nat) (s : Cs), s.a ≤ l.length → (runC l k s).a ≤ l.length
  | 0, _, h => h
  | k + 1, s, h => runC_le k _ (stepC_le h)
theorem endC_le {l : List Int} : ∀ (k : Nat) (s : Cs), s.a ≤ l.length → (endC l k s).a ≤ l.length
  | 0, _, h => h
  | k + 1, s, h => endC_le k _ (dkA_le h)
theorem condA_le (l : List Int) (a : Nat) (h : a ≤ l.length) : condA l a ≤ l.length := endC_le _ _ (runC_le _ _ (dkA_le h))
end Go.Proofs.YtpacgphnpalepaaDoor
