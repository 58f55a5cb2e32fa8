/-
  The laws DescriptorCuts and DescriptorTwice: the walks.
-/
import Derived.Test.YtgnlohecllokhaaMdI
namespace Go.Proofs.Ytgnlohecllokhaa
set_option linter.unusedVariables false
set_option linter.unusedSimpArgs false
theorem encB_top (d : Ds) (h : dsV d = true) : (encB d).length ≤ 20004 ∧ (encB d).length = (bodyB d).length + 4 := by
  rw [encB, seal_len]
  have := bodyB_len d h
  omega
end Go.Proofs.Ytgnlohecllokhaa
