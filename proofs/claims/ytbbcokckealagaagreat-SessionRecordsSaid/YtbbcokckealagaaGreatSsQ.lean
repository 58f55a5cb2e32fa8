/-
  The arguments of the laws of sessions.
-/
import Derived.Test.YtbbcokckealagaaGreatSsP
import Derived.Test.YtbbcokckealagaaGreatASh
namespace Go.Proofs.YtbbcokckealagaaGreat
set_option linter.unusedVariables false
set_option linter.unusedSimpArgs false
theorem sFits_of (xs : List (List PV)) (w : xs.length ≤ maxLen) (h : ∀ x ∈ xs, (Sh.int .i64).fits x) : ∃ l, xs = ivs l ∧ Fits l := by
  obtain ⟨l, rfl, hl⟩ := ints_of .i64 xs h
  exact ⟨l, rfl, by simpa [maxLen] using w, fun n hn => wfi64 (hl n hn)⟩
abbrev recSh : Sh := .st [.int .i64, .int .i64, .str, .int .i64, .int .i64, .int .i64, .int .i64, .int .i64, .int .u64, .sl (.int .u64), .str]
end Go.Proofs.YtbbcokckealagaaGreat
