/-
  The arguments of the laws of sessions.
-/
import Derived.Test.YtbbcokckealagaaGreatSsP
import Derived.Test.YtbbcokckealagaaGreatASh
namespace Go.Proofs.YtbbcokckealagaaGreat
set_option linter.unusedVariables false
set_option linter.unusedSimpArgs false
theorem sFits_of (xs : List (List PV)) (w : xs.length ≤ maxLen) (h : ∀ x ∈ xs, (Sh.int .i64).fits x) : ∃ l, xs = ivs l ∧ Fits l := by
  obtain ⟨l, rfl, hl⟩ := ints_of .i64 xs h
  exact ⟨l, rfl, by simpa [maxLen] using w, fun n hn => wfi64 (hl n hn)⟩
abbrev recSh : Sh := .st [.int .i64, .int .i64, .str, .int .i64, .int .i64, .int .i64, .int .i64, .int .i64, .int .u64, .sl (.int .u64), .str]
theorem rec_of (y : List PV) (hy : recSh.fits y) : ∃ r : Rc, y = r.pv ∧ r.ok := by
  obtain ⟨_, _, rfl, ⟨k, rfl, _⟩, _, _, rfl, ⟨i, rfl, _⟩, _, _, rfl, ⟨ro, rfl, h1⟩, _, _, rfl, ⟨d, rfl, _⟩, _, _, rfl, ⟨c, rfl, _⟩, _, _, rfl, ⟨ra, rfl, _⟩, _, _, rfl, ⟨la, rfl, _⟩, _, _, rfl, ⟨n, rfl, _⟩, _, _, rfl, ⟨dv, rfl, _⟩, _, _, rfl, ⟨xs, rfl, wx, ex⟩, _, g, rfl, ⟨tx, rfl, h2⟩, hd⟩ := hy
  obtain rfl : g = [] := hd
  obtain ⟨l, rfl, _⟩ := ints_of .u64 xs ex
  refine ⟨⟨k, i, ro, d, c, ra, la, n, dv, l, tx⟩, rfl, by simpa [maxLen] using h1, ?_, by simpa [maxLen] using h2⟩
  simpa [maxLen] using wx
end Go.Proofs.YtbbcokckealagaaGreat
