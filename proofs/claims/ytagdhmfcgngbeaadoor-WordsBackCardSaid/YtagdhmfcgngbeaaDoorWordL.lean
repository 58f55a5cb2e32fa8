/-
  The laws WordsSplit, WordsJoin, WordsOnce over values without addresses.
-/
import Derived.Test.YtagdhmfcgngbeaaDoorWordK
import Derived.Test.YtagdhmfcgngbeaaDoorASh
namespace Go.Proofs.YtagdhmfcgngbeaaDoor
set_option linter.unusedVariables false
set_option linter.unusedSimpArgs false
theorem wds_of : ∀ (xs : List (List PV)), (∀ x ∈ xs, Sh.str.fits x) → ∃ l, xs = wdsP l := by
  intro xs
  induction xs with
  | nil => intro _; exact ⟨[], rfl⟩
  | cons x xs ih =>
    intro h
    obtain ⟨l, rfl⟩ := ih (fun y hy => h y (List.mem_cons_of_mem _ hy))
    obtain ⟨s, rfl, _⟩ := h x (by simp)
    exact ⟨s :: l, rfl⟩
end Go.Proofs.YtagdhmfcgngbeaaDoor
