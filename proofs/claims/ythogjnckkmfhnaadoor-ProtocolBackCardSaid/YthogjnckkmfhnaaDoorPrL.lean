/-
  Plain law of chapter 35: program and reference have the same valid requests.
-/
import Derived.Test.YthogjnckkmfhnaaDoorPrK
namespace Go.Proofs.YthogjnckkmfhnaaDoor
set_option linter.unusedVariables false
set_option linter.unusedSimpArgs false
theorem validL_no (r : Rq) : ∀ L : List Fm, (∀ f ∈ L, f.1 ≠ r.kind) → validL r L = false
  | [], _ => rfl
  | f :: L, h => by
    rw [validL, if_neg (h f (by simp))]
    exact validL_no r L fun g hg => h g (List.mem_cons_of_mem _ hg)
set_option maxHeartbeats 4000000 in
theorem valid_eq (r : Rq) : validQ r = rvalidQ r := by
  by_cases hk : 1 ≤ r.kind ∧ r.kind ≤ 12
  · have : r.kind = 1 ∨ r.kind = 2 ∨ r.kind = 3 ∨ r.kind = 4 ∨ r.kind = 5 ∨ r.kind = 6 ∨ r.kind = 7 ∨ r.kind = 8 ∨ r.kind = 9 ∨ r.kind = 10 ∨ r.kind = 11 ∨ r.kind = 12 := by omega
    obtain ⟨kind, id, role, dir, ch, rate, lat, n, dev, data, text⟩ := r
    simp only at this
    rcases this with rfl | rfl | rfl | rfl | rfl | rfl | rfl | rfl | rfl | rfl | rfl | rfl
    all_goals (rw [Bool.eq_iff_iff]; simp [validQ, validL, formsL, fieldsB, rightB, setQ, rvalidQ, cleanQ, cleanA, sameB, wiB, opensB])
    all_goals grind
  · have h1 : validQ r = false := by
      refine validL_no r _ ?_
      intro f hf e
      have : ∀ f ∈ formsL, 1 ≤ f.1 ∧ f.1 ≤ 12 := by decide
      have := this f hf
      omega
    have h2 : wiB r.kind 1 12 = false := by
      unfold wiB
      simp; omega
    rw [h1, rvalidQ, if_pos (Or.inl (Or.inl h2))]
end Go.Proofs.YthogjnckkmfhnaaDoor
