/-
  Walk of the law SessionApplies.
-/
import Derived.Test.YtbbcokckealagaaGreatQAA
import Derived.Test.YtbbcokckealagaaGreatQEG
namespace Go.Proofs.YtbbcokckealagaaGreat
set_option linter.unusedVariables false
set_option linter.unusedSimpArgs false
theorem badP_ok {r : Rc} {w : Int} (h : r.ok) (ht : r.text.length ≤ 100) (hs : r.set.length ≤ 1000000) : (badP r w).ok ∧ (badP r w).text.length ≤ 100 := by
  obtain ⟨h1, h2, h3⟩ := h
  rw [badP]
  (repeat' split)
  all_goals first
    | exact ⟨⟨h1, h2, h3⟩, ht⟩
    | exact ⟨⟨h1, h2, by simp⟩, by simp⟩
    | exact ⟨⟨h1, by simp only [List.length_cons]; omega, h3⟩, ht⟩
theorem recP_set (l : List Int) (a : Nat) (ha : a ≤ l.length) : (recP l a).1.set.length ≤ 1000000 := by
  rw [recP]
  have b1 := dkA_le ha
  generalize dkA l a = a1 at b1
  generalize kindAt (dkN l a 9).toNat = k
  obtain ⟨c1, c2, c3⟩ := choiceP_ok l a1 b1
  have := proper_small c1
  rw [recB]
  (repeat' split) <;> first | (simp; done) | (simp only; omega)
end Go.Proofs.YtbbcokckealagaaGreat
