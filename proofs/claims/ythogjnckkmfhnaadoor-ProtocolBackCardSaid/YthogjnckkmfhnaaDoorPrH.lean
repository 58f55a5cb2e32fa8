/-
  Walks of chapter 35: which request words seem to be.
-/
import Derived.Test.YthogjnckkmfhnaaDoorPrG
namespace Go.Proofs.YthogjnckkmfhnaaDoor
set_option linter.unusedVariables false
set_option linter.unusedSimpArgs false
def kGo (w : List UInt8) : List (List UInt8) → Nat → Int → Int
  | [], _, a => a
  | v :: vs, k, a => kGo w vs (k + 1) (if w = v then (k : Int) else a)
theorem kGo_bd (w : List UInt8) : ∀ (vs : List (List UInt8)) (k : Nat) (a : Int), 0 ≤ a → a ≤ 12 → k + vs.length ≤ 13 → 0 ≤ kGo w vs k a ∧ kGo w vs k a ≤ 12
  | [], k, a, h1, h2, h3 => ⟨h1, h2⟩
  | v :: vs, k, a, h1, h2, h3 => by
    rw [kGo]
    rw [List.length_cons] at h3
    refine kGo_bd w vs (k + 1) _ ?_ ?_ (by omega)
    · split <;> omega
    · split <;> omega
def kindQ (w : List UInt8) : Int := kGo w wordsT.tail 1 0
theorem kindQ_bd (w : List UInt8) : 0 ≤ kindQ w ∧ kindQ w ≤ 12 := kGo_bd w _ _ _ (by decide) (by decide) (by decide)
def gA (l : List (List UInt8)) : Rq := if ¬ kindQ (atQ l 0) = 11 ∧ ¬ kindQ (atQ l 0) = 12 then { kind := kindQ (atQ l 0), id := numQ (atQ l 1) } else { kind := kindQ (atQ l 0) }
def guessQ (l : List (List UInt8)) : Rq :=
  if kindQ (atQ l 0) = 1 then (if atQ l 3 = [99, 97, 112, 116, 117, 114, 101] then { gA l with role := atQ l 2, dir := 2, ch := numQ (atQ l 4), rate := numQ (atQ l 5), lat := numQ (atQ l 6) } else { gA l with role := atQ l 2, dir := 1, ch := numQ (atQ l 4), rate := numQ (atQ l 5), lat := numQ (atQ l 6) })
  else if kindQ (atQ l 0) = 6 ∨ kindQ (atQ l 0) = 9 then { gA l with n := numQ (atQ l 2) }
  else if kindQ (atQ l 0) = 7 then (if atQ l 2 = [111, 110] then { gA l with n := 1 } else gA l)
  else if kindQ (atQ l 0) = 8 then { gA l with data := atQ l 2 }
  else if kindQ (atQ l 0) = 10 then { gA l with dev := numQ (atQ l 2) % 18446744073709551616 }
  else if kindQ (atQ l 0) = 11 then { gA l with text := atQ l 1 }
  else gA l
theorem atQ_le (l : List (List UInt8)) (m : Nat) (h : ∀ w ∈ l, w.length ≤ m) (i : Nat) : (atQ l i).length ≤ m := by
  unfold atQ
  rcases Nat.lt_or_ge i l.length with hi | hi
  · simp only [List.getD_eq_getElem?_getD, hi, List.getElem?_eq_getElem, Option.getD_some]
    exact h _ (List.getElem_mem _)
  · simp [hi]
theorem guessQ_ok (l : List (List UInt8)) (h : ∀ w ∈ l, w.length ≤ 4096) : (guessQ l).role.length ≤ 4096 ∧ (guessQ l).data.length ≤ 4096 := by
  have h2 := atQ_le l 4096 h 2
  have hA : (gA l).role = [] ∧ (gA l).data = [] := by unfold gA; split <;> exact ⟨rfl, rfl⟩
  unfold guessQ
  (repeat' split) <;> simp [hA.1, hA.2, h2]
theorem guessQ_rng (l : List (List UInt8)) (h : ∀ w ∈ l, w.length ≤ 4096) (hv : rvalidQ (guessQ l) = true) : (guessQ l).rng := by
  have h2 := (guessQ_ok l h).2
  have hk := kindQ_bd (atQ l 0)
  have b1 := numQ_bd (atQ l 1)
  have b2 := numQ_bd (atQ l 2)
  have b4 := numQ_bd (atQ l 4)
  have b5 := numQ_bd (atQ l 5)
  have b6 := numQ_bd (atQ l 6)
  have hA : 0 ≤ (gA l).kind ∧ (gA l).kind ≤ 12 ∧ (-9223372036854775808 ≤ (gA l).id ∧ (gA l).id ≤ 9223372036854775807) ∧ (gA l).ch = 0 ∧ (gA l).rate = 0 ∧ (gA l).lat = 0 ∧ (gA l).n = 0 := by
    unfold gA; split <;> refine ⟨?_, ?_, ⟨?_, ?_⟩, rfl, rfl, rfl, rfl⟩ <;> simp only <;> omega
  refine ⟨?_, ?_, ?_, ?_, ?_, ?_, ?_, by omega⟩
  · unfold guessQ
    (repeat' split) <;> (try dsimp only) <;> omega
  · unfold guessQ
    (repeat' split) <;> (try dsimp only) <;> omega
  · unfold guessQ
    (repeat' split) <;> (try dsimp only) <;> omega
  · unfold guessQ
    (repeat' split) <;> (try dsimp only) <;> omega
  · unfold guessQ
    (repeat' split) <;> (try dsimp only) <;> omega
  · unfold guessQ
    (repeat' split) <;> (try dsimp only) <;> omega
  · intro hk10
    rw [rvalidQ] at hv
    have h0 : 0 ≤ (guessQ l).dev := by
      unfold guessQ
      have : (gA l).dev = 0 := by unfold gA; split <;> rfl
      (repeat' split) <;> (try dsimp only) <;> omega
    split at hv
    · cases hv
    · (repeat (first | rw [if_pos (by omega)] at hv | rw [if_neg (by omega)] at hv))
      exact ⟨h0, of_decide_eq_true hv⟩
def rparseW (l : List (List UInt8)) : Rq × Int := if rvalidQ (guessQ l) = true ∧ wkQ (guessQ l) = l then (guessQ l, 0) else ({}, 5)
def rparseP (s : List UInt8) : Rq × Int := if (splitP s).2 = 0 then rparseW (splitP s).1 else ({}, (splitP s).2)
end Go.Proofs.YthogjnckkmfhnaaDoor
