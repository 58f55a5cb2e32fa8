/-
  One cell of one element of an array: what is read there, and what a store leaves. Nothing of the dump is used; no condition.
-/
import Derived.Test.YtbbcokckealagaaAAv
namespace Go.Proofs.Ytbbcokckealagaa
set_option linter.unusedVariables false
theorem bxc (p : List PV) (t : List (List PV)) : bxs (p :: t) = p.map PV.av ++ bxs t := by simp [bxs]
theorem bxN_at {sz : Nat} : ∀ {xs : List (List PV)} {i f : Nat} {ys : List PV} {p : PV}, (∀ y ∈ xs, y.length = sz) → xs[i]? = some ys → ys[f]? = some p → (bxs xs)[i * sz + f]? = some p.av
  | [], _, _, _, _, _, h, _ => by simp at h
  | y :: t, 0, f, ys, p, hz, h, hp => by
    obtain rfl : y = ys := by simpa using h
    rw [bxc, Nat.zero_mul, Nat.zero_add, List.getElem?_append_left (by rw [List.length_map]; exact (List.getElem?_eq_some_iff.1 hp).1), List.getElem?_map, hp]; rfl
  | y :: t, i + 1, f, ys, p, hz, h, hp => by
    have hy : y.length = sz := hz y (List.mem_cons_self ..)
    rw [bxc, List.getElem?_append_right (by rw [List.length_map, hy, Nat.succ_mul]; omega), List.length_map, hy, show (i + 1) * sz + f - sz = i * sz + f by rw [Nat.succ_mul]; omega]
    exact bxN_at (fun y hy => hz y (List.mem_cons_of_mem _ hy)) (by simpa using h) hp
theorem set_same {α : Type} {xs : List α} {i : Nat} {y : α} (h : xs[i]? = some y) : xs.set i y = xs := by
  obtain ⟨hi, rfl⟩ := List.getElem?_eq_some_iff.1 h
  exact List.set_getElem_self hi
theorem over_one : ∀ (l : List AV) (k : Nat) (a : AV), k < l.length → Over l k [a] (l.set k a)
  | [], _, _, h => by simp at h
  | b :: t, 0, a, _ => .at_ (.cons .nil)
  | b :: t, k + 1, a, h => .skip (over_one t k a (by simpa using h))
theorem bxN_set {sz : Nat} : ∀ {xs : List (List PV)} {i f : Nat} {ys : List PV} (p : PV), (∀ y ∈ xs, y.length = sz) → xs[i]? = some ys → f < ys.length → bxs (xs.set i (ys.set f p)) = (bxs xs).set (i * sz + f) p.av
  | [], _, _, _, _, _, h, _ => by simp at h
  | y :: t, 0, f, ys, p, hz, h, hf => by
    obtain rfl : y = ys := by simpa using h
    rw [List.set_cons_zero, bxc, bxc, Nat.zero_mul, Nat.zero_add, List.set_append_left _ _ (by rw [List.length_map]; exact hf), List.map_set]
  | y :: t, i + 1, f, ys, p, hz, h, hf => by
    have hy : y.length = sz := hz y (List.mem_cons_self ..)
    rw [List.set_cons_succ, bxc, bxc, List.set_append_right _ _ (by rw [List.length_map, hy, Nat.succ_mul]; omega), List.length_map, hy, show (i + 1) * sz + f - sz = i * sz + f by rw [Nat.succ_mul]; omega]
    rw [bxN_set p (fun y hy => hz y (List.mem_cons_of_mem _ hy)) (by simpa using h) hf]
theorem bxN_put {sz : Nat} {xs : List (List PV)} {i f : Nat} {ys : List PV} (p : PV) (hz : ∀ y ∈ xs, y.length = sz) (h : xs[i]? = some ys) (hf : f < ys.length) : Over (bxs xs) (i * sz + f) [p.av] (bxs (xs.set i (ys.set f p))) := by
  rw [bxN_set p hz h hf]
  refine over_one _ _ _ ?_
  have := (List.getElem?_eq_some_iff.1 (bxN_at hz h (List.getElem?_eq_getElem hf))).1
  exact this
end Go.Proofs.Ytbbcokckealagaa
