/-
  Shapes of arguments: bytes, slices of bytes, slices of integers.
-/
import Derived.Test.YtbbcokckealagaaGreatASh
import Derived.Test.YtbbcokckealagaaGreatQCE
import Derived.Test.YtbbcokckealagaaGreatQEG
import Derived.Test.YtbbcokckealagaaGreatJrG
namespace Go.Proofs.YtbbcokckealagaaGreat
set_option linter.unusedVariables false
set_option linter.unusedSimpArgs false
theorem u8_of (n : Int) (h : 0 ≤ n ∧ n ≤ 255) : ∃ c : UInt8, n = (c.toNat : Int) := by
  refine ⟨UInt8.ofNat n.toNat, ?_⟩
  rw [UInt8.toNat_ofNat']
  omega
theorem bytes_of (xs : List (List PV)) (e : ∀ y ∈ xs, (Sh.int .u8).fits y) : ∃ l : List UInt8, xs = bsP l := by
  induction xs with
  | nil => exact ⟨[], rfl⟩
  | cons x xs ih =>
    obtain ⟨l, rfl⟩ := ih (fun y hy => e y (List.mem_cons_of_mem _ hy))
    obtain ⟨n, rfl, hn⟩ := e x (by simp)
    obtain ⟨c, rfl⟩ := u8_of n (wfu8 hn)
    exact ⟨c :: l, rfl⟩
end Go.Proofs.YtbbcokckealagaaGreat
