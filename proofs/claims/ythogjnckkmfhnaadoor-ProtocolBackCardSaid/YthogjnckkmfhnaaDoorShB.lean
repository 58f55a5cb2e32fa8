/-
  Shapes of arguments: bytes, slices of bytes, slices of integers.
-/
import Derived.Test.YthogjnckkmfhnaaDoorASh
import Derived.Test.YthogjnckkmfhnaaDoorDk
namespace Go.Proofs.YthogjnckkmfhnaaDoor
theorem u8_of (n : Int) (h : 0 ≤ n ∧ n ≤ 255) : ∃ c : UInt8, n = (c.toNat : Int) := by
  refine ⟨UInt8.ofNat n.toNat, ?_⟩
  rw [UInt8.toNat_ofNat']
  omega
theorem bytes_of (xs : List (List PV)) (e : ∀ y ∈ xs, (Sh.int .u8).fits y) : ∃ l : List UInt8, xs = bsP l := by
  induction xs with
  | nil => exact ⟨[], rfl⟩
  | cons x xs ih =>
    obtain ⟨l, rfl⟩ := ih (fun y hy => e y (List.mem_cons_of_mem _ hy))
    obtain ⟨n, rfl, hn⟩ := e x (by simp)
    obtain ⟨c, rfl⟩ := u8_of n (wfu8 hn)
    exact ⟨c :: l, rfl⟩
theorem fits_of (x0 : List (List PV)) (w0 : x0.length ≤ maxLen) (e0 : ∀ x ∈ x0, (Sh.int .i64).fits x) : ∃ ls : List Int, x0 = ivs ls ∧ Fits ls := by
  obtain ⟨ls, rfl, hl⟩ := ints_of _ x0 e0
  exact ⟨ls, rfl, by simpa [maxLen] using w0, fun n hn => wfi64 (hl n hn)⟩
end Go.Proofs.YthogjnckkmfhnaaDoor
