/-
  Shapes of arguments: bytes, slices of bytes, slices of integers.
-/
import Derived.Test.YtbbcokckealagaaGreatASh
import Derived.Test.YtbbcokckealagaaGreatQCE
import Derived.Test.YtbbcokckealagaaGreatSsQ
import Derived.Test.YtbbcokckealagaaGreatQEF
namespace Go.Proofs.YtbbcokckealagaaGreat
set_option linter.unusedVariables false
set_option linter.unusedSimpArgs false
theorem u8_of (n : Int) (h : 0 ≤ n ∧ n ≤ 255) : ∃ c : UInt8, n = (c.toNat : Int) := by
  refine ⟨UInt8.ofNat n.toNat, ?_⟩
  rw [UInt8.toNat_ofNat']
  omega
theorem bytes_of (xs : List (List PV)) (e : ∀ y ∈ xs, (Sh.int .u8).fits y) : ∃ l : List UInt8, xs = bsP l := by
  induction xs with
  | nil => exact ⟨[], rfl⟩
  | cons x xs ih =>
    obtain ⟨l, rfl⟩ := ih (fun y hy => e y (List.mem_cons_of_mem _ hy))
    obtain ⟨n, rfl, hn⟩ := e x (by simp)
    obtain ⟨c, rfl⟩ := u8_of n (wfu8 hn)
    exact ⟨c :: l, rfl⟩
theorem rec_wf (y : List PV) (hy : recSh.fits y) : ∃ r : Rc, y = r.pv ∧ r.ok ∧ Rwf r := by
  obtain ⟨_, _, rfl, ⟨k, rfl, _⟩, _, _, rfl, ⟨i, rfl, _⟩, _, _, rfl, ⟨ro, rfl, h1⟩, _, _, rfl, ⟨d, rfl, _⟩, _, _, rfl, ⟨c, rfl, _⟩, _, _, rfl, ⟨ra, rfl, _⟩, _, _, rfl, ⟨la, rfl, _⟩, _, _, rfl, ⟨n, rfl, _⟩, _, _, rfl, ⟨dv, rfl, hdv⟩, _, _, rfl, ⟨xs, rfl, wx, ex⟩, _, g, rfl, ⟨tx, rfl, h2⟩, hd⟩ := hy
  obtain rfl : g = [] := hd
  obtain ⟨l, rfl, hl⟩ := ints_of .u64 xs ex
  have b1 := wfu64 hdv
  refine ⟨⟨k, i, ro, d, c, ra, la, n, dv, l, tx⟩, rfl, ⟨by simpa [maxLen] using h1, ?_, by simpa [maxLen] using h2⟩, ⟨by simp only; omega, by simp only; omega⟩, fun x hx => ?_⟩
  · simpa [maxLen] using wx
  · have := wfu64 (hl x hx)
    omega
end Go.Proofs.YtbbcokckealagaaGreat
