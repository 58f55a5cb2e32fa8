/-
  The law FramingSplits at arguments of the statement's shapes.
-/
import Derived.Test.YtbmjdfhkcogglaaDoorFrE
import Derived.Test.YtbmjdfhkcogglaaDoorASh
namespace Go.Proofs.YtbmjdfhkcogglaaDoor
theorem u8_of (n : Int) (h : 0 ≤ n ∧ n ≤ 255) : ∃ c : UInt8, n = (c.toNat : Int) := by
  refine ⟨UInt8.ofNat n.toNat, ?_⟩
  rw [UInt8.toNat_ofNat']
  omega
theorem bytes_of (xs : List (List PV)) (e : ∀ y ∈ xs, (Sh.int .u8).fits y) : ∃ l : List UInt8, xs = bsP l := by
  induction xs with
  | nil => exact ⟨[], rfl⟩
  | cons x xs ih =>
    obtain ⟨l, rfl⟩ := ih (fun y hy => e y (List.mem_cons_of_mem _ hy))
    obtain ⟨n, rfl, hn⟩ := e x (by simp)
    obtain ⟨c, rfl⟩ := u8_of n (wfu8 hn)
    exact ⟨c :: l, rfl⟩
theorem fits_of (x0 : List (List PV)) (w0 : x0.length ≤ maxLen) (e0 : ∀ x ∈ x0, (Sh.int .i64).fits x) : ∃ ls : List Int, x0 = ivs ls ∧ Fits ls := by
  obtain ⟨ls, rfl, hl⟩ := ints_of _ x0 e0
  exact ⟨ls, rfl, by simpa [maxLen] using w0, fun n hn => wfi64 (hl n hn)⟩
theorem FramingSplits_x (x0 : List (List PV)) (w0 : x0.length ≤ maxLen) (e0 : ∀ x ∈ x0, (Sh.int .i64).fits x) (x1 : List (List PV)) (w1 : x1.length ≤ maxLen) (e1 : ∀ x ∈ x1, (Sh.int .u8).fits x) (n2 n3 : Int) (w2 : (Lit.int .i64 n2).wf = true) (w3 : (Lit.int .u8 n3).wf = true) :
    ACalls Tryd.prog 5 (Sh.avs [(.sl (.int .i64)), (.sl (.int .u8)), (.int .i64), (.int .u8)] [[.sl 1 x0], [.sl 1 x1], [.v (.int .i64 n2)], [.v (.int .u8 n3)]]) [] (.v (.bool true)) [] := by
  obtain ⟨ls, rfl, hF⟩ := fits_of x0 w0 e0
  obtain ⟨raw, rfl⟩ := bytes_of x1 e1
  obtain ⟨c, rfl⟩ := u8_of n3 (wfu8 w3)
  exact FramingSplits_c ls _ hF raw _ (by simpa [maxLen] using w1) n2 (wfi64 w2) c
end Go.Proofs.YtbmjdfhkcogglaaDoor
