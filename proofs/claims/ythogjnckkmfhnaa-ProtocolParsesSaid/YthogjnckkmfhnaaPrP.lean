/-
  The law ProtocolParses at arguments of the statement's shapes.
-/
import Derived.Test.YthogjnckkmfhnaaPrO
import Derived.Test.YthogjnckkmfhnaaASh
namespace Go.Proofs.Ythogjnckkmfhnaa
theorem u8_of (n : Int) (h : 0 ≤ n ∧ n ≤ 255) : ∃ c : UInt8, n = (c.toNat : Int) := by
  refine ⟨UInt8.ofNat n.toNat, ?_⟩
  rw [UInt8.toNat_ofNat']
  omega
theorem bytes_of (xs : List (List PV)) (e : ∀ y ∈ xs, (Sh.int .u8).fits y) : ∃ l : List UInt8, xs = bsP l := by
  induction xs with
  | nil => exact ⟨[], rfl⟩
  | cons x xs ih =>
    obtain ⟨l, rfl⟩ := ih (fun y hy => e y (List.mem_cons_of_mem _ hy))
    obtain ⟨n, rfl, hn⟩ := e x (by simp)
    obtain ⟨c, rfl⟩ := u8_of n (wfu8 hn)
    exact ⟨c :: l, rfl⟩
theorem fits_of (x0 : List (List PV)) (w0 : x0.length ≤ maxLen) (e0 : ∀ x ∈ x0, (Sh.int .i64).fits x) : ∃ ls : List Int, x0 = ivs ls ∧ Fits ls := by
  obtain ⟨ls, rfl, hl⟩ := ints_of _ x0 e0
  exact ⟨ls, rfl, by simpa [maxLen] using w0, fun n hn => wfi64 (hl n hn)⟩
theorem ProtocolParses_x (x0 : List (List PV)) (w0 : x0.length ≤ maxLen) (e0 : ∀ x ∈ x0, (Sh.int .i64).fits x) (s1 : List UInt8) (w1 : s1.length ≤ maxLen) (n2 n3 : Int) (w2 : (Lit.int .i64 n2).wf = true) (w3 : (Lit.int .u8 n3).wf = true) :
    ACalls Try.prog 3 (Sh.avs [(.sl (.int .i64)), .str, (.int .i64), (.int .u8)] [[.sl 1 x0], [.v (.string (Go.Proofs.Ythogjnckkmfhnaa.bs s1))], [.v (.int .i64 n2)], [.v (.int .u8 n3)]]) [] (.v (.bool true)) [] := by
  obtain ⟨ls, rfl, hF⟩ := fits_of x0 w0 e0
  obtain ⟨c, rfl⟩ := u8_of n3 (wfu8 w3)
  exact ProtocolParses_c ls _ hF s1 (by simpa [maxLen] using w1) n2 (wfi64 w2) c
end Go.Proofs.Ythogjnckkmfhnaa
