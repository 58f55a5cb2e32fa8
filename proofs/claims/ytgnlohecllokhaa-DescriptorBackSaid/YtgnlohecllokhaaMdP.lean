/-
  The laws of the descriptors at arguments of the statements' shapes.
-/
import Derived.Test.YtgnlohecllokhaaMdO
import Derived.Test.YtgnlohecllokhaaASh
namespace Go.Proofs.Ytgnlohecllokhaa
set_option linter.unusedVariables false
theorem u8_of (n : Int) (h : 0 ≤ n ∧ n ≤ 255) : ∃ c : UInt8, n = (c.toNat : Int) := by
  refine ⟨UInt8.ofNat n.toNat, ?_⟩
  rw [UInt8.toNat_ofNat']
  omega
theorem wf8 {n : Int} (h : (Lit.int .u8 n).wf = true) : 0 ≤ n ∧ n ≤ 255 := by
  simp [Lit.wf, IntKind.min, IntKind.max, IntKind.signed, IntKind.bits] at h; omega
theorem wf16 {n : Int} (h : (Lit.int .u16 n).wf = true) : 0 ≤ n ∧ n ≤ 65535 := by
  simp [Lit.wf, IntKind.min, IntKind.max, IntKind.signed, IntKind.bits] at h; omega
theorem all_of {α : Type} (F : α → List PV) (Q : α → Prop) (s : Sh) (h : ∀ y, s.fits y → ∃ a, y = F a ∧ Q a) (xs : List (List PV)) (e : ∀ y ∈ xs, s.fits y) : ∃ l : List α, xs = l.map F ∧ ∀ a ∈ l, Q a := by
  induction xs with
  | nil => exact ⟨[], rfl, fun a h => by cases h⟩
  | cons x xs ih =>
    obtain ⟨l, rfl, hl⟩ := ih (fun y hy => e y (List.mem_cons_of_mem _ hy))
    obtain ⟨a, rfl, ha⟩ := h x (e x (by simp))
    exact ⟨a :: l, rfl, fun b hb => by
      rcases List.mem_cons.1 hb with rfl | hb
      · exact ha
      · exact hl b hb⟩
theorem bytes_of (xs : List (List PV)) (e : ∀ y ∈ xs, (Sh.int .u8).fits y) : ∃ l : List UInt8, xs = bsP l := by
  obtain ⟨l, h, _⟩ := all_of (fun c : UInt8 => [PV.v (.int .u8 (c.toNat : Int))]) (fun _ => True) _ (fun y hy => by
    obtain ⟨n, rfl, hn⟩ := hy
    obtain ⟨c, rfl⟩ := u8_of n (wf8 hn)
    exact ⟨c, rfl, trivial⟩) xs e
  exact ⟨l, h⟩
abbrev bxSh : Sh := .st [.int .i64, .st [.sl (.st [.int .i64, .int .i64])], .sl (.sl (.int .i64)), .st [.sl (.st [.int .i64, .int .i64])]]
abbrev dsSh : Sh := .st [.int .u64, .str, .int .i64, .int .i64, .int .i64, .int .i64, .int .i64, .sl bxSh]
theorem DescriptorBack_x (x0 : List (List PV)) (w0 : x0.length ≤ maxLen) (e0 : ∀ x ∈ x0, (Sh.int .u8).fits x) (n1 : Int) (w1 : (Lit.int .u16 n1).wf = true) (n2 : Int) (w2 : (Lit.int .u8 n2).wf = true) :
    ACalls Try.prog 5 (Sh.avs [.sl (.int .u8), .int .u16, .int .u8] [[.sl 1 x0], [.v (.int .u16 n1)], [.v (.int .u8 n2)]]) [] (.v (.bool true)) [] := by
  obtain ⟨l, rfl⟩ := bytes_of x0 e0
  obtain ⟨c, rfl⟩ := u8_of n2 (wf8 w2)
  exact DescriptorBack_c l _ (by simpa [maxLen] using w0) n1 (wf16 w1) c
end Go.Proofs.Ytgnlohecllokhaa
