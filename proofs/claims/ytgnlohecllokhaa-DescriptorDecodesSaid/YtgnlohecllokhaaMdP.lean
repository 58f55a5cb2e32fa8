/-
  The laws of the descriptors at arguments of the statements' shapes.
-/
import Derived.Test.YtgnlohecllokhaaMdO
import Derived.Test.YtgnlohecllokhaaASh
namespace Go.Proofs.Ytgnlohecllokhaa
set_option linter.unusedVariables false
theorem u8_of (n : Int) (h : 0 ≤ n ∧ n ≤ 255) : ∃ c : UInt8, n = (c.toNat : Int) := by
  refine ⟨UInt8.ofNat n.toNat, ?_⟩
  rw [UInt8.toNat_ofNat']
  omega
theorem wf8 {n : Int} (h : (Lit.int .u8 n).wf = true) : 0 ≤ n ∧ n ≤ 255 := by
  simp [Lit.wf, IntKind.min, IntKind.max, IntKind.signed, IntKind.bits] at h; omega
theorem wf16 {n : Int} (h : (Lit.int .u16 n).wf = true) : 0 ≤ n ∧ n ≤ 65535 := by
  simp [Lit.wf, IntKind.min, IntKind.max, IntKind.signed, IntKind.bits] at h; omega
theorem all_of {α : Type} (F : α → List PV) (Q : α → Prop) (s : Sh) (h : ∀ y, s.fits y → ∃ a, y = F a ∧ Q a) (xs : List (List PV)) (e : ∀ y ∈ xs, s.fits y) : ∃ l : List α, xs = l.map F ∧ ∀ a ∈ l, Q a := by
  induction xs with
  | nil => exact ⟨[], rfl, fun a h => by cases h⟩
  | cons x xs ih =>
    obtain ⟨l, rfl, hl⟩ := ih (fun y hy => e y (List.mem_cons_of_mem _ hy))
    obtain ⟨a, rfl, ha⟩ := h x (e x (by simp))
    exact ⟨a :: l, rfl, fun b hb => by
      rcases List.mem_cons.1 hb with rfl | hb
      · exact ha
      · exact hl b hb⟩
theorem bytes_of (xs : List (List PV)) (e : ∀ y ∈ xs, (Sh.int .u8).fits y) : ∃ l : List UInt8, xs = bsP l := by
  obtain ⟨l, h, _⟩ := all_of (fun c : UInt8 => [PV.v (.int .u8 (c.toNat : Int))]) (fun _ => True) _ (fun y hy => by
    obtain ⟨n, rfl, hn⟩ := hy
    obtain ⟨c, rfl⟩ := u8_of n (wf8 hn)
    exact ⟨c, rfl, trivial⟩) xs e
  exact ⟨l, h⟩
abbrev bxSh : Sh := .st [.int .i64, .st [.sl (.st [.int .i64, .int .i64])], .sl (.sl (.int .i64)), .st [.sl (.st [.int .i64, .int .i64])]]
abbrev dsSh : Sh := .st [.int .u64, .str, .int .i64, .int .i64, .int .i64, .int .i64, .int .i64, .sl bxSh]
theorem DescriptorDecodes_x (x0 : List (List PV)) (w0 : x0.length ≤ maxLen) (e0 : ∀ x ∈ x0, (Sh.int .u8).fits x) (x1 : List (List PV)) (w1 : x1.length ≤ maxLen) (e1 : ∀ x ∈ x1, (Sh.int .u8).fits x) (n2 : Int) (w2 : (Lit.int .u16 n2).wf = true) (n3 : Int) (w3 : (Lit.int .u8 n3).wf = true) (n4 : Int) (w4 : (Lit.int .u8 n4).wf = true) :
    ACalls Try.prog 4 (Sh.avs [.sl (.int .u8), .sl (.int .u8), .int .u16, .int .u8, .int .u8] [[.sl 1 x0], [.sl 1 x1], [.v (.int .u16 n2)], [.v (.int .u8 n3)], [.v (.int .u8 n4)]]) [] (.v (.bool true)) [] := by
  obtain ⟨r, rfl⟩ := bytes_of x0 e0
  obtain ⟨l, rfl⟩ := bytes_of x1 e1
  obtain ⟨c, rfl⟩ := u8_of n3 (wf8 w3)
  exact DescriptorDecodes_c r _ (by simpa [maxLen] using w0) l _ (by simpa [maxLen] using w1) n2 (wf16 w2) c n4 (wf8 w4)
end Go.Proofs.Ytgnlohecllokhaa
