/-
  The law 'DescriptorDecodes' of the given package soundservicelaw11 returns true for every input and leaves its arguments as they were. No condition beyond those of the given row.
-/
import Derived.Test.YtgnlohecllokhaaRows
import Derived.WalkKit
import Derived.ProofKit
import Derived.OpenShut
import Derived.ShutString
import Derived.ChangeOld
import Derived.Below
import Derived.Test.YtgnlohecllokhaaASh
import Derived.Test.YtgnlohecllokhaaMdP
namespace Go.Proofs.Ytgnlohecllokhaa.descriptorDecodes
open Go.ChangeShapes Go.WideShapes Go.ChangeAt Go.RowKit
set_option linter.unusedVariables false

theorem own : ownKnob Try.prog.godebug = none := by kernel_rfl
theorem laidOut : laidOutB Try.prog = true := by kernel_rfl

theorem call (pss : List (List PV)) (h : Sh.all [(.sl (.int .u8)), (.sl (.int .u8)), (.int .u16), (.int .u8), (.int .u8)] pss) : ACalls Try.prog 4 (Sh.avs [(.sl (.int .u8)), (.sl (.int .u8)), (.int .u16), (.int .u8), (.int .u8)] pss) [] (.v (.bool true)) [] := by
  obtain ⟨p0, q0, rfl, f0, h⟩ := Sh.all_cons h
  obtain ⟨p1, q1, rfl, f1, h⟩ := Sh.all_cons h
  obtain ⟨p2, q2, rfl, f2, h⟩ := Sh.all_cons h
  obtain ⟨p3, q3, rfl, f3, h⟩ := Sh.all_cons h
  obtain ⟨p4, q4, rfl, f4, h⟩ := Sh.all_cons h
  obtain rfl := Sh.all_nil h
  obtain ⟨x0, rfl, w0, e0⟩ := f0
  obtain ⟨x1, rfl, w1, e1⟩ := f1
  obtain ⟨n2, rfl, w2⟩ := f2
  obtain ⟨n3, rfl, w3⟩ := f3
  obtain ⟨n4, rfl, w4⟩ := f4
  exact DescriptorDecodes_x x0 w0 e0 x1 w1 e1 n2 w2 n3 w3 n4 w4

set_option maxRecDepth 100000 in
theorem lifted (os : Os) (started : os.Started) (H : Type) (enc : TypeId × Value → H) :
    ReturnsInHanded {} Try.checked os 4 .any (Rows.descriptorDecodesSpec.pre6 enc Try.prog Try.f4 Rows.descriptorDecodesRow.domain false) (Rows.descriptorDecodesSpec.post enc Try.prog Try.f4 false true false false) := by
  refine returnsInHanded_of_change (C := Try.checked) own started (by kernel_rfl) Try.func4
    (ChangeSpec.witness6 (enc := enc) (C := Try.checked) false ⟨#[], #[.slice none 0 0, .slice none 0 0, .int .u16 0, .int .u8 0, .int .u8 0], []⟩ 8 (by kernel_rfl) (by kernel_rfl) (by kernel_rfl) (by kernel_rfl)) ?_
  intro W base args ds gs before hval hW hcnd _
  exact law_post [(.sl (.int .u8)), (.sl (.int .u8)), (.int .u16), (.int .u8), (.int .u8)] laidOut rfl (fun ds gs h h' => by
    obtain ⟨d0, d1, d2, d3, d4, rfl⟩ := len5 ds h
    obtain rfl := List.eq_nil_of_length_eq_zero h'
    exact ⟨rfl, rfl, rfl⟩) (by kernel_rfl) Try.underlying4 (by kernel_rfl) call hval hW

theorem over : Rows.descriptorDecodesRow.holds Try.pinned (OpenSpec.ofChange Rows.descriptorDecodesSpec) :=
  OpenClaim.holds_of_wide 4 Try.f4 rfl rfl rfl rfl rfl rfl rfl ⟨rfl, rfl, rfl, rfl, rfl⟩ rfl rfl rfl rfl rfl (by kernel_rfl) Try.func4 (by kernel_rfl)
    (of_decide_eq_true (by kernel_rfl)) (by unfold Func.isWrapper; first | (rw [if_pos (by decide +kernel)]; kernel_rfl) | (rw [if_neg (by decide +kernel)]; exact ⟨rfl, rfl⟩))
    (fun os started H enc _ => lifted os started H enc)

/-- the statement -/
theorem proved : Rows.DescriptorDecodesSaid := over
end Go.Proofs.Ytgnlohecllokhaa.descriptorDecodes
