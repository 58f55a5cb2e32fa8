/-
  The law 'DescriptorEncodes' of the given package soundservicelaw11 returns true for every input and leaves its arguments as they were. No condition beyond those of the given row.
-/
import Derived.Test.YtgnlohecllokhaaRows
import Derived.WalkKit
import Derived.ProofKit
import Derived.OpenShut
import Derived.ShutString
import Derived.ChangeOld
import Derived.Below
import Derived.Test.YtgnlohecllokhaaASh
import Derived.Test.YtgnlohecllokhaaMdP
namespace Go.Proofs.Ytgnlohecllokhaa.descriptorEncodes
open Go.ChangeShapes Go.WideShapes Go.ChangeAt Go.RowKit
set_option linter.unusedVariables false

theorem own : ownKnob Try.prog.godebug = none := by kernel_rfl
theorem laidOut : laidOutB Try.prog = true := by kernel_rfl

theorem call (pss : List (List PV)) (h : Sh.all [(.st [(.int .u64), .str, (.int .i64), (.int .i64), (.int .i64), (.int .i64), (.int .i64), (.sl (.st [(.int .i64), (.st [(.sl (.st [(.int .i64), (.int .i64)]))]), (.sl (.sl (.int .i64))), (.st [(.sl (.st [(.int .i64), (.int .i64)]))])]))]), (.sl (.int .u8)), (.int .u8), (.int .u8)] pss) : ACalls Try.prog 3 (Sh.avs [(.st [(.int .u64), .str, (.int .i64), (.int .i64), (.int .i64), (.int .i64), (.int .i64), (.sl (.st [(.int .i64), (.st [(.sl (.st [(.int .i64), (.int .i64)]))]), (.sl (.sl (.int .i64))), (.st [(.sl (.st [(.int .i64), (.int .i64)]))])]))]), (.sl (.int .u8)), (.int .u8), (.int .u8)] pss) [] (.v (.bool true)) [] := by
  obtain ⟨p0, q0, rfl, f0, h⟩ := Sh.all_cons h
  obtain ⟨p1, q1, rfl, f1, h⟩ := Sh.all_cons h
  obtain ⟨p2, q2, rfl, f2, h⟩ := Sh.all_cons h
  obtain ⟨p3, q3, rfl, f3, h⟩ := Sh.all_cons h
  obtain rfl := Sh.all_nil h
  obtain ⟨x1, rfl, w1, e1⟩ := f1
  obtain ⟨n2, rfl, w2⟩ := f2
  obtain ⟨n3, rfl, w3⟩ := f3
  exact DescriptorEncodes_x p0 f0 x1 w1 e1 n2 w2 n3 w3

set_option maxRecDepth 100000 in
theorem lifted (os : Os) (started : os.Started) (H : Type) (enc : TypeId × Value → H) :
    ReturnsInHanded {} Try.checked os 3 .any (Rows.descriptorEncodesSpec.pre6 enc Try.prog Try.f3 Rows.descriptorEncodesRow.domain false) (Rows.descriptorEncodesSpec.post enc Try.prog Try.f3 false true false false) := by
  refine returnsInHanded_of_change (C := Try.checked) own started (by kernel_rfl) Try.func3
    (ChangeSpec.witness6 (enc := enc) (C := Try.checked) false ⟨#[], #[.agg #[.int .u64 0, .string ⟨#[]⟩, .int .i64 0, .int .i64 0, .int .i64 0, .int .i64 0, .int .i64 0, .slice none 0 0], .slice none 0 0, .int .u8 0, .int .u8 0], []⟩ 8 (by kernel_rfl) (by kernel_rfl) (by kernel_rfl) (by kernel_rfl)) ?_
  intro W base args ds gs before hval hW hcnd _
  exact law_post [(.st [(.int .u64), .str, (.int .i64), (.int .i64), (.int .i64), (.int .i64), (.int .i64), (.sl (.st [(.int .i64), (.st [(.sl (.st [(.int .i64), (.int .i64)]))]), (.sl (.sl (.int .i64))), (.st [(.sl (.st [(.int .i64), (.int .i64)]))])]))]), (.sl (.int .u8)), (.int .u8), (.int .u8)] laidOut rfl (fun ds gs h h' => by
    obtain ⟨d0, d1, d2, d3, rfl⟩ := len4 ds h
    obtain rfl := List.eq_nil_of_length_eq_zero h'
    exact ⟨rfl, rfl, rfl⟩) (by kernel_rfl) Try.underlying4 (by kernel_rfl) call hval hW

theorem over : Rows.descriptorEncodesRow.holds Try.pinned (OpenSpec.ofChange Rows.descriptorEncodesSpec) :=
  OpenClaim.holds_of_wide 3 Try.f3 rfl rfl rfl rfl rfl rfl rfl ⟨rfl, rfl, rfl, rfl, rfl⟩ rfl rfl rfl rfl rfl (by kernel_rfl) Try.func3 (by kernel_rfl)
    (of_decide_eq_true (by kernel_rfl)) (by unfold Func.isWrapper; first | (rw [if_pos (by decide +kernel)]; kernel_rfl) | (rw [if_neg (by decide +kernel)]; exact ⟨rfl, rfl⟩))
    (fun os started H enc _ => lifted os started H enc)

/-- the statement -/
theorem proved : Rows.DescriptorEncodesSaid := over
end Go.Proofs.Ytgnlohecllokhaa.descriptorEncodes
