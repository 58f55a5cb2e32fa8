/-
  The law 'WordsSplit' of the given package soundservicelaw02 returns true for every input and leaves its arguments as they were. No condition beyond those of the given row.
-/
import Derived.Test.YtagdhmfcgngbeaaRows
import Derived.WalkKit
import Derived.ProofKit
import Derived.OpenShut
import Derived.ShutString
import Derived.ChangeOld
import Derived.Below
import Derived.Test.YtagdhmfcgngbeaaASh
import Derived.Test.YtagdhmfcgngbeaaWordL
namespace Go.Proofs.Ytagdhmfcgngbeaa.wordsSplit
open Go.ChangeShapes Go.WideShapes Go.ChangeAt Go.RowKit
set_option linter.unusedVariables false

theorem own : ownKnob Try.prog.godebug = none := by kernel_rfl
theorem laidOut : laidOutB Try.prog = true := by kernel_rfl

theorem call (pss : List (List PV)) (h : Sh.all [.str] pss) : ACalls Try.prog 3 (Sh.avs [.str] pss) [] (.v (.bool true)) [] := by
  obtain ⟨p0, q0, rfl, f0, h⟩ := Sh.all_cons h
  obtain rfl := Sh.all_nil h
  obtain ⟨s0, rfl, w0⟩ := f0
  exact WordsSplit_c s0

set_option maxRecDepth 100000 in
theorem lifted (os : Os) (started : os.Started) (H : Type) (enc : TypeId × Value → H) :
    ReturnsInHanded {} Try.checked os 3 .any (Rows.wordsSplitSpec.pre6 enc Try.prog Try.f3 Rows.wordsSplitRow.domain false) (Rows.wordsSplitSpec.post enc Try.prog Try.f3 false true false false) := by
  refine returnsInHanded_of_change (C := Try.checked) own started (by kernel_rfl) Try.func3
    (ChangeSpec.witness6 (enc := enc) (C := Try.checked) false ⟨#[], #[.string ⟨#[]⟩], []⟩ 8 (by kernel_rfl) (by kernel_rfl) (by kernel_rfl) (by kernel_rfl)) ?_
  intro W base args ds gs before hval hW hcnd _
  exact law_post [.str] laidOut rfl (fun ds gs h h' => by
    obtain ⟨d0, rfl⟩ := len1 ds h
    obtain rfl := List.eq_nil_of_length_eq_zero h'
    exact ⟨rfl, rfl, rfl⟩) (by kernel_rfl) Try.underlying4 (by kernel_rfl) call hval hW

theorem over : Rows.wordsSplitRow.holds Try.pinned (OpenSpec.ofChange Rows.wordsSplitSpec) :=
  OpenClaim.holds_of_wide 3 Try.f3 rfl rfl rfl rfl rfl rfl rfl ⟨rfl, rfl, rfl, rfl, rfl⟩ rfl rfl rfl rfl rfl (by kernel_rfl) Try.func3 (by kernel_rfl)
    (of_decide_eq_true (by kernel_rfl)) (by unfold Func.isWrapper; first | (rw [if_pos (by decide +kernel)]; kernel_rfl) | (rw [if_neg (by decide +kernel)]; exact ⟨rfl, rfl⟩))
    (fun os started H enc _ => lifted os started H enc)

/-- the statement -/
theorem proved : Rows.WordsSplitSaid := over
end Go.Proofs.Ytagdhmfcgngbeaa.wordsSplit
