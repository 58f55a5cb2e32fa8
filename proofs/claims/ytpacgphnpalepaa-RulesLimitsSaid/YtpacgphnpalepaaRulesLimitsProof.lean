/-
  The law 'RulesLimits' of the given package soundservicelaw29 returns true for every input and leaves its arguments as they were. No condition beyond those of the given row.
-/
import Derived.Test.YtpacgphnpalepaaRows
import Derived.WalkKit
import Derived.ProofKit
import Derived.OpenShut
import Derived.ShutString
import Derived.ChangeOld
import Derived.Below
import Derived.Test.YtpacgphnpalepaaASh
import Derived.Test.YtpacgphnpalepaaQBG
namespace Go.Proofs.Ytpacgphnpalepaa.rulesLimits
open Go.ChangeShapes Go.WideShapes Go.ChangeAt Go.RowKit
set_option linter.unusedVariables false

theorem own : ownKnob Try.prog.godebug = none := by kernel_rfl
theorem laidOut : laidOutB Try.prog = true := by kernel_rfl

theorem call (pss : List (List PV)) (h : Sh.all [(.int .i64)] pss) : ACalls Try.prog 4 (Sh.avs [(.int .i64)] pss) [] (.v (.bool true)) [] := by
  obtain ⟨p0, q0, rfl, f0, h⟩ := Sh.all_cons h
  obtain rfl := Sh.all_nil h
  obtain ⟨n0, rfl, w0⟩ := f0
  exact RulesLimits_c n0 (wfi64 w0)

set_option maxRecDepth 100000 in
theorem lifted (os : Os) (started : os.Started) (H : Type) (enc : TypeId × Value → H) :
    ReturnsInHanded {} Try.checked os 4 .any (Rows.rulesLimitsSpec.pre6 enc Try.prog Try.f4 Rows.rulesLimitsRow.domain false) (Rows.rulesLimitsSpec.post enc Try.prog Try.f4 false true false false) := by
  refine returnsInHanded_of_change (C := Try.checked) own started (by kernel_rfl) Try.func4
    (ChangeSpec.witness6 (enc := enc) (C := Try.checked) false ⟨#[], #[.int .i64 0], []⟩ 8 (by kernel_rfl) (by kernel_rfl) (by kernel_rfl) (by kernel_rfl)) ?_
  intro W base args ds gs before hval hW hcnd _
  exact law_post [(.int .i64)] laidOut rfl (fun ds gs h h' => by
    obtain ⟨d0, rfl⟩ := len1 ds h
    obtain rfl := List.eq_nil_of_length_eq_zero h'
    exact ⟨rfl, rfl, rfl⟩) (by kernel_rfl) Try.underlying4 (by kernel_rfl) call hval hW

theorem over : Rows.rulesLimitsRow.holds Try.pinned (OpenSpec.ofChange Rows.rulesLimitsSpec) :=
  OpenClaim.holds_of_wide 4 Try.f4 rfl rfl rfl rfl rfl rfl rfl ⟨rfl, rfl, rfl, rfl, rfl⟩ rfl rfl rfl rfl rfl (by kernel_rfl) Try.func4 (by kernel_rfl)
    (of_decide_eq_true (by kernel_rfl)) (by unfold Func.isWrapper; first | (rw [if_pos (by decide +kernel)]; kernel_rfl) | (rw [if_neg (by decide +kernel)]; exact ⟨rfl, rfl⟩))
    (fun os started H enc _ => lifted os started H enc)

/-- the statement -/
theorem proved : Rows.RulesLimitsSaid := over
end Go.Proofs.Ytpacgphnpalepaa.rulesLimits
