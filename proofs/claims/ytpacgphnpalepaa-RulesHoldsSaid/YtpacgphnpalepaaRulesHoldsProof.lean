/-
  The law 'RulesHolds' of the given package soundservicelaw29 returns true for every input and leaves its arguments as they were. No condition beyond those of the given row.
-/
import Derived.Test.YtpacgphnpalepaaRows
import Derived.WalkKit
import Derived.ProofKit
import Derived.OpenShut
import Derived.ShutString
import Derived.ChangeOld
import Derived.Below
import Derived.Test.YtpacgphnpalepaaASh
import Derived.Test.YtpacgphnpalepaaQBH
namespace Go.Proofs.Ytpacgphnpalepaa.rulesHolds
open Go.ChangeShapes Go.WideShapes Go.ChangeAt Go.RowKit
set_option linter.unusedVariables false

theorem own : ownKnob Try.prog.godebug = none := by kernel_rfl
theorem laidOut : laidOutB Try.prog = true := by kernel_rfl

theorem call (pss : List (List PV)) (h : Sh.all [(.sl (.int .i64)), (.sl (.st [(.int .i64), .str])), (.sl .str), (.sl .str)] pss) : ACalls Try.prog 5 (Sh.avs [(.sl (.int .i64)), (.sl (.st [(.int .i64), .str])), (.sl .str), (.sl .str)] pss) [] (.v (.bool true)) [] := by
  obtain ⟨p0, q0, rfl, f0, h⟩ := Sh.all_cons h
  obtain ⟨p1, q1, rfl, f1, h⟩ := Sh.all_cons h
  obtain ⟨p2, q2, rfl, f2, h⟩ := Sh.all_cons h
  obtain ⟨p3, q3, rfl, f3, h⟩ := Sh.all_cons h
  obtain rfl := Sh.all_nil h
  obtain ⟨x0, rfl, w0, e0⟩ := f0
  obtain ⟨x1, rfl, w1, e1⟩ := f1
  obtain ⟨x2, rfl, w2, e2⟩ := f2
  obtain ⟨x3, rfl, w3, e3⟩ := f3
  obtain ⟨l, rfl, hl⟩ := rFits_of x0 w0 e0
  obtain ⟨raw, rfl, hraw⟩ := rTms_of x1 e1
  obtain ⟨rs, rfl⟩ := rWds_of x2 e2
  obtain ⟨ds, rfl⟩ := rWds_of x3 e3
  exact RulesHolds_c l false hl raw false (by simpa [maxLen] using w1) hraw rs ds false false (by simpa [maxLen] using w2) (by simpa [maxLen] using w3)

set_option maxRecDepth 100000 in
theorem lifted (os : Os) (started : os.Started) (H : Type) (enc : TypeId × Value → H) :
    ReturnsInHanded {} Try.checked os 5 .any (Rows.rulesHoldsSpec.pre6 enc Try.prog Try.f5 Rows.rulesHoldsRow.domain false) (Rows.rulesHoldsSpec.post enc Try.prog Try.f5 false true false false) := by
  refine returnsInHanded_of_change (C := Try.checked) own started (by kernel_rfl) Try.func5
    (ChangeSpec.witness6 (enc := enc) (C := Try.checked) false ⟨#[], #[.slice none 0 0, .slice none 0 0, .slice none 0 0, .slice none 0 0], []⟩ 8 (by kernel_rfl) (by kernel_rfl) (by kernel_rfl) (by kernel_rfl)) ?_
  intro W base args ds gs before hval hW hcnd _
  exact law_post [(.sl (.int .i64)), (.sl (.st [(.int .i64), .str])), (.sl .str), (.sl .str)] laidOut rfl (fun ds gs h h' => by
    obtain ⟨d0, d1, d2, d3, rfl⟩ := len4 ds h
    obtain rfl := List.eq_nil_of_length_eq_zero h'
    exact ⟨rfl, rfl, rfl⟩) (by kernel_rfl) Try.underlying4 (by kernel_rfl) call hval hW

theorem over : Rows.rulesHoldsRow.holds Try.pinned (OpenSpec.ofChange Rows.rulesHoldsSpec) :=
  OpenClaim.holds_of_wide 5 Try.f5 rfl rfl rfl rfl rfl rfl rfl ⟨rfl, rfl, rfl, rfl, rfl⟩ rfl rfl rfl rfl rfl (by kernel_rfl) Try.func5 (by kernel_rfl)
    (of_decide_eq_true (by kernel_rfl)) (by unfold Func.isWrapper; first | (rw [if_pos (by decide +kernel)]; kernel_rfl) | (rw [if_neg (by decide +kernel)]; exact ⟨rfl, rfl⟩))
    (fun os started H enc _ => lifted os started H enc)

/-- the statement -/
theorem proved : Rows.RulesHoldsSaid := over
end Go.Proofs.Ytpacgphnpalepaa.rulesHolds
