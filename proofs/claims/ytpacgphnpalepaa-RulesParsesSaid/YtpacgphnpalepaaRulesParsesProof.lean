/-
  The law 'RulesParses' of the given package soundservicelaw29 returns true for every input and leaves its arguments as they were. No condition beyond those of the given row.
-/
import Derived.Test.YtpacgphnpalepaaRows
import Derived.WalkKit
import Derived.ProofKit
import Derived.OpenShut
import Derived.ShutString
import Derived.ChangeOld
import Derived.Below
import Derived.Test.YtpacgphnpalepaaASh
import Derived.Test.YtpacgphnpalepaaQBM
namespace Go.Proofs.Ytpacgphnpalepaa.rulesParses
open Go.ChangeShapes Go.WideShapes Go.ChangeAt Go.RowKit

theorem own : ownKnob Try.prog.godebug = none := by kernel_rfl
theorem laidOut : laidOutB Try.prog = true := by kernel_rfl

theorem call (pss : List (List PV)) (h : Sh.all [(.sl (.int .i64)), .str] pss) : ACalls Try.prog 3 (Sh.avs [(.sl (.int .i64)), .str] pss) [] (.v (.bool true)) [] := by
  obtain ⟨p0, q0, rfl, f0, h⟩ := Sh.all_cons h
  obtain ⟨p1, q1, rfl, f1, h⟩ := Sh.all_cons h
  obtain rfl := Sh.all_nil h
  obtain ⟨x0, rfl, w0, e0⟩ := f0
  obtain ⟨s1, rfl, w1⟩ := f1
  obtain ⟨l, rfl, hl⟩ := fitsI_of x0 w0 e0
  exact RulesParses_c l false hl s1 (by simpa [maxLen] using w1)

set_option maxRecDepth 100000 in
theorem lifted (os : Os) (started : os.Started) (H : Type) (enc : TypeId × Value → H) :
    ReturnsInHanded {} Try.checked os 3 .any (Rows.rulesParsesSpec.pre6 enc Try.prog Try.f3 Rows.rulesParsesRow.domain false) (Rows.rulesParsesSpec.post enc Try.prog Try.f3 false true false false) := by
  refine returnsInHanded_of_change (C := Try.checked) own started (by kernel_rfl) Try.func3
    (ChangeSpec.witness6 (enc := enc) (C := Try.checked) false ⟨#[], #[.slice none 0 0, .string ⟨#[]⟩], []⟩ 8 (by kernel_rfl) (by kernel_rfl) (by kernel_rfl) (by kernel_rfl)) ?_
  intro W base args ds gs before hval hW hcnd _
  exact law_post [(.sl (.int .i64)), .str] laidOut Z (fun ds gs h h' => by
    obtain ⟨d0, d1, rfl⟩ := len2 ds h
    obtain rfl := List.eq_nil_of_length_eq_zero h'
    exact ⟨rfl, rfl, rfl⟩) (by kernel_rfl) Try.underlying4 (by kernel_rfl) call hval hW

theorem over : Rows.rulesParsesRow.holds Try.pinned (OpenSpec.ofChange Rows.rulesParsesSpec) :=
  OpenClaim.holds_of_wide 3 Try.f3 Z Z Z Z Z Z Z ⟨rfl, rfl, rfl, rfl, rfl⟩ Z Z Z Z Z (by kernel_rfl) Try.func3 (by kernel_rfl)
    (of_decide_eq_true (by kernel_rfl)) (by unfold Func.isWrapper; first | (rw [if_pos (by decide +kernel)]; kernel_rfl) | (rw [if_neg (by decide +kernel)]; exact ⟨rfl, rfl⟩))
    (fun os started H enc _ => lifted os started H enc)

theorem proved : Rows.RulesParsesSaid := over
end Go.Proofs.Ytpacgphnpalepaa.rulesParses
