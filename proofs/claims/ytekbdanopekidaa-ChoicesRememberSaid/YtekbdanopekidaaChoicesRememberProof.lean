/-
  The law 'ChoicesRemember' of the given package soundservicelaw30 returns true for every input and leaves its arguments as they were. No condition beyond those of the given row.
-/
import Derived.Test.YtekbdanopekidaaRows
import Derived.WalkKit
import Derived.ProofKit
import Derived.OpenShut
import Derived.ShutString
import Derived.ChangeOld
import Derived.Below
import Derived.Test.YtekbdanopekidaaASh
import Derived.Test.YtekbdanopekidaaChL
namespace Go.Proofs.Ytekbdanopekidaa.choicesRemember
open Go.ChangeShapes Go.WideShapes Go.ChangeAt Go.RowKit
set_option linter.unusedVariables false

theorem own : ownKnob Try.prog.godebug = none := by kernel_rfl
theorem laidOut : laidOutB Try.prog = true := by kernel_rfl

theorem call (pss : List (List PV)) (h : Sh.all [(.sl (.int .i64)), (.st [(.sl (.st [.str, (.sl (.int .u64)), (.int .u64)]))]), (.st [.str, (.sl (.int .u64)), (.int .u64)])] pss) : ACalls Try.prog 3 (Sh.avs [(.sl (.int .i64)), (.st [(.sl (.st [.str, (.sl (.int .u64)), (.int .u64)]))]), (.st [.str, (.sl (.int .u64)), (.int .u64)])] pss) [] (.v (.bool true)) [] := by
  obtain ⟨p0, q0, rfl, f0, h⟩ := Sh.all_cons h
  obtain ⟨p1, q1, rfl, f1, h⟩ := Sh.all_cons h
  obtain ⟨p2, q2, rfl, f2, h⟩ := Sh.all_cons h
  obtain rfl := Sh.all_nil h
  obtain ⟨x0, rfl, w0, e0⟩ := f0
  obtain ⟨l, rfl, hl⟩ := fits_of x0 w0 e0
  obtain ⟨a, b, rfl, ⟨xs, rfl, wx, ex⟩, f1⟩ := f1
  obtain rfl : b = [] := f1
  obtain ⟨raw, rfl, hro⟩ := chs_of xs ex
  obtain ⟨c, rfl, hc⟩ := ch_of p2 f2
  exact ChoicesRemember_c l hl raw (by simpa [maxLen] using wx) hro c hc

set_option maxRecDepth 100000 in
theorem lifted (os : Os) (started : os.Started) (H : Type) (enc : TypeId × Value → H) :
    ReturnsInHanded {} Try.checked os 3 .any (Rows.choicesRememberSpec.pre6 enc Try.prog Try.f3 Rows.choicesRememberRow.domain false) (Rows.choicesRememberSpec.post enc Try.prog Try.f3 false true false false) := by
  refine returnsInHanded_of_change (C := Try.checked) own started (by kernel_rfl) Try.func3
    (ChangeSpec.witness6 (enc := enc) (C := Try.checked) false ⟨#[], #[.slice none 0 0, .agg #[.slice none 0 0], .agg #[.string ⟨#[]⟩, .slice none 0 0, .int .u64 0]], []⟩ 8 (by kernel_rfl) (by kernel_rfl) (by kernel_rfl) (by kernel_rfl)) ?_
  intro W base args ds gs before hval hW hcnd _
  exact law_post [(.sl (.int .i64)), (.st [(.sl (.st [.str, (.sl (.int .u64)), (.int .u64)]))]), (.st [.str, (.sl (.int .u64)), (.int .u64)])] laidOut rfl (fun ds gs h h' => by
    obtain ⟨d0, d1, d2, rfl⟩ := len3 ds h
    obtain rfl := List.eq_nil_of_length_eq_zero h'
    exact ⟨rfl, rfl, rfl⟩) (by kernel_rfl) Try.underlying4 (by kernel_rfl) call hval hW

theorem over : Rows.choicesRememberRow.holds Try.pinned (OpenSpec.ofChange Rows.choicesRememberSpec) :=
  OpenClaim.holds_of_wide 3 Try.f3 rfl rfl rfl rfl rfl rfl rfl ⟨rfl, rfl, rfl, rfl, rfl⟩ rfl rfl rfl rfl rfl (by kernel_rfl) Try.func3 (by kernel_rfl)
    (of_decide_eq_true (by kernel_rfl)) (by unfold Func.isWrapper; first | (rw [if_pos (by decide +kernel)]; kernel_rfl) | (rw [if_neg (by decide +kernel)]; exact ⟨rfl, rfl⟩))
    (fun os started H enc _ => lifted os started H enc)

/-- the statement -/
theorem proved : Rows.ChoicesRememberSaid := over
end Go.Proofs.Ytekbdanopekidaa.choicesRemember
