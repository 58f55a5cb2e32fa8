/-
  The law 'SessionCompacts' of the given package soundservicelaw41 returns true for every input and leaves its arguments as they were. No condition beyond those of the given row.
-/
import Derived.Test.YtbbcokckealagaaGreatRows
import Derived.WalkKit
import Derived.ProofKit
import Derived.OpenShut
import Derived.ShutString
import Derived.ChangeOld
import Derived.Below
import Derived.Test.YtbbcokckealagaaGreatASh
import Derived.Test.YtbbcokckealagaaGreatScZ
namespace Go.Proofs.YtbbcokckealagaaGreat.sessionCompacts
open Go.ChangeShapes Go.WideShapes Go.ChangeAt Go.RowKit

theorem own : ownKnob Tryz.prog.godebug = none := by kernel_rfl
theorem laidOut : laidOutB Tryz.prog = true := by kernel_rfl

theorem call (pss : List (List PV)) (h : Sh.all [(.sl (.int .i64)), (.int .i64)] pss) : ACalls Tryz.prog 6 (Sh.avs [(.sl (.int .i64)), (.int .i64)] pss) [] (.v (.bool true)) [] := by
  obtain ⟨p0, q0, rfl, f0, h⟩ := Sh.all_cons h
  obtain ⟨p1, q1, rfl, f1, h⟩ := Sh.all_cons h
  obtain rfl := Sh.all_nil h
  obtain ⟨x0, rfl, w0, e0⟩ := f0
  obtain ⟨n1, rfl, w1⟩ := f1
  obtain ⟨l, rfl, hl⟩ := sFits_of x0 w0 e0
  exact SessionCompacts_c l false hl n1 (wfi64 w1)

set_option maxRecDepth 100000 in
theorem lifted (os : Os) (started : os.Started) (H : Type) (enc : TypeId × Value → H) :
    ReturnsInHanded {} Tryz.checked os 6 .any (Rows.sessionCompactsSpec.pre6 enc Tryz.prog Tryz.f6 Rows.sessionCompactsRow.domain false) (Rows.sessionCompactsSpec.post enc Tryz.prog Tryz.f6 false true false false) := by
  refine returnsInHanded_of_change (C := Tryz.checked) own started (by kernel_rfl) Tryz.func6
    (ChangeSpec.witness6 (enc := enc) (C := Tryz.checked) false ⟨#[], #[.slice none 0 0, .int .i64 0], []⟩ 8 (by kernel_rfl) (by kernel_rfl) (by kernel_rfl) (by kernel_rfl)) ?_
  intro W base args ds gs before hval hW hcnd _
  exact law_post [(.sl (.int .i64)), (.int .i64)] laidOut O (fun ds gs h h' => by
    obtain ⟨d0, d1, rfl⟩ := len2 ds h
    obtain rfl := List.eq_nil_of_length_eq_zero h'
    exact ⟨rfl, rfl, rfl⟩) (by kernel_rfl) Tryz.underlying4 (by kernel_rfl) call hval hW

theorem over : Rows.sessionCompactsRow.holds Tryz.pinned (OpenSpec.ofChange Rows.sessionCompactsSpec) :=
  OpenClaim.holds_of_wide 6 Tryz.f6 O O O O O O O ⟨rfl, rfl, rfl, rfl, rfl⟩ O O O O O (by kernel_rfl) Tryz.func6 (by kernel_rfl)
    (of_decide_eq_true (by kernel_rfl)) (by unfold Func.isWrapper; first | (rw [if_pos (by decide +kernel)]; kernel_rfl) | (rw [if_neg (by decide +kernel)]; exact ⟨rfl, rfl⟩))
    (fun os started H enc _ => lifted os started H enc)

theorem proved : Rows.SessionCompactsSaid := over
end Go.Proofs.YtbbcokckealagaaGreat.sessionCompacts
