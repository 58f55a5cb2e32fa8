/-
  The law 'SessionRestores' of the given package soundservicelaw41 returns true for every input and leaves its arguments as they were. No condition beyond those of the given row.
-/
import Derived.Test.YtbbcokckealagaaGreatRows
import Derived.WalkKit
import Derived.ProofKit
import Derived.OpenShut
import Derived.ShutString
import Derived.ChangeOld
import Derived.Below
import Derived.Test.YtbbcokckealagaaGreatASh
import Derived.Test.YtbbcokckealagaaGreatQEH
namespace Go.Proofs.YtbbcokckealagaaGreat.sessionRestores
open Go.ChangeShapes Go.WideShapes Go.ChangeAt Go.RowKit

theorem own : ownKnob Tryz.prog.godebug = none := by kernel_rfl
theorem laidOut : laidOutB Tryz.prog = true := by kernel_rfl

theorem call (pss : List (List PV)) (h : Sh.all [(.sl (.int .i64)), (.sl (.int .u8)), (.int .i64)] pss) : ACalls Tryz.prog 5 (Sh.avs [(.sl (.int .i64)), (.sl (.int .u8)), (.int .i64)] pss) [] (.v (.bool true)) [] := by
  obtain ⟨p0, q0, rfl, f0, h⟩ := Sh.all_cons h
  obtain ⟨p1, q1, rfl, f1, h⟩ := Sh.all_cons h
  obtain ⟨p2, q2, rfl, f2, h⟩ := Sh.all_cons h
  obtain rfl := Sh.all_nil h
  obtain ⟨x0, rfl, w0, e0⟩ := f0
  obtain ⟨x1, rfl, w1, e1⟩ := f1
  obtain ⟨n2, rfl, w2⟩ := f2
  obtain ⟨l, rfl, hl⟩ := sFits_of x0 w0 e0
  obtain ⟨b, rfl⟩ := bytes_of x1 e1
  exact SessionRestores_c l false hl b false n2 (wfi64 w2)

set_option maxRecDepth 100000 in
theorem lifted (os : Os) (started : os.Started) (H : Type) (enc : TypeId × Value → H) :
    ReturnsInHanded {} Tryz.checked os 5 .any (Rows.sessionRestoresSpec.pre6 enc Tryz.prog Tryz.f5 Rows.sessionRestoresRow.domain false) (Rows.sessionRestoresSpec.post enc Tryz.prog Tryz.f5 false true false false) := by
  refine returnsInHanded_of_change (C := Tryz.checked) own started (by kernel_rfl) Tryz.func5
    (ChangeSpec.witness6 (enc := enc) (C := Tryz.checked) false ⟨#[], #[.slice none 0 0, .slice none 0 0, .int .i64 0], []⟩ 8 (by kernel_rfl) (by kernel_rfl) (by kernel_rfl) (by kernel_rfl)) ?_
  intro W base args ds gs before hval hW hcnd _
  exact law_post [(.sl (.int .i64)), (.sl (.int .u8)), (.int .i64)] laidOut O (fun ds gs h h' => by
    obtain ⟨d0, d1, d2, rfl⟩ := len3 ds h
    obtain rfl := List.eq_nil_of_length_eq_zero h'
    exact ⟨rfl, rfl, rfl⟩) (by kernel_rfl) Tryz.underlying4 (by kernel_rfl) call hval hW

theorem over : Rows.sessionRestoresRow.holds Tryz.pinned (OpenSpec.ofChange Rows.sessionRestoresSpec) :=
  OpenClaim.holds_of_wide 5 Tryz.f5 O O O O O O O ⟨rfl, rfl, rfl, rfl, rfl⟩ O O O O O (by kernel_rfl) Tryz.func5 (by kernel_rfl)
    (of_decide_eq_true (by kernel_rfl)) (by unfold Func.isWrapper; first | (rw [if_pos (by decide +kernel)]; kernel_rfl) | (rw [if_neg (by decide +kernel)]; exact ⟨rfl, rfl⟩))
    (fun os started H enc _ => lifted os started H enc)

theorem proved : Rows.SessionRestoresSaid := over
end Go.Proofs.YtbbcokckealagaaGreat.sessionRestores
