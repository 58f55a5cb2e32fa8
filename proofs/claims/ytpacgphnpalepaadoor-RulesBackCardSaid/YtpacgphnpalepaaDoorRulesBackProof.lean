/-
  The law 'RulesBack' of the given package soundservicelaw29 returns true for every input and leaves its arguments as they were; the listed tables of the library are tied to the program's text. No condition beyond those of the given row.
-/
import Derived.Test.YtpacgphnpalepaaDoorRows
import Derived.Test.YtpacgphnpalepaaDoorCards
import Derived.Test.YtpacgphnpalepaaDoorTie
import Derived.WalkKit
import Derived.ProofKit
import Derived.Handy
import Derived.Lay
import Derived.SevenTiedAt
import Derived.Stop.LaidErr
import Derived.Test.YtpacgphnpalepaaDoorASh
import Derived.Test.YtpacgphnpalepaaDoorQCE
namespace Go.Proofs.YtpacgphnpalepaaDoor.rulesBack
open Go.ChangeShapes Go.WideShapes Go.ChangeAt Go.RowKit

theorem own : ownKnob Tryd.prog.godebug = none := by kernel_rfl
theorem laidOut : laidOutB Tryd.prog = true := by kernel_rfl

theorem call (pss : List (List PV)) (h : Sh.all [(.sl (.int .i64)), (.sl (.int .i64))] pss) : ACalls Tryd.prog 4 (Sh.avs [(.sl (.int .i64)), (.sl (.int .i64))] pss) [] (.v (.bool true)) [] := by
  obtain ⟨p0, q0, rfl, f0, h⟩ := Sh.all_cons h
  obtain ⟨p1, q1, rfl, f1, h⟩ := Sh.all_cons h
  obtain rfl := Sh.all_nil h
  obtain ⟨x0, rfl, w0, e0⟩ := f0
  obtain ⟨x1, rfl, w1, e1⟩ := f1
  obtain ⟨l, rfl, hl⟩ := fitsI_of x0 w0 e0
  obtain ⟨m, rfl, hm⟩ := fitsI_of x1 w1 e1
  exact RulesBack_c l m false false hl hm

theorem table {W : World} (h : laidMetH Tryd.prog Rows.rulesBackRow.laid W) : ∀ t ∈ tabs, Tb (blkMask W) W t := by
  rw [MakeChecks.laidMetH_plain _ _ _ (by kernel_rfl)] at h
  replace h := h.tail.tail
  have h1 : Lib.TabIs Tryd.prog W _ .u64 Lib.pow10Tab := Lib.tabIs_of_head (rest := []) (g := 1) (t := 131) (by kernel_rfl) (by kernel_rfl) Tryd.underlying131 Tryd.underlying88 (by kernel_rfl) (by kernel_rfl) h
  intro t ht
  obtain rfl := List.mem_singleton.1 ht
  unfold Lib.TabIs World.var? at h1
  rw [show Tryd.prog.globalNamed _ = some 1 by kernel_rfl] at h1
  simp only [Option.bind_some] at h1
  split at h1
  · rename_i cs e fr hh
    injection h1 with h1
    subst h1
    refine ⟨e, fr, hh, ?_, by rw [Lib.pow10Tab_length]; decide⟩
    simp [blkMask, hh]
  · cases h1

set_option maxRecDepth 100000 in
theorem lifted (os : Os) (started : os.Started) (H : Type) (enc : TypeId × Value → H) :
    ReturnsInHanded {} Tryd.checked os 4 .any (fun w args => (Rows.rulesBackSpec.pre enc Tryd.prog Tryd.f4 [] false w args ∧ laidMetH Tryd.prog Rows.rulesBackRow.laid w) ∧ sizedMet enc Tryd.prog Tryd.f4 (OpenSpec.ofChange Rows.rulesBackSpec) false w args)
      (Rows.rulesBackSpec.post enc Tryd.prog Tryd.f4 false true false false) := by
  refine returnsInHanded_of_change_and (C := Tryd.checked) (X := fun w _ => laidMetH Tryd.prog Rows.rulesBackRow.laid w) (fun _ _ _ hh h => h.of_heap hh) own started (by kernel_rfl) Tryd.func4
    (ChangeSpec.witness_shaped (enc := enc) (C := Tryd.checked) (os := os) (X := fun w _ => laidMetH Tryd.prog Rows.rulesBackRow.laid w) false (World.laidAll Tryd.prog os Rows.rulesBackRow.laid) #[.slice none 0 0, .slice none 0 0] 8 (World.laidAll_os _ _ _)
      (World.shaped_of_ZipB (by kernel_rfl) (by kernel_rfl)) (by kernel_rfl) (by kernel_rfl) (by kernel_rfl)
      (by rw [MakeChecks.laidMetH_plain _ _ _ (by kernel_rfl)]; exact laidMet_laidAll _ (by kernel_rfl) (by kernel_rfl))) ?_
  intro W base args ds gs before hval hW _ _ hL _
  exact law_post [(.sl (.int .i64)), (.sl (.int .i64))] laidOut Z (fun ds gs h h' => by
    obtain ⟨d0, d1, rfl⟩ := len2 ds h
    obtain rfl := List.eq_nil_of_length_eq_zero h'
    exact ⟨rfl, rfl, rfl⟩) (by kernel_rfl) Tryd.underlying4 (by kernel_rfl) call hval hW (table hL)

theorem over : Rows.rulesBackRow.holds Tryd.pinned (OpenSpec.ofChange Rows.rulesBackSpec) :=
  OpenClaim.holds_of_wide 4 Tryd.f4 Z Z Z Z Z Z Z ⟨rfl, rfl, rfl, rfl, rfl⟩ Z Z Z Z Z (by kernel_rfl) Tryd.func4 (by kernel_rfl)
    (of_decide_eq_true (by kernel_rfl)) (by unfold Func.isWrapper; first | (rw [if_pos (by decide +kernel)]; kernel_rfl) | (rw [if_neg (by decide +kernel)]; exact ⟨rfl, rfl⟩))
    (fun os started H enc _ => lifted os started H enc)

theorem proved : Rows.RulesBackCardSaid :=
  Claim7.holds_tied_plain_at .later [] Rows.rulesBackCard.laidKinds true Rows.rulesBackCard.stood.harness Rows.rulesBackCard.stood.looks
    over (fun _ h => by cases h) (by kernel_rfl) (fun _ h => by cases h) rulesBack_row_tie Z ⟨rfl, rfl⟩ (by kernel_rfl) Z
    (fun f fn hf hfn => by
      obtain rfl : f = 4 := Option.some.inj ((show Tryd.prog.funcNamed Rows.rulesBackRow.func = some 4 by kernel_rfl).symm.trans hf) |>.symm
      obtain rfl : fn = Tryd.f4 := (Option.some.inj (Tryd.func4.symm.trans hfn)).symm
      exact ⟨by kernel_rfl, fun j t ht => by
        rw [Tryd.params4] at ht
        have hm : t ∈ [22, 22] := by simpa using Array.mem_of_getElem? ht
        have hall : ([22, 22].all fun u => !Tryd.prog.wantsStandIn u) = true := by kernel_rfl
        exact (show Tryd.prog.wantsStandIn t = false by simpa using List.all_eq_true.1 hall t hm)⟩)
    (by kernel_rfl)
end Go.Proofs.YtpacgphnpalepaaDoor.rulesBack
