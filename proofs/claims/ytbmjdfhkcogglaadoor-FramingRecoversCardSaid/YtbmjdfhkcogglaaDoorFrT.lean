/-
  The laws FramingStreams and FramingRecovers at arguments of the statement's shapes.
-/
import Derived.Test.YtbmjdfhkcogglaaDoorFrS
import Derived.Test.YtbmjdfhkcogglaaDoorFrG
namespace Go.Proofs.YtbmjdfhkcogglaaDoor
theorem FramingStreams_x (x0 : List (List PV)) (w0 : x0.length ≤ maxLen) (e0 : ∀ x ∈ x0, (Sh.int .i64).fits x) (n1 : Int) (w1 : (Lit.int .i64 n1).wf = true) :
    ACalls Tryd.prog 4 (Sh.avs [(.sl (.int .i64)), (.int .i64)] [[.sl 1 x0], [.v (.int .i64 n1)]]) [] (.v (.bool true)) [] := by
  obtain ⟨ls, rfl, hF⟩ := fits_of x0 w0 e0
  exact FramingStreams_c ls _ hF n1 (wfi64 w1)
theorem FramingRecovers_x (x0 : List (List PV)) (w0 : x0.length ≤ maxLen) (e0 : ∀ x ∈ x0, (Sh.int .i64).fits x) (x1 : List (List PV)) (w1 : x1.length ≤ maxLen) (e1 : ∀ x ∈ x1, (Sh.int .u8).fits x) :
    ACalls Tryd.prog 6 (Sh.avs [(.sl (.int .i64)), (.sl (.int .u8))] [[.sl 1 x0], [.sl 1 x1]]) [] (.v (.bool true)) [] := by
  obtain ⟨ls, rfl, hF⟩ := fits_of x0 w0 e0
  obtain ⟨raw, rfl⟩ := bytes_of x1 e1
  exact FramingRecovers_c ls _ hF raw _ (by simpa [maxLen] using w1)
end Go.Proofs.YtbmjdfhkcogglaaDoor
