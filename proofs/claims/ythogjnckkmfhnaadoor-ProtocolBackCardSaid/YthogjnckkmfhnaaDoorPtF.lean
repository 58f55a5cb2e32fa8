/-
  The law ProtocolBack at arguments of the statement's shapes.
-/
import Derived.Test.YthogjnckkmfhnaaDoorPtD
import Derived.Test.YthogjnckkmfhnaaDoorShB
namespace Go.Proofs.YthogjnckkmfhnaaDoor
theorem ProtocolBack_x (x0 : List (List PV)) (w0 : x0.length ≤ maxLen) (e0 : ∀ x ∈ x0, (Sh.int .i64).fits x) (x1 : List (List PV)) (w1 : x1.length ≤ maxLen) (e1 : ∀ x ∈ x1, (Sh.int .u8).fits x) (s2 : List UInt8) (w2 : s2.length ≤ maxLen) (n3 : Int) (w3 : (Lit.int .i64 n3).wf = true) :
    ACalls Tryd.prog 5 (Sh.avs [(.sl (.int .i64)), (.sl (.int .u8)), .str, (.int .i64)] [[.sl 1 x0], [.sl 1 x1], [.v (.string (Go.Proofs.YthogjnckkmfhnaaDoor.bs s2))], [.v (.int .i64 n3)]]) [] (.v (.bool true)) [] := by
  obtain ⟨ls, rfl, hF⟩ := fits_of x0 w0 e0
  obtain ⟨d, rfl⟩ := bytes_of x1 e1
  exact ProtocolBack_c ls _ hF d _ (by simpa [maxLen] using w1) s2 (by simpa [maxLen] using w2) n3 (wfi64 w3)
end Go.Proofs.YthogjnckkmfhnaaDoor
