/-
  The law ProtocolAnswers at arguments of the statement's shapes.
-/
import Derived.Test.YthogjnckkmfhnaaDoorPsF
import Derived.Test.YthogjnckkmfhnaaDoorShB
namespace Go.Proofs.YthogjnckkmfhnaaDoor
theorem ProtocolAnswers_x (p0 : List PV) (f0 : (Sh.st [.int .i64, .sl (.int .u8), .str]).fits p0) (s1 : List UInt8) (w1 : s1.length ≤ maxLen) (n2 : Int) (w2 : (Lit.int .i64 n2).wf = true) :
    ACalls Tryd.prog 3 (Sh.avs [(.st [(.int .i64), (.sl (.int .u8)), .str]), .str, (.int .i64)] [p0, [.v (.string (Go.Proofs.YthogjnckkmfhnaaDoor.bs s1))], [.v (.int .i64 n2)]]) [] (.v (.bool true)) [] := by
  obtain ⟨a, b, rfl, ⟨cd, rfl, hn⟩, c, d, rfl, ⟨xs, rfl, wx, ex⟩, e, g, rfl, ⟨tx, rfl, ht⟩, hd⟩ := f0
  obtain rfl : g = [] := hd
  obtain ⟨l, rfl⟩ := bytes_of xs ex
  exact ProtocolAnswers_c { code := cd, data := l, text := tx } _ (wfi64 hn) (by simpa [maxLen] using wx) (by simpa [maxLen] using ht) s1 (by simpa [maxLen] using w1) n2 (wfi64 w2)
end Go.Proofs.YthogjnckkmfhnaaDoor
