/-
  The law ProtocolFormats at arguments of the statement's shapes.
-/
import Derived.Test.YthogjnckkmfhnaaDoorPtB
import Derived.Test.YthogjnckkmfhnaaDoorShB
namespace Go.Proofs.YthogjnckkmfhnaaDoor
theorem rq_of (p : List PV) (f : (Sh.st [.int .i64, .int .i64, .str, .int .i64, .int .i64, .int .i64, .int .i64, .int .i64, .int .u64, .sl (.int .u8), .str]).fits p) :
    ∃ r : Rq, r.ok ∧ r.fit ∧ p = [PV.v (.int .i64 r.kind), PV.v (.int .i64 r.id), PV.v (.string (bs r.role)), PV.v (.int .i64 r.dir), PV.v (.int .i64 r.ch), PV.v (.int .i64 r.rate), PV.v (.int .i64 r.lat), PV.v (.int .i64 r.n), PV.v (.int .u64 r.dev), PV.sl 1 (bsP r.data), PV.v (.string (bs r.text))] := by
  obtain ⟨_, _, rfl, ⟨kind, rfl, _⟩, _, _, rfl, ⟨id, rfl, h2⟩, _, _, rfl, ⟨role, rfl, h3⟩, _, _, rfl, ⟨dir, rfl, _⟩, _, _, rfl, ⟨ch, rfl, h5⟩, _, _, rfl, ⟨rate, rfl, h6⟩, _, _, rfl, ⟨lat, rfl, h7⟩, _, _, rfl, ⟨n, rfl, h8⟩, _, _, rfl, ⟨dev, rfl, h9⟩, _, _, rfl, ⟨xs, rfl, wx, ex⟩, _, g, rfl, ⟨text, rfl, h11⟩, hd⟩ := f
  obtain rfl : g = [] := hd
  obtain ⟨l, rfl⟩ := bytes_of xs ex
  have h9' := wfu64 h9
  exact ⟨{ kind := kind, id := id, role := role, dir := dir, ch := ch, rate := rate, lat := lat, n := n, dev := dev, data := l, text := text }, ⟨by simpa [maxLen] using h3, by simpa [maxLen] using wx⟩, ⟨wfi64 h2, wfi64 h5, wfi64 h6, wfi64 h7, wfi64 h8, by simp only; omega⟩, rfl⟩
theorem ProtocolFormats_x (x0 : List (List PV)) (w0 : x0.length ≤ maxLen) (e0 : ∀ x ∈ x0, (Sh.int .i64).fits x) (p1 : List PV) (f1 : (Sh.st [.int .i64, .int .i64, .str, .int .i64, .int .i64, .int .i64, .int .i64, .int .i64, .int .u64, .sl (.int .u8), .str]).fits p1) (n2 : Int) (w2 : (Lit.int .i64 n2).wf = true) :
    ACalls Tryd.prog 4 (Sh.avs [(.sl (.int .i64)), (.st [(.int .i64), (.int .i64), .str, (.int .i64), (.int .i64), (.int .i64), (.int .i64), (.int .i64), (.int .u64), (.sl (.int .u8)), .str]), (.int .i64)] [[.sl 1 x0], p1, [.v (.int .i64 n2)]]) [] (.v (.bool true)) [] := by
  obtain ⟨ls, rfl, hF⟩ := fits_of x0 w0 e0
  obtain ⟨r, h1, h2, rfl⟩ := rq_of p1 f1
  exact ProtocolFormats_c ls _ hF r _ h1 h2 n2 (wfi64 w2)
end Go.Proofs.YthogjnckkmfhnaaDoor
