/-
  The laws of the descriptors at arguments of the statements' shapes.
-/
import Derived.Test.YtgnlohecllokhaaMdO
import Derived.Test.YtgnlohecllokhaaASh
namespace Go.Proofs.Ytgnlohecllokhaa
set_option linter.unusedVariables false
theorem u8_of (n : Int) (h : 0 ≤ n ∧ n ≤ 255) : ∃ c : UInt8, n = (c.toNat : Int) := by
  refine ⟨UInt8.ofNat n.toNat, ?_⟩
  rw [UInt8.toNat_ofNat']
  omega
theorem wf8 {n : Int} (h : (Lit.int .u8 n).wf = true) : 0 ≤ n ∧ n ≤ 255 := by
  simp [Lit.wf, IntKind.min, IntKind.max, IntKind.signed, IntKind.bits] at h; omega
theorem wf64 {n : Int} (h : (Lit.int .i64 n).wf = true) : -9223372036854775808 ≤ n ∧ n ≤ 9223372036854775807 := by
  simp [Lit.wf, IntKind.min, IntKind.max, IntKind.signed, IntKind.bits] at h; omega
theorem wf64u {n : Int} (h : (Lit.int .u64 n).wf = true) : 0 ≤ n ∧ n ≤ 18446744073709551615 := by
  simp [Lit.wf, IntKind.min, IntKind.max, IntKind.signed, IntKind.bits] at h; omega
theorem all_of {α : Type} (F : α → List PV) (Q : α → Prop) (s : Sh) (h : ∀ y, s.fits y → ∃ a, y = F a ∧ Q a) (xs : List (List PV)) (e : ∀ y ∈ xs, s.fits y) : ∃ l : List α, xs = l.map F ∧ ∀ a ∈ l, Q a := by
  induction xs with
  | nil => exact ⟨[], rfl, fun a h => by cases h⟩
  | cons x xs ih =>
    obtain ⟨l, rfl, hl⟩ := ih (fun y hy => e y (List.mem_cons_of_mem _ hy))
    obtain ⟨a, rfl, ha⟩ := h x (e x (by simp))
    exact ⟨a :: l, rfl, fun b hb => by
      rcases List.mem_cons.1 hb with rfl | hb
      · exact ha
      · exact hl b hb⟩
theorem bytes_of (xs : List (List PV)) (e : ∀ y ∈ xs, (Sh.int .u8).fits y) : ∃ l : List UInt8, xs = bsP l := by
  obtain ⟨l, h, _⟩ := all_of (fun c : UInt8 => [PV.v (.int .u8 (c.toNat : Int))]) (fun _ => True) _ (fun y hy => by
    obtain ⟨n, rfl, hn⟩ := hy
    obtain ⟨c, rfl⟩ := u8_of n (wf8 hn)
    exact ⟨c, rfl, trivial⟩) xs e
  exact ⟨l, h⟩
theorem spans_of (xs : List (List PV)) (e : ∀ y ∈ xs, (Sh.st [.int .i64, .int .i64]).fits y) : ∃ l : List (Int × Int), xs = spP l := by
  obtain ⟨l, h, _⟩ := all_of (fun x : Int × Int => [PV.v (.int .i64 x.1), PV.v (.int .i64 x.2)]) (fun _ => True) _ (fun y hy => by
    obtain ⟨_, _, rfl, ⟨a, rfl, _⟩, _, g, rfl, ⟨b, rfl, _⟩, hd⟩ := hy
    obtain rfl : g = [] := hd
    exact ⟨(a, b), rfl, trivial⟩) xs e
  exact ⟨l, h⟩
theorem map_of (xs : List (List PV)) (e : ∀ y ∈ xs, (Sh.int .i64).fits y) : ∃ l : List Int, xs = nvs l := by
  obtain ⟨l, h, _⟩ := all_of (fun n : Int => [PV.v (.int .i64 n)]) (fun _ => True) _ (fun y hy => by
    obtain ⟨n, rfl, _⟩ := hy
    exact ⟨n, rfl, trivial⟩) xs e
  exact ⟨l, h⟩
theorem maps_of (xs : List (List PV)) (e : ∀ y ∈ xs, (Sh.sl (.int .i64)).fits y) : ∃ l : List (List Int), xs = mpP l ∧ ∀ m ∈ l, m.length ≤ 9223372036854775807 :=
  all_of (fun m : List Int => [PV.sl 1 (nvs m)]) (fun m => m.length ≤ 9223372036854775807) _ (fun y hy => by
    obtain ⟨zs, rfl, wz, ez⟩ := hy
    obtain ⟨m, rfl⟩ := map_of zs ez
    exact ⟨m, rfl, by simpa [maxLen] using wz⟩) xs e
abbrev bxSh : Sh := .st [.int .i64, .st [.sl (.st [.int .i64, .int .i64])], .sl (.sl (.int .i64)), .st [.sl (.st [.int .i64, .int .i64])]]
theorem box_of (y : List PV) (hy : bxSh.fits y) : ∃ b : Bx, y = bxPV b ∧ FitB b ∧ bxFit b := by
  obtain ⟨_, _, rfl, ⟨k, rfl, hk⟩, _, _, rfl, ⟨_, z1, rfl, ⟨rs, rfl, wr, er⟩, h1⟩, _, _, rfl, ⟨ms, rfl, wm, em⟩, _, g, rfl, ⟨_, z2, rfl, ⟨ss, rfl, ws, es⟩, h2⟩, hd⟩ := hy
  obtain rfl : z1 = [] := h1
  obtain rfl : z2 = [] := h2
  obtain rfl : g = [] := hd
  obtain ⟨r, rfl⟩ := spans_of rs er
  obtain ⟨s, rfl⟩ := spans_of ss es
  obtain ⟨m, rfl, hm⟩ := maps_of ms em
  exact ⟨{ kinds := k, rates := r, maps := m, sizes := s }, rfl, ⟨by simpa [maxLen] using wr, ⟨by simpa [maxLen] using wm, hm⟩, by simpa [maxLen] using ws⟩, wf64 hk⟩
abbrev dsSh : Sh := .st [.int .u64, .str, .int .i64, .int .i64, .int .i64, .int .i64, .int .i64, .sl bxSh]
theorem ds_of (p : List PV) (h : dsSh.fits p) : ∃ d : Ds, p = dsPV d ∧ FitD d ∧ dsFit d := by
  obtain ⟨_, _, rfl, ⟨id, rfl, h1⟩, _, _, rfl, ⟨name, rfl, h2⟩, _, _, rfl, ⟨dir, rfl, _⟩, _, _, rfl, ⟨dom, rfl, _⟩, _, _, rfl, ⟨lat, rfl, _⟩, _, _, rfl, ⟨drift, rfl, _⟩, _, _, rfl, ⟨jit, rfl, _⟩, _, g, rfl, ⟨bx, rfl, wb, eb⟩, hd⟩ := h
  obtain rfl : g = [] := hd
  obtain ⟨l, rfl, hl⟩ := all_of bxPV (fun b => FitB b ∧ bxFit b) bxSh box_of bx eb
  exact ⟨{ id := id, name := name, dir := dir, dom := dom, lat := lat, drift := drift, jit := jit, boxes := l }, rfl, ⟨by simpa [maxLen] using h2, by simpa [maxLen] using wb, fun b hb => (hl b hb).1⟩, wf64u h1, fun b hb => (hl b hb).2⟩
theorem DescriptorEncodes_x (p0 : List PV) (f0 : dsSh.fits p0) (x1 : List (List PV)) (w1 : x1.length ≤ maxLen) (e1 : ∀ x ∈ x1, (Sh.int .u8).fits x) (n2 : Int) (w2 : (Lit.int .u8 n2).wf = true) (n3 : Int) (w3 : (Lit.int .u8 n3).wf = true) :
    ACalls Try.prog 3 (Sh.avs [dsSh, .sl (.int .u8), .int .u8, .int .u8] [p0, [.sl 1 x1], [.v (.int .u8 n2)], [.v (.int .u8 n3)]]) [] (.v (.bool true)) [] := by
  obtain ⟨d, rfl, hd, hf⟩ := ds_of p0 f0
  obtain ⟨l, rfl⟩ := bytes_of x1 e1
  exact DescriptorEncodes_c d _ hd hf l _ (by simpa [maxLen] using w1) n2 (wf8 w2) n3 (wf8 w3)
end Go.Proofs.Ytgnlohecllokhaa
