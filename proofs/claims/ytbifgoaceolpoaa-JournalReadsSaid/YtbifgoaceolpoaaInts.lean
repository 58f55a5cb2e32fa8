/-
  What the shells say of a slice of ints that came in. No dump; no condition.
-/
import Derived.Test.YtbifgoaceolpoaaDeck
namespace Go.Proofs.Ytbifgoaceolpoaa
open Go.RowKit
theorem rd_ints {w : World} {a : Option Addr} {len cap : Nat} {zs : List Int}
    (h : (a = none ∧ len = 0 ∧ cap = 0 ∧ zs = []) ∨ ∃ x, a = some x ∧ len ≤ cap ∧ cap ≤ maxLen ∧ zs.length = cap ∧ (∀ i, i < zs.length → w.cell? (x.add i) = some (.int .i64 (zs.getD i 0))) ∧ ∀ n ∈ zs, (Lit.int .i64 n).wf = true) :
    ∃ l, Rd w w.heap.size 1 a len (iv l) ∧ Fits l ∧ len ≤ cap ∧ len ≤ maxLen := by
  rcases h with ⟨rfl, rfl, rfl, rfl⟩ | ⟨x, rfl, hlc, hcm, hz, hc, hwf⟩
  · exact ⟨[], Rd.nil _ _ _ _, fun z hz => by simp at hz, Nat.le_refl _, by simp [maxLen]⟩
  · refine ⟨zs.take len, ⟨by simp [iv]; omega, fun hn => ?_⟩, ?_, hlc, by omega⟩
    · have h0 := hc 0 (by omega)
      have hx : x.add 0 = x := by simp [Addr.add]
      have hsp : x.spot = none := by
        rw [hx] at h0
        unfold World.cell? at h0
        split at h0
        · split at h0
          · cases h0
          · rename_i h; simpa using h
        · cases h0
      have hb : x.block < w.heap.size := by
        have := World.block_lt_of_cell? w _ h0
        rwa [hx] at this
      obtain ⟨b, off, sp⟩ := x
      simp only at hsp hb
      subst hsp
      refine ⟨b, off, rfl, hb, fun j u hu => ?_⟩
      have hj : j < len := by
        have := (List.getElem?_eq_some_iff.1 hu).1
        simp [iv] at this
        omega
      have hcj := hc j (by omega)
      rw [Addr.add_lit] at hcj
      rw [hcj, ← hu]
      simp [iv, hj, List.getD, show j < zs.length by omega]
    · intro z hz'
      have hw := hwf z (List.mem_of_mem_take hz')
      simpa [Lit.wf, IntKind.min, IntKind.max, IntKind.signed, IntKind.bits] using hw
theorem rd_cap {w : World} {a : Option Addr} {len cap : Nat} {k : IntKind} {zs : List Int}
    (h : (a = none ∧ len = 0 ∧ cap = 0 ∧ zs = []) ∨ ∃ x, a = some x ∧ len ≤ cap ∧ cap ≤ maxLen ∧ zs.length = cap ∧ (∀ i, i < zs.length → w.cell? (x.add i) = some (.int k (zs.getD i 0))) ∧ ∀ n ∈ zs, (Lit.int k n).wf = true) : len ≤ maxLen := by
  rcases h with ⟨_, rfl, _⟩ | ⟨x, _, hlc, hcm, _⟩
  · simp [maxLen]
  · omega
theorem wf_i64 {n : Int} (h : (Lit.int .i64 n).wf = true) : -9223372036854775808 ≤ n ∧ n ≤ 9223372036854775807 := by
  simpa [Lit.wf, IntKind.min, IntKind.max, IntKind.signed, IntKind.bits] using h
end Go.Proofs.Ytbifgoaceolpoaa
