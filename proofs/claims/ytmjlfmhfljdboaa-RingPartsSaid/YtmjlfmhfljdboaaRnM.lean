/-
  Walk of the rings that the statements make.
-/
import Derived.Test.YtmjlfmhfljdboaaRnW
namespace Go.Proofs.Ytmjlfmhfljdboaa
set_option linter.unusedVariables false
set_option linter.unusedSimpArgs false
theorem diV_bd (l : List UInt8) (n : Int) (hn : 1 ≤ n) : 0 ≤ diV l n ∧ diV l n < n := by
  rcases l with _ | ⟨c, t⟩
  · simp only [diV]; omega
  · simp only [diV]
    split
    · omega
    · exact ⟨Int.emod_nonneg _ (by omega), Int.emod_lt_of_pos _ (by omega)⟩
/-- what is kept of the rings that the statements make -/
def Rg.small (r : Rg) (B : Nat) : Prop := 0 ≤ r.ch ∧ r.ch ≤ 8 ∧ r.data.length ≤ B ∧ -1000 ≤ r.rd ∧ r.rd ≤ 1125899906842624 ∧ -1000 ≤ r.wr ∧ r.wr ≤ 1125899906842624
theorem Rg.small.ok {r : Rg} {B : Nat} (h : r.small B) (hB : B ≤ 1000000) : r.ok64 := by
  unfold Rg.small at h; unfold Rg.ok64; omega
theorem Rg.small_zero (B : Nat) : Rg.zero.small B := by simp [Rg.small, Rg.zero]
theorem Rg.write_small {r : Rg} {B : Nat} (h : r.small B) (ch : Int) (d : List Int) : (r.write ch d).1.small (B + d.length) := by
  unfold Rg.write
  split
  · exact Rg.small_zero _
  · rename_i hv
    have hv' : r.valid = true := by
      cases e : r.valid with
      | true => rfl
      | false => exact absurd (Or.inl e) hv
    split
    · exact Rg.small_zero _
    · split
      · exact Rg.small_zero _
      · rename_i hlt
        have hp := (Rg.valid_pre hv').1
        have hf := (Rg.valid_pre hv').2.2
        have hb := blkB_ch (Rg.valid_pre hv').2.1
        have hfl : r.fill = r.wr - r.rd := by rw [Rg.fill, hv']; rfl
        unfold Rg.pre at hp
        unfold Rg.fit at hf
        have hk := takes_bd r d hb.1 (by omega)
        unfold Rg.small at h ⊢
        have : (d.take (r.takes d * r.ch).toNat).length ≤ d.length := by rw [List.length_take]; exact Nat.min_le_right _ _
        simp only [List.length_append]
        omega
theorem Rg.read_small {r : Rg} {B : Nat} (h : r.small B) (n : Int) : (r.read n).2.2.1.small B := by
  unfold Rg.read
  split
  · exact Rg.small_zero _
  · rename_i hv
    have hv' : r.valid = true := by simpa using hv
    split
    · exact Rg.small_zero _
    · have hp := (Rg.valid_pre hv').1
      have hfl : r.fill = r.wr - r.rd := by rw [Rg.fill, hv']; rfl
      unfold Rg.pre at hp
      have hg : r.gives n ≤ r.fill ∧ (0 ≤ n → 0 ≤ r.gives n) := by unfold Rg.gives; omega
      unfold Rg.small at h ⊢
      simp only [List.length_drop]
      omega
def stepM (n : Int) (r : Rg) (l : List UInt8) : Rg × List UInt8 :=
  ((((r.write r.ch (wvN n r.ch 0 (diV l 9).toNat)).1).read (diV (diL l 9) 6)).2.2.1, diL (diL l 9) 6)
def loopM : Nat → Rg → List UInt8 → Rg × List UInt8
  | 0, r, l => (r, l)
  | n + 1, r, l => loopM n (stepM (n + 1 : Nat) r l).1 (stepM (n + 1 : Nat) r l).2
def madeM (l : List UInt8) : Rg × List UInt8 :=
  loopM (diV (diL (diL l 2) 12) 5).toNat (newR (1 + diV l 2) (1 + diV (diL l 2) 12)).1 (diL (diL (diL l 2) 12) 5)
end Go.Proofs.Ytmjlfmhfljdboaa
