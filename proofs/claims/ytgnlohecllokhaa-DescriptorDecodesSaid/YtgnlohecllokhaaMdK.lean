/-
  The law DescriptorBack: the walk.
-/
import Derived.Test.YtgnlohecllokhaaMdJ
namespace Go.Proofs.Ytgnlohecllokhaa
set_option linter.unusedVariables false
set_option linter.unusedSimpArgs false
theorem bx_at (Z : List (List PV)) : ∀ (b : List UInt8) (i : Nat) (h : i < b.length), (bxs (bsP b ++ Z))[0 * 1 + i * 1]? = some (AV.v (.int .u8 (b[i].toNat : Int))) := by
  intro b
  induction b with
  | nil => intro i h; simp at h
  | cons x t ih =>
    intro i h
    show (bxs ([PV.v (.int .u8 (x.toNat : Int))] :: (bsP t ++ Z)))[0 * 1 + i * 1]? = _
    rw [bx_cons]
    cases i with
    | zero => rfl
    | succ i =>
      rw [show 0 * 1 + (i + 1) * 1 = (0 * 1 + i * 1) + 1 by omega]
      exact ih i (by simpa using h)
theorem bx_put (b : List UInt8) (dd i : Nat) (c : UInt8) (h : i < b.length) : Over (bxs (bsP b ++ List.replicate dd [PV.v (.int .u8 0)])) (0 * 1 + i * 1) [.v (.int .u8 (c.toNat : Int))] (bxs (bsP (b.set i c) ++ List.replicate dd [PV.v (.int .u8 0)])) := by
  have hz1 : ∀ y ∈ bsP b ++ List.replicate dd [PV.v (.int .u8 0)], y.length = 1 := by
    intro y hy
    simp only [List.mem_append, List.mem_map, List.mem_replicate] at hy
    rcases hy with ⟨_, _, rfl⟩ | ⟨_, rfl⟩ <;> rfl
  have q := over_set (PV.v (.int .u8 (c.toNat : Int))) (bsP b ++ List.replicate dd [PV.v (.int .u8 0)]) i hz1 (by rw [List.length_append, List.length_map]; omega)
  rw [List.set_append_left _ _ (by rw [List.length_map]; omega)] at q
  rw [Nat.zero_mul, Nat.zero_add, Nat.mul_one]
  rw [show bsP (b.set i c) = (bsP b).set i [PV.v (.int .u8 (c.toNat : Int))] by simp [List.map_set]]
  exact q
end Go.Proofs.Ytgnlohecllokhaa
