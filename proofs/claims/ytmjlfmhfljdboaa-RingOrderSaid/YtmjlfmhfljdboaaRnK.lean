/-
  Small facts of rings: equal rings, lengths, shapes of arguments.
-/
import Derived.Test.YtmjlfmhfljdboaaRnO
import Derived.Test.YtmjlfmhfljdboaaASh
namespace Go.Proofs.Ytmjlfmhfljdboaa
set_option linter.unusedVariables false
set_option linter.unusedSimpArgs false
abbrev rgP (r : Rg) : List PV := [.v (.int .i64 r.ch), .v (.int .i64 r.cap), .v (.int .i64 r.wr), .v (.int .i64 r.rd), .sl 1 (isP r.data)]
abbrev bkP (b : Int × List Int) : List PV := [.v (.int .i64 b.1), .sl 1 (isP b.2)]
theorem rgs_c (r : Rg) (h : r.data.length ≤ 1099511627776) : ACalls Try.prog 16 [.agg (r.cs false), .agg (r.cs false)] [] (.v (.bool true)) [] := by
  have := rgSame_c r r false false h
  rw [decide_eq_true rfl] at this
  exact this
theorem bks_c (c : Int) (d : List Int) (h : d.length ≤ 1099511627776) : ACalls Try.prog 17 [.agg (bkC c d false), .agg (bkC c d false)] [] (.v (.bool true)) [] := by
  have := bSame_c c c d d false false h
  rw [decide_eq_true rfl, decide_eq_true rfl] at this
  exact this
theorem stepM_small {r : Rg} {B : Nat} (h : r.small B) (n : Int) (l : List UInt8) : (stepM n r l).1.small (B + 100) := by
  have d1 := diV_bd l 9 (by omega)
  have hs := h
  unfold Rg.small at hs
  have hwl := wvN_len n r.ch 0 (diV l 9).toNat
  have hwb : (diV l 9).toNat * r.ch.toNat ≤ 9 * 8 := Nat.mul_le_mul (by omega) (by omega)
  have hs2 := Rg.write_small h r.ch (wvN n r.ch 0 (diV l 9).toNat)
  have hs3 := Rg.read_small hs2 (diV (diL l 9) 6)
  simp only [stepM]
  unfold Rg.small at hs3 ⊢
  omega
theorem loopM_small : ∀ (k : Nat) (r : Rg) (l : List UInt8) (B : Nat), r.small B → (loopM k r l).1.small (B + 100 * k)
  | 0, r, l, B, h => h
  | k + 1, r, l, B, h => by
    have := loopM_small k (stepM ((k + 1 : Nat) : Int) r l).1 (stepM ((k + 1 : Nat) : Int) r l).2 _ (stepM_small h ((k + 1 : Nat) : Int) l)
    rw [loopM]
    unfold Rg.small at this ⊢
    omega
theorem newR_small (a b : Int) : (newR a b).1.small 0 := by
  unfold newR
  split
  · rename_i h
    have := (Rg.valid_pre h).1
    have hb := blkB_ch (Rg.valid_pre h).2.1
    unfold Rg.pre at this
    simp only at this hb
    unfold Rg.small; simp only [List.length_nil]; omega
  · exact Rg.small_zero _
theorem madeM_small (l : List UInt8) : (madeM l).1.small 400 := by
  have b3 := diV_bd (diL (diL l 2) 12) 5 (by omega)
  have := loopM_small (diV (diL (diL l 2) 12) 5).toNat _ (diL (diL (diL l 2) 12) 5) 0 (newR_small (1 + diV l 2) (1 + diV (diL l 2) 12))
  rw [madeM]
  unfold Rg.small at this ⊢
  omega
theorem write_len (r : Rg) (ch : Int) (d : List Int) : (r.write ch d).1.data.length ≤ r.data.length + d.length := by
  unfold Rg.write
  (repeat' split) <;> simp [Rg.zero]
  omega
theorem read_len (r : Rg) (n : Int) : (r.read n).2.2.1.data.length ≤ r.data.length := by
  unfold Rg.read
  (repeat' split) <;> simp [Rg.zero]
theorem clear_len (r : Rg) : r.clear.1.data.length ≤ r.data.length := by
  unfold Rg.clear
  split <;> simp [Rg.zero]
theorem out_len (r : Rg) (n : Int) (ho : r.ok64) : (r.read n).1.2.length ≤ 1099511627776 := by
  unfold Rg.read
  (repeat' split) <;> simp only [List.length_nil, Rg.out, List.length_append, List.length_take, List.length_replicate]
  · omega
  · omega
  · rename_i h1 h2
    have hv : r.valid = true := by simpa using h1
    have := gives_bd r n hv (by omega) (by omega)
    omega
abbrev Rg.bx (r : Rg) : Res := .box (r.cs false)
abbrev bkX (c : Int) (d : List Int) : Res := .box (bkC c d false)
theorem is_of (xs : List (List PV)) (h : ∀ x ∈ xs, (Sh.int .i32).fits x) : ∃ l, xs = isP l := by
  obtain ⟨l, e, _⟩ := ints_of .i32 xs h
  exact ⟨l, e⟩
theorem bs8_of (xs : List (List PV)) (h : ∀ x ∈ xs, (Sh.int .u8).fits x) : ∃ l : List UInt8, xs = bsP l := by
  obtain ⟨l, e, hl⟩ := ints_of .u8 xs h
  refine ⟨l.map fun n => UInt8.ofNat n.toNat, ?_⟩
  rw [e, bsP, List.map_map]
  refine List.map_congr_left fun n hn => ?_
  have := wfu8 (hl n hn)
  have e2 : ((UInt8.ofNat n.toNat).toNat : Int) = n := by
    rw [UInt8.toNat_ofNat']; omega
  simp only [Function.comp, e2]
theorem rg_of (p : List PV) (h : Sh.fitsL [.int .i64, .int .i64, .int .i64, .int .i64, .sl (.int .i32)] p) : ∃ r : Rg, ∃ (f : Bool), Sh.av (.st [.int .i64, .int .i64, .int .i64, .int .i64, .sl (.int .i32)]) p = .agg (r.cs false) ∧ (r.data.length ≤ 1099511627776 → r.ok64) := by
  obtain ⟨a0, b0, rfl, ⟨m0, rfl, v0⟩, h⟩ := h
  obtain ⟨a1, b1, rfl, ⟨m1, rfl, v1⟩, h⟩ := h
  obtain ⟨a2, b2, rfl, ⟨m2, rfl, v2⟩, h⟩ := h
  obtain ⟨a3, b3, rfl, ⟨m3, rfl, v3⟩, h⟩ := h
  obtain ⟨a4, b4, rfl, ⟨xs, rfl, wx, ex⟩, h⟩ := h
  obtain rfl : b4 = [] := h
  obtain ⟨l, rfl⟩ := is_of xs ex
  have := wfi64 v2
  have := wfi64 v3
  refine ⟨⟨m0, m1, m2, m3, l⟩, false, rfl, fun h => ?_⟩
  simp only at h
  exact ⟨h, by simp only; omega⟩
theorem bk_of (p : List PV) (h : Sh.fitsL [.int .i64, .sl (.int .i32)] p) : ∃ ch d, Sh.av (.st [.int .i64, .sl (.int .i32)]) p = .agg (bkC ch d false) := by
  obtain ⟨a0, b0, rfl, ⟨m0, rfl, v0⟩, h⟩ := h
  obtain ⟨a4, b4, rfl, ⟨xs, rfl, wx, ex⟩, h⟩ := h
  obtain rfl : b4 = [] := h
  obtain ⟨l, rfl⟩ := is_of xs ex
  exact ⟨m0, l, rfl⟩
end Go.Proofs.Ytmjlfmhfljdboaa
