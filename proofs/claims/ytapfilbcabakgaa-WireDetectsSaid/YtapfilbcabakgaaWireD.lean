/-
  The check sum is linear, and one changed byte changes it: plain lemmas on numbers and lists; no dump; no condition.
-/
import Derived.Test.YtapfilbcabakgaaWireP
namespace Go.Proofs.Ytapfilbcabakgaa
theorem crcBit_xor (a b : Nat) : crcBit (a ^^^ b) = crcBit a ^^^ crcBit b := by
  have h2 : (a ^^^ b) / 2 = a / 2 ^^^ b / 2 := Nat.xor_div_two
  have h1 : (a ^^^ b) % 2 = (a + b) % 2 := by
    have h0 := @Nat.xor_mod_two_eq_one a b
    by_cases ha : a % 2 = 1 <;> by_cases hb : b % 2 = 1
    · have : ¬ (a ^^^ b) % 2 = 1 := fun h => (h0.1 h) ⟨fun _ => hb, fun _ => ha⟩
      omega
    · have := h0.2 (fun h => hb (h.1 ha)); omega
    · have := h0.2 (fun h => ha (h.2 hb)); omega
    · have : ¬ (a ^^^ b) % 2 = 1 := fun h => (h0.1 h) ⟨fun x => absurd x ha, fun x => absurd x hb⟩
      omega
  unfold crcBit
  rw [h2]
  rcases Nat.mod_two_eq_zero_or_one a with ha | ha <;> rcases Nat.mod_two_eq_zero_or_one b with hb | hb
  · rw [if_neg (by omega), if_neg (by omega), if_neg (by omega)]
  · rw [if_pos (by omega), if_neg (by omega), if_pos (by omega), Nat.xor_assoc]
  · rw [if_pos (by omega), if_pos (by omega), if_neg (by omega), Nat.xor_assoc, Nat.xor_comm (b / 2), Nat.xor_assoc]
  · rw [if_neg (by omega), if_pos (by omega), if_pos (by omega)]
    rw [Nat.xor_assoc, ← Nat.xor_assoc 3988292384, Nat.xor_comm 3988292384, Nat.xor_assoc (b / 2), Nat.xor_self, Nat.xor_zero]
theorem crcBits_xor (a b k : Nat) : crcBits (a ^^^ b) k = crcBits a k ^^^ crcBits b k := by
  induction k with
  | zero => rfl
  | succ k ih => simp only [crcBits, ih, crcBit_xor]
theorem crcBit_ne (x : Nat) (h : x < 4294967296) (hx : x ≠ 0) : crcBit x ≠ 0 := by
  unfold crcBit
  split
  · intro he
    have : x / 2 = 3988292384 := by
      have h3 : (x / 2 ^^^ 3988292384) ^^^ 3988292384 = 0 ^^^ 3988292384 := by rw [he]
      rwa [Nat.xor_assoc, Nat.xor_self, Nat.xor_zero, Nat.zero_xor] at h3
    omega
  · omega
theorem crcBits_ne (x k : Nat) (h : x < 4294967296) (hx : x ≠ 0) : crcBits x k ≠ 0 := by
  induction k with
  | zero => exact hx
  | succ k ih => exact crcBit_ne _ (crcBits_lt h k) ih
theorem crcBits_zero (k : Nat) : crcBits 0 k = 0 := by
  induction k with
  | zero => rfl
  | succ k ih => simp [crcBits, ih, crcBit]
/-- the fold over numbers -/
def gf (r : Nat) (l : List Nat) : Nat := l.foldl (fun r c => crcBits (r ^^^ c) 8) r
theorem crcOf_gf (l : List UInt8) : crcOf l = gf 4294967295 (l.map (·.toNat)) := by
  unfold crcOf gf
  rw [List.foldl_map]
  rfl
theorem xor4 (a b c d : Nat) : (a ^^^ b) ^^^ (c ^^^ d) = (a ^^^ c) ^^^ (b ^^^ d) := by
  rw [Nat.xor_assoc, Nat.xor_assoc, ← Nat.xor_assoc b, Nat.xor_comm b, Nat.xor_assoc c]
theorem gf_xor (l : List Nat) : ∀ (m : List Nat) (r s : Nat), l.length = m.length → gf (r ^^^ s) (List.zipWith (· ^^^ ·) l m) = gf r l ^^^ gf s m := by
  induction l with
  | nil => intro m r s h; obtain rfl : m = [] := List.eq_nil_of_length_eq_zero h.symm; rfl
  | cons a l ih =>
    intro m r s h
    cases m with
    | nil => cases h
    | cons b m =>
      simp only [gf, List.zipWith_cons_cons, List.foldl_cons]
      have := ih m (crcBits (r ^^^ a) 8) (crcBits (s ^^^ b) 8) (by simpa using h)
      rw [xor4, crcBits_xor]
      exact this
/-- one change -/
def unitAt (n i d : Nat) : List Nat := (List.replicate n 0).set i d
theorem unitAt_length (n i d : Nat) : (unitAt n i d).length = n := by simp [unitAt]
theorem set_unit (l : List Nat) (i d : Nat) (hi : i < l.length) : l.set i (l[i] ^^^ d) = List.zipWith (· ^^^ ·) l (unitAt l.length i d) := by
  apply List.ext_getElem
  · simp [unitAt]
  · intro k h1 h2
    simp only [List.getElem_set, List.getElem_zipWith, unitAt, List.getElem_replicate]
    by_cases h : i = k
    · subst h; simp
    · simp [h]
theorem gf_zeros (n : Nat) : ∀ r, r < 4294967296 → r ≠ 0 → gf r (List.replicate n 0) ≠ 0 := by
  induction n with
  | zero => intro r _ h; exact h
  | succ n ih =>
    intro r hr hn
    rw [List.replicate_succ]
    show gf (crcBits (r ^^^ 0) 8) (List.replicate n 0) ≠ 0
    rw [Nat.xor_zero]
    exact ih _ (crcBits_lt hr 8) (crcBits_ne _ _ hr hn)
theorem gf_unit_ne (n : Nat) : ∀ (i d : Nat), i < n → d < 256 → d ≠ 0 → gf 0 (unitAt n i d) ≠ 0 := by
  induction n with
  | zero => intro i d h; omega
  | succ n ih =>
    intro i d hi hd hn
    cases i with
    | zero =>
      show gf (crcBits (0 ^^^ d) 8) (List.replicate n 0) ≠ 0
      rw [Nat.zero_xor]
      exact gf_zeros n _ (crcBits_lt (by omega) 8) (crcBits_ne _ _ (by omega) hn)
    | succ i =>
      show gf (crcBits (0 ^^^ 0) 8) (unitAt n i d) ≠ 0
      rw [Nat.xor_self, crcBits_zero]
      exact ih i d (by omega) hd hn
/-- a byte changed by exclusive or -/
def chg (l : List UInt8) (i : Nat) (d : UInt8) : List UInt8 := l.set i (l.getD i 0 ^^^ d)
theorem chg_length (l : List UInt8) (i : Nat) (d : UInt8) : (chg l i d).length = l.length := by simp [chg]
theorem chg_map (l : List UInt8) (i : Nat) (d : UInt8) (hi : i < l.length) : (chg l i d).map (·.toNat) = List.zipWith (· ^^^ ·) (l.map (·.toNat)) (unitAt l.length i d.toNat) := by
  have := set_unit (l.map (·.toNat)) i d.toNat (by simpa using hi)
  have e : (List.map (fun x : UInt8 => x.toNat) l).length = l.length := List.length_map _
  rw [show unitAt l.length i d.toNat = unitAt (List.map (fun x : UInt8 => x.toNat) l).length i d.toNat by rw [e], ← this, chg, List.map_set]
  congr 1
  simp [List.getD, hi]
theorem crcOf_chg (l : List UInt8) (i : Nat) (d : UInt8) (hi : i < l.length) : crcOf (chg l i d) = crcOf l ^^^ gf 0 (unitAt l.length i d.toNat) := by
  rw [crcOf_gf, chg_map l i d hi, crcOf_gf]
  have := gf_xor (l.map (·.toNat)) (unitAt l.length i d.toNat) 4294967295 0 (by simp [unitAt])
  rwa [Nat.xor_zero] at this
theorem sub_xor (q : Nat) (h : q < 4294967296) : 4294967295 - q = 4294967295 ^^^ q := by
  have := not32 q h
  rw [show IntKind.u32.max = ((4294967295 : Nat) : Int) from by decide, u32_xor_nat _ _ (by omega) h] at this
  exact (Int.ofNat.inj this).symm
theorem crc_xor (l : List UInt8) : crc l = 4294967295 ^^^ crcOf l := sub_xor _ (crcOf_lt l)
theorem crc_lt (l : List UInt8) : crc l < 4294967296 := by unfold crc; omega
theorem crc_chg (l : List UInt8) (i : Nat) (d : UInt8) (hi : i < l.length) : crc (chg l i d) = crc l ^^^ gf 0 (unitAt l.length i d.toNat) := by
  rw [crc_xor, crc_xor, crcOf_chg l i d hi, Nat.xor_assoc]
theorem crc_chg_ne (l : List UInt8) (i : Nat) (d : UInt8) (hi : i < l.length) (hd : d ≠ 0) : crc (chg l i d) ≠ crc l := by
  rw [crc_chg l i d hi]
  intro h
  have h1 : crc l ^^^ (crc l ^^^ gf 0 (unitAt l.length i d.toNat)) = crc l ^^^ crc l := by rw [h]
  rw [← Nat.xor_assoc, Nat.xor_self, Nat.zero_xor] at h1
  exact gf_unit_ne _ _ _ hi (by have := d.toNat_lt; omega) (fun e => hd (UInt8.toNat_inj.1 (by simpa using e))) h1
theorem crc_two (l : List UInt8) (i j : Nat) (d e : UInt8) (hi : i < l.length) (hj : j < l.length) :
    crc (chg l i d) ^^^ crc (chg l j e) ^^^ crc l = crc (chg (chg l i d) j e) := by
  rw [crc_chg (chg l i d) j e (by rw [chg_length]; exact hj), chg_length, crc_chg l i d hi, crc_chg l j e hj]
  generalize crc l = a
  generalize gf 0 (unitAt l.length i d.toNat) = b
  generalize gf 0 (unitAt l.length j e.toNat) = c
  rw [xor4, Nat.xor_self, Nat.zero_xor, Nat.xor_comm, ← Nat.xor_assoc]
/-- the cell after the change -/
theorem bv_chg (l : List UInt8) (i : Nat) (y : Int) (h0 : 0 ≤ y) (h1 : y < 256) (hi : i < l.length) :
    (bv l).set i (.int .u8 (bits .xor .u8 ((l[i]).toNat : Int) y)) = bv (chg l i (UInt8.ofNat y.toNat)) := by
  obtain ⟨y, rfl⟩ := Int.eq_ofNat_of_zero_le h0
  have hl := (l[i]).toNat_lt
  have e : bits .xor .u8 ((l[i]).toNat : Int) (y : Int) = (((l[i]).toNat ^^^ y : Nat) : Int) := u8_xor_nat _ _ (by omega) (by omega)
  rw [e, chg]
  unfold bv
  rw [List.map_set]
  congr 2
  simp [List.getD, hi]
  rw [Nat.mod_eq_of_lt (show y < 256 by omega)]
end Go.Proofs.Ytapfilbcabakgaa
