/-
  Plain functions of layer 1 (bytes of numbers, sums, hashes) on lists of bytes; no dump; no condition.
-/
import Derived.Test.YtbifgoaceolpoaaLib
namespace Go.Proofs.Ytbifgoaceolpoaa
/-- k bytes of a number, the least significant first -/
def le (n : Nat) : Nat → List UInt8
  | 0 => []
  | k + 1 => UInt8.ofNat (n % 256) :: le (n / 256) k
theorem le_length (n k : Nat) : (le n k).length = k := by
  induction k generalizing n with
  | zero => rfl
  | succ k ih => simp [le, ih]
theorem le_snoc (n k : Nat) : le n (k + 1) = le n k ++ [UInt8.ofNat (n / 256 ^ k % 256)] := by
  induction k generalizing n with
  | zero => simp [le]
  | succ k ih =>
    rw [le, ih (n / 256), le]
    simp [Nat.div_div_eq_div_mul, Nat.pow_succ, Nat.mul_comm]
theorem pow_step (x k : Nat) : (x : Int) / 256 ^ k / 256 = ((x / 256 ^ (k + 1) : Nat) : Int) := by
  rw [Nat.pow_succ, ← Nat.div_div_eq_div_mul]; simp
theorem bv_le_snoc (l : List UInt8) (x k : Nat) : bv (l ++ le x k) ++ #[Value.int .u8 ((x : Int) / 256 ^ k % 256)].toList = bv (l ++ le x (k + 1)) := by
  rw [le_snoc, ← List.append_assoc, bv_append (l ++ le x k)]
  congr 1
  have : x / 256 ^ k % 256 < 256 := Nat.mod_lt _ (by omega)
  simp [bv]
theorem pow_step' (x k : Nat) : (x : Int) / 2 ^ (8 * k) % 256 = (x : Int) / 256 ^ k % 256 := by
  rw [Int.pow_mul]; rfl
/-- the number of some bytes -/
def unle : List UInt8 → Nat
  | [] => 0
  | c :: r => c.toNat + 256 * unle r
theorem unle_snoc (l : List UInt8) (c : UInt8) : unle (l ++ [c]) = unle l + c.toNat * 256 ^ l.length := by
  induction l with
  | nil => simp [unle]
  | cons d l ih => simp only [List.cons_append, unle, ih, List.length_cons, Nat.pow_succ, Nat.mul_add]; rw [Nat.add_assoc]; congr 2; rw [Nat.mul_left_comm, Nat.mul_comm 256]
theorem unle_lt (l : List UInt8) : unle l < 256 ^ l.length := by
  induction l with
  | nil => simp [unle]
  | cons d l ih =>
    have := d.toNat_lt
    simp only [unle, List.length_cons, Nat.pow_succ]
    omega
/-- the m bytes from a on -/
def seg (l : List UInt8) (a m : Nat) : List UInt8 := (l.drop a).take m
theorem seg_length (l : List UInt8) (a m : Nat) (h : a + m ≤ l.length) : (seg l a m).length = m := by
  simp [seg]; omega
theorem seg_zero (l : List UInt8) (a : Nat) : seg l a 0 = [] := rfl
theorem seg_snoc (l : List UInt8) (a m : Nat) (h : a + m < l.length) : seg l a (m + 1) = seg l a m ++ [l[a + m]] := by
  unfold seg
  rw [List.take_succ_eq_append_getElem (by simp; omega)]
  simp
theorem seg_cons (l : List UInt8) (a m : Nat) (h : a < l.length) : seg l a (m + 1) = l[a] :: seg l (a + 1) m := by
  unfold seg
  rw [List.drop_eq_getElem_cons h, List.take_succ_cons]
theorem or_low (r c k : Nat) (hr : r < 256 ^ k) : r ||| c * 2 ^ (8 * k) = r + c * 256 ^ k := by
  have e : 256 ^ k = 2 ^ (8 * k) := by rw [Nat.pow_mul]
  rw [e] at hr ⊢
  rw [Nat.or_comm, ← Nat.shiftLeft_eq, ← Nat.shiftLeft_add_eq_or_of_lt hr, Nat.add_comm]
theorem pow_le_of (k m c r : Nat) (hk : k < m) (hc : c < 256) (hr : r < 256 ^ k) : r + c * 256 ^ k < 256 ^ m := by
  have h1 : r + c * 256 ^ k < 256 ^ (k + 1) := by
    rw [Nat.pow_succ, Nat.mul_comm]
    have : 256 ^ k * c + 256 ^ k ≤ 256 ^ k * 256 := by rw [← Nat.mul_succ]; exact Nat.mul_le_mul_left _ hc
    omega
  exact Nat.lt_of_lt_of_le h1 (Nat.pow_le_pow_right (by omega) hk)
theorem u16_or_nat (a b : Nat) (ha : a < 65536) (hb : b < 65536) : bits .or .u16 (a : Int) (b : Int) = ((a ||| b : Nat) : Int) := by
  have hx : a ||| b < 2 ^ 16 := Nat.or_lt_two_pow (by omega) (by omega)
  have f : ∀ x : Nat, x < 65536 → (BitVec.ofInt 16 (x : Int)).toNat = x := fun x hx => by
    rw [BitVec.ofInt_natCast, BitVec.toNat_ofNat]; exact Nat.mod_eq_of_lt (by omega)
  show IntKind.u16.wrap ((BitVec.ofInt 16 (a : Int) ||| BitVec.ofInt 16 (b : Int)).toNat : Int) = _
  rw [BitVec.toNat_or, f a ha, f b hb]
  exact IntWalk.u16_in _ (by omega)
theorem mod2 (c M p : Nat) (h : c * p < M) (hp : 0 < p) : (c : Int) % M * p % M = ((c * p : Nat) : Int) := by
  have hc : c < M := Nat.lt_of_le_of_lt (Nat.le_mul_of_pos_right c hp) h
  have e : (c : Int) % M * p % M = ((c % M * p % M : Nat) : Int) := by push_cast; rfl
  rw [e, Nat.mod_eq_of_lt hc, Nat.mod_eq_of_lt h]
theorem or16 (r k : Nat) (c : UInt8) (hr : r < 256 ^ k) (hk : k < 2) : bits .or .u16 (r : Int) (IntKind.u16.wrap (IntKind.u16.wrap (c.toNat : Int) * 2 ^ (8 * k))) = ((r + c.toNat * 256 ^ k : Nat) : Int) := by
  have hc := c.toNat_lt
  have h1 := pow_le_of k 2 c.toNat r hk hc hr
  have h2 : c.toNat * 2 ^ (8 * k) < 65536 := by rw [Nat.pow_mul]; simp at h1 ⊢; omega
  rw [IntWalk.u16_in (c.toNat : Int) (by omega), show ((c.toNat : Int) * 2 ^ (8 * k)) = ((c.toNat * 2 ^ (8 * k) : Nat) : Int) from by simp, IntWalk.u16_in _ (by omega), u16_or_nat _ _ (by simp at h1; omega) h2, or_low r _ k hr]
theorem or32 (r k : Nat) (c : UInt8) (hr : r < 256 ^ k) (hk : k < 4) : bits .or .u32 (r : Int) ((c.toNat : Int) % 4294967296 * 2 ^ (8 * k) % 4294967296) = ((r + c.toNat * 256 ^ k : Nat) : Int) := by
  have hc := c.toNat_lt
  have h1 := pow_le_of k 4 c.toNat r hk hc hr
  have h2 : c.toNat * 2 ^ (8 * k) < 4294967296 := by rw [Nat.pow_mul]; simp at h1 ⊢; omega
  have e := mod2 c.toNat 4294967296 (2 ^ (8 * k)) h2 (Nat.two_pow_pos _)
  rw [show ((c.toNat : Int) % 4294967296 * 2 ^ (8 * k) % 4294967296) = ((c.toNat * 2 ^ (8 * k) : Nat) : Int) from by simpa using e, u32_or_nat _ _ (by simp at h1; omega) h2, or_low r _ k hr]
theorem byte_u64 (c : UInt8) : IntKind.u64.wrap (c.toNat : Int) = c.toNat := by
  have hc := c.toNat_lt
  exact IntWalk.u64_in _ (by omega)
theorem or64 (r k : Nat) (c : UInt8) (hr : r < 256 ^ k) (hk : k < 8) : bits .or .u64 (r : Int) (IntKind.u64.wrap (IntKind.u64.wrap (c.toNat : Int) * 2 ^ (8 * k))) = ((r + c.toNat * 256 ^ k : Nat) : Int) := by
  have hc := c.toNat_lt
  have h1 := pow_le_of k 8 c.toNat r hk hc hr
  have h2 : c.toNat * 2 ^ (8 * k) < 18446744073709551616 := by rw [Nat.pow_mul]; simp at h1 ⊢; omega
  rw [byte_u64, show ((c.toNat : Int) * 2 ^ (8 * k)) = ((c.toNat * 2 ^ (8 * k) : Nat) : Int) from by simp, IntWalk.u64_in _ (by omega), u64_or_nat _ _ (by simp at h1; omega) h2, or_low r _ k hr]
/-- the other way round: the next byte below -/
theorem or64' (r j : Nat) (c : UInt8) (hr : r < 256 ^ j) (hj : j < 8) : bits .or .u64 (IntKind.u64.wrap ((r : Int) * 256)) (IntKind.u64.wrap (c.toNat : Int)) = ((c.toNat + 256 * r : Nat) : Int) := by
  have hc := c.toNat_lt
  have h1 : r * 256 < 256 ^ (j + 1) := by rw [Nat.pow_succ]; omega
  have h2 : 256 ^ (j + 1) ≤ 256 ^ 8 := Nat.pow_le_pow_right (by omega) hj
  have h3 : r * 256 < 18446744073709551616 := by simp at h2; omega
  rw [byte_u64, show ((r : Int) * 256) = ((r * 256 : Nat) : Int) from by simp, IntWalk.u64_in _ (by omega), u64_or_nat _ _ h3 (by omega)]
  have := or_low c.toNat r 1 (by simpa using hc)
  rw [Nat.or_comm] at this
  simp at this
  rw [this, Nat.mul_comm]
/-- what reading a number at an offset gives: the number, the offset after it, the error -/
def getM (l : List UInt8) (a : Int) (m : Nat) : Nat × Int × Int :=
  if a < 0 ∨ (l.length : Int) < a then (0, 0, 2) else if (l.length : Int) - a < m then (0, 0, 4) else (unle (seg l a.toNat m), a + m, 0)
theorem getM_in (l : List UInt8) (a m : Nat) (h : a + m ≤ l.length) : getM l a m = (unle (seg l a m), (a : Int) + m, 0) := by
  unfold getM; rw [if_neg (by omega), if_neg (by omega)]; rfl
theorem getM_out (l : List UInt8) (a : Int) (m : Nat) (h : a < 0 ∨ (l.length : Int) < a) : getM l a m = (0, 0, 2) := by
  unfold getM; rw [if_pos h]
theorem getM_short (l : List UInt8) (a m : Nat) (h : a ≤ l.length) (h2 : l.length < a + m) : getM l a m = (0, 0, 4) := by
  unfold getM; rw [if_neg (by omega), if_pos (by omega)]
theorem getM_lt (l : List UInt8) (a : Int) (m : Nat) : (getM l a m).1 < 256 ^ m := by
  unfold getM
  split
  · exact Nat.pos_of_ne_zero (by simp)
  · split
    · exact Nat.pos_of_ne_zero (by simp)
    · have := unle_lt (seg l a.toNat m)
      rwa [seg_length] at this
      omega
/-- a text: its length, its bytes -/
def putT (l s : List UInt8) : List UInt8 := l ++ UInt8.ofNat s.length :: s
/-- what putting a text gives: the bytes, the error -/
def ptM (l s : List UInt8) : List UInt8 × Int := if 64 < s.length then ([], 3) else (putT l s, 0)
theorem ptM_in (l s : List UInt8) (h : ¬ 64 < s.length) : ptM l s = (putT l s, 0) := by unfold ptM; rw [if_neg h]
theorem ptM_out (l s : List UInt8) (h : 64 < s.length) : ptM l s = ([], 3) := by unfold ptM; rw [if_pos h]
theorem putT_length (l s : List UInt8) : (putT l s).length = l.length + (1 + s.length) := by simp [putT]; omega
/-- what reading a text at an offset gives: its bytes, the offset after it, the error -/
def textM (l : List UInt8) (a : Int) : List UInt8 × Int × Int :=
  if a < 0 ∨ (l.length : Int) < a then ([], 0, 2)
  else match l[a.toNat]? with
    | none => ([], 0, 4)
    | some c => if 64 < c.toNat then ([], 0, 3) else if (l.length : Int) - a - 1 < c.toNat then ([], 0, 4) else (seg l (a.toNat + 1) c.toNat, a + 1 + c.toNat, 0)
theorem textM_out (l : List UInt8) (a : Int) (h : a < 0 ∨ (l.length : Int) < a) : textM l a = ([], 0, 2) := by
  unfold textM; rw [if_pos h]
theorem textM_end (l : List UInt8) : textM l l.length = ([], 0, 4) := by
  unfold textM; rw [if_neg (by omega)]; simp
theorem textM_at (l : List UInt8) (a : Nat) (h : a < l.length) : textM l a = if 64 < l[a].toNat then ([], 0, 3) else if (l.length : Int) - a - 1 < l[a].toNat then ([], 0, 4) else (seg l (a + 1) l[a].toNat, (a : Int) + 1 + l[a].toNat, 0) := by
  unfold textM; rw [if_neg (by omega)]
  simp only [Int.toNat_natCast, List.getElem?_eq_getElem h]
/-- one bit, one byte of the check sum -/
def crcBit (r : Nat) : Nat := if r % 2 = 1 then (r / 2) ^^^ 3988292384 else r / 2
def crcBits (r : Nat) : Nat → Nat
  | 0 => r
  | k + 1 => crcBit (crcBits r k)
def crcByte (r : Nat) (c : UInt8) : Nat := crcBits (r ^^^ c.toNat) 8
def crcOf (l : List UInt8) : Nat := l.foldl crcByte 4294967295
def crc (l : List UInt8) : Nat := 4294967295 - crcOf l
theorem xor_lt32 {a b : Nat} (ha : a < 4294967296) (hb : b < 4294967296) : a ^^^ b < 4294967296 := Nat.xor_lt_two_pow (n := 32) ha hb
theorem crcBit_lt {r : Nat} (h : r < 4294967296) : crcBit r < 4294967296 := by
  unfold crcBit
  split
  · exact xor_lt32 (by omega) (by omega)
  · omega
theorem crcBits_lt {r : Nat} (h : r < 4294967296) (k : Nat) : crcBits r k < 4294967296 := by
  induction k with
  | zero => exact h
  | succ k ih => exact crcBit_lt ih
theorem crcByte_lt {r : Nat} (h : r < 4294967296) (c : UInt8) : crcByte r c < 4294967296 := crcBits_lt (xor_lt32 h (by have := c.toNat_lt; omega)) 8
theorem crcFold_lt (l : List UInt8) : ∀ r, r < 4294967296 → l.foldl crcByte r < 4294967296 := by
  induction l with
  | nil => exact fun _ h => h
  | cons c l ih => exact fun r h => ih _ (crcByte_lt h c)
theorem crcOf_lt (l : List UInt8) : crcOf l < 4294967296 := crcFold_lt l _ (by omega)
theorem crcOf_snoc (l : List UInt8) (k : Nat) (h : k < l.length) : crcOf (l.take (k + 1)) = crcByte (crcOf (l.take k)) l[k] := by
  unfold crcOf; rw [List.take_succ_eq_append_getElem h, List.foldl_append, List.foldl_cons, List.foldl_nil]
theorem xor_byte (r : Nat) (c : UInt8) (h : r < 4294967296) : bits .xor .u32 (r : Int) ((c.toNat : Int) % 4294967296) = ((r ^^^ c.toNat : Nat) : Int) := by
  have hc := c.toNat_lt
  rw [Int.emod_eq_of_lt (by omega) (by omega), u32_xor_nat r _ h (by omega)]
theorem and_one (r : Nat) (h : r < 4294967296) : bits .and .u32 (r : Int) 1 = ((r % 2 : Nat) : Int) := by
  have := u32_and_nat r 1 h (by omega)
  rw [Nat.and_one_is_mod] at this
  exact this
theorem xor_poly (r : Nat) (h : r < 4294967296) : bits .xor .u32 ((r : Int) / 2) 3988292384 = ((r / 2 ^^^ 3988292384 : Nat) : Int) := u32_xor_nat (r / 2) 3988292384 (by omega) (by omega)
/-- the hash -/
def fnvStep (h : Nat) (c : UInt8) : Nat := (h ^^^ c.toNat) * 1099511628211 % 18446744073709551616
def fnvOf (l : List UInt8) : Nat := l.foldl fnvStep 14695981039346656037
theorem fnvOf_snoc (l : List UInt8) (k : Nat) (h : k < l.length) : fnvOf (l.take (k + 1)) = fnvStep (fnvOf (l.take k)) l[k] := by
  unfold fnvOf; rw [List.take_succ_eq_append_getElem h, List.foldl_append, List.foldl_cons, List.foldl_nil]
theorem not32 (q : Nat) (h : q < 4294967296) : bits .xor .u32 IntKind.u32.max (q : Int) = ((4294967295 - q : Nat) : Int) := by
  have hm : IntKind.u32.max = ((4294967295 : Nat) : Int) := by decide
  have hx : (4294967295 ^^^ q : Nat) = 4294967295 - q := by
    have h1 : (~~~ (BitVec.ofNat 32 q)).toNat = 4294967295 - q := by
      rw [BitVec.toNat_not, BitVec.toNat_ofNat, Nat.mod_eq_of_lt h]
    have h2 : (BitVec.allOnes 32 ^^^ BitVec.ofNat 32 q).toNat = 4294967295 ^^^ q := by
      rw [BitVec.toNat_xor, BitVec.toNat_ofNat, Nat.mod_eq_of_lt h]; rfl
    rw [← h1, ← h2, BitVec.allOnes_xor]
  rw [hm, u32_xor_nat _ _ (by omega) h, hx]
theorem fnvStep_lt (h : Nat) (c : UInt8) : fnvStep h c < 18446744073709551616 := by
  unfold fnvStep
  exact Nat.mod_lt _ (by omega)
theorem fnvFold_lt (l : List UInt8) : ∀ r, r < 18446744073709551616 → l.foldl fnvStep r < 18446744073709551616 := by
  induction l with
  | nil => exact fun _ h => h
  | cons c l ih => exact fun r h => ih _ (fnvStep_lt _ c)
theorem fnvOf_lt (l : List UInt8) : fnvOf l < 18446744073709551616 := fnvFold_lt l _ (by omega)
theorem cast_mulmod (a p M : Nat) : ((a * p % M : Nat) : Int) = (a : Int) * p % M := by push_cast; rfl
theorem fnv_step (q : Nat) (c : UInt8) (h : q < 18446744073709551616) : IntKind.u64.wrap (bits .xor .u64 (q : Int) (IntKind.u64.wrap (c.toNat : Int)) * 1099511628211) = ((fnvStep q c : Nat) : Int) := by
  have hc := c.toNat_lt
  rw [byte_u64, u64_xor_nat q _ h (by omega), IntKind.wrap_u64]
  exact (cast_mulmod _ 1099511628211 18446744073709551616).symm
theorem bv_seg (l : List UInt8) (i k : Nat) : ((bv l).drop (i * 1)).take (k * 1) = bv (seg l i k) := by
  unfold bv seg; rw [Nat.mul_one, Nat.mul_one, List.map_take, List.map_drop]
/-- b[i:j] of bytes -/
theorem wpList_cutb {P : Program} (w : World) {ops : Array Oper} {rest : List Oper} {o : Oper} {a : Act} {Q : Exit → Act → World → Prop} (hgd : Region.wanted o (yielded ops a.tmps) = true) (x : Operand) (t : TypeId) (lo hi : Option Operand)
    (ho : o.op = .slice t x lo hi none) {e : TypeId} {bytes : Nat} {z : Value} (T : SlT P t e 1 bytes z)
    {B : Nat} {A : Option Addr} {n c : Nat} {l : List UInt8} (hx : a.eval x = .slice A n c) (hr : Rd w B 1 A n (bv l)) (hnc : n ≤ c) (i j k : Nat)
    (hlo : (∃ I, lo.map a.eval = some (.int .i64 I) ∧ I = (i : Int)) ∨ lo = none ∧ i = 0) (hhi : (∃ J, hi.map a.eval = some (.int .i64 J) ∧ J = (j : Int)) ∨ hi = none ∧ j = n) (hij : i + k = j) (hjn : j ≤ n)
    (h : ∀ A1, Rd w B 1 A1 k (bv (seg l i k)) → (k ≤ c - i) → wpList P ops Q rest (a.put o.dst (.slice A1 k (c - i))) w) : wpList P ops Q (o :: rest) a w := by
  obtain rfl : k = j - i := by omega
  exact wpList_cut w hgd x t lo hi ho T hx hr hnc i j hlo hhi (by omega) hjn fun A1 hr1 hc => h A1 (by rw [← bv_seg]; exact hr1) hc
theorem seg_all (l : List UInt8) (k : Nat) : seg l k (l.length - k) = l.drop k := by
  unfold seg; exact List.take_of_length_le (by simp)
end Go.Proofs.Ytbifgoaceolpoaa
