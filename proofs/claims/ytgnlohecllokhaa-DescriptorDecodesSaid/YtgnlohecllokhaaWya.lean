/-
  Plain functions of layer 1 (bytes of numbers, check sums) on lists of bytes; the sum is linear.
-/
import Derived.Test.YtgnlohecllokhaaBaB
import Derived.Test.YtgnlohecllokhaaName
namespace Go.Proofs.Ytgnlohecllokhaa
/-- k bytes of a number, the least significant first -/
def le (n : Nat) : Nat → List UInt8
  | 0 => []
  | k + 1 => UInt8.ofNat (n % 256) :: le (n / 256) k
theorem le_length (n k : Nat) : (le n k).length = k := by
  induction k generalizing n with
  | zero => rfl
  | succ k ih => simp [le, ih]
theorem le_snoc (n k : Nat) : le n (k + 1) = le n k ++ [UInt8.ofNat (n / 256 ^ k % 256)] := by
  induction k generalizing n with
  | zero => simp [le]
  | succ k ih =>
    rw [le, ih (n / 256), le]
    simp [Nat.div_div_eq_div_mul, Nat.pow_succ, Nat.mul_comm]
theorem pow_step' (x k : Nat) : (x : Int) / 2 ^ (8 * k) % 256 = (x : Int) / 256 ^ k % 256 := by
  rw [Int.pow_mul]; rfl
/-- the number of some bytes -/
def unle : List UInt8 → Nat
  | [] => 0
  | c :: r => c.toNat + 256 * unle r
theorem unle_snoc (l : List UInt8) (c : UInt8) : unle (l ++ [c]) = unle l + c.toNat * 256 ^ l.length := by
  induction l with
  | nil => simp [unle]
  | cons d l ih => simp only [List.cons_append, unle, ih, List.length_cons, Nat.pow_succ, Nat.mul_add]; rw [Nat.add_assoc]; congr 2; rw [Nat.mul_left_comm, Nat.mul_comm 256]
theorem unle_lt (l : List UInt8) : unle l < 256 ^ l.length := by
  induction l with
  | nil => simp [unle]
  | cons d l ih =>
    have := d.toNat_lt
    simp only [unle, List.length_cons, Nat.pow_succ]
    omega
/-- the m bytes from a on -/
def seg (l : List UInt8) (a m : Nat) : List UInt8 := (l.drop a).take m
theorem seg_length (l : List UInt8) (a m : Nat) (h : a + m ≤ l.length) : (seg l a m).length = m := by
  simp [seg]; omega
theorem seg_zero (l : List UInt8) (a : Nat) : seg l a 0 = [] := rfl
theorem seg_snoc (l : List UInt8) (a m : Nat) (h : a + m < l.length) : seg l a (m + 1) = seg l a m ++ [l[a + m]] := by
  unfold seg
  rw [List.take_succ_eq_append_getElem (by simp; omega)]
  simp
theorem seg_cons (l : List UInt8) (a m : Nat) (h : a < l.length) : seg l a (m + 1) = l[a] :: seg l (a + 1) m := by
  unfold seg
  rw [List.drop_eq_getElem_cons h, List.take_succ_cons]
theorem or_low (r c k : Nat) (hr : r < 256 ^ k) : r ||| c * 2 ^ (8 * k) = r + c * 256 ^ k := by
  have e : 256 ^ k = 2 ^ (8 * k) := by rw [Nat.pow_mul]
  rw [e] at hr ⊢
  rw [Nat.or_comm, ← Nat.shiftLeft_eq, ← Nat.shiftLeft_add_eq_or_of_lt hr, Nat.add_comm]
theorem pow_le_of (k m c r : Nat) (hk : k < m) (hc : c < 256) (hr : r < 256 ^ k) : r + c * 256 ^ k < 256 ^ m := by
  have h1 : r + c * 256 ^ k < 256 ^ (k + 1) := by
    rw [Nat.pow_succ, Nat.mul_comm]
    have : 256 ^ k * c + 256 ^ k ≤ 256 ^ k * 256 := by rw [← Nat.mul_succ]; exact Nat.mul_le_mul_left _ hc
    omega
  exact Nat.lt_of_lt_of_le h1 (Nat.pow_le_pow_right (by omega) hk)
theorem u16_or_nat (a b : Nat) (ha : a < 65536) (hb : b < 65536) : bits .or .u16 (a : Int) (b : Int) = ((a ||| b : Nat) : Int) := by
  have hx : a ||| b < 2 ^ 16 := Nat.or_lt_two_pow (by omega) (by omega)
  have f : ∀ x : Nat, x < 65536 → (BitVec.ofInt 16 (x : Int)).toNat = x := fun x hx => by
    rw [BitVec.ofInt_natCast, BitVec.toNat_ofNat]; exact Nat.mod_eq_of_lt (by omega)
  show IntKind.u16.wrap ((BitVec.ofInt 16 (a : Int) ||| BitVec.ofInt 16 (b : Int)).toNat : Int) = _
  rw [BitVec.toNat_or, f a ha, f b hb]
  exact IntWalk.u16_in _ (by omega)
theorem mod2 (c M p : Nat) (h : c * p < M) (hp : 0 < p) : (c : Int) % M * p % M = ((c * p : Nat) : Int) := by
  have hc : c < M := Nat.lt_of_le_of_lt (Nat.le_mul_of_pos_right c hp) h
  have e : (c : Int) % M * p % M = ((c % M * p % M : Nat) : Int) := by push_cast; rfl
  rw [e, Nat.mod_eq_of_lt hc, Nat.mod_eq_of_lt h]
theorem or16 (r k : Nat) (c : UInt8) (hr : r < 256 ^ k) (hk : k < 2) : bits .or .u16 (r : Int) (IntKind.u16.wrap (IntKind.u16.wrap (c.toNat : Int) * 2 ^ (8 * k))) = ((r + c.toNat * 256 ^ k : Nat) : Int) := by
  have hc := c.toNat_lt
  have h1 := pow_le_of k 2 c.toNat r hk hc hr
  have h2 : c.toNat * 2 ^ (8 * k) < 65536 := by rw [Nat.pow_mul]; simp at h1 ⊢; omega
  rw [IntWalk.u16_in (c.toNat : Int) (by omega), show ((c.toNat : Int) * 2 ^ (8 * k)) = ((c.toNat * 2 ^ (8 * k) : Nat) : Int) from by simp, IntWalk.u16_in _ (by omega), u16_or_nat _ _ (by simp at h1; omega) h2, or_low r _ k hr]
theorem or32w (r k : Nat) (c : UInt8) (hr : r < 256 ^ k) (hk : k < 4) : bits .or .u32 (r : Int) ((c.toNat : Int) % 4294967296 * 2 ^ (8 * k) % 4294967296) = ((r + c.toNat * 256 ^ k : Nat) : Int) := by
  have hc := c.toNat_lt
  have h1 := pow_le_of k 4 c.toNat r hk hc hr
  have h2 : c.toNat * 2 ^ (8 * k) < 4294967296 := by rw [Nat.pow_mul]; simp at h1 ⊢; omega
  have e := mod2 c.toNat 4294967296 (2 ^ (8 * k)) h2 (Nat.two_pow_pos _)
  rw [show ((c.toNat : Int) % 4294967296 * 2 ^ (8 * k) % 4294967296) = ((c.toNat * 2 ^ (8 * k) : Nat) : Int) from by simpa using e, u32_or_nat _ _ (by simp at h1; omega) h2, or_low r _ k hr]
theorem byte_u64 (c : UInt8) : IntKind.u64.wrap (c.toNat : Int) = c.toNat := by
  have hc := c.toNat_lt
  exact IntWalk.u64_in _ (by omega)
theorem or64 (r k : Nat) (c : UInt8) (hr : r < 256 ^ k) (hk : k < 8) : bits .or .u64 (r : Int) (IntKind.u64.wrap (IntKind.u64.wrap (c.toNat : Int) * 2 ^ (8 * k))) = ((r + c.toNat * 256 ^ k : Nat) : Int) := by
  have hc := c.toNat_lt
  have h1 := pow_le_of k 8 c.toNat r hk hc hr
  have h2 : c.toNat * 2 ^ (8 * k) < 18446744073709551616 := by rw [Nat.pow_mul]; simp at h1 ⊢; omega
  rw [byte_u64, show ((c.toNat : Int) * 2 ^ (8 * k)) = ((c.toNat * 2 ^ (8 * k) : Nat) : Int) from by simp, IntWalk.u64_in _ (by omega), u64_or_nat _ _ (by simp at h1; omega) h2, or_low r _ k hr]
/-- the other way round: the next byte below -/
theorem or64' (r j : Nat) (c : UInt8) (hr : r < 256 ^ j) (hj : j < 8) : bits .or .u64 (IntKind.u64.wrap ((r : Int) * 256)) (IntKind.u64.wrap (c.toNat : Int)) = ((c.toNat + 256 * r : Nat) : Int) := by
  have hc := c.toNat_lt
  have h1 : r * 256 < 256 ^ (j + 1) := by rw [Nat.pow_succ]; omega
  have h2 : 256 ^ (j + 1) ≤ 256 ^ 8 := Nat.pow_le_pow_right (by omega) hj
  have h3 : r * 256 < 18446744073709551616 := by simp at h2; omega
  rw [byte_u64, show ((r : Int) * 256) = ((r * 256 : Nat) : Int) from by simp, IntWalk.u64_in _ (by omega), u64_or_nat _ _ h3 (by omega)]
  have := or_low c.toNat r 1 (by simpa using hc)
  rw [Nat.or_comm] at this
  simp at this
  rw [this, Nat.mul_comm]
/-- what reading a number at an offset gives: the number, the offset after it, the error -/
def getM (l : List UInt8) (a : Int) (m : Nat) : Nat × Int × Int :=
  if a < 0 ∨ (l.length : Int) < a then (0, 0, 2) else if (l.length : Int) - a < m then (0, 0, 4) else (unle (seg l a.toNat m), a + m, 0)
theorem getM_in (l : List UInt8) (a m : Nat) (h : a + m ≤ l.length) : getM l a m = (unle (seg l a m), (a : Int) + m, 0) := by
  unfold getM; rw [if_neg (by omega), if_neg (by omega)]; rfl
theorem getM_out (l : List UInt8) (a : Int) (m : Nat) (h : a < 0 ∨ (l.length : Int) < a) : getM l a m = (0, 0, 2) := by
  unfold getM; rw [if_pos h]
theorem getM_short (l : List UInt8) (a m : Nat) (h : a ≤ l.length) (h2 : l.length < a + m) : getM l a m = (0, 0, 4) := by
  unfold getM; rw [if_neg (by omega), if_pos (by omega)]
theorem getM_lt (l : List UInt8) (a : Int) (m : Nat) : (getM l a m).1 < 256 ^ m := by
  unfold getM
  split
  · exact Nat.pos_of_ne_zero (by simp)
  · split
    · exact Nat.pos_of_ne_zero (by simp)
    · have := unle_lt (seg l a.toNat m)
      rwa [seg_length] at this
      omega
/-- a text: its length, its bytes -/
def putT (l s : List UInt8) : List UInt8 := l ++ UInt8.ofNat s.length :: s
/-- what putting a text gives: the bytes, the error -/
def ptM (l s : List UInt8) : List UInt8 × Int := if 64 < s.length then ([], 3) else (putT l s, 0)
/-- what reading a text at an offset gives: its bytes, the offset after it, the error -/
def textM (l : List UInt8) (a : Int) : List UInt8 × Int × Int :=
  if a < 0 ∨ (l.length : Int) < a then ([], 0, 2)
  else match l[a.toNat]? with
    | none => ([], 0, 4)
    | some c => if 64 < c.toNat then ([], 0, 3) else if (l.length : Int) - a - 1 < c.toNat then ([], 0, 4) else (seg l (a.toNat + 1) c.toNat, a + 1 + c.toNat, 0)
theorem textM_out (l : List UInt8) (a : Int) (h : a < 0 ∨ (l.length : Int) < a) : textM l a = ([], 0, 2) := by
  unfold textM; rw [if_pos h]
theorem textM_end (l : List UInt8) : textM l l.length = ([], 0, 4) := by
  unfold textM; rw [if_neg (by omega)]; simp
theorem textM_at (l : List UInt8) (a : Nat) (h : a < l.length) : textM l a = if 64 < l[a].toNat then ([], 0, 3) else if (l.length : Int) - a - 1 < l[a].toNat then ([], 0, 4) else (seg l (a + 1) l[a].toNat, (a : Int) + 1 + l[a].toNat, 0) := by
  unfold textM; rw [if_neg (by omega)]
  simp only [Int.toNat_natCast, List.getElem?_eq_getElem h]
/-- one bit, one byte of the check sum -/
def crcBit (r : Nat) : Nat := if r % 2 = 1 then (r / 2) ^^^ 3988292384 else r / 2
def crcBits (r : Nat) : Nat → Nat
  | 0 => r
  | k + 1 => crcBit (crcBits r k)
def crcByte (r : Nat) (c : UInt8) : Nat := crcBits (r ^^^ c.toNat) 8
def crcOf (l : List UInt8) : Nat := l.foldl crcByte 4294967295
def crc (l : List UInt8) : Nat := 4294967295 - crcOf l
theorem xor_lt32 {a b : Nat} (ha : a < 4294967296) (hb : b < 4294967296) : a ^^^ b < 4294967296 := Nat.xor_lt_two_pow (n := 32) ha hb
theorem crcBit_lt {r : Nat} (h : r < 4294967296) : crcBit r < 4294967296 := by
  unfold crcBit
  split
  · exact xor_lt32 (by omega) (by omega)
  · omega
theorem crcBits_lt {r : Nat} (h : r < 4294967296) (k : Nat) : crcBits r k < 4294967296 := by
  induction k with
  | zero => exact h
  | succ k ih => exact crcBit_lt ih
theorem crcByte_lt {r : Nat} (h : r < 4294967296) (c : UInt8) : crcByte r c < 4294967296 := crcBits_lt (xor_lt32 h (by have := c.toNat_lt; omega)) 8
theorem crcFold_lt (l : List UInt8) : ∀ r, r < 4294967296 → l.foldl crcByte r < 4294967296 := by
  induction l with
  | nil => exact fun _ h => h
  | cons c l ih => exact fun r h => ih _ (crcByte_lt h c)
theorem crcOf_lt (l : List UInt8) : crcOf l < 4294967296 := crcFold_lt l _ (by omega)
theorem crcOf_snoc (l : List UInt8) (k : Nat) (h : k < l.length) : crcOf (l.take (k + 1)) = crcByte (crcOf (l.take k)) l[k] := by
  unfold crcOf; rw [List.take_succ_eq_append_getElem h, List.foldl_append, List.foldl_cons, List.foldl_nil]
theorem xor_byte (r : Nat) (c : UInt8) (h : r < 4294967296) : bits .xor .u32 (r : Int) ((c.toNat : Int) % 4294967296) = ((r ^^^ c.toNat : Nat) : Int) := by
  have hc := c.toNat_lt
  rw [Int.emod_eq_of_lt (by omega) (by omega), u32_xor_nat r _ h (by omega)]
theorem and_one (r : Nat) (h : r < 4294967296) : bits .and .u32 (r : Int) 1 = ((r % 2 : Nat) : Int) := by
  have := u32_and_nat r 1 h (by omega)
  rw [Nat.and_one_is_mod] at this
  exact this
theorem xor_poly (r : Nat) (h : r < 4294967296) : bits .xor .u32 ((r : Int) / 2) 3988292384 = ((r / 2 ^^^ 3988292384 : Nat) : Int) := u32_xor_nat (r / 2) 3988292384 (by omega) (by omega)
theorem not32 (q : Nat) (h : q < 4294967296) : bits .xor .u32 IntKind.u32.max (q : Int) = ((4294967295 - q : Nat) : Int) := by
  have hm : IntKind.u32.max = ((4294967295 : Nat) : Int) := by decide
  have hx : (4294967295 ^^^ q : Nat) = 4294967295 - q := by
    have h1 : (~~~ (BitVec.ofNat 32 q)).toNat = 4294967295 - q := by
      rw [BitVec.toNat_not, BitVec.toNat_ofNat, Nat.mod_eq_of_lt h]
    have h2 : (BitVec.allOnes 32 ^^^ BitVec.ofNat 32 q).toNat = 4294967295 ^^^ q := by
      rw [BitVec.toNat_xor, BitVec.toNat_ofNat, Nat.mod_eq_of_lt h]; rfl
    rw [← h1, ← h2, BitVec.allOnes_xor]
  rw [hm, u32_xor_nat _ _ (by omega) h, hx]
/-- the fold over numbers -/
def gf (r : Nat) (l : List Nat) : Nat := l.foldl (fun r c => crcBits (r ^^^ c) 8) r
/-- one change -/
def unitAt (n i d : Nat) : List Nat := (List.replicate n 0).set i d
/-- a byte changed by exclusive or -/
def chg (l : List UInt8) (i : Nat) (d : UInt8) : List UInt8 := l.set i (l.getD i 0 ^^^ d)
theorem crc_lt (l : List UInt8) : crc l < 4294967296 := by unfold crc; omega
end Go.Proofs.Ytgnlohecllokhaa
/-
  Plain law of chapter 11: the bytes of descriptors, and reading them.
-/
namespace Go.Proofs.Ytgnlohecllokhaa
/-- a box -/
structure Bx where
  kinds : Int := 0
  rates : List (Int × Int) := []
  maps : List (List Int) := []
  sizes : List (Int × Int) := []
deriving DecidableEq
/-- a descriptor -/
structure Ds where
  id : Int := 0
  name : List UInt8 := []
  dir : Int := 0
  dom : Int := 0
  lat : Int := 0
  drift : Int := 0
  jit : Int := 0
  boxes : List Bx := []
deriving DecidableEq
def e16 (n : Int) : List UInt8 := le (n % 65536).toNat 2
def e32 (n : Int) : List UInt8 := le (n % 4294967296).toNat 4
def e64 (n : Int) : List UInt8 := le n.toNat 8
theorem e16_len (n : Int) : (e16 n).length = 2 := le_length _ _
theorem e32_len (n : Int) : (e32 n).length = 4 := le_length _ _
theorem e64_len (n : Int) : (e64 n).length = 8 := le_length _ _
def spB (x : Int × Int) : List UInt8 := e32 x.1 ++ e32 x.2
def setB (s : List (Int × Int)) : List UInt8 := e16 s.length ++ s.flatMap spB
def mapB (m : List Int) : List UInt8 := e16 m.length ++ m.flatMap e16
def boxB (x : Bx) : List UInt8 := e16 x.kinds ++ (setB x.rates ++ ((e16 x.maps.length ++ x.maps.flatMap mapB) ++ setB x.sizes))
def txB (s : List UInt8) : List UInt8 := UInt8.ofNat s.length :: s
def hdB (d : Ds) : List UInt8 := e64 d.id ++ (txB d.name ++ (e16 d.dir ++ (e16 d.dom ++ (e32 d.lat ++ (e16 d.drift ++ e16 d.jit)))))
def bodyB (d : Ds) : List UInt8 := [83, 78, 68, 49] ++ (hdB d ++ (e16 d.boxes.length ++ d.boxes.flatMap boxB))
def sealB (b : List UInt8) : List UInt8 := b ++ e32 (crc b)
def encB (d : Ds) : List UInt8 := sealB (bodyB d)
/-- the state of a reader: where it is, whether something was wrong -/
abbrev RS := Nat × Bool
def rd (b : List UInt8) (m : Nat) (s : RS) : Int × RS := if s.1 + m ≤ b.length then ((unle (seg b s.1 m) : Int), (s.1 + m, s.2)) else (0, (s.1, true))
def txR (b : List UInt8) (s : RS) : List UInt8 × RS := if (textM b s.1).2.2 = 0 then ((textM b s.1).1, ((textM b s.1).2.1.toNat, s.2)) else ([], (s.1, true))
def rep {α : Type} (f : RS → α × RS) : Nat → RS → List α → List α × RS
  | 0, s, acc => (acc, s)
  | n + 1, s, acc => if s.2 = true then (acc, s) else rep f n (f s).2 (acc ++ [(f s).1])
def spR (b : List UInt8) (s : RS) : (Int × Int) × RS := (((rd b 4 s).1, (rd b 4 (rd b 4 s).2).1), (rd b 4 (rd b 4 s).2).2)
def setR (b : List UInt8) (s : RS) : List (Int × Int) × RS := rep (spR b) (rd b 2 s).1.toNat (rd b 2 s).2 []
def mapR (b : List UInt8) (s : RS) : List Int × RS := rep (rd b 2) (rd b 2 s).1.toNat (rd b 2 s).2 []
def mapsR (b : List UInt8) (s : RS) : List (List Int) × RS := rep (mapR b) (rd b 2 s).1.toNat (rd b 2 s).2 []
def boxR (b : List UInt8) (s : RS) : Bx × RS :=
  let k := rd b 2 s
  let r := setR b k.2
  let m := mapsR b r.2
  let z := setR b m.2
  ({ kinds := k.1, rates := r.1, maps := m.1, sizes := z.1 }, z.2)
def hdR (b : List UInt8) (s : RS) : Ds × RS :=
  let a := rd b 8 s
  let n := txR b a.2
  let d := rd b 2 n.2
  let o := rd b 2 d.2
  let l := rd b 4 o.2
  let r := rd b 2 l.2
  let j := rd b 2 r.2
  ({ id := a.1, name := n.1, dir := d.1, dom := o.1, lat := l.1, drift := r.1, jit := j.1 }, j.2)
def boxesR (b : List UInt8) (s : RS) : List Bx × RS := rep (boxR b) (rd b 2 s).1.toNat (rd b 2 s).2 []
def parseB (b : List UInt8) : Ds × RS := ({ (hdR b (4, false)).1 with boxes := (boxesR b (hdR b (4, false)).2).1 }, (boxesR b (hdR b (4, false)).2).2)
/-! what is written is read again -/
def Rds {α : Type} (F : List UInt8 → RS → α × RS) (bytes : List UInt8) (v : α) : Prop := ∀ pre post : List UInt8, F (pre ++ bytes ++ post) (pre.length, false) = (v, (pre.length + bytes.length, false))
/-- what can be written -/
def spOk (x : Int × Int) : Prop := (0 ≤ x.1 ∧ x.1 < 4294967296) ∧ 0 ≤ x.2 ∧ x.2 < 4294967296
def setOk (s : List (Int × Int)) : Prop := s.length < 65536 ∧ ∀ x ∈ s, spOk x
def mapOk (m : List Int) : Prop := m.length < 65536 ∧ ∀ x ∈ m, 0 ≤ x ∧ x < 65536
def boxOk (x : Bx) : Prop := (0 ≤ x.kinds ∧ x.kinds < 65536) ∧ setOk x.rates ∧ (x.maps.length < 65536 ∧ ∀ m ∈ x.maps, mapOk m) ∧ setOk x.sizes
def dsOk (d : Ds) : Prop := (0 ≤ d.id ∧ d.id < 18446744073709551616) ∧ d.name.length ≤ 64 ∧ (0 ≤ d.dir ∧ d.dir < 65536) ∧ (0 ≤ d.dom ∧ d.dom < 65536) ∧ (0 ≤ d.lat ∧ d.lat < 4294967296) ∧ (0 ≤ d.drift ∧ d.drift < 65536) ∧ (0 ≤ d.jit ∧ d.jit < 65536) ∧ d.boxes.length < 65536 ∧ ∀ x ∈ d.boxes, boxOk x
/-! what is read of a beginning is read of the whole -/
def Mon {α : Type} (F : List UInt8 → RS → α × RS) : Prop := ∀ (x y : List UInt8) (s : RS), (F x s).2.2 = false → F (x ++ y) s = F x s ∧ s.2 = false
end Go.Proofs.Ytgnlohecllokhaa
/-
  Plain law of chapter 11: which descriptors are valid, what decoding gives.
-/
namespace Go.Proofs.Ytgnlohecllokhaa
set_option linter.unusedVariables false
set_option linter.unusedSimpArgs false
def spF (x : Int × Int) : Bool := decide (0 ≤ x.1) && decide (x.1 ≤ x.2) && decide (x.2 ≤ 2147483647)
def spGo : Option Int → List (Int × Int) → Bool
  | _, [] => true
  | none, x :: t => spF x && spGo (some x.2) t
  | some h, x :: t => spF x && decide (h + 1 < x.1) && spGo (some x.2) t
def spV (l : List (Int × Int)) : Bool := spGo none l && decide (l.length ≤ 64)
def withinV (l : List (Int × Int)) (lo hi : Int) : Bool := spV l && (decide (l ≠ []) && (decide (lo ≤ (l.headD (0, 0)).1) && decide ((l.getLastD (0, 0)).2 ≤ hi)))
def mapGo : List Int → List Int → Bool
  | _, [] => true
  | seen, p :: t => decide (1 ≤ p) && decide (p ≤ 8) && !(decide (p ∈ seen)) && mapGo (seen ++ [p]) t
def mapV (m : List Int) : Bool := decide (1 ≤ m.length) && decide (m.length ≤ 8) && mapGo [] m
def msGo : List (List Int) → List (List Int) → Bool
  | _, [] => true
  | seen, m :: t => mapV m && !(decide (m ∈ seen)) && msGo (seen ++ [m]) t
def kindV (k : Int) : Bool := decide (k ≠ 0) && decide (bits .andNot .i64 k 254 = 0)
def bxV (b : Bx) : Bool := kindV b.kinds && withinV b.rates 1000 768000 && withinV b.sizes 1 65536 && msGo [] b.maps && (decide (1 ≤ b.maps.length) && decide (b.maps.length ≤ 16))
def headV (d : Ds) : Bool := nameB d.name && (decide (d.dir = 1) || decide (d.dir = 2)) && (decide (0 ≤ d.dom) && decide (d.dom ≤ 65535)) && (decide (0 ≤ d.lat) && decide (d.lat ≤ 1048576)) && (decide (0 ≤ d.drift) && decide (d.drift ≤ 2048)) && (decide (0 ≤ d.jit) && decide (d.jit ≤ 4096))
def dsV (d : Ds) : Bool := headV d && (decide (1 ≤ d.boxes.length) && decide (d.boxes.length ≤ 8)) && d.boxes.all bxV
theorem kind_rng (k : Int) (h0 : -9223372036854775808 ≤ k) (h1 : k ≤ 9223372036854775807) (h : kindV k = true) : 0 ≤ k ∧ k ≤ 254 := by
  unfold kindV at h
  simp only [Bool.and_eq_true, decide_eq_true_eq] at h
  have h2 := h.2
  have e1 : bits .andNot .i64 k 254 = IntKind.i64.wrap ((BitVec.ofInt 64 k &&& ~~~(BitVec.ofInt 64 254)).toNat : Int) := rfl
  rw [e1, IntKind.wrap_i64] at h2
  have hlt := (BitVec.ofInt 64 k &&& ~~~(BitVec.ofInt 64 254)).isLt
  have h3 : (BitVec.ofInt 64 k &&& ~~~(BitVec.ofInt 64 254)).toNat = 0 := by omega
  have h4 : BitVec.ofInt 64 k &&& ~~~(BitVec.ofInt 64 254) = 0#64 := BitVec.eq_of_toNat_eq (by rw [h3]; rfl)
  have h5 : BitVec.ofInt 64 k &&& BitVec.ofInt 64 254 = BitVec.ofInt 64 k := by
    apply BitVec.eq_of_getLsbD_eq
    intro i hi
    have := congrArg (fun v => BitVec.getLsbD v i) h4
    simp only [BitVec.getLsbD_and, BitVec.getLsbD_not, hi, decide_true, Bool.true_and, BitVec.getLsbD_zero] at this ⊢
    revert this
    cases (BitVec.ofInt 64 k).getLsbD i <;> cases (BitVec.ofInt 64 254).getLsbD i <;> simp
  have h6 : (BitVec.ofInt 64 k).toNat ≤ 254 := by
    rw [← h5, BitVec.toNat_and]
    exact Nat.le_trans Nat.and_le_right (by decide)
  rw [BitVec.toNat_ofInt] at h6
  omega
theorem spGo_ok : ∀ (l : List (Int × Int)) (p : Option Int), spGo p l = true → ∀ x ∈ l, spOk x := by
  intro l
  induction l with
  | nil => intro p _ x hx; cases hx
  | cons y l ih =>
    intro p h x hx
    have hy : spF y = true ∧ spGo (some y.2) l = true := by
      cases p <;> simp only [spGo, Bool.and_eq_true] at h
      · exact h
      · exact ⟨h.1.1, h.2⟩
    rcases List.mem_cons.1 hx with rfl | hx
    · have := hy.1
      simp only [spF, Bool.and_eq_true, decide_eq_true_eq] at this
      exact ⟨⟨by omega, by omega⟩, by omega, by omega⟩
    · exact ih _ hy.2 x hx
theorem spV_ok (l : List (Int × Int)) (h : spV l = true) : setOk l := by
  simp only [spV, Bool.and_eq_true, decide_eq_true_eq] at h
  exact ⟨by omega, spGo_ok l _ h.1⟩
theorem mapGo_ok : ∀ (l seen : List Int), mapGo seen l = true → ∀ x ∈ l, 0 ≤ x ∧ x < 65536 := by
  intro l
  induction l with
  | nil => intro _ _ x hx; cases hx
  | cons y l ih =>
    intro seen h x hx
    simp only [mapGo, Bool.and_eq_true, decide_eq_true_eq] at h
    rcases List.mem_cons.1 hx with rfl | hx
    · omega
    · exact ih _ h.2 x hx
theorem mapV_ok (m : List Int) (h : mapV m = true) : mapOk m := by
  simp only [mapV, Bool.and_eq_true, decide_eq_true_eq] at h
  exact ⟨by omega, mapGo_ok m _ h.2⟩
theorem msGo_ok : ∀ (l seen : List (List Int)), msGo seen l = true → ∀ x ∈ l, mapV x = true := by
  intro l
  induction l with
  | nil => intro _ _ x hx; cases hx
  | cons y l ih =>
    intro seen h x hx
    simp only [msGo, Bool.and_eq_true] at h
    rcases List.mem_cons.1 hx with rfl | hx
    · exact h.1.1
    · exact ih _ h.2 x hx
def bxFit (b : Bx) : Prop := -9223372036854775808 ≤ b.kinds ∧ b.kinds ≤ 9223372036854775807
theorem bxV_ok (b : Bx) (hf : bxFit b) (h : bxV b = true) : boxOk b := by
  simp only [bxV, withinV, Bool.and_eq_true, decide_eq_true_eq] at h
  obtain ⟨⟨⟨⟨h1, h2⟩, h3⟩, h4⟩, h5⟩ := h
  have := kind_rng _ hf.1 hf.2 h1
  exact ⟨by omega, spV_ok _ h2.1, ⟨by omega, fun m hm => mapV_ok m (msGo_ok _ _ h4 m hm)⟩, spV_ok _ h3.1⟩
def dsFit (d : Ds) : Prop := (0 ≤ d.id ∧ d.id ≤ 18446744073709551615) ∧ ∀ b ∈ d.boxes, bxFit b
theorem headV_ok (d : Ds) (h : headV d = true) : d.name.length ≤ 64 ∧ (0 ≤ d.dir ∧ d.dir < 65536) ∧ (0 ≤ d.dom ∧ d.dom < 65536) ∧ (0 ≤ d.lat ∧ d.lat < 4294967296) ∧ (0 ≤ d.drift ∧ d.drift < 65536) ∧ (0 ≤ d.jit ∧ d.jit < 65536) := by
  simp only [headV, nameB, Bool.and_eq_true, Bool.or_eq_true, decide_eq_true_eq] at h
  omega
theorem dsV_ok (d : Ds) (hf : dsFit d) (h : dsV d = true) : dsOk d := by
  simp only [dsV, Bool.and_eq_true, decide_eq_true_eq, List.all_eq_true] at h
  obtain ⟨⟨h1, h2⟩, h3⟩ := h
  obtain ⟨a1, a2, a3, a4, a5, a6⟩ := headV_ok d h1
  exact ⟨⟨hf.1.1, by have := hf.1.2; omega⟩, a1, a2, a3, a4, a5, a6, by omega, fun x hx => bxV_ok x (hf.2 x hx) (h3 x hx)⟩
/-! decoding -/
def mk4 : List UInt8 := [83, 78, 68, 49]
def decB (body : List UInt8) : Ds × Int :=
  if body.take 4 ≠ mk4 then ({}, 5)
  else if (parseB body).2.2 = true ∨ (parseB body).2.1 ≠ body.length then ({}, 5)
  else if dsV (parseB body).1 = true then ((parseB body).1, 0) else ({}, 1)
def decP (b : List UInt8) : Ds × Int :=
  if b.length < 8 then ({}, 4)
  else if unle (seg b (b.length - 4) 4) ≠ crc (b.take (b.length - 4)) then ({}, 6)
  else decB (b.take (b.length - 4))
theorem seal_len (b : List UInt8) : (sealB b).length = b.length + 4 := by rw [sealB, List.length_append, e32_len]
theorem body_len (d : Ds) : 4 ≤ (bodyB d).length := by simp [bodyB]
end Go.Proofs.Ytgnlohecllokhaa
/-
  Plain facts of chapter 11: the descriptors that the statements make are valid.
-/
namespace Go.Proofs.Ytgnlohecllokhaa
set_option linter.unusedVariables false
set_option linter.unusedSimpArgs false
/-! dice -/
def diV (l : List UInt8) (n : Int) : Int := match l with
  | [] => 0
  | c :: _ => if n ≤ 1 then 0 else (c.toNat : Int) % n
def diL (l : List UInt8) (n : Int) : List UInt8 := match l with
  | [] => []
  | c :: t => if n ≤ 1 then c :: t else t
theorem diV_rng (l : List UInt8) (n : Int) (hn : 1 ≤ n) : 0 ≤ diV l n ∧ diV l n < n := by
  unfold diV
  split
  · omega
  · split
    · omega
    · exact ⟨Int.emod_nonneg _ (by omega), Int.emod_lt_of_pos _ (by omega)⟩
/-! sets of spans -/
def insK (x : Int × Int) : List (Int × Int) → Nat → Nat
  | l, 0 => 0
  | l, k + 1 => if (l.getD k (0, 0)).1 > x.1 then insK x l k else k + 1
def insP (l : List (Int × Int)) (x : Int × Int) : List (Int × Int) := l.take (insK x l l.length) ++ [x] ++ l.drop (insK x l l.length)
def mrgP (out : List (Int × Int)) (x : Int × Int) : List (Int × Int) :=
  if out ≠ [] ∧ x.1 - 1 ≤ (out.getLastD (0, 0)).2 then out.dropLast ++ [((out.getLastD (0, 0)).1, max (out.getLastD (0, 0)).2 x.2)] else out ++ [x]
def joinedP (l : List (Int × Int)) : List (Int × Int) := (l.foldl insP []).foldl mrgP []
def ratesT : List (Int × Int) := [(44100, 44100), (48000, 48000), (8000, 8000), (32000, 50000), (96000, 192000)]
def sizesT : List (Int × Int) := [(16, 64), (64, 1024), (2048, 2048), (1, 65536)]
def pickD : List (Int × Int) → List UInt8 → List (Int × Int) → List (Int × Int) × List UInt8
  | [], l, acc => (acc, l)
  | x :: t, l, acc => pickD t (diL l 2) (if diV l 2 = 1 then acc ++ [x] else acc)
def someD (xs : List (Int × Int)) (l : List UInt8) : List (Int × Int) × List UInt8 :=
  if (pickD xs l []).1 = [] then ([xs.getD (diV (pickD xs l []).2 xs.length).toNat (0, 0)], diL (pickD xs l []).2 xs.length) else pickD xs l []
def setD (xs : List (Int × Int)) (l : List UInt8) : List (Int × Int) × List UInt8 := (joinedP (someD xs l).1, (someD xs l).2)
def subs : List (Int × Int) → List (List (Int × Int))
  | [] => [[]]
  | x :: t => (subs t).flatMap fun s => [s, x :: s]
theorem pick_sub : ∀ (xs : List (Int × Int)) (l : List UInt8) (acc : List (Int × Int)), ∃ s ∈ subs xs, (pickD xs l acc).1 = acc ++ s := by
  intro xs
  induction xs with
  | nil => intro l acc; exact ⟨[], by simp [subs], by simp [pickD]⟩
  | cons x t ih =>
    intro l acc
    rw [pickD]
    split
    · obtain ⟨s, h1, h2⟩ := ih (diL l 2) (acc ++ [x])
      exact ⟨x :: s, by rw [subs, List.mem_flatMap]; exact ⟨s, h1, by simp⟩, by rw [h2]; simp⟩
    · obtain ⟨s, h1, h2⟩ := ih (diL l 2) acc
      exact ⟨s, by rw [subs, List.mem_flatMap]; exact ⟨s, h1, by simp⟩, h2⟩
theorem some_sub (xs : List (Int × Int)) (l : List UInt8) (hx : xs ≠ []) : ((someD xs l).1 ∈ subs xs ∧ (someD xs l).1 ≠ []) ∨ ∃ x ∈ xs, (someD xs l).1 = [x] := by
  unfold someD
  split
  · right
    have hp : 0 < xs.length := List.length_pos_iff.2 hx
    have := diV_rng (pickD xs l []).2 xs.length (by omega)
    refine ⟨_, ?_, rfl⟩
    have hlt : (diV (pickD xs l []).2 xs.length).toNat < xs.length := by omega
    rw [List.getD_eq_getElem?_getD, List.getElem?_eq_getElem hlt]
    exact List.getElem_mem _
  · left
    obtain ⟨s, h1, h2⟩ := pick_sub xs l []
    rw [List.nil_append] at h2
    rw [← h2] at h1
    exact ⟨h1, by assumption⟩
theorem rates_all : (∀ s ∈ subs ratesT, s ≠ [] → withinV (joinedP s) 1000 768000 = true) ∧ ∀ x ∈ ratesT, withinV (joinedP [x]) 1000 768000 = true := by decide +kernel
theorem sizes_all : (∀ s ∈ subs sizesT, s ≠ [] → withinV (joinedP s) 1 65536 = true) ∧ ∀ x ∈ sizesT, withinV (joinedP [x]) 1 65536 = true := by decide +kernel
theorem rates_ok (l : List UInt8) : withinV (setD ratesT l).1 1000 768000 = true := by
  rcases some_sub ratesT l (by decide) with ⟨h1, h2⟩ | ⟨x, h1, h2⟩
  · exact rates_all.1 _ h1 h2
  · rw [setD, h2]; exact rates_all.2 x h1
theorem sizes_ok (l : List UInt8) : withinV (setD sizesT l).1 1 65536 = true := by
  rcases some_sub sizesT l (by decide) with ⟨h1, h2⟩ | ⟨x, h1, h2⟩
  · exact sizes_all.1 _ h1 h2
  · rw [setD, h2]; exact sizes_all.2 x h1
/-! maps -/
def mapsT : List (List Int) := [[3], [1, 2], [1, 2, 3, 4, 5, 6], [2, 1], [1, 2, 7, 8], [4], [1, 3]]
def thereB (maps : List (List Int)) (m : List Int) : Bool := maps.any fun x => decide (x.length = m.length) && decide (x.headD 0 = m.headD 0)
def mapD (l : List UInt8) : List Int := mapsT.getD (diV l 7).toNat []
def mapsD : Nat → List UInt8 → List (List Int) → List (List Int) × List UInt8
  | 0, l, acc => (acc, l)
  | n + 1, l, acc => mapsD n (diL l 7) (if thereB acc (mapD l) = true then acc else acc ++ [mapD l])
theorem map_tab (l : List UInt8) : mapD l ∈ mapsT := by
  have := diV_rng l 7 (by decide)
  unfold mapD
  have hlt : (diV l 7).toNat < mapsT.length := by have : mapsT.length = 7 := rfl; omega
  rw [List.getD_eq_getElem?_getD, List.getElem?_eq_getElem hlt]
  exact List.getElem_mem _
theorem maps_all : ∀ m ∈ mapsT, mapV m = true ∧ m.length ≤ 6 ∧ 1 ≤ m.length := by decide +kernel
theorem msGo_snoc : ∀ (l seen : List (List Int)) (m : List Int), msGo seen (l ++ [m]) = (msGo seen l && (mapV m && !(decide (m ∈ seen ++ l)))) := by
  intro l
  induction l with
  | nil => intro seen m; simp [msGo]
  | cons x l ih => intro seen m; rw [List.cons_append, msGo, msGo, ih]; simp [Bool.and_assoc]
theorem there_mem (l : List (List Int)) (m : List Int) (h : thereB l m = false) : m ∉ l := by
  intro hm
  have : thereB l m = true := by
    unfold thereB
    rw [List.any_eq_true]
    exact ⟨m, hm, by simp⟩
  rw [h] at this; cases this
theorem maps_ok : ∀ (n : Nat) (l : List UInt8) (acc : List (List Int)), msGo [] acc = true → (∀ m ∈ acc, m ∈ mapsT) → msGo [] (mapsD n l acc).1 = true ∧ (mapsD n l acc).1.length ≤ acc.length + n ∧ acc.length ≤ (mapsD n l acc).1.length ∧ (1 ≤ n → 1 ≤ (mapsD n l acc).1.length) ∧ ∀ m ∈ (mapsD n l acc).1, m ∈ mapsT := by
  intro n
  induction n with
  | zero => intro l acc h ht; exact ⟨h, by simp [mapsD], by simp [mapsD], by omega, by simpa [mapsD] using ht⟩
  | succ n ih =>
    intro l acc h ht
    rw [mapsD]
    have hm := map_tab l
    split
    · rename_i h2
      obtain ⟨a, b, c, d, e⟩ := ih (diL l 7) acc h ht
      refine ⟨a, by omega, by omega, fun _ => ?_, e⟩
      have : acc ≠ [] := by rintro rfl; simp [thereB] at h2
      have := List.length_pos_iff.2 this
      omega
    · rename_i h2
      have h3 : thereB acc (mapD l) = false := by simpa using h2
      obtain ⟨a, b, c, d, e⟩ := ih (diL l 7) (acc ++ [mapD l]) (by rw [msGo_snoc, h, (maps_all _ hm).1]; simpa using there_mem _ _ h3) (by
        intro m hm'
        rcases List.mem_append.1 hm' with h | h
        · exact ht m h
        · rw [List.mem_singleton.1 h]; exact hm)
      rw [List.length_append, List.length_singleton] at b c
      exact ⟨a, by omega, by omega, fun _ => by omega, e⟩
/-! kinds -/
def kOne (l : List UInt8) : Int := 2 ^ (1 + (diV l 7).toNat)
def kOrD : Nat → List UInt8 → Int → Int × List UInt8
  | 0, l, k => (k, l)
  | n + 1, l, k => kOrD n (diL l 7) (bits .or .i64 k (kOne l))
def kGood (k : Int) : Prop := ∃ n : Nat, n < 256 ∧ n % 2 = 0 ∧ n ≠ 0 ∧ k = (n : Int)
theorem kOne_good (l : List UInt8) : ∃ j : Nat, j < 7 ∧ kOne l = ((2 ^ (1 + j) : Nat) : Int) := by
  have := diV_rng l 7 (by decide)
  exact ⟨(diV l 7).toNat, by omega, by unfold kOne; push_cast; rfl⟩
theorem k_all : ∀ n : Fin 256, n.1 % 2 = 0 → n.1 ≠ 0 → kindV ((n.1 : Nat) : Int) = true := by decide +kernel
theorem kGood_ok (k : Int) (h : kGood k) : kindV k = true := by
  obtain ⟨n, h1, h2, h3, rfl⟩ := h
  exact k_all ⟨n, h1⟩ h2 h3
theorem or_all : ∀ (n : Fin 256) (j : Fin 7), n.1 % 2 = 0 → n.1 ≠ 0 → (n.1 ||| 2 ^ (1 + j.1)) < 256 ∧ (n.1 ||| 2 ^ (1 + j.1)) % 2 = 0 ∧ (n.1 ||| 2 ^ (1 + j.1)) ≠ 0 ∧ bits .or .i64 (n.1 : Int) ((2 ^ (1 + j.1) : Nat) : Int) = ((n.1 ||| 2 ^ (1 + j.1) : Nat) : Int) := by decide +kernel
theorem kOr_good : ∀ (n : Nat) (l : List UInt8) (k : Int), kGood k → kGood (kOrD n l k).1 := by
  intro n
  induction n with
  | zero => intro l k h; exact h
  | succ n ih =>
    intro l k h
    rw [kOrD]
    apply ih
    obtain ⟨m, h1, h2, h3, rfl⟩ := h
    obtain ⟨j, hj, e⟩ := kOne_good l
    obtain ⟨a, b, c, d⟩ := or_all ⟨m, h1⟩ ⟨j, hj⟩ h2 h3
    rw [e]
    exact ⟨_, a, b, c, d⟩
/-! boxes -/
def boxD (l : List UInt8) : Bx × List UInt8 :=
  let k := kOrD (diV (diL l 7) 3).toNat (diL (diL l 7) 3) (kOne l)
  let r := setD ratesT k.2
  let z := setD sizesT r.2
  let m := mapsD (1 + diV z.2 3).toNat (diL z.2 3) []
  ({ kinds := k.1, rates := r.1, maps := m.1, sizes := z.1 }, m.2)
theorem box_ok (l : List UInt8) : bxV (boxD l).1 = true ∧ bxFit (boxD l).1 := by
  obtain ⟨j, hj, e⟩ := kOne_good l
  have hk : kGood (kOne l) := by
    refine ⟨2 ^ (1 + j), ?_, ?_, ?_, e⟩
    · have : ∀ j : Fin 7, 2 ^ (1 + j.1) < 256 := by decide
      exact this ⟨j, hj⟩
    · have : ∀ j : Fin 7, 2 ^ (1 + j.1) % 2 = 0 := by decide
      exact this ⟨j, hj⟩
    · have := Nat.two_pow_pos (1 + j); omega
  have h1 := kOr_good (diV (diL l 7) 3).toNat (diL (diL l 7) 3) (kOne l) hk
  have h2 := rates_ok (kOrD (diV (diL l 7) 3).toNat (diL (diL l 7) 3) (kOne l)).2
  have h3 := sizes_ok (setD ratesT (kOrD (diV (diL l 7) 3).toNat (diL (diL l 7) 3) (kOne l)).2).2
  have hn := diV_rng (setD sizesT (setD ratesT (kOrD (diV (diL l 7) 3).toNat (diL (diL l 7) 3) (kOne l)).2).2).2 3 (by decide)
  have h4 := maps_ok (1 + diV (setD sizesT (setD ratesT (kOrD (diV (diL l 7) 3).toNat (diL (diL l 7) 3) (kOne l)).2).2).2 3).toNat (diL (setD sizesT (setD ratesT (kOrD (diV (diL l 7) 3).toNat (diL (diL l 7) 3) (kOne l)).2).2).2 3) [] rfl (by simp)
  simp only [List.length_nil] at h4
  constructor
  · unfold bxV boxD
    simp only [Bool.and_eq_true, decide_eq_true_eq]
    exact ⟨⟨⟨⟨kGood_ok _ h1, h2⟩, h3⟩, h4.1⟩, by omega, by omega⟩
  · obtain ⟨n, a, b, c, d⟩ := h1
    unfold bxFit boxD
    simp only
    rw [d]; omega
def boxesD : Nat → List UInt8 → List Bx → List Bx × List UInt8
  | 0, l, acc => (acc, l)
  | n + 1, l, acc => boxesD n (boxD l).2 (acc ++ [(boxD l).1])
theorem boxes_ok : ∀ (n : Nat) (l : List UInt8) (acc : List Bx), (∀ b ∈ acc, bxV b = true ∧ bxFit b) → (∀ b ∈ (boxesD n l acc).1, bxV b = true ∧ bxFit b) ∧ (boxesD n l acc).1.length = acc.length + n := by
  intro n
  induction n with
  | zero => intro l acc h; exact ⟨h, rfl⟩
  | succ n ih =>
    intro l acc h
    rw [boxesD]
    obtain ⟨a, b⟩ := ih (boxD l).2 (acc ++ [(boxD l).1]) (by
      intro x hx
      rcases List.mem_append.1 hx with hx | hx
      · exact h x hx
      · rw [List.mem_singleton.1 hx]; exact box_ok l)
    exact ⟨a, by rw [b]; simp; omega⟩
def namesT : List (List UInt8) := [[100, 97, 99], [104, 100, 109, 105, 45, 49], [77, 105, 99, 46, 50]]
def driftT : List Int := [0, 66, 200, 7]
/-- the descriptor of some numbers -/
def dscD (dir : Int) (l0 : List UInt8) : Ds × List UInt8 :=
  let l1 := diL l0 256
  let l2 := diL l1 3
  let l3 := diL l2 4
  let l4 := diL l3 200
  let l5 := diL l4 4
  let l6 := diL l5 4
  let l7 := diL l6 2
  let b := boxesD (1 + diV l6 2).toNat l7 []
  ({ id := diV l0 256, name := namesT.getD (diV l1 3).toNat [], dir := dir, dom := diV l2 4, lat := diV l3 200, drift := driftT.getD (diV l4 4).toNat 0, jit := diV l5 4, boxes := b.1 }, b.2)
theorem names_all : ∀ n : Fin 3, nameB (namesT.getD n.1 []) = true := by decide +kernel
theorem drift_all : ∀ n : Fin 4, 0 ≤ driftT.getD n.1 0 ∧ driftT.getD n.1 0 ≤ 2048 := by decide +kernel
theorem dsc_ok (dir : Int) (l : List UInt8) (hd : dir = 1 ∨ dir = 2) : dsV (dscD dir l).1 = true ∧ dsFit (dscD dir l).1 := by
  have a0 := diV_rng l 256 (by decide)
  have a1 := diV_rng (diL l 256) 3 (by decide)
  have a2 := diV_rng (diL (diL l 256) 3) 4 (by decide)
  have a3 := diV_rng (diL (diL (diL l 256) 3) 4) 200 (by decide)
  have a4 := diV_rng (diL (diL (diL (diL l 256) 3) 4) 200) 4 (by decide)
  have a5 := diV_rng (diL (diL (diL (diL (diL l 256) 3) 4) 200) 4) 4 (by decide)
  have a6 := diV_rng (diL (diL (diL (diL (diL (diL l 256) 3) 4) 200) 4) 4) 2 (by decide)
  have hb := boxes_ok (1 + diV (diL (diL (diL (diL (diL (diL l 256) 3) 4) 200) 4) 4) 2).toNat (diL (diL (diL (diL (diL (diL (diL l 256) 3) 4) 200) 4) 4) 2) [] (by simp)
  have hn := names_all ⟨(diV (diL l 256) 3).toNat, by omega⟩
  have hr := drift_all ⟨(diV (diL (diL (diL (diL l 256) 3) 4) 200) 4).toNat, by omega⟩
  simp only at hn hr
  rw [List.length_nil] at hb
  constructor
  · unfold dsV headV dscD
    simp only [Bool.and_eq_true, Bool.or_eq_true, decide_eq_true_eq, List.all_eq_true]
    exact ⟨⟨⟨⟨⟨⟨⟨hn, hd⟩, by omega⟩, by omega⟩, by omega⟩, by omega⟩, by omega⟩, fun b hb' => (hb.1 b hb').1⟩
  · exact ⟨by unfold dscD; simp only; omega, fun b hb' => (hb.1 b hb').2⟩
def madeD (l : List UInt8) : Ds × List UInt8 := dscD (1 + diV (l.take 300) 2) (diL (l.take 300) 2)
theorem made_ok (l : List UInt8) : dsV (madeD l).1 = true ∧ dsFit (madeD l).1 := by
  have := diV_rng (l.take 300) 2 (by decide)
  exact dsc_ok _ _ (by omega)
end Go.Proofs.Ytgnlohecllokhaa
