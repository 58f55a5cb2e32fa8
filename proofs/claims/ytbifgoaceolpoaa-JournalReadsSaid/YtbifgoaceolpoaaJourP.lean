/-
  Plain functions of the journal (chapter 40) on lists of bytes; no dump; no condition.
-/
import Derived.Test.YtbifgoaceolpoaaWireP
namespace Go.Proofs.Ytbifgoaceolpoaa
/-- the frame at the beginning of some bytes: its record and its hash, or why there is none -/
def jone (r : List UInt8) (last : Nat) : Int ⊕ (List UInt8 × Nat) :=
  if r.length = 0 then .inl 0
  else if r.length < 10 then .inl 4
  else if 4096 < unle (seg r 0 2) then .inl 3
  else if r.length < unle (seg r 0 2) + 10 then .inl 4
  else if unle (seg r (unle (seg r 0 2) + 2) 8) = fnvOf (le last 8 ++ seg r 0 (unle (seg r 0 2) + 2)) then .inr (seg r 2 (unle (seg r 0 2)), fnvOf (le last 8 ++ seg r 0 (unle (seg r 0 2) + 2)))
  else .inl 6
/-- all frames: the records, the number of their bytes, the last hash, why they end -/
def jall : Nat → List UInt8 → Nat → List (List UInt8) × Nat × Nat × Int
  | 0, _, last => ([], 0, last, 0)
  | f + 1, r, last => match jone r last with
    | .inl e => ([], 0, last, e)
    | .inr (x, h) => (x :: (jall f (r.drop (x.length + 10)) h).1, x.length + 10 + (jall f (r.drop (x.length + 10)) h).2.1, (jall f (r.drop (x.length + 10)) h).2.2.1, (jall f (r.drop (x.length + 10)) h).2.2.2)
def J (r : List UInt8) (last : Nat) : List (List UInt8) × Nat × Nat × Int := jall (r.length + 1) r last
theorem jone_inr {r : List UInt8} {last : Nat} {x : List UInt8} {h : Nat} (e : jone r last = .inr (x, h)) : x.length + 10 ≤ r.length ∧ x.length ≤ 4096 := by
  unfold jone at e
  repeat (split at e; · cases e)
  rename_i h1 h2 h3 h4
  split at e
  · injection e with e
    injection e with e1 e2
    have : x.length = unle (seg r 0 2) := by rw [← e1, seg_length]; omega
    omega
  · cases e
theorem jall_fuel : ∀ (f g : Nat) (r : List UInt8) (last : Nat), r.length < f → r.length < g → jall f r last = jall g r last := by
  intro f
  induction f with
  | zero => intro g r last h; omega
  | succ f ih =>
    intro g r last h1 h2
    cases g with
    | zero => omega
    | succ g =>
      simp only [jall]
      cases hj : jone r last with
      | inl e => rfl
      | inr p =>
        obtain ⟨x, h⟩ := p
        have := jone_inr hj
        simp only
        rw [ih g _ h (by simp; omega) (by simp; omega)]
theorem J_inl {r : List UInt8} {last : Nat} {e : Int} (h : jone r last = .inl e) : J r last = ([], 0, last, e) := by
  unfold J; simp only [jall, h]
theorem J_inr {r : List UInt8} {last : Nat} {x : List UInt8} {h : Nat} (hj : jone r last = .inr (x, h)) :
    J r last = (x :: (J (r.drop (x.length + 10)) h).1, x.length + 10 + (J (r.drop (x.length + 10)) h).2.1, (J (r.drop (x.length + 10)) h).2.2.1, (J (r.drop (x.length + 10)) h).2.2.2) := by
  have hl := jone_inr hj
  unfold J
  rw [jall]
  simp only [hj]
  rw [jall_fuel r.length ((r.drop (x.length + 10)).length + 1) _ h (by simp; omega) (by simp)]
/-- after some frames -/
def Jthen (rs : List (List UInt8)) (k : Nat) (q : List (List UInt8) × Nat × Nat × Int) : List (List UInt8) × Nat × Nat × Int := (rs ++ q.1, k + q.2.1, q.2.2.1, q.2.2.2)
theorem Jthen_nil (q : List (List UInt8) × Nat × Nat × Int) : Jthen [] 0 q = q := by simp [Jthen]
theorem Jthen_step {b : List UInt8} {rs : List (List UInt8)} {k last : Nat} {x : List UInt8} {h : Nat} (hj : jone (b.drop k) last = .inr (x, h)) :
    Jthen rs k (J (b.drop k) last) = Jthen (rs ++ [x]) (k + (x.length + 10)) (J (b.drop (k + (x.length + 10))) h) := by
  rw [J_inr hj, List.drop_drop]
  simp [Jthen, Nat.add_assoc]
theorem le_unle : ∀ s : List UInt8, le (unle s) s.length = s := by
  intro s
  induction s with
  | nil => rfl
  | cons c r ih =>
    have hc := c.toNat_lt
    simp only [unle, List.length_cons, le]
    rw [show (c.toNat + 256 * unle r) % 256 = c.toNat by omega, show (c.toNat + 256 * unle r) / 256 = unle r by omega, ih]
    simp
theorem seg_split (r : List UInt8) (v : Nat) : seg r 0 (2 + v) = seg r 0 2 ++ seg r 2 v := by
  unfold seg
  rw [List.drop_zero, List.take_add]
theorem unle2_lt (r : List UInt8) : unle (seg r 0 2) < 65536 := by
  have h := unle_lt (seg r 0 2)
  have hl : (seg r 0 2).length ≤ 2 := by simp [seg]; omega
  have : 256 ^ (seg r 0 2).length ≤ 256 ^ 2 := Nat.pow_le_pow_right (by omega) hl
  omega
section
variable {r : List UInt8} {last v : Nat}
theorem jone_end (h : r.length = 0) : jone r last = .inl 0 := by unfold jone; rw [if_pos h]
theorem jone_short (h0 : r.length ≠ 0) (h : r.length < 10) : jone r last = .inl 4 := by unfold jone; rw [if_neg h0, if_pos h]
theorem jone_limit (h : 10 ≤ r.length) (hv : unle (seg r 0 2) = v) (h2 : 4096 < v) : jone r last = .inl 3 := by
  subst hv; unfold jone; rw [if_neg (by omega), if_neg (by omega), if_pos h2]
theorem jone_short2 (h : 10 ≤ r.length) (hv : unle (seg r 0 2) = v) (h2 : v ≤ 4096) (h3 : r.length < v + 10) : jone r last = .inl 4 := by
  subst hv; unfold jone; rw [if_neg (by omega), if_neg (by omega), if_neg (by omega), if_pos h3]
theorem jone_bad (hv : unle (seg r 0 2) = v) (h2 : v ≤ 4096) (h3 : v + 10 ≤ r.length) (h4 : unle (seg r (v + 2) 8) ≠ fnvOf (le last 8 ++ seg r 0 (v + 2))) : jone r last = .inl 6 := by
  subst hv; unfold jone; rw [if_neg (by omega), if_neg (by omega), if_neg (by omega), if_neg (by omega), if_neg h4]
theorem jone_ok (hv : unle (seg r 0 2) = v) (h2 : v ≤ 4096) (h3 : v + 10 ≤ r.length) (h4 : unle (seg r (v + 2) 8) = fnvOf (le last 8 ++ seg r 0 (v + 2))) : jone r last = .inr (seg r 2 v, fnvOf (le last 8 ++ seg r 0 (v + 2))) := by
  subst hv; unfold jone; rw [if_neg (by omega), if_neg (by omega), if_neg (by omega), if_neg (by omega), if_pos h4]
end
/-- one more record: the journal, or why there is none -/
def apM (b x : List UInt8) : List UInt8 × Int :=
  if (J b 0).2.2.2 ≠ 0 then ([], (J b 0).2.2.2)
  else if 4096 < x.length ∨ 65536 < b.length + 10 + x.length then ([], 3)
  else (b ++ (le x.length 2 ++ x) ++ le (fnvOf (le (J b 0).2.2.1 8 ++ (le x.length 2 ++ x))) 8, 0)
theorem J_bd : ∀ (f : Nat) (r : List UInt8) (last : Nat), last < 18446744073709551616 → (jall f r last).2.2.1 < 18446744073709551616 ∧ (jall f r last).2.1 ≤ r.length := by
  intro f
  induction f with
  | zero => intro r last h; exact ⟨h, by simp [jall]⟩
  | succ f ih =>
    intro r last h
    simp only [jall]
    cases hj : jone r last with
    | inl e => exact ⟨h, by simp⟩
    | inr p =>
      obtain ⟨x, g⟩ := p
      have hl := jone_inr hj
      have hg : g < 18446744073709551616 := by
        unfold jone at hj
        repeat (split at hj; · cases hj)
        split at hj
        · injection hj with hj
          injection hj with e1 e2
          rw [← e2]; exact fnvOf_lt _
        · cases hj
      have := ih (r.drop (x.length + 10)) g hg
      simp only
      refine ⟨this.1, ?_⟩
      have h2 := this.2
      rw [List.length_drop] at h2
      omega
theorem J_last (b : List UInt8) : (J b 0).2.2.1 < 18446744073709551616 := (J_bd _ b 0 (by omega)).1
theorem J_len (b : List UInt8) : (J b 0).2.1 ≤ b.length := (J_bd _ b 0 (by omega)).2
end Go.Proofs.Ytbifgoaceolpoaa
