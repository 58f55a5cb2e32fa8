/-
  Plain facts of journals: appended frames, beginnings, repaired ones. No dump; no condition.
-/
import Derived.Test.YtbifgoaceolpoaaJourM
namespace Go.Proofs.Ytbifgoaceolpoaa
theorem unle_le : ∀ (n x : Nat), unle (le x n) = x % 256 ^ n := by
  intro n
  induction n with
  | zero => intro x; simp [le, unle, Nat.mod_one]
  | succ n ih =>
    intro x
    simp only [le, unle, ih]
    rw [show (UInt8.ofNat (x % 256)).toNat = x % 256 from by simp, Nat.pow_succ', Nat.mod_mul]
theorem jone_zero {r : List UInt8} {last : Nat} {e : Int} (h : jone r last = .inl e) (h0 : e = 0) : r = [] := by
  subst h0
  unfold jone at h
  split at h
  · rename_i h1; exact List.eq_nil_of_length_eq_zero h1
  · repeat (split at h; · exact absurd (Sum.inl.inj h) (by decide))
    split at h
    · cases h
    · exact absurd (Sum.inl.inj h) (by decide)
theorem seg_app (r t : List UInt8) (i m : Nat) (h : i + m ≤ r.length) : seg (r ++ t) i m = seg r i m := by
  unfold seg
  rw [List.drop_append_of_le_length (by omega), List.take_append_of_le_length (by rw [List.length_drop]; omega)]
theorem jone_app {r : List UInt8} {last : Nat} {x : List UInt8} {h : Nat} (t : List UInt8) (e : jone r last = .inr (x, h)) : jone (r ++ t) last = .inr (x, h) := by
  have hl := jone_inr e
  have e0 := e
  unfold jone at e
  repeat (split at e; · cases e)
  rename_i h1 h2 h3 h4
  split at e
  · rename_i h5
    obtain ⟨v, hv⟩ : ∃ v, unle (seg r 0 2) = v := ⟨_, rfl⟩
    rw [hv] at e h3 h4 h5
    have := jone_ok (r := r ++ t) (last := last) (v := v) (by rw [seg_app _ _ _ _ (by omega)]; exact hv) (by omega) (by rw [List.length_append]; omega)
      (by rw [seg_app _ _ _ _ (by omega), seg_app _ _ _ _ (by omega)]; exact h5)
    rw [this, ← e, seg_app _ _ _ _ (by omega), seg_app _ _ _ _ (by omega)]
  · cases e
theorem drop_app (r t : List UInt8) (k : Nat) (h : k ≤ r.length) : (r ++ t).drop k = r.drop k ++ t := List.drop_append_of_le_length h
/-- a journal that is right, and more -/
theorem J_app (n : Nat) : ∀ (r t : List UInt8) (last : Nat), r.length ≤ n → (J r last).2.2.2 = 0 → (J r last).2.1 = r.length ∧ J (r ++ t) last = Jthen (J r last).1 r.length (J t (J r last).2.2.1) := by
  induction n with
  | zero =>
    intro r t last hn h0
    obtain rfl : r = [] := List.eq_nil_of_length_eq_zero (by omega)
    rw [J_inl (jone_end rfl)]
    simp [Jthen]
  | succ n ih =>
    intro r t last hn h0
    cases hj : jone r last with
    | inl e =>
      rw [J_inl hj] at h0
      obtain rfl := jone_zero hj h0
      rw [J_inl (jone_end rfl)]
      simp [Jthen]
    | inr p =>
      obtain ⟨x, h⟩ := p
      have hl := jone_inr hj
      rw [J_inr hj] at h0 ⊢
      rw [J_inr (jone_app t hj), drop_app _ _ _ hl.1]
      simp only at h0 ⊢
      obtain ⟨i1, i2⟩ := ih (r.drop (x.length + 10)) t h (by rw [List.length_drop]; omega) h0
      rw [i2, i1, List.length_drop]
      refine ⟨by omega, ?_⟩
      simp only [Jthen, List.cons_append]
      congr 2
      omega
/-- the records of a beginning are a beginning of the records -/
theorem J_pre (n : Nat) : ∀ (r t : List UInt8) (last : Nat), r.length ≤ n → ∃ z, (J (r ++ t) last).1 = (J r last).1 ++ z := by
  induction n with
  | zero =>
    intro r t last hn
    obtain rfl : r = [] := List.eq_nil_of_length_eq_zero (by omega)
    rw [J_inl (r := []) (jone_end rfl)]
    exact ⟨_, rfl⟩
  | succ n ih =>
    intro r t last hn
    cases hj : jone r last with
    | inl e => rw [J_inl hj]; exact ⟨_, rfl⟩
    | inr p =>
      obtain ⟨x, h⟩ := p
      have hl := jone_inr hj
      rw [J_inr hj, J_inr (jone_app t hj), drop_app _ _ _ hl.1]
      obtain ⟨z, hz⟩ := ih (r.drop (x.length + 10)) t h (by rw [List.length_drop]; omega)
      exact ⟨z, by simp [hz]⟩
/-- what a repair leaves is right -/
theorem J_rep (n : Nat) : ∀ (r : List UInt8) (last : Nat), r.length ≤ n → J (r.take (J r last).2.1) last = ((J r last).1, (J r last).2.1, (J r last).2.2.1, 0) := by
  induction n with
  | zero =>
    intro r last hn
    obtain rfl : r = [] := List.eq_nil_of_length_eq_zero (by omega)
    rw [List.take_nil, J_inl (jone_end rfl)]
  | succ n ih =>
    intro r last hn
    cases hj : jone r last with
    | inl e =>
      rw [J_inl hj]
      show J (r.take 0) last = _
      rw [List.take_zero, J_inl (jone_end rfl)]
    | inr p =>
      obtain ⟨x, h⟩ := p
      have hl := jone_inr hj
      rw [J_inr hj]
      simp only
      have i := ih (r.drop (x.length + 10)) h (by rw [List.length_drop]; omega)
      generalize J (r.drop (x.length + 10)) h = q at *
      have ht : r.take (x.length + 10 + q.2.1) = r.take (x.length + 10) ++ (r.drop (x.length + 10)).take q.2.1 := by rw [List.take_add]
      have hj2 : jone (r.take (x.length + 10)) last = .inr (x, h) := by
        unfold jone at hj
        repeat (split at hj; · cases hj)
        rename_i h1 h2 h3 h4
        split at hj
        · rename_i h5
          obtain ⟨v, hv⟩ : ∃ v, unle (seg r 0 2) = v := ⟨_, rfl⟩
          rw [hv] at hj h3 h4 h5
          have hx : x.length = v := by
            injection hj with hj
            injection hj with e1 e2
            rw [← e1, seg_length]; omega
          have hs : ∀ i m, i + m ≤ v + 10 → seg (r.take (x.length + 10)) i m = seg r i m := fun i m him => by
            have := seg_app (r.take (x.length + 10)) (r.drop (x.length + 10)) i m (by rw [List.length_take]; omega)
            rw [List.take_append_drop] at this
            exact this.symm
          rw [jone_ok (r := r.take (x.length + 10)) (last := last) (v := v) (by rw [hs _ _ (by omega)]; exact hv) (by omega) (by rw [List.length_take]; omega) (by rw [hs _ _ (by omega), hs _ _ (by omega)]; exact h5), hs _ _ (by omega), hs _ _ (by omega)]
          exact hj
        · cases hj
      rw [ht, J_inr (jone_app _ hj2)]
      have hd : (r.take (x.length + 10) ++ (r.drop (x.length + 10)).take q.2.1).drop (x.length + 10) = (r.drop (x.length + 10)).take q.2.1 := by
        have h6 : (r.take (x.length + 10)).length = x.length + 10 := by rw [List.length_take]; omega
        rw [List.drop_append_of_le_length (by omega), List.drop_eq_nil_of_le (by omega), List.nil_append]
      rw [hd, i]
/-- one frame, by itself -/
theorem jone_frame (x : List UInt8) (last : Nat) (hx : x.length ≤ 4096) :
    jone (le x.length 2 ++ x ++ le (fnvOf (le last 8 ++ (le x.length 2 ++ x))) 8) last = .inr (x, fnvOf (le last 8 ++ (le x.length 2 ++ x))) := by
  have hF := fnvOf_lt (le last 8 ++ (le x.length 2 ++ x))
  have s0 : seg (le x.length 2 ++ x ++ le (fnvOf (le last 8 ++ (le x.length 2 ++ x))) 8) 0 2 = le x.length 2 := by
    unfold seg; simp [le_length, List.take_append]
  have s1 : seg (le x.length 2 ++ x ++ le (fnvOf (le last 8 ++ (le x.length 2 ++ x))) 8) 0 (x.length + 2) = le x.length 2 ++ x := by
    unfold seg; rw [List.drop_zero, List.take_append_of_le_length (by simp [le_length]; omega), List.take_of_length_le (by simp [le_length]; omega)]
  have s2 : seg (le x.length 2 ++ x ++ le (fnvOf (le last 8 ++ (le x.length 2 ++ x))) 8) (x.length + 2) 8 = le (fnvOf (le last 8 ++ (le x.length 2 ++ x))) 8 := by
    unfold seg
    have h6 : (le x.length 2 ++ x).length = x.length + 2 := by simp [le_length]; omega
    rw [List.drop_append_of_le_length (by omega), List.drop_eq_nil_of_le (by omega), List.nil_append, List.take_of_length_le (by simp [le_length])]
  have s3 : seg (le x.length 2 ++ x ++ le (fnvOf (le last 8 ++ (le x.length 2 ++ x))) 8) 2 x.length = x := by
    unfold seg
    rw [List.append_assoc, List.drop_append_of_le_length (by simp [le_length]), List.drop_eq_nil_of_le (by simp [le_length]), List.nil_append, List.take_append_of_le_length (Nat.le_refl _), List.take_length]
  have hv : unle (seg (le x.length 2 ++ x ++ le (fnvOf (le last 8 ++ (le x.length 2 ++ x))) 8) 0 2) = x.length := by
    rw [s0, unle_le]; omega
  have h8 : unle (seg (le x.length 2 ++ x ++ le (fnvOf (le last 8 ++ (le x.length 2 ++ x))) 8) (x.length + 2) 8) = fnvOf (le last 8 ++ (le x.length 2 ++ x)) := by
    rw [s2, unle_le]; omega
  rw [jone_ok hv hx (by simp only [List.length_append, le_length]; omega) (by rw [h8, s1]), s1, s3]
theorem apM_J {b x : List UInt8} (h0 : (J b 0).2.2.2 = 0) (hx : x.length ≤ 4096) (hl : b.length + 10 + x.length ≤ 65536) :
    (apM b x).2 = 0 ∧ (apM b x).1.length = b.length + 10 + x.length ∧ (J (apM b x).1 0).1 = (J b 0).1 ++ [x] ∧ (J (apM b x).1 0).2.1 = b.length + 10 + x.length ∧ (J (apM b x).1 0).2.2.2 = 0 := by
  have e : apM b x = (b ++ (le x.length 2 ++ x) ++ le (fnvOf (le (J b 0).2.2.1 8 ++ (le x.length 2 ++ x))) 8, 0) := by
    unfold apM; rw [if_neg (by simp [h0]), if_neg (by omega)]
  rw [e]
  refine ⟨rfl, by simp [le_length]; omega, ?_⟩
  have h1 := (J_app b.length b (le x.length 2 ++ x ++ le (fnvOf (le (J b 0).2.2.1 8 ++ (le x.length 2 ++ x))) 8) 0 (Nat.le_refl _) h0).2
  have h2 := J_inr (jone_frame x (J b 0).2.2.1 hx)
  have hd : (le x.length 2 ++ x ++ le (fnvOf (le (J b 0).2.2.1 8 ++ (le x.length 2 ++ x))) 8).drop (x.length + 10) = [] := List.drop_eq_nil_of_le (by simp [le_length]; omega)
  rw [hd, J_inl (r := []) (jone_end rfl)] at h2
  simp only [List.append_assoc] at h1 h2 ⊢
  rw [h1, h2]
  simp [Jthen]
  omega
theorem mkJ_J (l : List Int) : ∀ (m k : Nat) (out : List (List UInt8)) (b : List UInt8), (J b 0).1 = out → (J b 0).2.1 = b.length → (J b 0).2.2.2 = 0 → b.length ≤ 29 * out.length → out.length + m ≤ 5 → (∀ x ∈ out, x.length ≤ 19) →
    (J (mkJ l m k out b).2 0).1 = (mkJ l m k out b).1 ∧ (J (mkJ l m k out b).2 0).2.1 = (mkJ l m k out b).2.length ∧ (J (mkJ l m k out b).2 0).2.2.2 = 0 ∧ (mkJ l m k out b).2.length ≤ 145 ∧ (mkJ l m k out b).1.length ≤ 5 := by
  intro m
  induction m with
  | zero => intro k out b h1 h2 h3 h4 h5 h6; exact ⟨h1, h2, h3, by simp only [mkJ]; omega, by simp only [mkJ]; omega⟩
  | succ m ih =>
    intro k out b h1 h2 h3 h4 h5 h6
    rw [mkJ]
    have hl := drawB_len l (dnext l k 20).1.toNat (dnext l k 20).2 []
    have hb := dnext_bd l k 20 (by omega)
    generalize drawB l (dnext l k 20).1.toNat (dnext l k 20).2 [] = R at *
    have hR : R.1.length ≤ 19 := by rw [hl]; simp; omega
    obtain ⟨a1, a2, a3, a4, a5⟩ := apM_J (b := b) (x := R.1) h3 (by omega) (by omega)
    refine ih R.2 _ _ (by rw [a3, h1]) (by rw [a4, a2]) a5 (by rw [a2]; simp; omega) (by simp; omega) ?_
    intro x hx
    rcases List.mem_append.1 hx with h | h
    · exact h6 x h
    · obtain rfl : x = R.1 := by simpa using h
      exact hR
theorem madeJ_J (l : List Int) : (J (madeJ l).2 0).1 = (madeJ l).1 ∧ (J (madeJ l).2 0).2.1 = (madeJ l).2.length ∧ (J (madeJ l).2 0).2.2.2 = 0 ∧ (madeJ l).2.length ≤ 145 ∧ (madeJ l).1.length ≤ 5 := by
  have hb := dnext_bd l 0 6 (by omega)
  have h0 := J_inl (r := []) (last := 0) (jone_end rfl)
  exact mkJ_J l _ _ [] [] (by rw [h0]) (by rw [h0]; rfl) (by rw [h0]) (by simp) (by simp; omega) (by simp)
end Go.Proofs.Ytbifgoaceolpoaa
