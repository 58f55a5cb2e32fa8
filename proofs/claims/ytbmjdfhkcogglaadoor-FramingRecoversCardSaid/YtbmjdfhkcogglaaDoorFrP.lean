/-
  Plain facts of chapter 34: frames come back, also cut; the next whole frame.
-/
import Derived.Test.YtbmjdfhkcogglaaDoorFrE
namespace Go.Proofs.YtbmjdfhkcogglaaDoor
set_option linter.unusedVariables false
set_option linter.unusedSimpArgs false
theorem dig_nat (d : Nat) (h : d < 10) : (UInt8.ofNat (48 + d)).toNat = 48 + d := by
  rw [UInt8.toNat_ofNat']; omega
theorem digs_dig (n k d : Nat) (s : List UInt8) (hd : d < 10) (hk : 0 < k → n ≠ 0) (hn : 10 * n + d ≤ 4096) : digs n k (UInt8.ofNat (48 + d) :: s) = digs (10 * n + d) (k + 1) s := by
  rw [digs, dig_nat d hd, if_neg (by omega), if_neg (by omega), if_neg (by omega)]
  congr 1
  omega
theorem dec_pos (n : Nat) : 0 < (Lib.decDigits n).length := by rw [Lib.decDigits_length]; exact Lib.nDigits_pos n
theorem digs_dec : ∀ (n : Nat), n ≤ 4096 → ∀ s, digs 0 0 (Lib.decDigits n ++ s) = digs n (Lib.decDigits n).length s := by
  intro n
  induction n using Nat.strongRecOn with
  | ind n ih =>
    intro hn s
    rcases Nat.lt_or_ge n 10 with h | h
    · rw [Lib.decDigits_one h]
      have := digs_dig 0 0 n s h (by omega) (by omega)
      simpa using this
    · have hi := ih (n / 10) (by omega) (by omega) (UInt8.ofNat (48 + n % 10) :: s)
      have hd : Lib.decDigits n = Lib.decDigits (n / 10) ++ [UInt8.ofNat (48 + n % 10)] := by
        conv => lhs; rw [Lib.decDigits, dif_neg (by omega)]
      rw [hd, List.append_assoc, List.singleton_append, hi, digs_dig _ _ _ _ (by omega) (by omega) (by omega), List.length_append, List.length_singleton]
      congr 1
      omega
theorem digs_pre : ∀ (n : Nat), n ≤ 4096 → ∀ j, j ≤ (Lib.decDigits n).length → digs 0 0 ((Lib.decDigits n).take j) = (0, 0, 0) := by
  intro n
  induction n using Nat.strongRecOn with
  | ind n ih =>
    intro hn j hj
    rcases Nat.lt_or_ge j (Lib.decDigits n).length with h | h
    · rcases Nat.lt_or_ge n 10 with h1 | h1
      · rw [Lib.decDigits_one h1] at h
        simp only [List.length_singleton] at h
        obtain rfl : j = 0 := by omega
        rfl
      · have hd : Lib.decDigits n = Lib.decDigits (n / 10) ++ [UInt8.ofNat (48 + n % 10)] := by
          conv => lhs; rw [Lib.decDigits, dif_neg (by omega)]
        rw [hd] at h ⊢
        rw [List.length_append, List.length_singleton] at h
        rw [List.take_append_of_le_length (by omega)]
        exact ih (n / 10) (by omega) (by omega) j (by omega)
    · rw [List.take_of_length_le h]
      have := digs_dec n hn []
      rw [List.append_nil] at this
      rw [this]
      rfl
theorem digs_frm (n : Nat) (hn : n ≤ 4096) (t : List UInt8) : digs 0 0 (Lib.decDigits n ++ (58 : UInt8) :: t) = (3, (Lib.decDigits n).length, n) := by
  rw [digs_dec n hn, digs, if_pos ⟨rfl, dec_pos n⟩]
theorem frF_frm (p : List UInt8) (hp : p.length ≤ 4096) (rest : List UInt8) : frF (frmL p ++ rest) = (p, (frmL p).length, 0) := by
  have e : frmL p ++ rest = Lib.decDigits p.length ++ ((58 : UInt8) :: (p ++ ((44 : UInt8) :: rest))) := by simp [frmL]
  have hl : (frmL p ++ rest).length = (Lib.decDigits p.length).length + 1 + p.length + 1 + rest.length := by rw [e]; simp; omega
  have hfl : (frmL p).length = (Lib.decDigits p.length).length + p.length + 2 := by simp [frmL]; omega
  unfold frF
  rw [show digs 0 0 (frmL p ++ rest) = (3, (Lib.decDigits p.length).length, p.length) by rw [e]; exact digs_frm p.length hp _]
  rw [show ∀ k n, frD (frmL p ++ rest) (3, k, n) = frE (frmL p ++ rest) k n from fun _ _ => rfl, frE, if_neg (by omega)]
  have hd : (frmL p ++ rest).drop ((Lib.decDigits p.length).length + 1) = p ++ ((44 : UInt8) :: rest) := by
    rw [e, ← List.drop_drop, List.drop_left]; rfl
  have hg : (frmL p ++ rest).getD ((Lib.decDigits p.length).length + 1 + p.length) 0 = 44 := by
    have : (frmL p ++ rest)[(Lib.decDigits p.length).length + 1 + p.length]? = ((frmL p ++ rest).drop ((Lib.decDigits p.length).length + 1))[p.length]? := by rw [List.getElem?_drop]
    rw [List.getD_eq_getElem?_getD, this, hd]
    simp
  rw [hg, if_pos (show (44 : UInt8).toNat = 44 from rfl), hd, List.take_left, hfl]
theorem frF_cut (p : List UInt8) (hp : p.length ≤ 4096) (j : Nat) (hj : j < (frmL p).length) : frF ((frmL p).take j) = ([], 0, 0) := by
  have hfl : (frmL p).length = (Lib.decDigits p.length).length + p.length + 2 := by simp [frmL]; omega
  unfold frF
  rcases Nat.lt_or_ge (Lib.decDigits p.length).length j with h | h
  · have e : (frmL p).take j = Lib.decDigits p.length ++ ((58 : UInt8) :: (p ++ [44]).take (j - (Lib.decDigits p.length).length - 1)) := by
      rw [frmL, List.take_append, List.take_of_length_le (by omega)]
      congr 1
      obtain ⟨q, hq⟩ : ∃ q, j - (Lib.decDigits p.length).length = q + 1 := ⟨j - (Lib.decDigits p.length).length - 1, by omega⟩
      rw [hq, List.take_succ_cons, Nat.add_sub_cancel]
    have hl : ((frmL p).take j).length = j := by rw [List.length_take]; omega
    rw [show digs 0 0 ((frmL p).take j) = (3, (Lib.decDigits p.length).length, p.length) by rw [e]; exact digs_frm p.length hp _]
    rw [show ∀ k n, frD ((frmL p).take j) (3, k, n) = frE ((frmL p).take j) k n from fun _ _ => rfl, frE, if_pos (by omega)]
  · have e : (frmL p).take j = (Lib.decDigits p.length).take j := by rw [frmL, List.take_append_of_le_length h]
    rw [show digs 0 0 ((frmL p).take j) = (0, 0, 0) by rw [e]; exact digs_pre p.length hp j h]
    rfl
def cat (L : List (List UInt8)) : List UInt8 := (L.map frmL).flatten
theorem cat_cons (p : List UInt8) (L : List (List UInt8)) : cat (p :: L) = frmL p ++ cat L := rfl
theorem cat_app (L K : List (List UInt8)) : cat (L ++ K) = cat L ++ cat K := by simp [cat]
theorem frm_pos (p : List UInt8) : 3 ≤ (frmL p).length := by have := dec_pos p.length; simp [frmL]; omega
theorem spl_cut (l : List UInt8) : ∀ (L : List (List UInt8)), (∀ p ∈ L, p.length ≤ 4096) → ∀ m k acc j, l.drop k = (cat L).take j → l.length - k < m →
    ∃ i, i ≤ L.length ∧ splF l m k acc = (acc ++ L.take i, k + (cat (L.take i)).length, 0) ∧ (cat (L.take i)).length ≤ j ∧ ((cat L).length ≤ j → i = L.length) := by
  intro L
  induction L with
  | nil =>
    intro _ m k acc j hd hm
    rcases m with _ | m
    · omega
    · refine ⟨0, Nat.le_refl _, ?_, Nat.zero_le _, fun _ => rfl⟩
      rw [splF, hd]
      have : frF ((cat []).take j) = ([], 0, 0) := by simp only [cat, List.map_nil, List.flatten_nil, List.take_nil]; rfl
      rw [this]
      simp [cat]
  | cons p L ih =>
    intro hL m k acc j hd hm
    have hp := hL p (List.mem_cons_self ..)
    rcases m with _ | m
    · omega
    · rcases Nat.lt_or_ge j (frmL p).length with h | h
      · refine ⟨0, Nat.zero_le _, ?_, Nat.zero_le _, fun hh => ?_⟩
        · rw [splF, hd, cat_cons, List.take_append_of_le_length (by omega), frF_cut p hp j h]
          simp [cat]
        · rw [cat_cons, List.length_append] at hh; omega
      · have e : (cat (p :: L)).take j = frmL p ++ (cat L).take (j - (frmL p).length) := by rw [cat_cons, List.take_append, List.take_of_length_le h]
        have h3 := frm_pos p
        have hdd : l.drop (k + (frmL p).length) = (cat L).take (j - (frmL p).length) := by
          rw [← List.drop_drop, hd, e, List.drop_left]
        have hlen : (frmL p).length ≤ l.length - k := by
          have := congrArg List.length hd
          rw [e, List.length_drop, List.length_append] at this
          omega
        obtain ⟨i, i1, i2, i3, i4⟩ := ih (fun q hq => hL q (List.mem_cons_of_mem _ hq)) m (k + (frmL p).length) (acc ++ [p]) (j - (frmL p).length) hdd (by omega)
        refine ⟨i + 1, by simp; omega, ?_, ?_, fun hh => ?_⟩
        · rw [splF, hd, e, frF_frm p hp, if_neg (by simp only; omega)]
          simp only
          rw [i2, List.take_succ_cons, cat_cons, List.length_append, List.append_assoc, List.singleton_append, Nat.add_assoc]
        · rw [List.take_succ_cons, cat_cons, List.length_append]; omega
        · rw [cat_cons, List.length_append] at hh
          have := i4 (by omega)
          simp; omega
theorem str_cat (l : List Int) : ∀ k a q b, b = cat q → (∀ p ∈ q, p.length ≤ 13) → (strL l k a q b).2 = cat (strL l k a q b).1 ∧ (∀ p ∈ (strL l k a q b).1, p.length ≤ 13) ∧ (strL l k a q b).1.length = q.length + k := by
  intro k
  induction k with
  | zero => intro a q b h1 h2; exact ⟨h1, h2, rfl⟩
  | succ k ih =>
    intro a q b h1 h2
    simp only [strL]
    have hp := pay_bd l a
    generalize payL l (dkN l a 14).toNat (dkA l a) [] = P at hp
    have := ih P.2 (q ++ [P.1]) (b ++ frmL P.1) (by rw [cat_app, h1]; simp [cat]) (fun p hp' => by
      rcases List.mem_append.1 hp' with h | h
      · exact h2 p h
      · rw [List.mem_singleton.1 h]; exact hp)
    refine ⟨this.1, this.2.1, ?_⟩
    rw [this.2.2, List.length_append, List.length_singleton]; omega
theorem stream_cat (l : List Int) : (streamL l).2 = cat (streamL l).1 ∧ (∀ p ∈ (streamL l).1, p.length ≤ 13) ∧ (streamL l).1.length ≤ 5 := by
  have h := dkN_rng l 0 6 (by decide)
  obtain ⟨h1, h2, h3⟩ := str_cat l (dkN l 0 6).toNat (dkA l 0) [] [] rfl (by simp)
  refine ⟨h1, h2, ?_⟩
  unfold streamL
  rw [h3]; simp only [List.length_nil]; omega
/-- a cut stream, and the rest behind what was used -/
theorem split_cut (L : List (List UInt8)) (hL : ∀ p ∈ L, p.length ≤ 13) (j : Nat) :
    ∃ i, i ≤ L.length ∧ splitF ((cat L).take j) = (L.take i, (cat (L.take i)).length, 0) ∧ (cat (L.take i)).length ≤ j ∧ splitF ((cat L).drop (cat (L.take i)).length) = (L.drop i, (cat L).length - (cat (L.take i)).length, 0) ∧ (cat (L.take i)).length ≤ (cat L).length := by
  obtain ⟨i, i1, i2, i3, _⟩ := spl_cut ((cat L).take j) L (fun p hp => by have := hL p hp; omega) (((cat L).take j).length + 1) 0 [] j (by rw [List.drop_zero]) (by omega)
  have e : cat L = cat (L.take i) ++ cat (L.drop i) := by rw [← cat_app, List.take_append_drop]
  have ed : (cat L).drop (cat (L.take i)).length = cat (L.drop i) := by rw [e, List.drop_left]
  have el : (cat L).length = (cat (L.take i)).length + (cat (L.drop i)).length := by rw [e, List.length_append]
  refine ⟨i, i1, by rw [splitF, i2]; simp, i3, ?_, by omega⟩
  obtain ⟨i', j1, j2, _, j4⟩ := spl_cut ((cat L).drop (cat (L.take i)).length) (L.drop i) (fun p hp => by have := hL p (List.mem_of_mem_drop hp); omega) (((cat L).drop (cat (L.take i)).length).length + 1) 0 [] (cat (L.drop i)).length (by rw [List.drop_zero, ed, List.take_length]) (by omega)
  have := j4 (Nat.le_refl _)
  subst this
  rw [splitF, j2, List.take_length]
  simp only [List.nil_append, Nat.zero_add]
  rw [show (cat (L.drop i)).length = (cat L).length - (cat (L.take i)).length by omega]
/-- where the next whole frame stands -/
theorem rs_spec (l : List UInt8) : ∀ m k, 1 ≤ k → k ≤ l.length → l.length < m + k → (rsF l m k ≤ l.length ∧ k ≤ rsF l m k ∧ (rsF l m k < l.length → 0 < (frF (l.drop (rsF l m k))).2.1) ∧ ∀ r, k ≤ r → r < l.length → 0 < (frF (l.drop r)).2.1 → rsF l m k ≤ r) := by
  intro m
  induction m with
  | zero => intro k h1 h2 h3; omega
  | succ m ih =>
    intro k h1 h2 h3
    rw [rsF]
    by_cases hk : k < l.length
    · rw [if_pos hk]
      by_cases hu : 0 < (frF (l.drop k)).2.1
      · rw [if_pos hu]
        exact ⟨h2, Nat.le_refl _, fun _ => hu, fun r hr _ _ => hr⟩
      · rw [if_neg hu]
        obtain ⟨a, b, c, d⟩ := ih (k + 1) (by omega) (by omega) (by omega)
        refine ⟨a, by omega, c, fun r hr hrl hru => ?_⟩
        rcases Nat.lt_or_ge k r with q | q
        · exact d r (by omega) hrl hru
        · obtain rfl : r = k := by omega
          exact absurd hru hu
    · rw [if_neg hk]
      exact ⟨Nat.le_refl _, h2, fun h => absurd h (Nat.lt_irrefl _), fun r hr hrl _ => by omega⟩
theorem frE_used (l : List UInt8) (k n : Nat) (hk : 1 ≤ k) : (frE l k n).2.1 = 0 ∨ 3 ≤ (frE l k n).2.1 := by
  unfold frE
  split
  · left; rfl
  · split
    · right; simp only
      omega
    · left; rfl
theorem digs_k (l : List UInt8) : ∀ n k, (digs n k l).1 = 0 ∨ (digs n k l).1 = 1 ∨ (digs n k l).1 = 2 ∨ ((digs n k l).1 = 3 ∧ 1 ≤ (digs n k l).2.1) := by
  induction l with
  | nil => intro n k; left; rfl
  | cons c t ih =>
    intro n k
    rw [digs]
    split
    · right; right; right; exact ⟨rfl, by simp only; omega⟩
    · split
      · right; left; rfl
      · split
        · right; right; left; rfl
        · exact ih _ _
theorem frF_used (l : List UInt8) : (frF l).2.1 = 0 ∨ 3 ≤ (frF l).2.1 := by
  have h := digs_k l 0 0
  unfold frF frD
  split
  · left; rfl
  · split
    · left; rfl
    · split
      · left; rfl
      · refine frE_used _ _ _ ?_
        omega
theorem spl_mono (l : List UInt8) : ∀ m k acc, acc.length ≤ (splF l m k acc).1.length ∧ k ≤ (splF l m k acc).2.1 := by
  intro m
  induction m with
  | zero => intro k acc; exact ⟨Nat.le_refl _, Nat.le_refl _⟩
  | succ m ih =>
    intro k acc
    simp only [splF]
    split
    · exact ⟨Nat.le_refl _, Nat.le_refl _⟩
    · obtain ⟨h1, h2⟩ := ih (k + (frF (l.drop k)).2.1) (acc ++ [(frF (l.drop k)).1])
      rw [List.length_append, List.length_singleton] at h1
      omega
theorem split_first (l : List UInt8) (h : 0 < (frF l).2.1) : 1 ≤ (splitF l).1.length ∧ 3 ≤ (splitF l).2.1 := by
  have hu := frF_used l
  unfold splitF
  rw [splF, List.drop_zero, if_neg (by omega)]
  obtain ⟨h1, h2⟩ := spl_mono l l.length (0 + (frF l).2.1) ([] ++ [(frF l).1])
  simp only [List.nil_append, List.length_singleton] at h1 h2
  simp only [List.nil_append]
  omega
end Go.Proofs.YtbmjdfhkcogglaaDoor
