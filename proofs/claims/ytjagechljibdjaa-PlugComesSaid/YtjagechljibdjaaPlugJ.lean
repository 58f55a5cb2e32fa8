/-
  Plain facts of chapter 33: halving finds the place that the reference finds; program and reference plug alike.
-/
import Derived.Test.YtjagechljibdjaaPlugF
import Derived.Test.YtjagechljibdjaaPlugG
namespace Go.Proofs.Ytjagechljibdjaa
set_option linter.unusedVariables false
set_option linter.unusedSimpArgs false
theorem ascB_sorted : ∀ (b : Int) (l : List (Int × Int)), ascB b l = true → (∀ s ∈ l, b < s.1) ∧ l.Pairwise (fun s t => s.1 < t.1)
  | b, [] => fun _ => ⟨by simp, .nil⟩
  | b, s :: r => fun h => by
    simp only [ascB, Bool.and_eq_true, Bool.not_eq_true', decide_eq_false_iff_not] at h
    obtain ⟨h1, h2⟩ := ascB_sorted s.1 r h.2
    refine ⟨fun t ht => ?_, .cons (fun t ht => h1 t ht) h2⟩
    rcases List.mem_cons.1 ht with rfl | ht
    · omega
    · have := h1 t ht; omega
theorem bsW_spec (l : List (Int × Int)) (id : Int) (hs : l.Pairwise (fun s t => s.1 < t.1)) : ∀ i j, i ≤ j → j ≤ l.length → (∀ k (h : k < l.length), k < i → l[k].1 < id) → (∀ k (h : k < l.length), j ≤ k → id ≤ l[k].1) →
    (∀ k (h : k < l.length), k < bsW l id i j → l[k].1 < id) ∧ (∀ k (h : k < l.length), bsW l id i j ≤ k → id ≤ l[k].1) := by
  intro i j
  have mono : ∀ a b (ha : a < l.length) (hb : b < l.length), a < b → l[a].1 < l[b].1 := fun a b ha hb hab => List.pairwise_iff_getElem.1 hs a b ha hb hab
  fun_induction bsW l id i j with
  | case1 i j h h2 ih =>
    intro h3 h4 h5 h6
    have hm : (i + j) / 2 < l.length := by omega
    have hg : l.getD ((i + j) / 2) (0, 0) = l[(i + j) / 2] := by simp [hm]
    rw [hg] at h2
    refine ih (by omega) h4 (fun k hk hki => ?_) h6
    rcases Nat.lt_or_ge k ((i + j) / 2) with q | q
    · have := mono k ((i + j) / 2) hk hm q; omega
    · obtain rfl : k = (i + j) / 2 := by omega
      exact h2
  | case2 i j h h2 ih =>
    intro h3 h4 h5 h6
    have hm : (i + j) / 2 < l.length := by omega
    have hg : l.getD ((i + j) / 2) (0, 0) = l[(i + j) / 2] := by simp [hm]
    rw [hg] at h2
    refine ih (by omega) (by omega) h5 (fun k hk hki => ?_)
    rcases Nat.lt_or_ge ((i + j) / 2) k with q | q
    · have := mono ((i + j) / 2) k hm hk q; omega
    · obtain rfl : k = (i + j) / 2 := by omega
      omega
  | case3 i j h =>
    intro h3 h4 h5 h6
    obtain rfl : i = j := by omega
    exact ⟨fun k hk hki => h5 k hk hki, fun k hk hki => h6 k hk hki⟩
theorem tw_len {α : Type} (p : α → Bool) : ∀ (l : List α) (n : Nat), n ≤ l.length → (∀ k (h : k < l.length), k < n → p l[k] = true) → (∀ (h : n < l.length), p l[n] = false) → (l.takeWhile p).length = n
  | [], n, hn, _, _ => by simp at hn; simp [hn]
  | a :: l, 0, _, _, h => by
    have := h (by simp)
    simp only [List.getElem_cons_zero] at this
    simp [List.takeWhile_cons, this]
  | a :: l, n + 1, hn, h1, h2 => by
    have ha := h1 0 (by simp) (by omega)
    simp only [List.getElem_cons_zero] at ha
    rw [List.takeWhile_cons_of_pos ha, List.length_cons, tw_len p l n (by simpa using hn) (fun k hk hkn => h1 (k + 1) (Nat.succ_lt_succ hk) (by omega)) (fun hk => h2 (Nat.succ_lt_succ hk))]
theorem bsW_facts (l : List (Int × Int)) (id : Int) (hs : l.Pairwise (fun s t => s.1 < t.1)) :
    lowN l id = bsW l id 0 l.length ∧ (hasW l id (bsW l id 0 l.length) = true → placeI l id = (bsW l id 0 l.length : Int)) ∧ (hasW l id (bsW l id 0 l.length) = false → placeI l id = -1) := by
  obtain ⟨f1, f2⟩ := bsW_spec l id hs 0 l.length (by omega) (by omega) (by omega) (by omega)
  have hle := (bsW_le l id 0 l.length (by omega)).2
  generalize bsW l id 0 l.length = R at f1 f2 hle
  refine ⟨?_, ?_, ?_⟩
  · exact tw_len _ l R hle (fun k hk hkn => by simpa using f1 k hk hkn) (fun hk => by simpa using f2 R hk (by omega))
  · intro h
    simp only [hasW, Bool.and_eq_true, decide_eq_true_eq] at h
    obtain ⟨h1, h2⟩ := h
    have hg : l.getD R (0, 0) = l[R] := by simp [h1]
    rw [hg] at h2
    have : placeN l id = R := tw_len _ l R hle (fun k hk hkn => by have := f1 k hk hkn; simp; omega) (fun hk => by simp [h2])
    rw [placeI, this, if_pos h1]
  · intro h
    have : placeN l id = l.length := tw_len _ l l.length (by omega) (fun k hk hkn => by
      have hne : ¬ l[k].1 = id := by
        intro he
        have hR : k = R := by
          rcases Nat.lt_trichotomy k R with q | q | q
          · have := f1 k hk q; omega
          · exact q
          · have a1 := f2 R (by omega) (by omega)
            have a2 := List.pairwise_iff_getElem.1 hs R k (by omega) hk q
            omega
        subst hR
        simp [hasW, hk, he] at h
      simp [hne]) (fun hk => by omega)
    rw [placeI, this, if_neg (by omega)]
theorem plug_eq (st : Int) (l : List (Int × Int)) (id t : Int) : plugP st l id t = rplugP st l id t := by
  unfold plugP rplugP
  by_cases hv : validP st l = false
  · rw [if_pos hv, if_pos hv]
  · rw [if_neg hv, if_neg hv]
    have hv' : validP st l = true := by simpa using hv
    simp only [validP, Bool.and_eq_true] at hv'
    obtain ⟨g1, g2, g3⟩ := bsW_facts l id (ascB_sorted 0 l hv'.2).2
    rw [g1]
    cases hh : hasW l id (bsW l id 0 l.length) with
    | true => rw [g2 hh, if_pos (show true = true from rfl), if_pos (show (0 : Int) ≤ (bsW l id 0 l.length : Int) by omega)]
    | false => rw [g3 hh, if_neg (show ¬ false = true by decide), if_neg (show ¬ (0 : Int) ≤ -1 by decide)]
theorem unplug_eq (st : Int) (l : List (Int × Int)) (id : Int) : unplugP st l id = runplugP st l id := by
  unfold unplugP runplugP
  by_cases hv : validP st l = false
  · rw [if_pos hv, if_pos hv]
  · rw [if_neg hv, if_neg hv]
    have hv' : validP st l = true := by simpa using hv
    simp only [validP, Bool.and_eq_true] at hv'
    obtain ⟨g1, g2, g3⟩ := bsW_facts l id (ascB_sorted 0 l hv'.2).2
    cases hh : hasW l id (bsW l id 0 l.length) with
    | true => rw [g2 hh, if_neg (show ¬ true = false by decide), if_neg (show ¬ (bsW l id 0 l.length : Int) < 0 by omega), Int.toNat_natCast]
    | false => rw [g3 hh, if_pos rfl, if_pos (by decide)]
end Go.Proofs.Ytjagechljibdjaa
