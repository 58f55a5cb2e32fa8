/-
  Plain law of chapter 35: requests and answers come back from their lines.
-/
import Derived.Test.YthogjnckkmfhnaaDoorPtA
import Derived.Test.YthogjnckkmfhnaaDoorPsE
namespace Go.Proofs.YthogjnckkmfhnaaDoor
set_option linter.unusedVariables false
set_option linter.unusedSimpArgs false
theorem numQ_itoa (k : Int) (h0 : 0 ≤ k) (h1 : k ≤ 9007199254740992) : numQ (Lib.itoa k) = k := by
  unfold numQ
  rw [number_itoa k (by omega) h1]
  rfl
theorem rvalid_v (r : Rq) (h : rvalidQ r = true) : (¬ r.kind = 11 ∧ ¬ r.kind = 12 → 1 ≤ r.id ∧ r.id ≤ 9007199254740992) ∧ (r.kind = 6 → 0 ≤ r.n ∧ r.n ≤ 100) ∧ (r.kind = 7 → 0 ≤ r.n ∧ r.n ≤ 1) ∧ (r.kind = 9 → 0 ≤ r.n ∧ r.n ≤ 65536) := by
  unfold rvalidQ at h
  split at h
  · cases h
  · rename_i hn
    refine ⟨fun hk => ?_, fun hk => ?_, fun hk => ?_, fun hk => ?_⟩
    · have : wiB r.id 1 9007199254740992 = true := by
        cases h : wiB r.id 1 9007199254740992
        · exact (hn (Or.inr ⟨hk, h⟩)).elim
        · rfl
      simpa [wiB] using this
    all_goals ((repeat (first | rw [if_pos (by omega)] at h | rw [if_neg (by omega)] at h)); simpa [wiB] using h)
theorem kinds : kindQ [111, 112, 101, 110] = 1 ∧ kindQ [99, 108, 111, 115, 101] = 2 ∧ kindQ [115, 116, 97, 114, 116] = 3 ∧ kindQ [112, 97, 117, 115, 101] = 4 ∧ kindQ [100, 114, 97, 105, 110] = 5 ∧ kindQ [118, 111, 108, 117, 109, 101] = 6 ∧ kindQ [109, 117, 116, 101] = 7 ∧ kindQ [119, 114, 105, 116, 101] = 8 ∧ kindQ [114, 101, 97, 100] = 9 ∧ kindQ [109, 111, 118, 101] = 10 ∧ kindQ [114, 117, 108, 101, 115] = 11 ∧ kindQ [108, 105, 115, 116] = 12 := by decide
theorem guess_words (r : Rq) (hf : 0 ≤ r.dev) (h : rvalidQ r = true) : guessQ (wkQ r) = r := by
  obtain ⟨h1, h2, h3, h4, h5, h6⟩ := rvalid_u r h
  have hd := (rvalid_sizes r h).2.2.2
  obtain ⟨v1, v2, v3, v4⟩ := rvalid_v r h
  obtain ⟨k1, k2, k3, k4, k5, k6, k7, k8, k9, k10, k11, k12⟩ := kinds
  have : r.kind = 1 ∨ r.kind = 2 ∨ r.kind = 3 ∨ r.kind = 4 ∨ r.kind = 5 ∨ r.kind = 6 ∨ r.kind = 7 ∨ r.kind = 8 ∨ r.kind = 9 ∨ r.kind = 10 ∨ r.kind = 11 ∨ r.kind = 12 := by omega
  clear h h1
  obtain ⟨kind, id, role, dir, ch, rate, lat, n, dev, data, text⟩ := r
  simp only at *
  simp only [sameB, Bool.and_eq_true, decide_eq_true_eq] at h2
  rcases this with rfl | rfl | rfl | rfl | rfl | rfl | rfl | rfl | rfl | rfl | rfl | rfl
  all_goals (simp [cleanQ, cleanA] at h2)
  · have h3' := h3 rfl
    simp only [opensB, wiB, Bool.and_eq_true, decide_eq_true_eq] at h3'
    have v := v1 (by decide)
    obtain ⟨⟨⟨rfl, rfl⟩, rfl⟩, rfl⟩ := h2
    have e1 := numQ_itoa id (by omega) (by omega)
    have e2 := numQ_itoa ch (by omega) (by omega)
    have e3 := numQ_itoa rate (by omega) (by omega)
    have e4 := numQ_itoa lat (by omega) (by omega)
    rcases hd rfl with rfl | rfl <;> simp [guessQ, gA, wkQ, wkA, atQ, wordsT, k1, e1, e2, e3, e4]
  iterate 4
    · obtain ⟨⟨⟨⟨⟨⟨⟨⟨rfl, rfl⟩, rfl⟩, rfl⟩, rfl⟩, rfl⟩, rfl⟩, rfl⟩, rfl⟩ := h2
      have v := v1 (by decide)
      have e1 := numQ_itoa id (by omega) (by omega)
      simp [guessQ, gA, wkQ, wkA, atQ, wordsT, k2, k3, k4, k5, e1]
  · obtain ⟨⟨⟨⟨⟨⟨⟨rfl, rfl⟩, rfl⟩, rfl⟩, rfl⟩, rfl⟩, rfl⟩, rfl⟩ := h2
    have v := v1 (by decide)
    have e1 := numQ_itoa id (by omega) (by omega)
    have vn := v2 rfl
    have e2 := numQ_itoa n (by omega) (by omega)
    simp [guessQ, gA, wkQ, wkA, atQ, wordsT, k6, e1, e2]
  · obtain ⟨⟨⟨⟨⟨⟨⟨rfl, rfl⟩, rfl⟩, rfl⟩, rfl⟩, rfl⟩, rfl⟩, rfl⟩ := h2
    have v := v1 (by decide)
    have e1 := numQ_itoa id (by omega) (by omega)
    have vn := v3 rfl
    obtain rfl | rfl : n = 0 ∨ n = 1 := by omega
    · simp [guessQ, gA, wkQ, wkA, atQ, wordsT, k7, e1]
    · simp [guessQ, gA, wkQ, wkA, atQ, wordsT, k7, e1]
  · obtain ⟨⟨⟨⟨⟨⟨⟨rfl, rfl⟩, rfl⟩, rfl⟩, rfl⟩, rfl⟩, rfl⟩, rfl⟩ := h2
    have v := v1 (by decide)
    have e1 := numQ_itoa id (by omega) (by omega)
    simp [guessQ, gA, wkQ, wkA, atQ, wordsT, k8, e1]
  · obtain ⟨⟨⟨⟨⟨⟨⟨rfl, rfl⟩, rfl⟩, rfl⟩, rfl⟩, rfl⟩, rfl⟩, rfl⟩ := h2
    have v := v1 (by decide)
    have e1 := numQ_itoa id (by omega) (by omega)
    have vn := v4 rfl
    have e2 := numQ_itoa n (by omega) (by omega)
    simp [guessQ, gA, wkQ, wkA, atQ, wordsT, k9, e1, e2]
  · obtain ⟨⟨⟨⟨⟨⟨⟨rfl, rfl⟩, rfl⟩, rfl⟩, rfl⟩, rfl⟩, rfl⟩, rfl⟩ := h2
    have v := v1 (by decide)
    have e1 := numQ_itoa id (by omega) (by omega)
    have vn := h5 rfl
    have e2 := numQ_itoa dev (by omega) (by omega)
    have e3 : dev % 18446744073709551616 = dev := by omega
    simp [guessQ, gA, wkQ, wkA, atQ, wordsT, k10, e1, e2, e3]
  · obtain ⟨⟨⟨⟨⟨⟨⟨⟨rfl, rfl⟩, rfl⟩, rfl⟩, rfl⟩, rfl⟩, rfl⟩, rfl⟩, rfl⟩ := h2
    simp [guessQ, gA, wkQ, wkA, atQ, wordsT, k11]
  · obtain ⟨⟨⟨⟨⟨⟨⟨⟨⟨rfl, rfl⟩, rfl⟩, rfl⟩, rfl⟩, rfl⟩, rfl⟩, rfl⟩, rfl⟩, rfl⟩ := h2
    simp [guessQ, gA, wkQ, wkA, atQ, wordsT, k12]
theorem J_le : ∀ l : List (List UInt8), (J l).length ≤ (l.map fun w => 2 * w.length + 3).sum := by
  have hesc : ∀ c, (esc c).length ≤ 2 := by intro c; unfold esc; (repeat' split) <;> simp
  have hfl : ∀ w : List UInt8, (w.flatMap esc).length ≤ 2 * w.length := by
    intro w
    induction w with
    | nil => simp
    | cons c w ih => rw [List.flatMap_cons, List.length_append, List.length_cons]; have := hesc c; omega
  have hw : ∀ w, (writtenL w).length ≤ 2 * w.length + 2 := by
    intro w
    have := hfl w
    unfold writtenL
    split
    · omega
    · simp only [List.length_cons, List.length_append, List.length_nil]; omega
  intro l
  induction l with
  | nil => simp [J]
  | cons w ws ih =>
    have := hw w
    cases ws with
    | nil => simp [J]; omega
    | cons v vs => rw [J, List.map_cons, List.sum_cons, List.length_append, List.length_cons]; omega
theorem wk_sum (r : Rq) (hf : r.fit) (h : rvalidQ r = true) : ((wkQ r).map fun w => 2 * w.length + 3).sum ≤ 4096 := by
  obtain ⟨h1, _⟩ := rvalid_u r h
  obtain ⟨g1, g2, g3, g4⟩ := rvalid_sizes r h
  obtain ⟨f1, f2, f3, f4, f5, f6⟩ := hf
  have i1 := Lib.itoa_length_le r.id (by omega) (by omega)
  have i2 := Lib.itoa_length_le r.ch (by omega) (by omega)
  have i3 := Lib.itoa_length_le r.rate (by omega) (by omega)
  have i4 := Lib.itoa_length_le r.lat (by omega) (by omega)
  have i5 := Lib.itoa_length_le r.n (by omega) (by omega)
  have hT : ∀ v ∈ wordsT, v.length ≤ 6 := by decide
  have hw : (wordsT.getD r.kind.toNat []).length ≤ 6 := by
    have hl : wordsT.length = 13 := rfl
    have hk : r.kind.toNat < wordsT.length := by omega
    simp only [List.getD_eq_getElem?_getD, hk, List.getElem?_eq_getElem, Option.getD_some]
    exact hT _ (List.getElem_mem _)
  have h5 := (rvalid_u r h).2.2.2.2.1
  have hA : ((wkA r).map fun w => 2 * w.length + 3).sum ≤ 100 := by
    unfold wkA
    split <;> simp only [List.map_cons, List.map_nil, List.sum_cons, List.sum_nil] <;> omega
  unfold wkQ
  (repeat' split)
  all_goals (try simp only [List.map_append, List.sum_append, List.map_cons, List.map_nil, List.sum_cons, List.sum_nil, List.length_cons, List.length_nil])
  all_goals first | omega | (have i6 := Lib.itoa_length_le r.dev (by omega) (by omega); omega)
theorem back_rq (r : Rq) (hf : r.fit) (h : rvalidQ r = true) : pFormatP r = (J (wkQ r), 0) ∧ (J (wkQ r)).length ≤ 4096 ∧ parseP (J (wkQ r)) = (r, 0) := by
  have h1 := wkQ_len r
  have h2 := wk_sum r hf h
  have h3 := J_le (wkQ r)
  refine ⟨?_, by omega, ?_⟩
  · rw [format_eq, rFormatP, if_pos h, rJoin_J, if_neg (by omega)]
  · have hs : splitP (J (wkQ r)) = (wkQ r, 0) := by rw [split_J, if_neg (by omega)]
    rw [parse_eq, rparseP, hs, if_pos rfl, rparseW, guess_words r hf.2.2.2.2.2 h, if_pos ⟨h, rfl⟩]
theorem back_an (a : An) (h : validA a = true) : replyP a = (J (replyL a), 0) ∧ (J (replyL a)).length ≤ 4096 ∧ readPP (J (replyL a)) = (a, 0) := by
  have hb := validA_bd a h
  have hl := replyL_len a
  have h3 := J_le (replyL a)
  have i1 := Lib.itoa_length_le a.code (by omega) (by omega)
  have h2 : ((replyL a).map fun w => 2 * w.length + 3).sum ≤ 4096 := by
    unfold replyL
    (repeat' split) <;> simp only [List.map_cons, List.map_nil, List.sum_cons, List.sum_nil, List.length_cons, List.length_nil] <;> omega
  have hr : rAns (replyL a) = a := by
    obtain ⟨code, data, text⟩ := a
    simp only at hb
    unfold validA at h
    rw [if_neg (by simp only; omega)] at h
    simp only [Bool.or_eq_true, Bool.and_eq_true, decide_eq_true_eq, List.length_eq_zero_iff] at h
    unfold replyL
    simp only
    by_cases hc : code = 0
    · subst hc
      rw [if_neg (by simp)]
      by_cases hd : data = []
      · subst hd
        by_cases ht : text = []
        · subst ht; decide +kernel
        · rw [if_neg (by simp), if_pos ht]; rfl
      · have : text = [] := by
          rcases h with ⟨_, h | h⟩ | h
          · exact (hd h).elim
          · exact h
          · exact h.2
        subst this
        rw [if_pos (List.length_pos_iff.2 hd)]; rfl
    · rw [if_pos hc]
      have : data = [] ∧ text = [] := by
        rcases h with ⟨h, _⟩ | h
        · exact (hc h).elim
        · exact h
      obtain ⟨rfl, rfl⟩ := this
      show ({ code := numQ (Lib.itoa code) } : An) = _
      rw [numQ_itoa code (by omega) (by omega)]
  refine ⟨?_, by omega, ?_⟩
  · rw [reply_eq, rReplyP, if_pos h, rJoin_J, if_neg (by omega)]
  · have hs : splitP (J (replyL a)) = (replyL a, 0) := by rw [split_J, if_neg (by omega)]
    rw [read_eq, rReadP, hs, if_pos rfl, rReadW, hr, if_pos ⟨h, rfl⟩]
end Go.Proofs.YthogjnckkmfhnaaDoor
