/-
  Walk of chapter 35: Read of the program; the plain law of answers.
-/
import Derived.Test.YthogjnckkmfhnaaDoorPsD
namespace Go.Proofs.YthogjnckkmfhnaaDoor
set_option linter.unusedVariables false
set_option linter.unusedSimpArgs false
def readWP (l : List (List UInt8)) : An × Int := if properB (answerQ l) = true then (answerQ l, 0) else ({}, 5)
def readPP (s : List UInt8) : An × Int := if (splitP s).2 = 0 then readWP (splitP s).1 else ({}, (splitP s).2)
theorem answerQ_bd (l : List (List UInt8)) (h : ∀ w ∈ l, w.length ≤ 4096) : (answerQ l).data.length ≤ 4096 ∧ (answerQ l).text.length ≤ 4096 := by
  unfold answerQ
  split
  · simp
  · split
    · split
      · split <;> simp
      · simp
    · rename_i c _
      have hc := h c (by simp)
      split
      · simp [hc]
      · split <;> simp [hc]
    · simp
theorem Read_c (s : List UInt8) : ACalls Tryd.prog 10 [.v (.string (bs s))] [] (.tup [.agg ((readPP s).1.cs false), .v (.int .i64 (readPP s).2)]) [] := by
  have hS := Split_c s
  have hwd := split_wd s
  have hct := split_ct s
  generalize hR : readPP s = R
  rw [readPP] at hR
  generalize splitP s = SP at hS hwd hct hR
  obtain ⟨l, e⟩ := SP
  simp only at hS hwd hct hR
  by_cases he : e = 0
  · subst he
    rw [if_pos rfl, readWP] at hR
    have hd0 : ¬ ((0 : Int) ≠ 0) := by decide
    have q1 := answer_c l hct hwd
    have hb := answerQ_bd l hwd
    generalize answerQ l = A at q1 hR hb
    have q2 := proper_c A false (by omega) (by omega)
    by_cases hv : properB A = true
    · rw [hv] at q2
      rw [if_pos hv] at hR
      refine (ACalls.of (fn := Tryd.f10) Tryd.func10 rfl rfl Tryd.ntmps10 (fun I M w own => ?_))
      (repeat' (first | refine AW.seq_k (fun K hK => ?_) | (refine hK _ ?_; clear hK) | (refine AW.cond rfl (fun hc => ?_) (fun hc => ?_) <;> (try simp only [Bool.and_eq_true, Bool.or_eq_true, Bool.not_eq_true', Bool.not_eq_false', Bool.and_eq_false_iff, Bool.or_eq_false_iff, Bool.and_eq_false_imp, decide_eq_true_eq, decide_eq_false_iff_not, Decidable.not_not, Int.not_lt, Int.not_le, ne_eq, Bool.not_not] at hc) <;> try (first | (exfalso; omega) | (cases hc; done))) | refine AW.ret ?_ | refine AW.skip ?_ | (first | (refine AW.region (id := 0) ?_ <;> (try (refine Run.alA rfl rfl rfl rfl ?_)) <;> (try (refine Run.p rfl rfl rfl (OpP.asA rfl) ?_)) <;> (try refine Run.fin rfl ?_)) | (refine AW.region (id := 1) ?_ <;> (try (refine Run.p rfl rfl rfl (OpP.mvA rfl) ?_)) <;> (try (refine Run.c0 hS rfl rfl rfl rfl rfl rfl rfl rfl ?_)) <;> (try (refine Run.p rfl rfl rfl (OpP.mvA rfl) ?_)) <;> (try (refine Run.p rfl rfl rfl (OpP.extract rfl rfl rfl) ?_)) <;> (try (refine Run.p rfl rfl rfl (OpP.extract rfl rfl rfl) ?_)) <;> (try (refine Run.p rfl rfl rfl (OpP.asA rfl) ?_)) <;> (try (refine Run.p rfl rfl rfl (OpP.asA rfl) ?_)) <;> (try refine Run.fin rfl ?_)) | (refine AW.region (id := 2) ?_ <;> (try (refine Run.p rfl rfl rfl (OpP.mvA rfl) ?_)) <;> (try (refine Run.p rfl rfl rfl (OpP.decF (OpP.ne rfl rfl rfl) (by assumption)) ?_)) <;> (try refine Run.fin rfl ?_)) | (refine AW.region (id := 4) ?_ <;> (try (refine Run.p rfl rfl rfl (OpP.mvA rfl) ?_)) <;> (try (refine Run.c0 q1 rfl rfl rfl rfl rfl rfl rfl rfl ?_)) <;> (try (refine Run.alA rfl rfl rfl rfl ?_)) <;> (try (refine Run.stA rfl rfl rfl rfl rfl ?_)) <;> (try refine Run.fin rfl ?_)) | (refine AW.region (id := 5) ?_ <;> (try (refine Run.ldNA rfl rfl rfl rfl rfl rfl rfl ?_)) <;> (try (refine Run.c0 q2 rfl rfl rfl rfl rfl rfl rfl rfl ?_)) <;> (try (refine Run.p rfl rfl rfl (OpP.not rfl rfl) ?_)) <;> (try refine Run.fin rfl ?_)) | (refine AW.region (id := 7) ?_ <;> (try (refine Run.ldNA rfl rfl rfl rfl rfl rfl rfl ?_)) <;> (try (refine Run.stA rfl rfl rfl rfl rfl ?_)) <;> (try (refine Run.p rfl rfl rfl (OpP.asA rfl) ?_)) <;> (try refine Run.fin rfl ?_)))))
      subst hR
      ((first | refine RetOk.tup rfl rfl ?_ | refine RetOk.one rfl ?_) <;> (repeat' (first | exact Cv.nil | exact Cv.rowf rfl rfl | exact RetC.nil | exact CvL.refl _ | exact Cv.refl | refine RetC.tmp (by (conv => lhs; whnf) <;> rfl) ?_ ?_ | refine RetC.cell1 rfl rfl rfl rfl ?_ ?_ | refine RetC.cellN rfl rfl rfl (by repeat constructor) ?_ ?_ | refine Cv.rowE rfl rfl ?_ | exact Cv.full | exact CvL.nil | refine CvL.cons ?_ ?_)))
    · rw [if_neg hv] at hR
      rw [Bool.not_eq_true] at hv
      rw [hv] at q2
      refine (ACalls.of (fn := Tryd.f10) Tryd.func10 rfl rfl Tryd.ntmps10 (fun I M w own => ?_))
      (repeat' (first | refine AW.seq_k (fun K hK => ?_) | (refine hK _ ?_; clear hK) | (refine AW.cond rfl (fun hc => ?_) (fun hc => ?_) <;> (try simp only [Bool.and_eq_true, Bool.or_eq_true, Bool.not_eq_true', Bool.not_eq_false', Bool.and_eq_false_iff, Bool.or_eq_false_iff, Bool.and_eq_false_imp, decide_eq_true_eq, decide_eq_false_iff_not, Decidable.not_not, Int.not_lt, Int.not_le, ne_eq, Bool.not_not] at hc) <;> try (first | (exfalso; omega) | (cases hc; done))) | refine AW.ret ?_ | refine AW.skip ?_ | (first | (refine AW.region (id := 0) ?_ <;> (try (refine Run.alA rfl rfl rfl rfl ?_)) <;> (try (refine Run.p rfl rfl rfl (OpP.asA rfl) ?_)) <;> (try refine Run.fin rfl ?_)) | (refine AW.region (id := 1) ?_ <;> (try (refine Run.p rfl rfl rfl (OpP.mvA rfl) ?_)) <;> (try (refine Run.c0 hS rfl rfl rfl rfl rfl rfl rfl rfl ?_)) <;> (try (refine Run.p rfl rfl rfl (OpP.mvA rfl) ?_)) <;> (try (refine Run.p rfl rfl rfl (OpP.extract rfl rfl rfl) ?_)) <;> (try (refine Run.p rfl rfl rfl (OpP.extract rfl rfl rfl) ?_)) <;> (try (refine Run.p rfl rfl rfl (OpP.asA rfl) ?_)) <;> (try (refine Run.p rfl rfl rfl (OpP.asA rfl) ?_)) <;> (try refine Run.fin rfl ?_)) | (refine AW.region (id := 2) ?_ <;> (try (refine Run.p rfl rfl rfl (OpP.mvA rfl) ?_)) <;> (try (refine Run.p rfl rfl rfl (OpP.decF (OpP.ne rfl rfl rfl) (by assumption)) ?_)) <;> (try refine Run.fin rfl ?_)) | (refine AW.region (id := 4) ?_ <;> (try (refine Run.p rfl rfl rfl (OpP.mvA rfl) ?_)) <;> (try (refine Run.c0 q1 rfl rfl rfl rfl rfl rfl rfl rfl ?_)) <;> (try (refine Run.alA rfl rfl rfl rfl ?_)) <;> (try (refine Run.stA rfl rfl rfl rfl rfl ?_)) <;> (try refine Run.fin rfl ?_)) | (refine AW.region (id := 5) ?_ <;> (try (refine Run.ldNA rfl rfl rfl rfl rfl rfl rfl ?_)) <;> (try (refine Run.c0 q2 rfl rfl rfl rfl rfl rfl rfl rfl ?_)) <;> (try (refine Run.p rfl rfl rfl (OpP.not rfl rfl) ?_)) <;> (try refine Run.fin rfl ?_)) | (refine AW.region (id := 6) ?_ <;> (try (refine Run.p rfl rfl rfl (OpP.buildSA rfl) ?_)) <;> (try (refine Run.stA rfl rfl rfl rfl rfl ?_)) <;> (try (refine Run.p rfl rfl rfl (OpP.asA rfl) ?_)) <;> (try refine Run.fin rfl ?_)))))
      subst hR
      ((first | refine RetOk.tup rfl rfl ?_ | refine RetOk.one rfl ?_) <;> (repeat' (first | exact Cv.nil | exact Cv.rowf rfl rfl | exact RetC.nil | exact CvL.refl _ | exact Cv.refl | refine RetC.tmp (by (conv => lhs; whnf) <;> rfl) ?_ ?_ | refine RetC.cell1 rfl rfl rfl rfl ?_ ?_ | refine RetC.cellN rfl rfl rfl (by repeat constructor) ?_ ?_ | refine Cv.rowE rfl rfl ?_ | exact Cv.full | exact CvL.nil | refine CvL.cons ?_ ?_)))
      (all_goals (try (first | refine CvL.eq ?_ | refine Cv.eq ?_)))
      all_goals first | rfl | simp
  · rw [if_neg he] at hR
    have hd0 : e ≠ 0 := he
    refine (ACalls.of (fn := Tryd.f10) Tryd.func10 rfl rfl Tryd.ntmps10 (fun I M w own => ?_))
    (repeat' (first | refine AW.seq_k (fun K hK => ?_) | (refine hK _ ?_; clear hK) | (refine AW.cond rfl (fun hc => ?_) (fun hc => ?_) <;> (try simp only [Bool.and_eq_true, Bool.or_eq_true, Bool.not_eq_true', Bool.not_eq_false', Bool.and_eq_false_iff, Bool.or_eq_false_iff, Bool.and_eq_false_imp, decide_eq_true_eq, decide_eq_false_iff_not, Decidable.not_not, Int.not_lt, Int.not_le, ne_eq, Bool.not_not] at hc) <;> try (first | (exfalso; omega) | (cases hc; done))) | refine AW.ret ?_ | (first | (refine AW.region (id := 0) ?_ <;> (try (refine Run.alA rfl rfl rfl rfl ?_)) <;> (try (refine Run.p rfl rfl rfl (OpP.asA rfl) ?_)) <;> (try refine Run.fin rfl ?_)) | (refine AW.region (id := 1) ?_ <;> (try (refine Run.p rfl rfl rfl (OpP.mvA rfl) ?_)) <;> (try (refine Run.c0 hS rfl rfl rfl rfl rfl rfl rfl rfl ?_)) <;> (try (refine Run.p rfl rfl rfl (OpP.mvA rfl) ?_)) <;> (try (refine Run.p rfl rfl rfl (OpP.extract rfl rfl rfl) ?_)) <;> (try (refine Run.p rfl rfl rfl (OpP.extract rfl rfl rfl) ?_)) <;> (try (refine Run.p rfl rfl rfl (OpP.asA rfl) ?_)) <;> (try (refine Run.p rfl rfl rfl (OpP.asA rfl) ?_)) <;> (try refine Run.fin rfl ?_)) | (refine AW.region (id := 2) ?_ <;> (try (refine Run.p rfl rfl rfl (OpP.mvA rfl) ?_)) <;> (try (refine Run.p rfl rfl rfl (OpP.decT (OpP.ne rfl rfl rfl) (by assumption)) ?_)) <;> (try refine Run.fin rfl ?_)) | (refine AW.region (id := 3) ?_ <;> (try (refine Run.p rfl rfl rfl (OpP.buildSA rfl) ?_)) <;> (try (refine Run.p rfl rfl rfl (OpP.mvA rfl) ?_)) <;> (try (refine Run.stA rfl rfl rfl rfl rfl ?_)) <;> (try (refine Run.p rfl rfl rfl (OpP.asA rfl) ?_)) <;> (try refine Run.fin rfl ?_)))))
    subst hR
    ((first | refine RetOk.tup rfl rfl ?_ | refine RetOk.one rfl ?_) <;> (repeat' (first | exact Cv.nil | exact Cv.rowf rfl rfl | exact RetC.nil | exact CvL.refl _ | exact Cv.refl | refine RetC.tmp (by (conv => lhs; whnf) <;> rfl) ?_ ?_ | refine RetC.cell1 rfl rfl rfl rfl ?_ ?_ | refine RetC.cellN rfl rfl rfl (by repeat constructor) ?_ ?_ | refine Cv.rowE rfl rfl ?_ | exact Cv.full | exact CvL.nil | refine CvL.cons ?_ ?_)))
    (all_goals (try (first | refine CvL.eq ?_ | refine Cv.eq ?_)))
    all_goals first | rfl | simp
theorem proper_eq (a : An) : properB a = validA a := by
  obtain ⟨code, data, text⟩ := a
  have ht : text = [] ↔ text.length = 0 := List.length_eq_zero_iff.symm
  rw [Bool.eq_iff_iff]
  unfold properB validA
  simp only [Bool.and_eq_true, Bool.or_eq_true, decide_eq_true_eq]
  constructor
  · intro h
    rw [if_neg (by omega)]
    simp only [Bool.and_eq_true, Bool.or_eq_true, decide_eq_true_eq, ht]
    omega
  · intro h
    split at h
    · cases h
    · simp only [Bool.and_eq_true, Bool.or_eq_true, decide_eq_true_eq, ht] at h
      omega
theorem reply_eq (a : An) : replyP a = rReplyP a := by
  unfold replyP rReplyP
  rw [proper_eq]
  by_cases h : validA a = true
  · rw [if_neg (by simp [h]), if_pos h]
    unfold replyL
    split
    · exact join_eq _
    · split
      · exact join_eq _
      · split
        · exact join_eq _
        · decide +kernel
  · rw [if_pos (by simpa using h), if_neg h]
theorem replyL_len (a : An) : 1 ≤ (replyL a).length ∧ (replyL a).length ≤ 3 := by
  unfold replyL
  (repeat' split) <;> simp
theorem replyL_1 (a : An) (x : List UInt8) (h : replyL a = [x]) : x = [111, 107] := by
  unfold replyL at h
  (repeat' split at h) <;> simp at h
  exact h.symm
theorem read_eqW (l : List (List UInt8)) : readWP l = rReadW l := by
  have hbad : ∀ l, properB (answerQ l) = false → ¬ (validA (rAns l) = true ∧ replyL (rAns l) = l) → readWP l = rReadW l := by
    intro l h1 h2
    unfold readWP rReadW
    rw [if_neg (by simp [h1]), if_neg h2]
  have hgood : ∀ l, answerQ l = rAns l → (validA (rAns l) = true → replyL (rAns l) = l) → readWP l = rReadW l := by
    intro l h1 h2
    unfold readWP rReadW
    rw [h1, proper_eq]
    by_cases h : validA (rAns l) = true
    · rw [if_pos h, if_pos ⟨h, h2 h⟩]
    · rw [if_neg h, if_neg (fun q => h q.1)]
  have hm1 : properB { code := -1 } = false := by decide
  by_cases hok : l = [[111, 107]]
  · subst hok; decide +kernel
  rcases l with _ | ⟨a, _ | ⟨b, _ | ⟨c, _ | ⟨d, t⟩⟩⟩⟩
  · refine hbad _ (by decide +kernel) ?_
    rintro ⟨_, h⟩
    have := replyL_len (rAns [])
    rw [h] at this; simp at this
  · refine hbad _ (by unfold answerQ; rw [if_neg hok]; exact hm1) ?_
    rintro ⟨_, h⟩
    exact hok (by rw [replyL_1 _ _ h])
  · by_cases ha : a = [101, 114, 114, 111, 114]
    · subst ha
      have hr : rAns [[101, 114, 114, 111, 114], b] = { code := numQ b } := rfl
      have hq : answerQ [[101, 114, 114, 111, 114], b] = (if ((numberP b).2 ≠ 0 ∨ (numberP b).1 = 0) ∨ 999 < (numberP b).1 then { code := -1 } else { code := (numberP b).1 }) := rfl
      rcases num_cases b with ⟨n, a1, a2, a3, a4, a5⟩ | ⟨b1, b2⟩
      · by_cases h0 : n = 0
        · subst h0
          refine hbad _ (by rw [hq, a3, if_pos (by simp)]; exact hm1) ?_
          rw [hr, a4]
          rintro ⟨_, h⟩
          simp [replyL] at h
        · by_cases h9 : 999 < n
          · refine hbad _ (by rw [hq, a3, if_pos (Or.inr h9)]; exact hm1) ?_
            rw [hr, a4]
            rintro ⟨h, _⟩
            have := validA_bd _ h
            simp only at this; omega
          · refine hgood _ ?_ ?_
            · rw [hq, hr, a3, a4, if_neg]
              simp only
              omega
            · rw [hr, a4]
              intro _
              simp [replyL, h0, a5]
      · have hb' : ¬ ((numberP b).2 = 0 ∧ 0 ≤ (numberP b).1) := by simpa using b1
        refine hbad _ ?_ ?_
        · rw [hq]
          split
          · exact hm1
          · rename_i h
            have : (numberP b).1 < 0 := by omega
            unfold properB
            simp
            omega
        · rw [hr]
          rintro ⟨h1, h2⟩
          have := validA_bd _ h1
          simp only at this
          by_cases hz : numQ b = 0
          · simp [replyL, hz] at h2
          · simp [replyL, hz] at h2
            exact b2 (by omega) h2
    · refine hbad _ ?_ ?_
      · have hq : answerQ [a, b] = { code := -1 } := by
          unfold answerQ
          rw [if_neg (by simp)]
          simp only
          rw [if_neg ha]
        rw [hq]; exact hm1
      · rintro ⟨_, h⟩
        unfold rAns at h
        rw [if_neg (by exact ha)] at h
        split at h
        · simp [replyL, atQ] at h
        · split at h
          · simp [replyL, atQ] at h
          · simp [replyL] at h
  · have hq : answerQ [a, b, c] = (if (a = [111, 107] ∧ b = [100, 97, 116, 97]) ∧ c ≠ [] then { data := c } else if (a = [111, 107] ∧ b = [116, 101, 120, 116]) ∧ c ≠ [] then { text := c } else { code := -1 }) := by
      unfold answerQ
      rw [if_neg (by simp)]
    by_cases ha : a = [101, 114, 114, 111, 114]
    · subst ha
      refine hbad _ ?_ ?_
      · rw [hq, if_neg (by simp), if_neg (by simp)]; exact hm1
      · rintro ⟨_, h⟩
        have hr : rAns [[101, 114, 114, 111, 114], b, c] = { code := numQ b } := rfl
        rw [hr] at h
        unfold replyL at h
        (repeat' split at h) <;> simp at h
    · by_cases hd : b = [100, 97, 116, 97]
      · have hr : rAns [a, b, c] = { data := c } := by
          unfold rAns
          rw [if_neg (by exact ha), if_pos (by exact hd)]
          rfl
        by_cases hao : a = [111, 107]
        · by_cases hc : c = []
          · refine hbad _ ?_ ?_
            · rw [hq, if_neg (by simp [hc]), if_neg (by simp [hc])]; exact hm1
            · rw [hr, hc]; rintro ⟨_, h⟩; simp [replyL] at h
          · refine hgood _ (by rw [hq, hr, if_pos ⟨⟨hao, hd⟩, hc⟩]) ?_
            rw [hr]
            intro _
            have : 0 < c.length := List.length_pos_iff.2 hc
            simp [replyL, this, hao, hd]
        · refine hbad _ ?_ ?_
          · rw [hq, if_neg (fun h => hao h.1.1), if_neg (fun h => hao h.1.1)]; exact hm1
          · rw [hr]; rintro ⟨_, h⟩
            unfold replyL at h
            simp only at h
            (repeat' split at h) <;> simp at h <;> exact hao h.1.symm
      · by_cases ht : b = [116, 101, 120, 116]
        · have hr : rAns [a, b, c] = { text := c } := by
            unfold rAns
            rw [if_neg (by exact ha), if_neg (by exact hd), if_pos (by exact ht)]
            rfl
          by_cases hao : a = [111, 107]
          · by_cases hc : c = []
            · refine hbad _ ?_ ?_
              · rw [hq, if_neg (by simp [hc]), if_neg (by simp [hc])]; exact hm1
              · rw [hr, hc]; rintro ⟨_, h⟩; simp [replyL] at h
            · refine hgood _ (by rw [hq, hr, if_neg (fun h => hd h.1.2), if_pos ⟨⟨hao, ht⟩, hc⟩]) ?_
              rw [hr]
              intro _
              simp [replyL, hc, hao, ht]
          · refine hbad _ ?_ ?_
            · rw [hq, if_neg (fun h => hao h.1.1), if_neg (fun h => hao h.1.1)]; exact hm1
            · rw [hr]; rintro ⟨_, h⟩
              unfold replyL at h
              simp only at h
              (repeat' split at h) <;> simp at h <;> exact hao h.1.symm
        · refine hbad _ ?_ ?_
          · rw [hq, if_neg (fun h => hd h.1.2), if_neg (fun h => ht h.1.2)]; exact hm1
          · rintro ⟨_, h⟩
            have hr : rAns [a, b, c] = {} := by
              unfold rAns
              rw [if_neg (by exact ha), if_neg (by exact hd), if_neg (by exact ht)]
            rw [hr] at h
            simp [replyL] at h
  · refine hbad _ ?_ ?_
    · unfold answerQ; rw [if_neg hok]; exact hm1
    · rintro ⟨_, h⟩
      have := replyL_len (rAns (a :: b :: c :: d :: t))
      rw [h] at this; simp at this
theorem read_eq (s : List UInt8) : readPP s = rReadP s := by
  rw [readPP, rReadP, read_eqW]
abbrev anP (L : List An) : List (List PV) := L.map fun a => [PV.v (.int .i64 a.code), PV.sl 1 (bsP a.data), PV.v (.string (bs a.text))]
theorem rReply_le (a : An) : (rReplyP a).1.length ≤ 4096 := by
  unfold rReplyP
  split
  · rw [rJoin_J]
    split
    · simp
    · simp only; omega
  · simp
theorem readPP_ok (s : List UInt8) : (readPP s).1.data.length ≤ 4096 := by
  unfold readPP
  split
  · unfold readWP
    split
    · exact (answerQ_bd _ (split_wd s)).1
    · simp
  · simp
end Go.Proofs.YthogjnckkmfhnaaDoor
