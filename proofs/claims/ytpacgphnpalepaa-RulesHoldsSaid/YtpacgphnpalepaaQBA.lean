/-
  Walks of the reference's rules: proper conditions.
-/
import Derived.Test.YtpacgphnpalepaaQAO
namespace Go.Proofs.Ytpacgphnpalepaa
set_option linter.unusedVariables false
set_option linter.unusedSimpArgs false
theorem properF_eq (c : List Tm) : properF c = (match foldN 0 c with | none => false | some d => decide (c.length = 0) || (decide (d = 1) && decide (c.length ≤ 16))) := by
  rw [properF, foldNE]
  cases c with
  | nil => rfl
  | cons t r =>
    by_cases h : 16 < (t :: r).length
    · rw [if_pos h]
      cases foldN 0 (t :: r) with
      | none => simp
      | some d => simp only [List.length_cons] at h; simp; omega
    · rw [if_neg h]
      cases foldN 0 (t :: r) with
      | none => simp
      | some d => simp only [List.length_cons] at h; simp; omega
set_option maxHeartbeats 4000000 in
theorem rproper_c (f : Bool) (c : List Tm) (hc : c.length ≤ 1000000) (hn : ∀ t ∈ c, t.2.length ≤ 9223372036854775807) : ACalls Try.prog 36 [.sl 2 (tmP c) f] [] (.v (.bool (properF c))) [] := by
  generalize hR : properF c = R
  rw [properF_eq] at hR
  have hcl : (tmP c).length = c.length := by simp
  refine (ACalls.of (fn := Try.f36) Try.func36 rfl rfl Try.ntmps36 (fun I M w own => ?_))
  (repeat' (first | refine AW.seq_k (fun K hK => ?_) | (refine hK _ ?_; clear hK) | refine AW.block ?_ | refine AW.region (id := 0) ?_ | refine AW.region (id := 1) ?_ | refine AW.region (id := 2) ?_ | refine Run.p rfl rfl rfl (OpP.asA rfl) ?_ | refine Run.fin rfl ?_))
  refine AW.loopF (X := Nat × Nat) (fun y => ⟨[(0, .sl 2 (tmP c) f), (3, .v (.int .i64 (y.2 : Int))), (4, .v (.int .i64 (y.1 : Int)))], []⟩)
    (fun y => y.1 ≤ c.length ∧ y.2 ≤ y.1 ∧ foldN 0 c = foldN y.2 (c.drop y.1)) (fun y => c.length - y.1) (0, 0) ?_ ⟨Nat.zero_le _, Nat.le_refl _, rfl⟩ ?_
  · refine Conv.mk [] rfl rfl rfl ?_ rfl ?_
    · (repeat' (first | exact Cf.nil | exact Cv.refl | refine Cf.cons' (by (conv => lhs; whnf) <;> rfl) ?_ ?_))
    · (repeat' (first | exact Crs.nil))
  rintro ⟨j, d⟩ ⟨h1, h2, h3⟩
  simp only at h1 h2 h3 ⊢
  rcases Nat.lt_or_ge j c.length with h | h
  · obtain ⟨t, ht⟩ : ∃ t, c[j]? = some t := ⟨c[j], by simp [h]⟩
    have hdr : c.drop j = t :: c.drop (j + 1) := by
      rw [List.drop_eq_getElem_cons h]
      congr 1
      simpa [h] using ht
    rw [hdr, foldN] at h3
    have hnl := hn t (List.mem_of_getElem? ht)
    have hA : At (tmP c) (j : Int) [PV.v (.int .i64 t.1), PV.v (.string (bs t.2))] := At.mk j rfl (by simp [ht])
    have hna := rName_c t.2 hnl
    obtain ⟨k, nm⟩ := t
    simp only at h3 hnl hA hna
    have hfalse : foldN 0 c = none → R = false := fun e => by rw [← hR, e]
    have hlt : (j : Int) < ((tmP c).length : Int) := by omega
    by_cases k12 : k = 1 ∨ k = 2
    · have hak : arityF k = 0 := by rcases k12 with rfl | rfl <;> rfl
      cases hnb : nameB nm with
      | false =>
        have hbad : badT d (k, nm) = true := by simp [badT, hak, hnb]
        rw [if_pos hbad] at h3
        rw [hnb] at hna
        obtain rfl := hfalse h3
        rcases k12 with k1 | k2
        · (repeat' (first | refine AW.seq_k (fun K hK => ?_) | (refine hK _ ?_; clear hK) | (refine AW.cond rfl (fun hc => ?_) (fun hc => ?_) <;> (try simp only [Bool.and_eq_true, Bool.or_eq_true, Bool.not_eq_true', Bool.not_eq_false', Bool.and_eq_false_iff, Bool.or_eq_false_iff, Bool.and_eq_false_imp, decide_eq_true_eq, decide_eq_false_iff_not, Decidable.not_not, Int.not_lt, Int.not_le, ne_eq, Bool.not_not] at hc) <;> try (first | (exfalso; omega) | (cases hc; done))) | refine AW.block ?_ | refine AW.ret ?_ | refine AW.skip ?_ | refine AW.region (id := 3) ?_ | refine AW.region (id := 5) ?_ | refine AW.region (id := 6) ?_ | refine AW.region (id := 7) ?_ | refine Run.p rfl rfl rfl (OpP.mvA rfl) ?_ | refine Run.ri rfl rfl rfl (OpRI.lenA rfl rfl) rfl ?_ | refine Run.p rfl rfl rfl (OpP.decT (OpP.ltt rfl rfl rfl) (by assumption)) ?_ | refine Run.ri rfl rfl rfl (OpRI.indexAddrA rfl rfl) rfl ?_ | refine Run.p rfl rfl rfl (OpP.decT (OpP.eq rfl rfl rfl) (by assumption)) ?_ | refine Run.p rfl rfl rfl (OpP.asA rfl) ?_ | refine Run.c0 hna rfl rfl rfl rfl rfl rfl rfl rfl ?_ | refine Run.p rfl rfl rfl (OpP.not rfl rfl) ?_ | refine Run.p rfl rfl rfl (OpP.fieldAddrE rfl rfl (by decide) (by first | (simp only [Nat.reduceAdd, Nat.zero_add, Nat.add_zero]; rfl) | rfl) (Nat.le_of_ble_eq_true rfl)) ?_ | refine Run.p rfl rfl rfl (OpP.loadE1 rfl rfl rfl rfl (by (conv => lhs; whnf) <;> rfl)) ?_ | refine Run.p rfl rfl rfl (OpP.pickA rfl rfl) ?_ | refine Run.sk rfl rfl rfl ?_ | refine Run.fin rfl ?_))
          ((first | refine RetOk.tupS [] rfl rfl rfl rfl rfl ?_ ?_ | refine RetOk.oneS [] rfl rfl rfl rfl ?_ ?_) <;> (repeat' (first | exact RetC.nil | exact Cv.refl | exact Crs.nil | refine RetC.tmp (by (conv => lhs; whnf) <;> rfl) ?_ ?_)))
        · have k1 : ¬ k = 1 := by omega
          (repeat' (first | refine AW.seq_k (fun K hK => ?_) | (refine hK _ ?_; clear hK) | (refine AW.cond rfl (fun hc => ?_) (fun hc => ?_) <;> (try simp only [Bool.and_eq_true, Bool.or_eq_true, Bool.not_eq_true', Bool.not_eq_false', Bool.and_eq_false_iff, Bool.or_eq_false_iff, Bool.and_eq_false_imp, decide_eq_true_eq, decide_eq_false_iff_not, Decidable.not_not, Int.not_lt, Int.not_le, ne_eq, Bool.not_not] at hc) <;> try (first | (exfalso; omega) | (cases hc; done))) | refine AW.block ?_ | refine AW.ret ?_ | refine AW.skip ?_ | refine AW.region (id := 3) ?_ | refine AW.region (id := 5) ?_ | refine AW.region (id := 6) ?_ | refine AW.region (id := 7) ?_ | refine Run.p rfl rfl rfl (OpP.mvA rfl) ?_ | refine Run.ri rfl rfl rfl (OpRI.lenA rfl rfl) rfl ?_ | refine Run.p rfl rfl rfl (OpP.decT (OpP.ltt rfl rfl rfl) (by assumption)) ?_ | refine Run.ri rfl rfl rfl (OpRI.indexAddrA rfl rfl) rfl ?_ | refine Run.p rfl rfl rfl (OpP.decT (OpP.eq rfl rfl rfl) (by assumption)) ?_ | refine Run.p rfl rfl rfl (OpP.asA rfl) ?_ | refine Run.c0 hna rfl rfl rfl rfl rfl rfl rfl rfl ?_ | refine Run.p rfl rfl rfl (OpP.not rfl rfl) ?_ | refine Run.p rfl rfl rfl (OpP.fieldAddrE rfl rfl (by decide) (by first | (simp only [Nat.reduceAdd, Nat.zero_add, Nat.add_zero]; rfl) | rfl) (Nat.le_of_ble_eq_true rfl)) ?_ | refine Run.p rfl rfl rfl (OpP.loadE1 rfl rfl rfl rfl (by (conv => lhs; whnf) <;> rfl)) ?_ | refine Run.p rfl rfl rfl (OpP.decF (OpP.eq rfl rfl rfl) (by assumption)) ?_ | refine Run.p rfl rfl rfl (OpP.pickA rfl rfl) ?_ | refine Run.sk rfl rfl rfl ?_ | refine Run.fin rfl ?_))
          ((first | refine RetOk.tupS [] rfl rfl rfl rfl rfl ?_ ?_ | refine RetOk.oneS [] rfl rfl rfl rfl ?_ ?_) <;> (repeat' (first | exact RetC.nil | exact Cv.refl | exact Crs.nil | refine RetC.tmp (by (conv => lhs; whnf) <;> rfl) ?_ ?_)))
      | true =>
        have hbad : ¬ badT d (k, nm) = true := by simp [badT, hak, hnb]
        rw [if_neg hbad, hak] at h3
        rw [hnb] at hna
        rcases k12 with k1 | k2
        · (repeat' (first | refine AW.seq_k (fun K hK => ?_) | (refine hK _ ?_; clear hK) | (refine AW.cond rfl (fun hc => ?_) (fun hc => ?_) <;> (try simp only [Bool.and_eq_true, Bool.or_eq_true, Bool.not_eq_true', Bool.not_eq_false', Bool.and_eq_false_iff, Bool.or_eq_false_iff, Bool.and_eq_false_imp, decide_eq_true_eq, decide_eq_false_iff_not, Decidable.not_not, Int.not_lt, Int.not_le, ne_eq, Bool.not_not] at hc) <;> try (first | (exfalso; omega) | (cases hc; done))) | refine AW.block ?_ | refine AW.skip ?_ | refine AW.region (id := 3) ?_ | refine AW.region (id := 5) ?_ | refine AW.region (id := 6) ?_ | refine AW.region (id := 8) ?_ | refine AW.region (id := 10) ?_ | refine AW.region (id := 12) ?_ | refine AW.region (id := 4) ?_ | refine Run.p rfl rfl rfl (OpP.mvA rfl) ?_ | refine Run.ri rfl rfl rfl (OpRI.lenA rfl rfl) rfl ?_ | refine Run.p rfl rfl rfl (OpP.decT (OpP.ltt rfl rfl rfl) (by assumption)) ?_ | refine Run.ri rfl rfl rfl (OpRI.indexAddrA rfl rfl) rfl ?_ | refine Run.p rfl rfl rfl (OpP.decT (OpP.eq rfl rfl rfl) (by assumption)) ?_ | refine Run.p rfl rfl rfl (OpP.asA rfl) ?_ | refine Run.c0 hna rfl rfl rfl rfl rfl rfl rfl rfl ?_ | refine Run.p rfl rfl rfl (OpP.not rfl rfl) ?_ | refine Run.p rfl rfl rfl (OpP.addA rfl rfl rfl) ?_ | refine Run.p rfl rfl rfl (OpP.fieldAddrE rfl rfl (by decide) (by first | (simp only [Nat.reduceAdd, Nat.zero_add, Nat.add_zero]; rfl) | rfl) (Nat.le_of_ble_eq_true rfl)) ?_ | refine Run.p rfl rfl rfl (OpP.loadE1 rfl rfl rfl rfl (by (conv => lhs; whnf) <;> rfl)) ?_ | refine Run.p rfl rfl rfl (OpP.pickA rfl rfl) ?_ | refine Run.sk rfl rfl rfl ?_ | refine Run.fin rfl ?_))
          ((repeat (with_reducible refine inB_n ?_)); refine thenA_n ?_)
          refine ⟨(j + 1, d + 1), ⟨by simp only; omega, by simp only; omega, h3⟩, by simp only; omega, ?_⟩
          refine Conv.mk [] rfl rfl rfl ?_ rfl ?_
          · (repeat' (first | exact Cf.nil | exact Cv.refl | refine Cf.cons' (by (conv => lhs; whnf) <;> rfl) ?_ ?_))
            (all_goals (try (first | refine CvL.eq ?_ | refine Cv.eq ?_)))
            all_goals simp [AV.ren]
          · (repeat' (first | exact Crs.nil))
        · have k1 : ¬ k = 1 := by omega
          (repeat' (first | refine AW.seq_k (fun K hK => ?_) | (refine hK _ ?_; clear hK) | (refine AW.cond rfl (fun hc => ?_) (fun hc => ?_) <;> (try simp only [Bool.and_eq_true, Bool.or_eq_true, Bool.not_eq_true', Bool.not_eq_false', Bool.and_eq_false_iff, Bool.or_eq_false_iff, Bool.and_eq_false_imp, decide_eq_true_eq, decide_eq_false_iff_not, Decidable.not_not, Int.not_lt, Int.not_le, ne_eq, Bool.not_not] at hc) <;> try (first | (exfalso; omega) | (cases hc; done))) | refine AW.block ?_ | refine AW.skip ?_ | refine AW.region (id := 3) ?_ | refine AW.region (id := 5) ?_ | refine AW.region (id := 6) ?_ | refine AW.region (id := 8) ?_ | refine AW.region (id := 10) ?_ | refine AW.region (id := 11) ?_ | refine AW.region (id := 12) ?_ | refine AW.region (id := 4) ?_ | refine Run.p rfl rfl rfl (OpP.mvA rfl) ?_ | refine Run.ri rfl rfl rfl (OpRI.lenA rfl rfl) rfl ?_ | refine Run.p rfl rfl rfl (OpP.decT (OpP.ltt rfl rfl rfl) (by assumption)) ?_ | refine Run.ri rfl rfl rfl (OpRI.indexAddrA rfl rfl) rfl ?_ | refine Run.p rfl rfl rfl (OpP.decT (OpP.eq rfl rfl rfl) (by assumption)) ?_ | refine Run.p rfl rfl rfl (OpP.asA rfl) ?_ | refine Run.c0 hna rfl rfl rfl rfl rfl rfl rfl rfl ?_ | refine Run.p rfl rfl rfl (OpP.not rfl rfl) ?_ | refine Run.p rfl rfl rfl (OpP.addA rfl rfl rfl) ?_ | refine Run.p rfl rfl rfl (OpP.fieldAddrE rfl rfl (by decide) (by first | (simp only [Nat.reduceAdd, Nat.zero_add, Nat.add_zero]; rfl) | rfl) (Nat.le_of_ble_eq_true rfl)) ?_ | refine Run.p rfl rfl rfl (OpP.loadE1 rfl rfl rfl rfl (by (conv => lhs; whnf) <;> rfl)) ?_ | refine Run.p rfl rfl rfl (OpP.decF (OpP.eq rfl rfl rfl) (by assumption)) ?_ | refine Run.p rfl rfl rfl (OpP.pickA rfl rfl) ?_ | refine Run.sk rfl rfl rfl ?_ | refine Run.fin rfl ?_))
          ((repeat (with_reducible refine inB_n ?_)); refine thenA_n ?_)
          refine ⟨(j + 1, d + 1), ⟨by simp only; omega, by simp only; omega, h3⟩, by simp only; omega, ?_⟩
          refine Conv.mk [] rfl rfl rfl ?_ rfl ?_
          · (repeat' (first | exact Cf.nil | exact Cv.refl | refine Cf.cons' (by (conv => lhs; whnf) <;> rfl) ?_ ?_))
            (all_goals (try (first | refine CvL.eq ?_ | refine Cv.eq ?_)))
            all_goals simp [AV.ren]
          · (repeat' (first | exact Crs.nil))
    have k1 : ¬ k = 1 := by omega
    have k2 : ¬ k = 2 := by omega
    by_cases hne : nm ≠ []
    · have hbad : badT d (k, nm) = true := by
        have : arityF k < 0 ∨ 0 < arityF k := by
          rw [arityF, if_neg k12]
          split
          · omega
          · split <;> omega
        rcases this with h | h <;> simp [badT, h, hne]
      rw [if_pos hbad] at h3
      obtain rfl := hfalse h3
      (repeat' (first | refine AW.seq_k (fun K hK => ?_) | (refine hK _ ?_; clear hK) | (refine AW.cond rfl (fun hc => ?_) (fun hc => ?_) <;> (try simp only [Bool.and_eq_true, Bool.or_eq_true, Bool.not_eq_true', Bool.not_eq_false', Bool.and_eq_false_iff, Bool.or_eq_false_iff, Bool.and_eq_false_imp, decide_eq_true_eq, decide_eq_false_iff_not, Decidable.not_not, Int.not_lt, Int.not_le, ne_eq, Bool.not_not] at hc) <;> try (first | (exfalso; omega) | (cases hc; done))) | refine AW.block ?_ | refine AW.ret ?_ | refine AW.skip ?_ | refine AW.region (id := 3) ?_ | refine AW.region (id := 5) ?_ | refine AW.region (id := 6) ?_ | refine AW.region (id := 7) ?_ | refine Run.p rfl rfl rfl (OpP.mvA rfl) ?_ | refine Run.ri rfl rfl rfl (OpRI.lenA rfl rfl) rfl ?_ | refine Run.p rfl rfl rfl (OpP.decT (OpP.ltt rfl rfl rfl) (by assumption)) ?_ | refine Run.ri rfl rfl rfl (OpRI.indexAddrA rfl rfl) rfl ?_ | refine Run.p rfl rfl rfl (OpP.asA rfl) ?_ | refine Run.p rfl rfl rfl (OpP.not rfl rfl) ?_ | refine Run.p rfl rfl rfl (OpP.decT (OpP.sne rfl rfl rfl) (by assumption)) ?_ | refine Run.p rfl rfl rfl (OpP.fieldAddrE rfl rfl (by decide) (by first | (simp only [Nat.reduceAdd, Nat.zero_add, Nat.add_zero]; rfl) | rfl) (Nat.le_of_ble_eq_true rfl)) ?_ | refine Run.p rfl rfl rfl (OpP.loadE1 rfl rfl rfl rfl (by (conv => lhs; whnf) <;> rfl)) ?_ | refine Run.p rfl rfl rfl (OpP.decF (OpP.eq rfl rfl rfl) (by assumption)) ?_ | refine Run.p rfl rfl rfl (OpP.pickA rfl rfl) ?_ | refine Run.sk rfl rfl rfl ?_ | refine Run.fin rfl ?_))
      ((first | refine RetOk.tupS [] rfl rfl rfl rfl rfl ?_ ?_ | refine RetOk.oneS [] rfl rfl rfl rfl ?_ ?_) <;> (repeat' (first | exact RetC.nil | exact Cv.refl | exact Crs.nil | refine RetC.tmp (by (conv => lhs; whnf) <;> rfl) ?_ ?_)))
    have hnm : nm = [] := by simpa using hne
    by_cases k3 : k = 3
    · have hak : arityF k = 1 := by subst k3; rfl
      by_cases hd : (d : Int) < 1
      · have hbad : badT d (k, nm) = true := by simp [badT, hak, hd]
        rw [if_pos hbad] at h3
        obtain rfl := hfalse h3
        (repeat' (first | refine AW.seq_k (fun K hK => ?_) | (refine hK _ ?_; clear hK) | (refine AW.cond rfl (fun hc => ?_) (fun hc => ?_) <;> (try simp only [Bool.and_eq_true, Bool.or_eq_true, Bool.not_eq_true', Bool.not_eq_false', Bool.and_eq_false_iff, Bool.or_eq_false_iff, Bool.and_eq_false_imp, decide_eq_true_eq, decide_eq_false_iff_not, Decidable.not_not, Int.not_lt, Int.not_le, ne_eq, Bool.not_not] at hc) <;> try (first | (exfalso; omega) | (cases hc; done))) | refine AW.block ?_ | refine AW.ret ?_ | refine AW.skip ?_ | refine AW.region (id := 3) ?_ | refine AW.region (id := 5) ?_ | refine AW.region (id := 6) ?_ | refine AW.region (id := 8) ?_ | refine AW.region (id := 10) ?_ | refine AW.region (id := 11) ?_ | refine AW.region (id := 13) ?_ | refine AW.region (id := 14) ?_ | refine AW.region (id := 15) ?_ | refine Run.p rfl rfl rfl (OpP.mvA rfl) ?_ | refine Run.ri rfl rfl rfl (OpRI.lenA rfl rfl) rfl ?_ | refine Run.p rfl rfl rfl (OpP.decT (OpP.ltt rfl rfl rfl) (by assumption)) ?_ | refine Run.ri rfl rfl rfl (OpRI.indexAddrA rfl rfl) rfl ?_ | refine Run.p rfl rfl rfl (OpP.asA rfl) ?_ | refine Run.p rfl rfl rfl (OpP.not rfl rfl) ?_ | refine Run.p rfl rfl rfl (OpP.decT (OpP.eq rfl rfl rfl) (by assumption)) ?_ | refine Run.p rfl rfl rfl (OpP.fieldAddrE rfl rfl (by decide) (by first | (simp only [Nat.reduceAdd, Nat.zero_add, Nat.add_zero]; rfl) | rfl) (Nat.le_of_ble_eq_true rfl)) ?_ | refine Run.p rfl rfl rfl (OpP.loadE1 rfl rfl rfl rfl (by (conv => lhs; whnf) <;> rfl)) ?_ | refine Run.p rfl rfl rfl (OpP.decF (OpP.eq rfl rfl rfl) (by assumption)) ?_ | refine Run.p rfl rfl rfl (OpP.decF (OpP.sne rfl rfl rfl) (by assumption)) ?_ | refine Run.p rfl rfl rfl (OpP.pickA rfl rfl) ?_ | refine Run.sk rfl rfl rfl ?_ | refine Run.fin rfl ?_))
        ((first | refine RetOk.tupS [] rfl rfl rfl rfl rfl ?_ ?_ | refine RetOk.oneS [] rfl rfl rfl rfl ?_ ?_) <;> (repeat' (first | exact RetC.nil | exact Cv.refl | exact Crs.nil | refine RetC.tmp (by (conv => lhs; whnf) <;> rfl) ?_ ?_)))
      · have hbad : ¬ badT d (k, nm) = true := by simp only [badT, hak, hnm]; simp; omega
        rw [if_neg hbad, hak, show d - Int.toNat 1 + 1 = d by omega] at h3
        (repeat' (first | refine AW.seq_k (fun K hK => ?_) | (refine hK _ ?_; clear hK) | (refine AW.cond rfl (fun hc => ?_) (fun hc => ?_) <;> (try simp only [Bool.and_eq_true, Bool.or_eq_true, Bool.not_eq_true', Bool.not_eq_false', Bool.and_eq_false_iff, Bool.or_eq_false_iff, Bool.and_eq_false_imp, decide_eq_true_eq, decide_eq_false_iff_not, Decidable.not_not, Int.not_lt, Int.not_le, ne_eq, Bool.not_not] at hc) <;> try (first | (exfalso; omega) | (cases hc; done))) | refine AW.block ?_ | refine AW.skip ?_ | refine AW.region (id := 3) ?_ | refine AW.region (id := 5) ?_ | refine AW.region (id := 6) ?_ | refine AW.region (id := 8) ?_ | refine AW.region (id := 10) ?_ | refine AW.region (id := 11) ?_ | refine AW.region (id := 13) ?_ | refine AW.region (id := 14) ?_ | refine AW.region (id := 4) ?_ | refine Run.p rfl rfl rfl (OpP.mvA rfl) ?_ | refine Run.ri rfl rfl rfl (OpRI.lenA rfl rfl) rfl ?_ | refine Run.p rfl rfl rfl (OpP.decT (OpP.ltt rfl rfl rfl) (by assumption)) ?_ | refine Run.ri rfl rfl rfl (OpRI.indexAddrA rfl rfl) rfl ?_ | refine Run.p rfl rfl rfl (OpP.asA rfl) ?_ | refine Run.p rfl rfl rfl (OpP.not rfl rfl) ?_ | refine Run.p rfl rfl rfl (OpP.decT (OpP.eq rfl rfl rfl) (by assumption)) ?_ | refine Run.p rfl rfl rfl (OpP.addA rfl rfl rfl) ?_ | refine Run.p rfl rfl rfl (OpP.fieldAddrE rfl rfl (by decide) (by first | (simp only [Nat.reduceAdd, Nat.zero_add, Nat.add_zero]; rfl) | rfl) (Nat.le_of_ble_eq_true rfl)) ?_ | refine Run.p rfl rfl rfl (OpP.loadE1 rfl rfl rfl rfl (by (conv => lhs; whnf) <;> rfl)) ?_ | refine Run.p rfl rfl rfl (OpP.decF (OpP.eq rfl rfl rfl) (by assumption)) ?_ | refine Run.p rfl rfl rfl (OpP.decF (OpP.sne rfl rfl rfl) (by assumption)) ?_ | refine Run.p rfl rfl rfl (OpP.decF (OpP.ltt rfl rfl rfl) (by assumption)) ?_ | refine Run.p rfl rfl rfl (OpP.pickA rfl rfl) ?_ | refine Run.sk rfl rfl rfl ?_ | refine Run.fin rfl ?_))
        ((repeat (with_reducible refine inB_n ?_)); refine thenA_n ?_)
        refine ⟨(j + 1, d), ⟨by simp only; omega, by simp only; omega, h3⟩, by simp only; omega, ?_⟩
        refine Conv.mk [] rfl rfl rfl ?_ rfl ?_
        · (repeat' (first | exact Cf.nil | exact Cv.refl | refine Cf.cons' (by (conv => lhs; whnf) <;> rfl) ?_ ?_))
          (all_goals (try (first | refine CvL.eq ?_ | refine Cv.eq ?_)))
          all_goals simp [AV.ren]
        · (repeat' (first | exact Crs.nil))
    by_cases k45 : k = 4 ∨ k = 5
    · have hak : arityF k = 2 := by rcases k45 with rfl | rfl <;> rfl
      by_cases hd : (d : Int) < 2
      · have hbad : badT d (k, nm) = true := by simp [badT, hak, hd]
        rw [if_pos hbad] at h3
        obtain rfl := hfalse h3
        rcases k45 with k4 | k5
        · (repeat' (first | refine AW.seq_k (fun K hK => ?_) | (refine hK _ ?_; clear hK) | (refine AW.cond rfl (fun hc => ?_) (fun hc => ?_) <;> (try simp only [Bool.and_eq_true, Bool.or_eq_true, Bool.not_eq_true', Bool.not_eq_false', Bool.and_eq_false_iff, Bool.or_eq_false_iff, Bool.and_eq_false_imp, decide_eq_true_eq, decide_eq_false_iff_not, Decidable.not_not, Int.not_lt, Int.not_le, ne_eq, Bool.not_not] at hc) <;> try (first | (exfalso; omega) | (cases hc; done))) | refine AW.block ?_ | refine AW.ret ?_ | refine AW.skip ?_ | refine AW.region (id := 3) ?_ | refine AW.region (id := 5) ?_ | refine AW.region (id := 6) ?_ | refine AW.region (id := 8) ?_ | refine AW.region (id := 10) ?_ | refine AW.region (id := 11) ?_ | refine AW.region (id := 13) ?_ | refine AW.region (id := 16) ?_ | refine AW.region (id := 18) ?_ | refine AW.region (id := 19) ?_ | refine Run.p rfl rfl rfl (OpP.mvA rfl) ?_ | refine Run.ri rfl rfl rfl (OpRI.lenA rfl rfl) rfl ?_ | refine Run.p rfl rfl rfl (OpP.decT (OpP.ltt rfl rfl rfl) (by assumption)) ?_ | refine Run.ri rfl rfl rfl (OpRI.indexAddrA rfl rfl) rfl ?_ | refine Run.p rfl rfl rfl (OpP.asA rfl) ?_ | refine Run.p rfl rfl rfl (OpP.not rfl rfl) ?_ | refine Run.p rfl rfl rfl (OpP.decT (OpP.eq rfl rfl rfl) (by assumption)) ?_ | refine Run.p rfl rfl rfl (OpP.fieldAddrE rfl rfl (by decide) (by first | (simp only [Nat.reduceAdd, Nat.zero_add, Nat.add_zero]; rfl) | rfl) (Nat.le_of_ble_eq_true rfl)) ?_ | refine Run.p rfl rfl rfl (OpP.loadE1 rfl rfl rfl rfl (by (conv => lhs; whnf) <;> rfl)) ?_ | refine Run.p rfl rfl rfl (OpP.decF (OpP.eq rfl rfl rfl) (by assumption)) ?_ | refine Run.p rfl rfl rfl (OpP.decF (OpP.sne rfl rfl rfl) (by assumption)) ?_ | refine Run.p rfl rfl rfl (OpP.pickA rfl rfl) ?_ | refine Run.sk rfl rfl rfl ?_ | refine Run.fin rfl ?_))
          ((first | refine RetOk.tupS [] rfl rfl rfl rfl rfl ?_ ?_ | refine RetOk.oneS [] rfl rfl rfl rfl ?_ ?_) <;> (repeat' (first | exact RetC.nil | exact Cv.refl | exact Crs.nil | refine RetC.tmp (by (conv => lhs; whnf) <;> rfl) ?_ ?_)))
        · have k4 : ¬ k = 4 := by omega
          (repeat' (first | refine AW.seq_k (fun K hK => ?_) | (refine hK _ ?_; clear hK) | (refine AW.cond rfl (fun hc => ?_) (fun hc => ?_) <;> (try simp only [Bool.and_eq_true, Bool.or_eq_true, Bool.not_eq_true', Bool.not_eq_false', Bool.and_eq_false_iff, Bool.or_eq_false_iff, Bool.and_eq_false_imp, decide_eq_true_eq, decide_eq_false_iff_not, Decidable.not_not, Int.not_lt, Int.not_le, ne_eq, Bool.not_not] at hc) <;> try (first | (exfalso; omega) | (cases hc; done))) | refine AW.block ?_ | refine AW.ret ?_ | refine AW.skip ?_ | refine AW.region (id := 3) ?_ | refine AW.region (id := 5) ?_ | refine AW.region (id := 6) ?_ | refine AW.region (id := 8) ?_ | refine AW.region (id := 10) ?_ | refine AW.region (id := 11) ?_ | refine AW.region (id := 13) ?_ | refine AW.region (id := 16) ?_ | refine AW.region (id := 17) ?_ | refine AW.region (id := 18) ?_ | refine AW.region (id := 19) ?_ | refine Run.p rfl rfl rfl (OpP.mvA rfl) ?_ | refine Run.ri rfl rfl rfl (OpRI.lenA rfl rfl) rfl ?_ | refine Run.p rfl rfl rfl (OpP.decT (OpP.ltt rfl rfl rfl) (by assumption)) ?_ | refine Run.ri rfl rfl rfl (OpRI.indexAddrA rfl rfl) rfl ?_ | refine Run.p rfl rfl rfl (OpP.asA rfl) ?_ | refine Run.p rfl rfl rfl (OpP.not rfl rfl) ?_ | refine Run.p rfl rfl rfl (OpP.decT (OpP.eq rfl rfl rfl) (by assumption)) ?_ | refine Run.p rfl rfl rfl (OpP.fieldAddrE rfl rfl (by decide) (by first | (simp only [Nat.reduceAdd, Nat.zero_add, Nat.add_zero]; rfl) | rfl) (Nat.le_of_ble_eq_true rfl)) ?_ | refine Run.p rfl rfl rfl (OpP.loadE1 rfl rfl rfl rfl (by (conv => lhs; whnf) <;> rfl)) ?_ | refine Run.p rfl rfl rfl (OpP.decF (OpP.eq rfl rfl rfl) (by assumption)) ?_ | refine Run.p rfl rfl rfl (OpP.decF (OpP.sne rfl rfl rfl) (by assumption)) ?_ | refine Run.p rfl rfl rfl (OpP.pickA rfl rfl) ?_ | refine Run.sk rfl rfl rfl ?_ | refine Run.fin rfl ?_))
          ((first | refine RetOk.tupS [] rfl rfl rfl rfl rfl ?_ ?_ | refine RetOk.oneS [] rfl rfl rfl rfl ?_ ?_) <;> (repeat' (first | exact RetC.nil | exact Cv.refl | exact Crs.nil | refine RetC.tmp (by (conv => lhs; whnf) <;> rfl) ?_ ?_)))
      · have hbad : ¬ badT d (k, nm) = true := by simp only [badT, hak, hnm]; simp; omega
        rw [if_neg hbad, hak, show d - Int.toNat 2 + 1 = d - 1 by omega] at h3
        have hd1 : ((d - 1 : Nat) : Int) = (d : Int) - 1 := by omega
        rcases k45 with k4 | k5
        · (repeat' (first | refine AW.seq_k (fun K hK => ?_) | (refine hK _ ?_; clear hK) | (refine AW.cond rfl (fun hc => ?_) (fun hc => ?_) <;> (try simp only [Bool.and_eq_true, Bool.or_eq_true, Bool.not_eq_true', Bool.not_eq_false', Bool.and_eq_false_iff, Bool.or_eq_false_iff, Bool.and_eq_false_imp, decide_eq_true_eq, decide_eq_false_iff_not, Decidable.not_not, Int.not_lt, Int.not_le, ne_eq, Bool.not_not] at hc) <;> try (first | (exfalso; omega) | (cases hc; done))) | refine AW.block ?_ | refine AW.skip ?_ | refine AW.region (id := 3) ?_ | refine AW.region (id := 5) ?_ | refine AW.region (id := 6) ?_ | refine AW.region (id := 8) ?_ | refine AW.region (id := 10) ?_ | refine AW.region (id := 11) ?_ | refine AW.region (id := 13) ?_ | refine AW.region (id := 16) ?_ | refine AW.region (id := 18) ?_ | refine AW.region (id := 20) ?_ | refine AW.region (id := 4) ?_ | refine Run.p rfl rfl rfl (OpP.mvA rfl) ?_ | refine Run.ri rfl rfl rfl (OpRI.lenA rfl rfl) rfl ?_ | refine Run.p rfl rfl rfl (OpP.decT (OpP.ltt rfl rfl rfl) (by assumption)) ?_ | refine Run.ri rfl rfl rfl (OpRI.indexAddrA rfl rfl) rfl ?_ | refine Run.p rfl rfl rfl (OpP.asA rfl) ?_ | refine Run.p rfl rfl rfl (OpP.not rfl rfl) ?_ | refine Run.p rfl rfl rfl (OpP.decT (OpP.eq rfl rfl rfl) (by assumption)) ?_ | refine Run.p rfl rfl rfl (OpP.subA rfl rfl rfl) ?_ | refine Run.p rfl rfl rfl (OpP.addA rfl rfl rfl) ?_ | refine Run.p rfl rfl rfl (OpP.fieldAddrE rfl rfl (by decide) (by first | (simp only [Nat.reduceAdd, Nat.zero_add, Nat.add_zero]; rfl) | rfl) (Nat.le_of_ble_eq_true rfl)) ?_ | refine Run.p rfl rfl rfl (OpP.loadE1 rfl rfl rfl rfl (by (conv => lhs; whnf) <;> rfl)) ?_ | refine Run.p rfl rfl rfl (OpP.decF (OpP.eq rfl rfl rfl) (by assumption)) ?_ | refine Run.p rfl rfl rfl (OpP.decF (OpP.sne rfl rfl rfl) (by assumption)) ?_ | refine Run.p rfl rfl rfl (OpP.decF (OpP.ltt rfl rfl rfl) (by assumption)) ?_ | refine Run.p rfl rfl rfl (OpP.pickA rfl rfl) ?_ | refine Run.sk rfl rfl rfl ?_ | refine Run.fin rfl ?_))
          ((repeat (with_reducible refine inB_n ?_)); refine thenA_n ?_)
          refine ⟨(j + 1, d - 1), ⟨by simp only; omega, by simp only; omega, h3⟩, by simp only; omega, ?_⟩
          refine Conv.mk [] rfl rfl rfl ?_ rfl ?_
          · (repeat' (first | exact Cf.nil | exact Cv.refl | refine Cf.cons' (by (conv => lhs; whnf) <;> rfl) ?_ ?_))
            (all_goals (try (first | refine CvL.eq ?_ | refine Cv.eq ?_)))
            all_goals simp [AV.ren, hd1]
          · (repeat' (first | exact Crs.nil))
        · have k4 : ¬ k = 4 := by omega
          (repeat' (first | refine AW.seq_k (fun K hK => ?_) | (refine hK _ ?_; clear hK) | (refine AW.cond rfl (fun hc => ?_) (fun hc => ?_) <;> (try simp only [Bool.and_eq_true, Bool.or_eq_true, Bool.not_eq_true', Bool.not_eq_false', Bool.and_eq_false_iff, Bool.or_eq_false_iff, Bool.and_eq_false_imp, decide_eq_true_eq, decide_eq_false_iff_not, Decidable.not_not, Int.not_lt, Int.not_le, ne_eq, Bool.not_not] at hc) <;> try (first | (exfalso; omega) | (cases hc; done))) | refine AW.block ?_ | refine AW.skip ?_ | refine AW.region (id := 3) ?_ | refine AW.region (id := 5) ?_ | refine AW.region (id := 6) ?_ | refine AW.region (id := 8) ?_ | refine AW.region (id := 10) ?_ | refine AW.region (id := 11) ?_ | refine AW.region (id := 13) ?_ | refine AW.region (id := 16) ?_ | refine AW.region (id := 17) ?_ | refine AW.region (id := 18) ?_ | refine AW.region (id := 20) ?_ | refine AW.region (id := 4) ?_ | refine Run.p rfl rfl rfl (OpP.mvA rfl) ?_ | refine Run.ri rfl rfl rfl (OpRI.lenA rfl rfl) rfl ?_ | refine Run.p rfl rfl rfl (OpP.decT (OpP.ltt rfl rfl rfl) (by assumption)) ?_ | refine Run.ri rfl rfl rfl (OpRI.indexAddrA rfl rfl) rfl ?_ | refine Run.p rfl rfl rfl (OpP.asA rfl) ?_ | refine Run.p rfl rfl rfl (OpP.not rfl rfl) ?_ | refine Run.p rfl rfl rfl (OpP.decT (OpP.eq rfl rfl rfl) (by assumption)) ?_ | refine Run.p rfl rfl rfl (OpP.subA rfl rfl rfl) ?_ | refine Run.p rfl rfl rfl (OpP.addA rfl rfl rfl) ?_ | refine Run.p rfl rfl rfl (OpP.fieldAddrE rfl rfl (by decide) (by first | (simp only [Nat.reduceAdd, Nat.zero_add, Nat.add_zero]; rfl) | rfl) (Nat.le_of_ble_eq_true rfl)) ?_ | refine Run.p rfl rfl rfl (OpP.loadE1 rfl rfl rfl rfl (by (conv => lhs; whnf) <;> rfl)) ?_ | refine Run.p rfl rfl rfl (OpP.decF (OpP.eq rfl rfl rfl) (by assumption)) ?_ | refine Run.p rfl rfl rfl (OpP.decF (OpP.sne rfl rfl rfl) (by assumption)) ?_ | refine Run.p rfl rfl rfl (OpP.decF (OpP.ltt rfl rfl rfl) (by assumption)) ?_ | refine Run.p rfl rfl rfl (OpP.pickA rfl rfl) ?_ | refine Run.sk rfl rfl rfl ?_ | refine Run.fin rfl ?_))
          ((repeat (with_reducible refine inB_n ?_)); refine thenA_n ?_)
          refine ⟨(j + 1, d - 1), ⟨by simp only; omega, by simp only; omega, h3⟩, by simp only; omega, ?_⟩
          refine Conv.mk [] rfl rfl rfl ?_ rfl ?_
          · (repeat' (first | exact Cf.nil | exact Cv.refl | refine Cf.cons' (by (conv => lhs; whnf) <;> rfl) ?_ ?_))
            (all_goals (try (first | refine CvL.eq ?_ | refine Cv.eq ?_)))
            all_goals simp [AV.ren, hd1]
          · (repeat' (first | exact Crs.nil))
    · have k4 : ¬ k = 4 := by omega
      have k5 : ¬ k = 5 := by omega
      have hbad : badT d (k, nm) = true := by simp [badT, arityF, k1, k2, k3, k4, k5]
      rw [if_pos hbad] at h3
      obtain rfl := hfalse h3
      (repeat' (first | refine AW.seq_k (fun K hK => ?_) | (refine hK _ ?_; clear hK) | (refine AW.cond rfl (fun hc => ?_) (fun hc => ?_) <;> (try simp only [Bool.and_eq_true, Bool.or_eq_true, Bool.not_eq_true', Bool.not_eq_false', Bool.and_eq_false_iff, Bool.or_eq_false_iff, Bool.and_eq_false_imp, decide_eq_true_eq, decide_eq_false_iff_not, Decidable.not_not, Int.not_lt, Int.not_le, ne_eq, Bool.not_not] at hc) <;> try (first | (exfalso; omega) | (cases hc; done))) | refine AW.block ?_ | refine AW.ret ?_ | refine AW.skip ?_ | refine AW.region (id := 3) ?_ | refine AW.region (id := 5) ?_ | refine AW.region (id := 6) ?_ | refine AW.region (id := 8) ?_ | refine AW.region (id := 10) ?_ | refine AW.region (id := 11) ?_ | refine AW.region (id := 13) ?_ | refine AW.region (id := 16) ?_ | refine AW.region (id := 17) ?_ | refine AW.region (id := 9) ?_ | refine Run.p rfl rfl rfl (OpP.mvA rfl) ?_ | refine Run.ri rfl rfl rfl (OpRI.lenA rfl rfl) rfl ?_ | refine Run.p rfl rfl rfl (OpP.decT (OpP.ltt rfl rfl rfl) (by assumption)) ?_ | refine Run.ri rfl rfl rfl (OpRI.indexAddrA rfl rfl) rfl ?_ | refine Run.p rfl rfl rfl (OpP.asA rfl) ?_ | refine Run.p rfl rfl rfl (OpP.not rfl rfl) ?_ | refine Run.p rfl rfl rfl (OpP.fieldAddrE rfl rfl (by decide) (by first | (simp only [Nat.reduceAdd, Nat.zero_add, Nat.add_zero]; rfl) | rfl) (Nat.le_of_ble_eq_true rfl)) ?_ | refine Run.p rfl rfl rfl (OpP.loadE1 rfl rfl rfl rfl (by (conv => lhs; whnf) <;> rfl)) ?_ | refine Run.p rfl rfl rfl (OpP.decF (OpP.eq rfl rfl rfl) (by assumption)) ?_ | refine Run.p rfl rfl rfl (OpP.decF (OpP.sne rfl rfl rfl) (by assumption)) ?_ | refine Run.p rfl rfl rfl (OpP.pickA rfl rfl) ?_ | refine Run.sk rfl rfl rfl ?_ | refine Run.fin rfl ?_))
      ((first | refine RetOk.tupS [] rfl rfl rfl rfl rfl ?_ ?_ | refine RetOk.oneS [] rfl rfl rfl rfl ?_ ?_) <;> (repeat' (first | exact RetC.nil | exact Cv.refl | exact Crs.nil | refine RetC.tmp (by (conv => lhs; whnf) <;> rfl) ?_ ?_)))
  · rw [List.drop_eq_nil_of_le h, foldN] at h3
    rw [h3] at hR
    simp only at hR
    have hge : ¬ (j : Int) < ((tmP c).length : Int) := by omega
    by_cases h0 : c.length = 0
    · have hz : ((tmP c).length : Int) = 0 := by omega
      obtain rfl : R = true := by rw [← hR]; simp [h0]
      (repeat' (first | refine AW.seq_k (fun K hK => ?_) | (refine hK _ ?_; clear hK) | (refine AW.cond rfl (fun hc => ?_) (fun hc => ?_) <;> (try simp only [Bool.and_eq_true, Bool.or_eq_true, Bool.not_eq_true', Bool.not_eq_false', Bool.and_eq_false_iff, Bool.or_eq_false_iff, Bool.and_eq_false_imp, decide_eq_true_eq, decide_eq_false_iff_not, Decidable.not_not, Int.not_lt, Int.not_le, ne_eq, Bool.not_not] at hc) <;> try (first | (exfalso; omega) | (cases hc; done))) | refine AW.exit ?_ | refine AW.ret ?_ | (clear hK; refine hK _ ?_; clear hK) | refine AW.region (id := 3) ?_ | refine AW.region (id := 21) ?_ | refine Run.p rfl rfl rfl (OpP.mvA rfl) ?_ | refine Run.ri rfl rfl rfl (OpRI.lenA rfl rfl) rfl ?_ | refine Run.p rfl rfl rfl (OpP.decT (OpP.eq rfl rfl rfl) (by assumption)) ?_ | refine Run.p rfl rfl rfl (OpP.asA rfl) ?_ | refine Run.p rfl rfl rfl (OpP.decF (OpP.ltt rfl rfl rfl) (by assumption)) ?_ | refine Run.p rfl rfl rfl (OpP.pickA rfl rfl) ?_ | refine Run.sk rfl rfl rfl ?_ | refine Run.fin rfl ?_))
      ((first | refine RetOk.tupS [] rfl rfl rfl rfl rfl ?_ ?_ | refine RetOk.oneS [] rfl rfl rfl rfl ?_ ?_) <;> (repeat' (first | exact RetC.nil | exact Cv.refl | exact Crs.nil | refine RetC.tmp (by (conv => lhs; whnf) <;> rfl) ?_ ?_)))
    have hz : ¬ ((tmP c).length : Int) = 0 := by omega
    by_cases hd : d = 1
    · have hd' : (d : Int) = 1 := by omega
      by_cases hm : c.length ≤ 16
      · have hm' : ((tmP c).length : Int) ≤ 16 := by omega
        obtain rfl : R = true := by rw [← hR]; simp [hm, hd]
        (repeat' (first | refine AW.seq_k (fun K hK => ?_) | (refine hK _ ?_; clear hK) | (refine AW.cond rfl (fun hc => ?_) (fun hc => ?_) <;> (try simp only [Bool.and_eq_true, Bool.or_eq_true, Bool.not_eq_true', Bool.not_eq_false', Bool.and_eq_false_iff, Bool.or_eq_false_iff, Bool.and_eq_false_imp, decide_eq_true_eq, decide_eq_false_iff_not, Decidable.not_not, Int.not_lt, Int.not_le, ne_eq, Bool.not_not] at hc) <;> try (first | (exfalso; omega) | (cases hc; done))) | refine AW.exit ?_ | refine AW.ret ?_ | (clear hK; refine hK _ ?_; clear hK) | refine AW.region (id := 3) ?_ | refine AW.region (id := 21) ?_ | refine Run.p rfl rfl rfl (OpP.mvA rfl) ?_ | refine Run.ri rfl rfl rfl (OpRI.lenA rfl rfl) rfl ?_ | refine Run.p rfl rfl rfl (OpP.decT (OpP.eq rfl rfl rfl) (by assumption)) ?_ | refine Run.p rfl rfl rfl (OpP.decT (OpP.lee rfl rfl rfl) (by assumption)) ?_ | refine Run.p rfl rfl rfl (OpP.asA rfl) ?_ | refine Run.p rfl rfl rfl (OpP.decF (OpP.ltt rfl rfl rfl) (by assumption)) ?_ | refine Run.p rfl rfl rfl (OpP.decF (OpP.eq rfl rfl rfl) (by assumption)) ?_ | refine Run.p rfl rfl rfl (OpP.pickA rfl rfl) ?_ | refine Run.fin rfl ?_))
        ((first | refine RetOk.tupS [] rfl rfl rfl rfl rfl ?_ ?_ | refine RetOk.oneS [] rfl rfl rfl rfl ?_ ?_) <;> (repeat' (first | exact RetC.nil | exact Cv.refl | exact Crs.nil | refine RetC.tmp (by (conv => lhs; whnf) <;> rfl) ?_ ?_)))
      · have hm' : ¬ ((tmP c).length : Int) ≤ 16 := by omega
        obtain rfl : R = false := by rw [← hR, decide_eq_false h0, decide_eq_false hm]; simp
        (repeat' (first | refine AW.seq_k (fun K hK => ?_) | (refine hK _ ?_; clear hK) | (refine AW.cond rfl (fun hc => ?_) (fun hc => ?_) <;> (try simp only [Bool.and_eq_true, Bool.or_eq_true, Bool.not_eq_true', Bool.not_eq_false', Bool.and_eq_false_iff, Bool.or_eq_false_iff, Bool.and_eq_false_imp, decide_eq_true_eq, decide_eq_false_iff_not, Decidable.not_not, Int.not_lt, Int.not_le, ne_eq, Bool.not_not] at hc) <;> try (first | (exfalso; omega) | (cases hc; done))) | refine AW.exit ?_ | refine AW.ret ?_ | (clear hK; refine hK _ ?_; clear hK) | refine AW.region (id := 3) ?_ | refine AW.region (id := 21) ?_ | refine Run.p rfl rfl rfl (OpP.mvA rfl) ?_ | refine Run.ri rfl rfl rfl (OpRI.lenA rfl rfl) rfl ?_ | refine Run.p rfl rfl rfl (OpP.decT (OpP.eq rfl rfl rfl) (by assumption)) ?_ | refine Run.p rfl rfl rfl (OpP.asA rfl) ?_ | refine Run.p rfl rfl rfl (OpP.decF (OpP.ltt rfl rfl rfl) (by assumption)) ?_ | refine Run.p rfl rfl rfl (OpP.decF (OpP.eq rfl rfl rfl) (by assumption)) ?_ | refine Run.p rfl rfl rfl (OpP.decF (OpP.lee rfl rfl rfl) (by assumption)) ?_ | refine Run.p rfl rfl rfl (OpP.pickA rfl rfl) ?_ | refine Run.fin rfl ?_))
        ((first | refine RetOk.tupS [] rfl rfl rfl rfl rfl ?_ ?_ | refine RetOk.oneS [] rfl rfl rfl rfl ?_ ?_) <;> (repeat' (first | exact RetC.nil | exact Cv.refl | exact Crs.nil | refine RetC.tmp (by (conv => lhs; whnf) <;> rfl) ?_ ?_)))
    · have hd' : ¬ (d : Int) = 1 := by omega
      obtain rfl : R = false := by rw [← hR, decide_eq_false h0, decide_eq_false hd]; simp
      (repeat' (first | refine AW.seq_k (fun K hK => ?_) | (refine hK _ ?_; clear hK) | (refine AW.cond rfl (fun hc => ?_) (fun hc => ?_) <;> (try simp only [Bool.and_eq_true, Bool.or_eq_true, Bool.not_eq_true', Bool.not_eq_false', Bool.and_eq_false_iff, Bool.or_eq_false_iff, Bool.and_eq_false_imp, decide_eq_true_eq, decide_eq_false_iff_not, Decidable.not_not, Int.not_lt, Int.not_le, ne_eq, Bool.not_not] at hc) <;> try (first | (exfalso; omega) | (cases hc; done))) | refine AW.exit ?_ | refine AW.ret ?_ | (clear hK; refine hK _ ?_; clear hK) | refine AW.region (id := 3) ?_ | refine AW.region (id := 21) ?_ | refine Run.p rfl rfl rfl (OpP.mvA rfl) ?_ | refine Run.ri rfl rfl rfl (OpRI.lenA rfl rfl) rfl ?_ | refine Run.p rfl rfl rfl (OpP.asA rfl) ?_ | refine Run.p rfl rfl rfl (OpP.decF (OpP.ltt rfl rfl rfl) (by assumption)) ?_ | refine Run.p rfl rfl rfl (OpP.decF (OpP.eq rfl rfl rfl) (by assumption)) ?_ | refine Run.p rfl rfl rfl (OpP.pickA rfl rfl) ?_ | refine Run.sk rfl rfl rfl ?_ | refine Run.fin rfl ?_))
      ((first | refine RetOk.tupS [] rfl rfl rfl rfl rfl ?_ ?_ | refine RetOk.oneS [] rfl rfl rfl rfl ?_ ?_) <;> (repeat' (first | exact RetC.nil | exact Cv.refl | exact Crs.nil | refine RetC.tmp (by (conv => lhs; whnf) <;> rfl) ?_ ?_)))
end Go.Proofs.Ytpacgphnpalepaa
