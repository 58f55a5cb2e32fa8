/-
  Walks of the reference's rules: proper conditions.
-/
import Derived.Test.YtbbcokckealagaaGreatQAA
import Derived.Test.YtbbcokckealagaaGreatQAN
namespace Go.Proofs.YtbbcokckealagaaGreat
set_option linter.unusedVariables false
set_option linter.unusedSimpArgs false
theorem properF_eq (c : List Tm) : properF c = (match foldN 0 c with | none => false | some d => decide (c.length = 0) || (decide (d = 1) && decide (c.length ≤ 16))) := by
  rw [properF, foldNE]
  cases c with
  | nil => rfl
  | cons t r =>
    by_cases h : 16 < (t :: r).length
    · rw [if_pos h]
      cases foldN 0 (t :: r) with
      | none => simp
      | some d => simp only [List.length_cons] at h; simp; omega
    · rw [if_neg h]
      cases foldN 0 (t :: r) with
      | none => simp
      | some d => simp only [List.length_cons] at h; simp; omega
set_option maxHeartbeats 4000000 in
theorem rproper_c (f : Bool) (c : List Tm) (hc : c.length ≤ 1000000) (hn : ∀ t ∈ c, t.2.length ≤ 9223372036854775807) : ACalls Tryz.prog 154 [.sl 2 (tmP c) f] [] (.v (.bool (properF c))) [] := by
  generalize hR : properF c = R
  rw [properF_eq] at hR
  have hcl : (tmP c).length = c.length := by simp
  refine (ACalls.of (fn := Tryz.f154) Tryz.func154 O O Tryz.ntmps154 (fun I M w own => ?_))
  (repeat' (first|refine AW.seq_k (fun K hK=>?_)|(refine hK _ ?_;clear hK)|refine AW.block ?_|refine AW.rI [0, 1, 2] O ?_|refine UA ?_|fail))
  refine AW.loopF (X := Nat × Nat) (fun y => ⟨[(0, .sl 2 (tmP c) f), (3, .v (.int .i64 (y.2 : Int))), (4, .v (.int .i64 (y.1 : Int)))], []⟩)
    (fun y => y.1 ≤ c.length ∧ y.2 ≤ y.1 ∧ foldN 0 c = foldN y.2 (c.drop y.1)) (fun y => c.length - y.1) (0, 0) ?_ ⟨Nat.zero_le _, Nat.le_refl _, rfl⟩ ?_
  · refine Conv.mk [] O O O ?_ O ?_
    · (repeat' (first|exact V0|refine V3 ?_|refine V2 ?_ ?_|fail))
    · (repeat' (first|exact V0|refine V3 ?_|refine V2 ?_ ?_|fail))
  rintro ⟨j, d⟩ ⟨h1, h2, h3⟩
  simp only at h1 h2 h3 ⊢
  rcases Nat.lt_or_ge j c.length with h | h
  · obtain ⟨t, ht⟩ : ∃ t, c[j]? = some t := ⟨c[j], by simp [h]⟩
    have hdr : c.drop j = t :: c.drop (j + 1) := by
      rw [List.drop_eq_getElem_cons h]
      congr 1
      simpa [h] using ht
    rw [hdr, foldN] at h3
    have hnl := hn t (List.mem_of_getElem? ht)
    have hA : At (tmP c) (j : Int) [PV.v (.int .i64 t.1), PV.v (.string (bs t.2))] := At.mk j O (by simp [ht])
    have hna := rName_c t.2 hnl
    obtain ⟨k, nm⟩ := t
    simp only at h3 hnl hA hna
    have hfalse : foldN 0 c = none → R = false := fun e => by rw [← hR, e]
    have hlt : (j : Int) < ((tmP c).length : Int) := by omega
    by_cases k12 : k = 1 ∨ k = 2
    · have hak : arityF k = 0 := by rcases k12 with rfl | rfl <;> rfl
      cases hnb : nameB nm with
      | false =>
        have hbad : badT d (k, nm) = true := by simp [badT, hak, hnb]
        rw [if_pos hbad] at h3
        rw [hnb] at hna
        obtain rfl := hfalse h3
        rcases k12 with k1 | k2
        · (repeat' (first|refine AW.seq_k (fun K hK=>?_)|(refine hK _ ?_;clear hK)|refine AW.uC (fun hc=>?_) (fun hc=>?_)|refine AW.block ?_|refine AW.ret ?_|refine AW.skip ?_|exact trivial|refine AW.rI [3, 5, 6, 7] O ?_|refine Run.c0 hna O O O O O O O O ?_|refine Ud ?_|fail))
          ((first|refine RetOk.tupS [] O O O O O ?_ ?_|refine RetOk.oneS [] O O O O ?_ ?_)<;>(repeat' (first|exact V0|refine V1 ?_|refine V2 ?_ ?_|fail)))
        · have k1 : ¬ k = 1 := by omega
          (repeat' (first|refine AW.seq_k (fun K hK=>?_)|(refine hK _ ?_;clear hK)|refine AW.uC (fun hc=>?_) (fun hc=>?_)|refine AW.block ?_|refine AW.ret ?_|refine AW.skip ?_|exact trivial|refine AW.rI [3, 5, 6, 7] O ?_|refine Run.c0 hna O O O O O O O O ?_|refine Ud ?_|fail))
          ((first|refine RetOk.tupS [] O O O O O ?_ ?_|refine RetOk.oneS [] O O O O ?_ ?_)<;>(repeat' (first|exact V0|refine V1 ?_|refine V2 ?_ ?_|fail)))
      | true =>
        have hbad : ¬ badT d (k, nm) = true := by simp [badT, hak, hnb]
        rw [if_neg hbad, hak] at h3
        rw [hnb] at hna
        rcases k12 with k1 | k2
        · (repeat' (first|refine AW.seq_k (fun K hK=>?_)|(refine hK _ ?_;clear hK)|refine AW.uC (fun hc=>?_) (fun hc=>?_)|refine AW.block ?_|refine AW.skip ?_|exact trivial|refine AW.rI [3, 5, 6, 8, 10, 12, 4] O ?_|refine Run.c0 hna O O O O O O O O ?_|refine Ud ?_|fail))
          ((repeat (with_reducible refine inB_n ?_)); refine thenA_n ?_)
          refine ⟨(j + 1, d + 1), ⟨by simp only; omega, by simp only; omega, h3⟩, by simp only; omega, ?_⟩
          refine Conv.mk [] O O O ?_ O ?_
          · (repeat' (first|exact V0|refine V3 ?_|refine V2 ?_ ?_|fail))
            (all_goals (try (first|refine CvL.eq ?_|refine Cv.eq ?_)))
            all_goals simp [AV.ren]
          · (repeat' (first|exact V0|refine V3 ?_|refine V2 ?_ ?_|fail))
        · have k1 : ¬ k = 1 := by omega
          (repeat' (first|refine AW.seq_k (fun K hK=>?_)|(refine hK _ ?_;clear hK)|refine AW.uC (fun hc=>?_) (fun hc=>?_)|refine AW.block ?_|refine AW.skip ?_|exact trivial|refine AW.rI [3, 5, 6, 8, 10, 11, 12, 4] O ?_|refine Run.c0 hna O O O O O O O O ?_|refine Ud ?_|fail))
          ((repeat (with_reducible refine inB_n ?_)); refine thenA_n ?_)
          refine ⟨(j + 1, d + 1), ⟨by simp only; omega, by simp only; omega, h3⟩, by simp only; omega, ?_⟩
          refine Conv.mk [] O O O ?_ O ?_
          · (repeat' (first|exact V0|refine V3 ?_|refine V2 ?_ ?_|fail))
            (all_goals (try (first|refine CvL.eq ?_|refine Cv.eq ?_)))
            all_goals simp [AV.ren]
          · (repeat' (first|exact V0|refine V3 ?_|refine V2 ?_ ?_|fail))
    have k1 : ¬ k = 1 := by omega
    have k2 : ¬ k = 2 := by omega
    by_cases hne : nm ≠ []
    · have hbad : badT d (k, nm) = true := by
        have : arityF k < 0 ∨ 0 < arityF k := by
          rw [arityF, if_neg k12]
          split
          · omega
          · split <;> omega
        rcases this with h | h <;> simp [badT, h, hne]
      rw [if_pos hbad] at h3
      obtain rfl := hfalse h3
      (repeat' (first|refine AW.seq_k (fun K hK=>?_)|(refine hK _ ?_;clear hK)|refine AW.uC (fun hc=>?_) (fun hc=>?_)|refine AW.block ?_|refine AW.ret ?_|refine AW.skip ?_|exact trivial|refine AW.rI [3, 5, 6, 7] O ?_|refine Ud ?_|fail))
      ((first|refine RetOk.tupS [] O O O O O ?_ ?_|refine RetOk.oneS [] O O O O ?_ ?_)<;>(repeat' (first|exact V0|refine V1 ?_|refine V2 ?_ ?_|fail)))
    have hnm : nm = [] := by simpa using hne
    by_cases k3 : k = 3
    · have hak : arityF k = 1 := by subst k3; rfl
      by_cases hd : (d : Int) < 1
      · have hbad : badT d (k, nm) = true := by simp [badT, hak, hd]
        rw [if_pos hbad] at h3
        obtain rfl := hfalse h3
        (repeat' (first|refine AW.seq_k (fun K hK=>?_)|(refine hK _ ?_;clear hK)|refine AW.uC (fun hc=>?_) (fun hc=>?_)|refine AW.block ?_|refine AW.ret ?_|refine AW.skip ?_|exact trivial|refine AW.rI [3, 5, 6, 8, 10, 11, 13, 14, 15] O ?_|refine Ud ?_|fail))
        ((first|refine RetOk.tupS [] O O O O O ?_ ?_|refine RetOk.oneS [] O O O O ?_ ?_)<;>(repeat' (first|exact V0|refine V1 ?_|refine V2 ?_ ?_|fail)))
      · have hbad : ¬ badT d (k, nm) = true := by simp only [badT, hak, hnm]; simp; omega
        rw [if_neg hbad, hak, show d - Int.toNat 1 + 1 = d by omega] at h3
        (repeat' (first|refine AW.seq_k (fun K hK=>?_)|(refine hK _ ?_;clear hK)|refine AW.uC (fun hc=>?_) (fun hc=>?_)|refine AW.block ?_|refine AW.skip ?_|exact trivial|refine AW.rI [3, 5, 6, 8, 10, 11, 13, 14, 4] O ?_|refine Ud ?_|fail))
        ((repeat (with_reducible refine inB_n ?_)); refine thenA_n ?_)
        refine ⟨(j + 1, d), ⟨by simp only; omega, by simp only; omega, h3⟩, by simp only; omega, ?_⟩
        refine Conv.mk [] O O O ?_ O ?_
        · (repeat' (first|exact V0|refine V3 ?_|refine V2 ?_ ?_|fail))
          (all_goals (try (first|refine CvL.eq ?_|refine Cv.eq ?_)))
          all_goals simp [AV.ren]
        · (repeat' (first|exact V0|refine V3 ?_|refine V2 ?_ ?_|fail))
    by_cases k45 : k = 4 ∨ k = 5
    · have hak : arityF k = 2 := by rcases k45 with rfl | rfl <;> rfl
      by_cases hd : (d : Int) < 2
      · have hbad : badT d (k, nm) = true := by simp [badT, hak, hd]
        rw [if_pos hbad] at h3
        obtain rfl := hfalse h3
        rcases k45 with k4 | k5
        · (repeat' (first|refine AW.seq_k (fun K hK=>?_)|(refine hK _ ?_;clear hK)|refine AW.uC (fun hc=>?_) (fun hc=>?_)|refine AW.block ?_|refine AW.ret ?_|refine AW.skip ?_|exact trivial|refine AW.rI [3, 5, 6, 8, 10, 11, 13, 16, 18, 19] O ?_|refine Ud ?_|fail))
          ((first|refine RetOk.tupS [] O O O O O ?_ ?_|refine RetOk.oneS [] O O O O ?_ ?_)<;>(repeat' (first|exact V0|refine V1 ?_|refine V2 ?_ ?_|fail)))
        · have k4 : ¬ k = 4 := by omega
          (repeat' (first|refine AW.seq_k (fun K hK=>?_)|(refine hK _ ?_;clear hK)|refine AW.uC (fun hc=>?_) (fun hc=>?_)|refine AW.block ?_|refine AW.ret ?_|refine AW.skip ?_|exact trivial|refine AW.rI [3, 5, 6, 8, 10, 11, 13, 16, 17, 18, 19] O ?_|refine Ud ?_|fail))
          ((first|refine RetOk.tupS [] O O O O O ?_ ?_|refine RetOk.oneS [] O O O O ?_ ?_)<;>(repeat' (first|exact V0|refine V1 ?_|refine V2 ?_ ?_|fail)))
      · have hbad : ¬ badT d (k, nm) = true := by simp only [badT, hak, hnm]; simp; omega
        rw [if_neg hbad, hak, show d - Int.toNat 2 + 1 = d - 1 by omega] at h3
        have hd1 : ((d - 1 : Nat) : Int) = (d : Int) - 1 := by omega
        rcases k45 with k4 | k5
        · (repeat' (first|refine AW.seq_k (fun K hK=>?_)|(refine hK _ ?_;clear hK)|refine AW.uC (fun hc=>?_) (fun hc=>?_)|refine AW.block ?_|refine AW.skip ?_|exact trivial|refine AW.rI [3, 5, 6, 8, 10, 11, 13, 16, 18, 20, 4] O ?_|refine Ud ?_|fail))
          ((repeat (with_reducible refine inB_n ?_)); refine thenA_n ?_)
          refine ⟨(j + 1, d - 1), ⟨by simp only; omega, by simp only; omega, h3⟩, by simp only; omega, ?_⟩
          refine Conv.mk [] O O O ?_ O ?_
          · (repeat' (first|exact V0|refine V3 ?_|refine V2 ?_ ?_|fail))
            (all_goals (try (first|refine CvL.eq ?_|refine Cv.eq ?_)))
            all_goals simp [AV.ren, hd1]
          · (repeat' (first|exact V0|refine V3 ?_|refine V2 ?_ ?_|fail))
        · have k4 : ¬ k = 4 := by omega
          (repeat' (first|refine AW.seq_k (fun K hK=>?_)|(refine hK _ ?_;clear hK)|refine AW.uC (fun hc=>?_) (fun hc=>?_)|refine AW.block ?_|refine AW.skip ?_|exact trivial|refine AW.rI [3, 5, 6, 8, 10, 11, 13, 16, 17, 18, 20, 4] O ?_|refine Ud ?_|fail))
          ((repeat (with_reducible refine inB_n ?_)); refine thenA_n ?_)
          refine ⟨(j + 1, d - 1), ⟨by simp only; omega, by simp only; omega, h3⟩, by simp only; omega, ?_⟩
          refine Conv.mk [] O O O ?_ O ?_
          · (repeat' (first|exact V0|refine V3 ?_|refine V2 ?_ ?_|fail))
            (all_goals (try (first|refine CvL.eq ?_|refine Cv.eq ?_)))
            all_goals simp [AV.ren, hd1]
          · (repeat' (first|exact V0|refine V3 ?_|refine V2 ?_ ?_|fail))
    · have k4 : ¬ k = 4 := by omega
      have k5 : ¬ k = 5 := by omega
      have hbad : badT d (k, nm) = true := by simp [badT, arityF, k1, k2, k3, k4, k5]
      rw [if_pos hbad] at h3
      obtain rfl := hfalse h3
      (repeat' (first|refine AW.seq_k (fun K hK=>?_)|(refine hK _ ?_;clear hK)|refine AW.uC (fun hc=>?_) (fun hc=>?_)|refine AW.block ?_|refine AW.ret ?_|refine AW.skip ?_|exact trivial|refine AW.rI [3, 5, 6, 8, 10, 11, 13, 16, 17, 9] O ?_|refine Ud ?_|fail))
      ((first|refine RetOk.tupS [] O O O O O ?_ ?_|refine RetOk.oneS [] O O O O ?_ ?_)<;>(repeat' (first|exact V0|refine V1 ?_|refine V2 ?_ ?_|fail)))
  · rw [List.drop_eq_nil_of_le h, foldN] at h3
    rw [h3] at hR
    simp only at hR
    have hge : ¬ (j : Int) < ((tmP c).length : Int) := by omega
    by_cases h0 : c.length = 0
    · have hz : ((tmP c).length : Int) = 0 := by omega
      obtain rfl : R = true := by rw [← hR]; simp [h0]
      (repeat' (first|refine AW.seq_k (fun K hK=>?_)|(refine hK _ ?_;clear hK)|refine AW.uC (fun hc=>?_) (fun hc=>?_)|refine AW.exit ?_|refine AW.ret ?_|(clear hK;refine hK _ ?_;clear hK)|exact trivial|refine AW.rI [3, 21] O ?_|refine Ud ?_|fail))
      ((first|refine RetOk.tupS [] O O O O O ?_ ?_|refine RetOk.oneS [] O O O O ?_ ?_)<;>(repeat' (first|exact V0|refine V1 ?_|refine V2 ?_ ?_|fail)))
    have hz : ¬ ((tmP c).length : Int) = 0 := by omega
    by_cases hd : d = 1
    · have hd' : (d : Int) = 1 := by omega
      by_cases hm : c.length ≤ 16
      · have hm' : ((tmP c).length : Int) ≤ 16 := by omega
        obtain rfl : R = true := by rw [← hR]; simp [hm, hd]
        (repeat' (first|refine AW.seq_k (fun K hK=>?_)|(refine hK _ ?_;clear hK)|refine AW.uC (fun hc=>?_) (fun hc=>?_)|refine AW.exit ?_|refine AW.ret ?_|(clear hK;refine hK _ ?_;clear hK)|exact trivial|refine AW.rI [3, 21] O ?_|refine Ud ?_|fail))
        ((first|refine RetOk.tupS [] O O O O O ?_ ?_|refine RetOk.oneS [] O O O O ?_ ?_)<;>(repeat' (first|exact V0|refine V1 ?_|refine V2 ?_ ?_|fail)))
      · have hm' : ¬ ((tmP c).length : Int) ≤ 16 := by omega
        obtain rfl : R = false := by rw [← hR, decide_eq_false h0, decide_eq_false hm]; simp
        (repeat' (first|refine AW.seq_k (fun K hK=>?_)|(refine hK _ ?_;clear hK)|refine AW.uC (fun hc=>?_) (fun hc=>?_)|refine AW.exit ?_|refine AW.ret ?_|(clear hK;refine hK _ ?_;clear hK)|exact trivial|refine AW.rI [3, 21] O ?_|refine Ud ?_|fail))
        ((first|refine RetOk.tupS [] O O O O O ?_ ?_|refine RetOk.oneS [] O O O O ?_ ?_)<;>(repeat' (first|exact V0|refine V1 ?_|refine V2 ?_ ?_|fail)))
    · have hd' : ¬ (d : Int) = 1 := by omega
      obtain rfl : R = false := by rw [← hR, decide_eq_false h0, decide_eq_false hd]; simp
      (repeat' (first|refine AW.seq_k (fun K hK=>?_)|(refine hK _ ?_;clear hK)|refine AW.uC (fun hc=>?_) (fun hc=>?_)|refine AW.exit ?_|refine AW.ret ?_|(clear hK;refine hK _ ?_;clear hK)|exact trivial|refine AW.rI [3, 21] O ?_|refine Ud ?_|fail))
      ((first|refine RetOk.tupS [] O O O O O ?_ ?_|refine RetOk.oneS [] O O O O ?_ ?_)<;>(repeat' (first|exact V0|refine V1 ?_|refine V2 ?_ ?_|fail)))
set_option maxHeartbeats 4000000 in
theorem rvalid_c (f : Bool) (r : Ru) (hc : r.cond.length ≤ 1000000) (hn : ∀ t ∈ r.cond, t.2.length ≤ 9223372036854775807) (h1 : r.hd.role.length ≤ 9223372036854775807) (h2 : r.hd.cls.length ≤ 9223372036854775807) :
    ACalls Tryz.prog 133 [.agg (ruC r f)] [] (.v (.bool (validF r))) [] := by
  generalize hR : validF r = R
  rw [validF] at hR
  have hp := rproper_c f r.cond hc hn
  have hna := rName_c r.hd.role h1
  have hnc := rName_c r.hd.cls h2
  obtain ⟨⟨kind, role, cls, pct⟩, cond⟩ := r
  simp only at hR hp hna hnc
  show ACalls Tryz.prog 133 [.agg [.v (.int .i64 kind), .v (.string (bs role)), .v (.string (bs cls)), .v (.int .i64 pct), .sl 2 (tmP cond) f]] [] (.v (.bool R)) []
  refine (ACalls.of (fn := Tryz.f133) Tryz.func133 O O Tryz.ntmps133 (fun I M w own => ?_))
  cases hq : properF cond with
  | false =>
    rw [hq] at hp hR
    rw [if_neg (by simp)] at hR
    subst hR
    (repeat' (first|refine AW.seq_k (fun K hK=>?_)|(refine hK _ ?_;clear hK)|refine AW.uC (fun hc=>?_) (fun hc=>?_)|refine AW.ret ?_|exact trivial|refine AW.rI [0, 1, 2] O ?_|refine Run.c0 hp O O O O O O O O ?_|refine Ud ?_|fail))
    ((first|refine RetOk.tupS [] O O O O O ?_ ?_|refine RetOk.oneS [] O O O O ?_ ?_)<;>(repeat' (first|exact V0|refine V1 ?_|refine V2 ?_ ?_|fail)))
  | true =>
    rw [hq] at hp hR
    cases hq2 : nameB role with
    | false =>
      rw [hq2] at hna hR
      rw [if_neg (by simp)] at hR
      subst hR
      (repeat' (first|refine AW.seq_k (fun K hK=>?_)|(refine hK _ ?_;clear hK)|refine AW.uC (fun hc=>?_) (fun hc=>?_)|refine AW.ret ?_|exact trivial|refine AW.rI [0, 1, 2] O ?_|refine Run.c0 hp O O O O O O O O ?_|refine Run.c0 hna O O O O O O O O ?_|refine Ud ?_|fail))
      ((first|refine RetOk.tupS [] O O O O O ?_ ?_|refine RetOk.oneS [] O O O O ?_ ?_)<;>(repeat' (first|exact V0|refine V1 ?_|refine V2 ?_ ?_|fail)))
    | true =>
      rw [hq2] at hna hR
      rw [if_pos (by simp)] at hR
      by_cases k1 : kind = 1
      · rw [if_pos k1] at hR
        subst k1
        cases hq3 : nameB cls with
        | false =>
          rw [hq3] at hnc hR
          subst hR
          (repeat' (first|refine AW.seq_k (fun K hK=>?_)|(refine hK _ ?_;clear hK)|refine AW.uC (fun hc=>?_) (fun hc=>?_)|refine AW.skip ?_|exact trivial|refine AW.rI [0, 1] O ?_|refine Run.c0 hp O O O O O O O O ?_|refine Run.c0 hna O O O O O O O O ?_|refine Ud ?_|fail))
          (repeat' (first|refine AW.seq_k (fun K hK=>?_)|(refine hK _ ?_;clear hK)|refine AW.uC (fun hc=>?_) (fun hc=>?_)|refine AW.block ?_|refine AW.ret ?_|exact trivial|refine AW.rI [3, 4, 5] O ?_|refine Run.c0 hnc O O O O O O O O ?_|refine Ud ?_|fail))
          ((first|refine RetOk.tupS [] O O O O O ?_ ?_|refine RetOk.oneS [] O O O O ?_ ?_)<;>(repeat' (first|exact V0|refine V1 ?_|refine V2 ?_ ?_|fail)))
        | true =>
          rw [hq3] at hnc hR
          subst hR
          (repeat' (first|refine AW.seq_k (fun K hK=>?_)|(refine hK _ ?_;clear hK)|refine AW.uC (fun hc=>?_) (fun hc=>?_)|refine AW.skip ?_|exact trivial|refine AW.rI [0, 1] O ?_|refine Run.c0 hp O O O O O O O O ?_|refine Run.c0 hna O O O O O O O O ?_|refine Ud ?_|fail))
          (repeat' (first|refine AW.seq_k (fun K hK=>?_)|(refine hK _ ?_;clear hK)|refine AW.uC (fun hc=>?_) (fun hc=>?_)|refine AW.block ?_|refine AW.ret ?_|exact trivial|refine AW.rI [3, 4, 5] O ?_|refine Run.c0 hnc O O O O O O O O ?_|refine Ud ?_|fail))
          ((first|refine RetOk.tupS [] O O O O O ?_ ?_|refine RetOk.oneS [] O O O O ?_ ?_)<;>(repeat' (first|exact V0|refine V1 ?_|refine V2 ?_ ?_|fail)))
      rw [if_neg k1] at hR
      by_cases k2 : kind = 2
      · rw [if_pos k2] at hR
        rw [show ((decide (cls = []) && decide (0 ≤ pct)) && decide (pct ≤ 100)) = ((decide (pct ≥ 0) && decide (pct ≤ 100)) && decide (cls = [])) by rw [Bool.and_assoc, Bool.and_comm]] at hR
        subst k2 hR
        (repeat' (first|refine AW.seq_k (fun K hK=>?_)|(refine hK _ ?_;clear hK)|refine AW.uC (fun hc=>?_) (fun hc=>?_)|refine AW.skip ?_|exact trivial|refine AW.rI [0, 1] O ?_|refine Run.c0 hp O O O O O O O O ?_|refine Run.c0 hna O O O O O O O O ?_|refine Ud ?_|fail))
        (repeat' (first|refine AW.seq_k (fun K hK=>?_)|(refine hK _ ?_;clear hK)|refine AW.uC (fun hc=>?_) (fun hc=>?_)|refine AW.block ?_|refine AW.ret ?_|exact trivial|refine AW.rI [3, 4, 6, 7] O ?_|refine Ud ?_|fail))
        ((first|refine RetOk.tupS [] O O O O O ?_ ?_|refine RetOk.oneS [] O O O O ?_ ?_)<;>(repeat' (first|exact V0|refine V1 ?_|refine V2 ?_ ?_|fail)))
      rw [if_neg k2] at hR
      by_cases k3 : kind = 3
      · rw [if_pos k3] at hR
        subst k3 hR
        (repeat' (first|refine AW.seq_k (fun K hK=>?_)|(refine hK _ ?_;clear hK)|refine AW.uC (fun hc=>?_) (fun hc=>?_)|refine AW.skip ?_|exact trivial|refine AW.rI [0, 1] O ?_|refine Run.c0 hp O O O O O O O O ?_|refine Run.c0 hna O O O O O O O O ?_|refine Ud ?_|fail))
        (repeat' (first|refine AW.seq_k (fun K hK=>?_)|(refine hK _ ?_;clear hK)|refine AW.uC (fun hc=>?_) (fun hc=>?_)|refine AW.block ?_|refine AW.ret ?_|exact trivial|refine AW.rI [3, 4, 6, 8, 9] O ?_|refine Ud ?_|fail))
        ((first|refine RetOk.tupS [] O O O O O ?_ ?_|refine RetOk.oneS [] O O O O ?_ ?_)<;>(repeat' (first|exact V0|refine V1 ?_|refine V2 ?_ ?_|fail)))
      rw [if_neg k3] at hR
      subst hR
      (repeat' (first|refine AW.seq_k (fun K hK=>?_)|(refine hK _ ?_;clear hK)|refine AW.uC (fun hc=>?_) (fun hc=>?_)|refine AW.skip ?_|exact trivial|refine AW.rI [0, 1] O ?_|refine Run.c0 hp O O O O O O O O ?_|refine Run.c0 hna O O O O O O O O ?_|refine Ud ?_|fail))
      (repeat' (first|refine AW.seq_k (fun K hK=>?_)|(refine hK _ ?_;clear hK)|refine AW.uC (fun hc=>?_) (fun hc=>?_)|refine AW.block ?_|refine AW.ret ?_|refine AW.skip ?_|exact trivial|refine AW.rI [3, 4, 6, 8, 10] O ?_|refine Ud ?_|fail))
      ((first|refine RetOk.tupS [] O O O O O ?_ ?_|refine RetOk.oneS [] O O O O ?_ ?_)<;>(repeat' (first|exact V0|refine V1 ?_|refine V2 ?_ ?_|fail)))
end Go.Proofs.YtbbcokckealagaaGreat
