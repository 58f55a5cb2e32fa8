/-
  Walk of the reference's Number.
-/
import Derived.Test.YtbbcokckealagaaGreatQAA
import Derived.Test.YtbbcokckealagaaGreatQAF
namespace Go.Proofs.YtbbcokckealagaaGreat
set_option linter.unusedVariables false
set_option linter.unusedSimpArgs false
def Relm (n m : Int) : Prop := (n ≤ 9007199254740992 ∧ m = n) ∨ (9007199254740992 < n ∧ 9007199254740992 < m)
theorem Relm.step {n m d : Int} (h : Relm n m) (h0 : 0 ≤ d) (h1 : d ≤ 9) (hm : 0 ≤ m := by omega) : Relm (if n ≤ 9007199254740992 then 10 * n + d else n) (Min.min (m * 10 + d) 18014398509481984) := by
  unfold Relm at *
  split <;> omega
theorem Relm.big {n m : Int} (h : Relm n m) (hm : 9007199254740992 < m) : 9007199254740992 < n := by unfold Relm at h; omega
theorem Relm.small {n m : Int} (h : Relm n m) (hm : ¬ 9007199254740992 < m) : n = m ∧ n ≤ 9007199254740992 := by unfold Relm at h; omega
set_option maxHeartbeats 4000000 in
theorem rNumber_0 : ACalls Tryz.prog 130 [.v (.string (bs ([] : List UInt8)))] [] (.tup [.v (.int .i64 (numberP ([] : List UInt8)).1), .v (.int .i64 (numberP ([] : List UInt8)).2)]) [] := by
  generalize he : numberP ([] : List UInt8) = r
  have hF : (!decide (([] : List UInt8) = [])) = true → ([] : List UInt8)[(0 : Int).toNat]? = some 0 := by simp
  refine (ACalls.of (fn := Tryz.f130) Tryz.func130 O O Tryz.ntmps130 (fun I M w own => ?_))
  (repeat' (first|refine AW.seq_k (fun K hK=>?_)|(refine hK _ ?_;clear hK)|refine AW.uC (fun hc=>?_) (fun hc=>?_)|refine AW.ret ?_|refine AW.skip ?_|exact trivial|refine AW.rI [0, 1, 2, 4, 5] O ?_|refine UA ?_|fail))
  all_goals subst he
  ((first|refine RetOk.tup O O ?_|refine RetOk.one O ?_)<;>(repeat' (first|exact V0|refine V1 ?_|refine V2 ?_ ?_|fail)))
set_option maxHeartbeats 4000000 in
theorem rNumber_m (c : UInt8) (hc0 : (c.toNat : Int) = 45) : ACalls Tryz.prog 130 [.v (.string (bs ([c])))] [] (.tup [.v (.int .i64 (numberP ([c])).1), .v (.int .i64 (numberP ([c])).2)]) [] := by
  generalize he : numberP [c] = r
  have hF : [c][(0 : Int).toNat]? = some c := rfl
  have hF2 : (!decide (List.drop (Int.toNat 1) [c] = [])) = true → (List.drop (Int.toNat 1) [c])[(0 : Int).toNat]? = some 0 := by simp
  simp only [numberP, if_pos hc0, numD] at he
  refine (ACalls.of (fn := Tryz.f130) Tryz.func130 O O Tryz.ntmps130 (fun I M w own => ?_))
  (repeat' (first|refine AW.seq_k (fun K hK=>?_)|(refine hK _ ?_;clear hK)|refine AW.uC (fun hc=>?_) (fun hc=>?_)|refine AW.ret ?_|exact trivial|refine AW.rI [0, 1, 2, 3, 4, 5] O ?_|refine UA ?_|fail))
  all_goals subst he
  ((first|refine RetOk.tup O O ?_|refine RetOk.one O ?_)<;>(repeat' (first|exact V0|refine V1 ?_|refine V2 ?_ ?_|fail)))
set_option maxHeartbeats 4000000 in
theorem rNumber_n (c e : UInt8) (t : List UInt8) (hs : (c :: e :: t).length ≤ 1099511627776) (hc0 : (c.toNat : Int) = 45) : ACalls Tryz.prog 130 [.v (.string (bs (c :: e :: t)))] [] (.tup [.v (.int .i64 (numberP (c :: e :: t)).1), .v (.int .i64 (numberP (c :: e :: t)).2)]) [] := by
  generalize he : numberP (c :: e :: t) = r
  have hF : (c :: e :: t)[(0 : Int).toNat]? = some c := rfl
  have hF2 : (List.drop (Int.toNat 1) (c :: e :: t))[(0 : Int).toNat]? = some e := rfl
  have hL : (c :: e :: t).length = t.length + 2 := rfl
  have hL2 : (e :: t).length = t.length + 1 := rfl
  simp only [numberP, if_pos hc0, numD] at he
  have hL3 : (List.drop (Int.toNat 1) (c :: e :: t)).length = t.length + 1 := rfl
  have hdd : dig (List.drop (Int.toNat 1) (c :: e :: t)) 0 = dig (e :: t) 0 := rfl
  refine (ACalls.of (fn := Tryz.f130) Tryz.func130 O O Tryz.ntmps130 (fun I M w own => ?_))
  (repeat' (first|refine AW.seq_k (fun K hK=>?_)|(refine hK _ ?_;clear hK)|refine AW.uC (fun hc=>?_) (fun hc=>?_)|refine AW.block ?_|refine AW.ret ?_|refine AW.skip ?_|exact trivial|refine AW.rI [0, 1, 2, 3, 4, 5, 6, 7] O ?_|refine UA ?_|fail))
  · have h48 : (e.toNat : Int) = 48 := by
      rcases hc with hc | ⟨_, hc⟩
      · exact hc.2
      · have : e :: t = [48] := hc
        injection this with e1 _
        rw [e1]; rfl
    rw [if_pos ⟨h48, .inr trivial⟩] at he
    subst he
    ((first|refine RetOk.tup O O ?_|refine RetOk.one O ?_)<;>(repeat' (first|exact V0|refine V1 ?_|refine V2 ?_ ?_|fail)))
  · rw [if_neg (by
      rintro ⟨q1, _⟩
      rcases hc with ⟨q2 | q2, q3⟩
      · rcases t with _ | ⟨f, t⟩
        · rcases q3 with q3 | q3
          · cases q3
          · refine q3 ?_
            have : e = 48 := UInt8.toNat_inj.1 (by simpa using (by omega : e.toNat = 48))
            rw [this]; rfl
        · simp at q2; omega
      · exact q2 q1), ← hdd] at he
    refine AW.loopF (X := Nat × Int) (fun x => ⟨[(4, .v (.string (bs (List.drop (Int.toNat 1) (c :: e :: t))))), (5, .v (.bool true)), (6, .v (.int .i64 x.2)), (7, .v (.int .i64 (x.1 : Int)))], []⟩)
      (fun x => x.1 ≤ (List.drop (Int.toNat 1) (c :: e :: t)).length ∧ 0 ≤ x.2 ∧ x.2 ≤ 18014398509481984 ∧ ∃ n, dig (List.drop (Int.toNat 1) (c :: e :: t)) 0 = dig ((List.drop (Int.toNat 1) (c :: e :: t)).drop x.1) n ∧ Relm n x.2) (fun x => (List.drop (Int.toNat 1) (c :: e :: t)).length - x.1) (0, 0) ?_ ?_ ?_
    · refine Conv.mk [] O O O ?_ O ?_
      (repeat' (first|exact V0|refine V3 ?_|refine V2 ?_ ?_|fail))
      (all_goals (try (first|refine CvL.eq ?_|refine Cv.eq ?_)))
      all_goals (simp [AV.ren]; try omega)
    · exact ⟨Nat.zero_le _, by simp only; omega, by simp only; omega, 0, rfl, .inl ⟨by omega, rfl⟩⟩
    · rintro ⟨i, m⟩ ⟨h1, h3, h4, n, h2, h5⟩
      simp only at h1 h2 h3 h4 h5 ⊢
      rcases Nat.lt_or_ge i ((List.drop (Int.toNat 1) (c :: e :: t))).length with h | h
      · obtain ⟨x, hx⟩ : ∃ x, ((List.drop (Int.toNat 1) (c :: e :: t)))[i] = x := ⟨_, rfl⟩
        have hG : ((List.drop (Int.toNat 1) (c :: e :: t)))[(i : Int).toNat]? = some x := by rw [Int.toNat_natCast, List.getElem?_eq_getElem h, hx]
        have hd : ((List.drop (Int.toNat 1) (c :: e :: t))).drop i = x :: ((List.drop (Int.toNat 1) (c :: e :: t))).drop (i + 1) := by rw [List.drop_eq_getElem_cons h, hx]
        have hdg : dig (x :: ((List.drop (Int.toNat 1) (c :: e :: t))).drop (i + 1)) n = if 48 ≤ (x.toNat : Int) ∧ (x.toNat : Int) ≤ 57 then dig (((List.drop (Int.toNat 1) (c :: e :: t))).drop (i + 1)) (if n ≤ 9007199254740992 then 10 * n + ((x.toNat : Int) - 48) else n) else none := rfl
        rw [hd, hdg] at h2
        (repeat' (first|refine AW.seq_k (fun K hK=>?_)|(refine hK _ ?_;clear hK)|refine AW.uC (fun hc=>?_) (fun hc=>?_)|refine AW.block ?_|refine AW.ret ?_|refine AW.skip ?_|exact trivial|refine AW.rI [8, 10, 11, 12, 9] O ?_|refine UA ?_|fail))
        · rw [h2, if_neg (by omega)] at he
          subst he
          ((first|refine RetOk.tup O O ?_|refine RetOk.one O ?_)<;>(repeat' (first|exact V0|refine V1 ?_|refine V2 ?_ ?_|fail)))
        · ((repeat (with_reducible refine inB_n ?_)); refine thenA_n ?_)
          rw [if_pos (by omega)] at h2
          refine ⟨(i + 1, Min.min (m * 10 + ((x.toNat : Int) - 48)) 18014398509481984), ⟨h, by simp only; omega, by simp only; omega, _, h2, ?_⟩, by simp only; omega, ?_⟩
          · exact h5.step (by omega) (by omega)
          · refine Conv.mk [] O O O ?_ O ?_
            (repeat' (first|exact V0|refine V3 ?_|refine V2 ?_ ?_|fail))
            (all_goals (try (first|refine CvL.eq ?_|refine Cv.eq ?_)))
            all_goals simp [AV.ren]
      · have hdg : dig [] n = some n := rfl
        rw [List.drop_eq_nil_of_le h, hdg] at h2
        rw [h2] at he
        (repeat' (first|refine AW.seq_k (fun K hK=>?_)|(refine hK _ ?_;clear hK)|refine AW.uC (fun hc=>?_) (fun hc=>?_)|refine AW.exit ?_|refine AW.ret ?_|refine AW.skip ?_|(clear hK;refine hK _ ?_;clear hK)|exact trivial|refine AW.rI [8, 13, 14, 15, 16] O ?_|refine UA ?_|fail))
        · simp only [if_pos (h5.big (by assumption))] at he
          subst he
          ((first|refine RetOk.tup O O ?_|refine RetOk.one O ?_)<;>(repeat' (first|exact V0|refine V1 ?_|refine V2 ?_ ?_|fail)))
        · obtain ⟨e1, e2⟩ := h5.small (by assumption)
          subst e1
          simp only [if_neg (show ¬ 9007199254740992 < n by omega)] at he
          subst he
          ((first|refine RetOk.tup O O ?_|refine RetOk.one O ?_)<;>(repeat' (first|exact V0|refine V1 ?_|refine V2 ?_ ?_|fail)))
set_option maxHeartbeats 4000000 in
theorem rNumber_p (c : UInt8) (t : List UInt8) (hs : (c :: t).length ≤ 1099511627776) (hc0 : ¬ (c.toNat : Int) = 45) : ACalls Tryz.prog 130 [.v (.string (bs (c :: t)))] [] (.tup [.v (.int .i64 (numberP (c :: t)).1), .v (.int .i64 (numberP (c :: t)).2)]) [] := by
  generalize he : numberP (c :: t) = r
  have hF : (c :: t)[(0 : Int).toNat]? = some c := rfl
  have hL : (c :: t).length = t.length + 1 := rfl
  simp only [numberP, if_neg hc0, numD] at he
  refine (ACalls.of (fn := Tryz.f130) Tryz.func130 O O Tryz.ntmps130 (fun I M w own => ?_))
  (repeat' (first|refine AW.seq_k (fun K hK=>?_)|(refine hK _ ?_;clear hK)|refine AW.uC (fun hc=>?_) (fun hc=>?_)|refine AW.block ?_|refine AW.ret ?_|refine AW.skip ?_|exact trivial|refine AW.rI [0, 1, 2, 4, 5, 6, 7] O ?_|refine UA ?_|fail))
  · have h48 : (c.toNat : Int) = 48 ∧ t ≠ [] := by
      rcases hc with hc | hc
      · exact ⟨hc.2, by rintro rfl; simp at hc⟩
      · simp at hc
    rw [if_pos ⟨h48.1, .inl h48.2⟩] at he
    subst he
    ((first|refine RetOk.tup O O ?_|refine RetOk.one O ?_)<;>(repeat' (first|exact V0|refine V1 ?_|refine V2 ?_ ?_|fail)))
  · rw [if_neg (by
      rintro ⟨q1, q2⟩
      cases t <;> simp at hc q2 <;> omega)] at he
    refine AW.loopF (X := Nat × Int) (fun x => ⟨[(4, .v (.string (bs (c :: t)))), (5, .v (.bool false)), (6, .v (.int .i64 x.2)), (7, .v (.int .i64 (x.1 : Int)))], []⟩)
      (fun x => x.1 ≤ (c :: t).length ∧ 0 ≤ x.2 ∧ x.2 ≤ 18014398509481984 ∧ ∃ n, dig (c :: t) 0 = dig ((c :: t).drop x.1) n ∧ Relm n x.2) (fun x => (c :: t).length - x.1) (0, 0) ?_ ?_ ?_
    · refine Conv.mk [] O O O ?_ O ?_
      (repeat' (first|exact V0|refine V3 ?_|refine V2 ?_ ?_|fail))
      (all_goals (try (first|refine CvL.eq ?_|refine Cv.eq ?_)))
      all_goals (simp [AV.ren]; try omega)
    · exact ⟨Nat.zero_le _, by simp only; omega, by simp only; omega, 0, rfl, .inl ⟨by omega, rfl⟩⟩
    · rintro ⟨i, m⟩ ⟨h1, h3, h4, n, h2, h5⟩
      simp only at h1 h2 h3 h4 h5 ⊢
      rcases Nat.lt_or_ge i ((c :: t)).length with h | h
      · obtain ⟨x, hx⟩ : ∃ x, ((c :: t))[i] = x := ⟨_, rfl⟩
        have hG : ((c :: t))[(i : Int).toNat]? = some x := by rw [Int.toNat_natCast, List.getElem?_eq_getElem h, hx]
        have hd : ((c :: t)).drop i = x :: ((c :: t)).drop (i + 1) := by rw [List.drop_eq_getElem_cons h, hx]
        have hdg : dig (x :: ((c :: t)).drop (i + 1)) n = if 48 ≤ (x.toNat : Int) ∧ (x.toNat : Int) ≤ 57 then dig (((c :: t)).drop (i + 1)) (if n ≤ 9007199254740992 then 10 * n + ((x.toNat : Int) - 48) else n) else none := rfl
        rw [hd, hdg] at h2
        (repeat' (first|refine AW.seq_k (fun K hK=>?_)|(refine hK _ ?_;clear hK)|refine AW.uC (fun hc=>?_) (fun hc=>?_)|refine AW.block ?_|refine AW.ret ?_|refine AW.skip ?_|exact trivial|refine AW.rI [8, 10, 11, 12, 9] O ?_|refine UA ?_|fail))
        · rw [h2, if_neg (by omega)] at he
          subst he
          ((first|refine RetOk.tup O O ?_|refine RetOk.one O ?_)<;>(repeat' (first|exact V0|refine V1 ?_|refine V2 ?_ ?_|fail)))
        · ((repeat (with_reducible refine inB_n ?_)); refine thenA_n ?_)
          rw [if_pos (by omega)] at h2
          refine ⟨(i + 1, Min.min (m * 10 + ((x.toNat : Int) - 48)) 18014398509481984), ⟨h, by simp only; omega, by simp only; omega, _, h2, ?_⟩, by simp only; omega, ?_⟩
          · exact h5.step (by omega) (by omega)
          · refine Conv.mk [] O O O ?_ O ?_
            (repeat' (first|exact V0|refine V3 ?_|refine V2 ?_ ?_|fail))
            (all_goals (try (first|refine CvL.eq ?_|refine Cv.eq ?_)))
            all_goals simp [AV.ren]
      · have hdg : dig [] n = some n := rfl
        rw [List.drop_eq_nil_of_le h, hdg] at h2
        rw [h2] at he
        (repeat' (first|refine AW.seq_k (fun K hK=>?_)|(refine hK _ ?_;clear hK)|refine AW.uC (fun hc=>?_) (fun hc=>?_)|refine AW.exit ?_|refine AW.ret ?_|refine AW.skip ?_|(clear hK;refine hK _ ?_;clear hK)|exact trivial|refine AW.rI [8, 13, 14, 15, 17] O ?_|refine UA ?_|fail))
        · simp only [if_pos (h5.big (by assumption))] at he
          subst he
          ((first|refine RetOk.tup O O ?_|refine RetOk.one O ?_)<;>(repeat' (first|exact V0|refine V1 ?_|refine V2 ?_ ?_|fail)))
        · obtain ⟨e1, e2⟩ := h5.small (by assumption)
          subst e1
          simp only [if_neg (show ¬ 9007199254740992 < n by omega)] at he
          subst he
          ((first|refine RetOk.tup O O ?_|refine RetOk.one O ?_)<;>(repeat' (first|exact V0|refine V1 ?_|refine V2 ?_ ?_|fail)))
theorem rNumber_c (s : List UInt8) (hs : s.length ≤ 1099511627776) : ACalls Tryz.prog 130 [.v (.string (bs s))] [] (.tup [.v (.int .i64 (numberP s).1), .v (.int .i64 (numberP s).2)]) [] := by
  rcases s with _ | ⟨c, t⟩
  · exact rNumber_0
  · by_cases h : (c.toNat : Int) = 45
    · rcases t with _ | ⟨e, t⟩
      · exact rNumber_m c h
      · exact rNumber_n c e t hs h
    · exact rNumber_p c t hs h
end Go.Proofs.YtbbcokckealagaaGreat
