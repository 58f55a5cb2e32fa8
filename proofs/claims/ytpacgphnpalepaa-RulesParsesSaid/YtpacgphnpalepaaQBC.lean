/-
  Walks of the reference's Number and Format.
-/
import Derived.Test.YtpacgphnpalepaaQAA
import Derived.Lib.ItoaLen
import Derived.Test.YtpacgphnpalepaaQAF
namespace Go.Proofs.Ytpacgphnpalepaa
set_option linter.unusedVariables false
set_option linter.unusedSimpArgs false
theorem wrapP (n : Int) (h : 0 ≤ n) (h1 : n ≤ 9223372036854775807) : IntKind.u64.wrap n = n := IntWalk.u64_in _ (by omega)
theorem wrapN (n : Int) (h : n < 0) (h1 : -9223372036854775808 ≤ n) : IntKind.u64.wrap (-(IntKind.u64.wrap n)) = -n := by
  have e : IntKind.u64.wrap n = n + 18446744073709551616 := by
    have : IntKind.u64.wrap n = IntKind.u64.wrap (n + 18446744073709551616) := by
      simp [IntKind.wrap, IntKind.signed, IntKind.bits]
    rw [this]; exact IntWalk.u64_in _ (by omega)
  rw [e]
  have : IntKind.u64.wrap (-(n + 18446744073709551616)) = IntKind.u64.wrap (-n) := by
    simp [IntKind.wrap, IntKind.signed, IntKind.bits]
    omega
  rw [this]; exact IntWalk.u64_in _ (by omega)
set_option maxHeartbeats 4000000 in
theorem rFormat_c (n : Int) (h0 : -9223372036854775808 ≤ n) (h1 : n ≤ 9223372036854775807) : ACalls Try.prog 41 [.v (.int .i64 n)] [] (.v (.string (bs (Lib.itoa n)))) [] := by
  obtain ⟨sg, hsg⟩ : ∃ sg : List UInt8, sg = if n < 0 then [45] else [] := ⟨_, rfl⟩
  have hl : sg.length ≤ 1 := by rw [hsg]; split <;> simp
  have hr : Lib.itoa n = sg ++ Lib.decDigits n.natAbs := by
    rw [hsg, Lib.itoa]
    split
    · rfl
    · rw [show n.toNat = n.natAbs by omega]; rfl
  have hL : (Lib.decDigits n.natAbs).length ≤ 20 := by rw [Lib.decDigits_length]; exact Lib.nDigits_le20 _ (by omega)
  generalize Lib.itoa n = r at hr
  refine (ACalls.of (fn := Try.f41) Try.func41 Z Z Try.ntmps41 (fun I M w own => ?_))
  (repeat' (first|refine AW.seq_k (fun K hK=>?_)|(refine hK _ ?_;clear hK)|refine AW.uC (fun hc=>?_) (fun hc=>?_)|refine AW.block ?_|refine AW.skip ?_|exact trivial|refine AW.rI [0, 1, 2, 3, 4] Z ?_|refine UA ?_|fail))
  all_goals
    refine AW.loopF (X := Nat × List UInt8) (fun x => ⟨[(3, .v (.int .u64 (x.1 : Int))), (4, .v (.string (bs sg))), (5, .v (.string (bs x.2)))], []⟩)
      (fun x => x.1 < 18446744073709551616 ∧ Lib.decDigits n.natAbs = Lib.decDigits x.1 ++ x.2) (fun x => x.1) (n.natAbs, []) ?_ ?_ ?_
  · refine Conv.mk [] Z Z Z ?_ Z ?_
    (repeat' (first|exact V0|refine V3 ?_|refine V2 ?_ ?_|fail))
    (all_goals (try (first|refine CvL.eq ?_|refine Cv.eq ?_)))
    · simp only [AV.ren, AV.v.injEq, Value.int.injEq, true_and]; rw [wrapN n (by assumption) h0]; omega
    · rw [hsg, if_pos (by assumption)]; rfl
  · exact ⟨by simp only; omega, by simp⟩
  · rintro ⟨u, s⟩ ⟨q1, q2⟩
    simp only at q1 q2 ⊢
    have hB : [[PV.v (.int .u8 (48 + (u : Int) % 10))]] = bsP [UInt8.ofNat (48 + u % 10)] := by
      have : (UInt8.ofNat (48 + u % 10)).toNat = 48 + u % 10 := by
        rw [UInt8.toNat_ofNat']; omega
      simp only [bsP, List.map_cons, List.map_nil, this]
      congr 4
    have hw : IntKind.u64.wrap ((u : Int) / 10) = ((u / 10 : Nat) : Int) := by rw [IntWalk.u64_in _ (by omega)]; omega
    have hS : s.length ≤ 20 := by rw [q2, List.length_append] at hL; omega
    (repeat' (first|refine AW.seq_k (fun K hK=>?_)|(refine hK _ ?_;clear hK)|refine AW.uC (fun hc=>?_) (fun hc=>?_)|refine AW.block ?_|refine AW.ret ?_|refine AW.skip ?_|exact trivial|refine AW.rI [5, 6, 7, 8] Z ?_|refine UA ?_|fail))
    · rw [hw] at hc
      have hd : Lib.decDigits u = [UInt8.ofNat (48 + u % 10)] := by rw [Lib.decDigits, dif_pos (by omega), Nat.mod_eq_of_lt (by omega)]
      rw [hd] at q2
      obtain rfl : r = sg ++ ([UInt8.ofNat (48 + u % 10)] ++ s) := by rw [hr, q2]
      ((first|refine RetOk.tup Z Z ?_|refine RetOk.one Z ?_)<;>(repeat' (first|exact V0|refine V1 ?_|refine V2 ?_ ?_|fail)))
    · rw [hw] at hc
      have hd : Lib.decDigits u = Lib.decDigits (u / 10) ++ [UInt8.ofNat (48 + u % 10)] := by rw [Lib.decDigits, dif_neg (by omega)]
      rw [hd, List.append_assoc] at q2
      ((repeat (with_reducible refine inB_n ?_)); refine thenA_n ?_)
      refine ⟨(u / 10, [UInt8.ofNat (48 + u % 10)] ++ s), ⟨by simp only; omega, q2⟩, by simp only; omega, ?_⟩
      refine Conv.mk [] Z Z Z ?_ Z ?_
      (repeat' (first|exact V0|refine V3 ?_|refine V2 ?_ ?_|fail))
      (all_goals (try (first|refine CvL.eq ?_|refine Cv.eq ?_)))
      all_goals (simp only [AV.ren, AV.v.injEq, Value.int.injEq, true_and]; rw [hw])
  · refine Conv.mk [] Z Z Z ?_ Z ?_
    (repeat' (first|exact V0|refine V3 ?_|refine V2 ?_ ?_|fail))
    (all_goals (try (first|refine CvL.eq ?_|refine Cv.eq ?_)))
    · simp only [AV.ren, AV.v.injEq, Value.int.injEq, true_and]; rw [wrapP n (by omega) h1]; omega
    · rw [hsg, if_neg (by assumption)]; rfl
  · exact ⟨by simp only; omega, by simp⟩
  · rintro ⟨u, s⟩ ⟨q1, q2⟩
    simp only at q1 q2 ⊢
    have hB : [[PV.v (.int .u8 (48 + (u : Int) % 10))]] = bsP [UInt8.ofNat (48 + u % 10)] := by
      have : (UInt8.ofNat (48 + u % 10)).toNat = 48 + u % 10 := by
        rw [UInt8.toNat_ofNat']; omega
      simp only [bsP, List.map_cons, List.map_nil, this]
      congr 4
    have hw : IntKind.u64.wrap ((u : Int) / 10) = ((u / 10 : Nat) : Int) := by rw [IntWalk.u64_in _ (by omega)]; omega
    have hS : s.length ≤ 20 := by rw [q2, List.length_append] at hL; omega
    (repeat' (first|refine AW.seq_k (fun K hK=>?_)|(refine hK _ ?_;clear hK)|refine AW.uC (fun hc=>?_) (fun hc=>?_)|refine AW.block ?_|refine AW.ret ?_|refine AW.skip ?_|exact trivial|refine AW.rI [5, 6, 7, 8] Z ?_|refine UA ?_|fail))
    · rw [hw] at hc
      have hd : Lib.decDigits u = [UInt8.ofNat (48 + u % 10)] := by rw [Lib.decDigits, dif_pos (by omega), Nat.mod_eq_of_lt (by omega)]
      rw [hd] at q2
      obtain rfl : r = sg ++ ([UInt8.ofNat (48 + u % 10)] ++ s) := by rw [hr, q2]
      ((first|refine RetOk.tup Z Z ?_|refine RetOk.one Z ?_)<;>(repeat' (first|exact V0|refine V1 ?_|refine V2 ?_ ?_|fail)))
    · rw [hw] at hc
      have hd : Lib.decDigits u = Lib.decDigits (u / 10) ++ [UInt8.ofNat (48 + u % 10)] := by rw [Lib.decDigits, dif_neg (by omega)]
      rw [hd, List.append_assoc] at q2
      ((repeat (with_reducible refine inB_n ?_)); refine thenA_n ?_)
      refine ⟨(u / 10, [UInt8.ofNat (48 + u % 10)] ++ s), ⟨by simp only; omega, q2⟩, by simp only; omega, ?_⟩
      refine Conv.mk [] Z Z Z ?_ Z ?_
      (repeat' (first|exact V0|refine V3 ?_|refine V2 ?_ ?_|fail))
      (all_goals (try (first|refine CvL.eq ?_|refine Cv.eq ?_)))
      all_goals (simp only [AV.ren, AV.v.injEq, Value.int.injEq, true_and]; rw [hw])
def Relm (n m : Int) : Prop := (n ≤ 9007199254740992 ∧ m = n) ∨ (9007199254740992 < n ∧ 9007199254740992 < m)
theorem Relm.step {n m d : Int} (h : Relm n m) (h0 : 0 ≤ d) (h1 : d ≤ 9) (hm : 0 ≤ m := by omega) : Relm (if n ≤ 9007199254740992 then 10 * n + d else n) (Min.min (m * 10 + d) 18014398509481984) := by
  unfold Relm at *
  split <;> omega
theorem Relm.big {n m : Int} (h : Relm n m) (hm : 9007199254740992 < m) : 9007199254740992 < n := by unfold Relm at h; omega
theorem Relm.small {n m : Int} (h : Relm n m) (hm : ¬ 9007199254740992 < m) : n = m ∧ n ≤ 9007199254740992 := by unfold Relm at h; omega
set_option maxHeartbeats 4000000 in
theorem rNumber_0 : ACalls Try.prog 52 [.v (.string (bs ([] : List UInt8)))] [] (.tup [.v (.int .i64 (numberP ([] : List UInt8)).1), .v (.int .i64 (numberP ([] : List UInt8)).2)]) [] := by
  generalize he : numberP ([] : List UInt8) = r
  have hF : (!decide (([] : List UInt8) = [])) = true → ([] : List UInt8)[(0 : Int).toNat]? = some 0 := by simp
  refine (ACalls.of (fn := Try.f52) Try.func52 Z Z Try.ntmps52 (fun I M w own => ?_))
  (repeat' (first|refine AW.seq_k (fun K hK=>?_)|(refine hK _ ?_;clear hK)|refine AW.uC (fun hc=>?_) (fun hc=>?_)|refine AW.ret ?_|refine AW.skip ?_|exact trivial|refine AW.rI [0, 1, 2, 4, 5] Z ?_|refine UA ?_|fail))
  all_goals subst he
  ((first|refine RetOk.tup Z Z ?_|refine RetOk.one Z ?_)<;>(repeat' (first|exact V0|refine V1 ?_|refine V2 ?_ ?_|fail)))
set_option maxHeartbeats 4000000 in
theorem rNumber_m (c : UInt8) (hc0 : (c.toNat : Int) = 45) : ACalls Try.prog 52 [.v (.string (bs ([c])))] [] (.tup [.v (.int .i64 (numberP ([c])).1), .v (.int .i64 (numberP ([c])).2)]) [] := by
  generalize he : numberP [c] = r
  have hF : [c][(0 : Int).toNat]? = some c := rfl
  have hF2 : (!decide (List.drop (Int.toNat 1) [c] = [])) = true → (List.drop (Int.toNat 1) [c])[(0 : Int).toNat]? = some 0 := by simp
  simp only [numberP, if_pos hc0, numD] at he
  refine (ACalls.of (fn := Try.f52) Try.func52 Z Z Try.ntmps52 (fun I M w own => ?_))
  (repeat' (first|refine AW.seq_k (fun K hK=>?_)|(refine hK _ ?_;clear hK)|refine AW.uC (fun hc=>?_) (fun hc=>?_)|refine AW.ret ?_|exact trivial|refine AW.rI [0, 1, 2, 3, 4, 5] Z ?_|refine UA ?_|fail))
  all_goals subst he
  ((first|refine RetOk.tup Z Z ?_|refine RetOk.one Z ?_)<;>(repeat' (first|exact V0|refine V1 ?_|refine V2 ?_ ?_|fail)))
set_option maxHeartbeats 4000000 in
theorem rNumber_n (c e : UInt8) (t : List UInt8) (hs : (c :: e :: t).length ≤ 1099511627776) (hc0 : (c.toNat : Int) = 45) : ACalls Try.prog 52 [.v (.string (bs (c :: e :: t)))] [] (.tup [.v (.int .i64 (numberP (c :: e :: t)).1), .v (.int .i64 (numberP (c :: e :: t)).2)]) [] := by
  generalize he : numberP (c :: e :: t) = r
  have hF : (c :: e :: t)[(0 : Int).toNat]? = some c := rfl
  have hF2 : (List.drop (Int.toNat 1) (c :: e :: t))[(0 : Int).toNat]? = some e := rfl
  have hL : (c :: e :: t).length = t.length + 2 := rfl
  have hL2 : (e :: t).length = t.length + 1 := rfl
  simp only [numberP, if_pos hc0, numD] at he
  have hL3 : (List.drop (Int.toNat 1) (c :: e :: t)).length = t.length + 1 := rfl
  have hdd : dig (List.drop (Int.toNat 1) (c :: e :: t)) 0 = dig (e :: t) 0 := rfl
  refine (ACalls.of (fn := Try.f52) Try.func52 Z Z Try.ntmps52 (fun I M w own => ?_))
  (repeat' (first|refine AW.seq_k (fun K hK=>?_)|(refine hK _ ?_;clear hK)|refine AW.uC (fun hc=>?_) (fun hc=>?_)|refine AW.block ?_|refine AW.ret ?_|refine AW.skip ?_|exact trivial|refine AW.rI [0, 1, 2, 3, 4, 5, 6, 7] Z ?_|refine UA ?_|fail))
  · have h48 : (e.toNat : Int) = 48 := by
      rcases hc with hc | ⟨_, hc⟩
      · exact hc.2
      · have : e :: t = [48] := hc
        injection this with e1 _
        rw [e1]; rfl
    rw [if_pos ⟨h48, .inr trivial⟩] at he
    subst he
    ((first|refine RetOk.tup Z Z ?_|refine RetOk.one Z ?_)<;>(repeat' (first|exact V0|refine V1 ?_|refine V2 ?_ ?_|fail)))
  · rw [if_neg (by
      rintro ⟨q1, _⟩
      rcases hc with ⟨q2 | q2, q3⟩
      · rcases t with _ | ⟨f, t⟩
        · rcases q3 with q3 | q3
          · cases q3
          · refine q3 ?_
            have : e = 48 := UInt8.toNat_inj.1 (by simpa using (by omega : e.toNat = 48))
            rw [this]; rfl
        · simp at q2; omega
      · exact q2 q1), ← hdd] at he
    refine AW.loopF (X := Nat × Int) (fun x => ⟨[(4, .v (.string (bs (List.drop (Int.toNat 1) (c :: e :: t))))), (5, .v (.bool true)), (6, .v (.int .i64 x.2)), (7, .v (.int .i64 (x.1 : Int)))], []⟩)
      (fun x => x.1 ≤ (List.drop (Int.toNat 1) (c :: e :: t)).length ∧ 0 ≤ x.2 ∧ x.2 ≤ 18014398509481984 ∧ ∃ n, dig (List.drop (Int.toNat 1) (c :: e :: t)) 0 = dig ((List.drop (Int.toNat 1) (c :: e :: t)).drop x.1) n ∧ Relm n x.2) (fun x => (List.drop (Int.toNat 1) (c :: e :: t)).length - x.1) (0, 0) ?_ ?_ ?_
    · refine Conv.mk [] Z Z Z ?_ Z ?_
      (repeat' (first|exact V0|refine V3 ?_|refine V2 ?_ ?_|fail))
      (all_goals (try (first|refine CvL.eq ?_|refine Cv.eq ?_)))
      all_goals (simp [AV.ren]; try omega)
    · exact ⟨Nat.zero_le _, by simp only; omega, by simp only; omega, 0, rfl, .inl ⟨by omega, rfl⟩⟩
    · rintro ⟨i, m⟩ ⟨h1, h3, h4, n, h2, h5⟩
      simp only at h1 h2 h3 h4 h5 ⊢
      rcases Nat.lt_or_ge i ((List.drop (Int.toNat 1) (c :: e :: t))).length with h | h
      · obtain ⟨x, hx⟩ : ∃ x, ((List.drop (Int.toNat 1) (c :: e :: t)))[i] = x := ⟨_, rfl⟩
        have hG : ((List.drop (Int.toNat 1) (c :: e :: t)))[(i : Int).toNat]? = some x := by rw [Int.toNat_natCast, List.getElem?_eq_getElem h, hx]
        have hd : ((List.drop (Int.toNat 1) (c :: e :: t))).drop i = x :: ((List.drop (Int.toNat 1) (c :: e :: t))).drop (i + 1) := by rw [List.drop_eq_getElem_cons h, hx]
        have hdg : dig (x :: ((List.drop (Int.toNat 1) (c :: e :: t))).drop (i + 1)) n = if 48 ≤ (x.toNat : Int) ∧ (x.toNat : Int) ≤ 57 then dig (((List.drop (Int.toNat 1) (c :: e :: t))).drop (i + 1)) (if n ≤ 9007199254740992 then 10 * n + ((x.toNat : Int) - 48) else n) else none := rfl
        rw [hd, hdg] at h2
        (repeat' (first|refine AW.seq_k (fun K hK=>?_)|(refine hK _ ?_;clear hK)|refine AW.uC (fun hc=>?_) (fun hc=>?_)|refine AW.block ?_|refine AW.ret ?_|refine AW.skip ?_|exact trivial|refine AW.rI [8, 10, 11, 12, 9] Z ?_|refine UA ?_|fail))
        · rw [h2, if_neg (by omega)] at he
          subst he
          ((first|refine RetOk.tup Z Z ?_|refine RetOk.one Z ?_)<;>(repeat' (first|exact V0|refine V1 ?_|refine V2 ?_ ?_|fail)))
        · ((repeat (with_reducible refine inB_n ?_)); refine thenA_n ?_)
          rw [if_pos (by omega)] at h2
          refine ⟨(i + 1, Min.min (m * 10 + ((x.toNat : Int) - 48)) 18014398509481984), ⟨h, by simp only; omega, by simp only; omega, _, h2, ?_⟩, by simp only; omega, ?_⟩
          · exact h5.step (by omega) (by omega)
          · refine Conv.mk [] Z Z Z ?_ Z ?_
            (repeat' (first|exact V0|refine V3 ?_|refine V2 ?_ ?_|fail))
            (all_goals (try (first|refine CvL.eq ?_|refine Cv.eq ?_)))
            all_goals simp [AV.ren]
      · have hdg : dig [] n = some n := rfl
        rw [List.drop_eq_nil_of_le h, hdg] at h2
        rw [h2] at he
        (repeat' (first|refine AW.seq_k (fun K hK=>?_)|(refine hK _ ?_;clear hK)|refine AW.uC (fun hc=>?_) (fun hc=>?_)|refine AW.exit ?_|refine AW.ret ?_|refine AW.skip ?_|(clear hK;refine hK _ ?_;clear hK)|exact trivial|refine AW.rI [8, 13, 14, 15, 16] Z ?_|refine UA ?_|fail))
        · simp only [if_pos (h5.big (by assumption))] at he
          subst he
          ((first|refine RetOk.tup Z Z ?_|refine RetOk.one Z ?_)<;>(repeat' (first|exact V0|refine V1 ?_|refine V2 ?_ ?_|fail)))
        · obtain ⟨e1, e2⟩ := h5.small (by assumption)
          subst e1
          simp only [if_neg (show ¬ 9007199254740992 < n by omega)] at he
          subst he
          ((first|refine RetOk.tup Z Z ?_|refine RetOk.one Z ?_)<;>(repeat' (first|exact V0|refine V1 ?_|refine V2 ?_ ?_|fail)))
set_option maxHeartbeats 4000000 in
theorem rNumber_p (c : UInt8) (t : List UInt8) (hs : (c :: t).length ≤ 1099511627776) (hc0 : ¬ (c.toNat : Int) = 45) : ACalls Try.prog 52 [.v (.string (bs (c :: t)))] [] (.tup [.v (.int .i64 (numberP (c :: t)).1), .v (.int .i64 (numberP (c :: t)).2)]) [] := by
  generalize he : numberP (c :: t) = r
  have hF : (c :: t)[(0 : Int).toNat]? = some c := rfl
  have hL : (c :: t).length = t.length + 1 := rfl
  simp only [numberP, if_neg hc0, numD] at he
  refine (ACalls.of (fn := Try.f52) Try.func52 Z Z Try.ntmps52 (fun I M w own => ?_))
  (repeat' (first|refine AW.seq_k (fun K hK=>?_)|(refine hK _ ?_;clear hK)|refine AW.uC (fun hc=>?_) (fun hc=>?_)|refine AW.block ?_|refine AW.ret ?_|refine AW.skip ?_|exact trivial|refine AW.rI [0, 1, 2, 4, 5, 6, 7] Z ?_|refine UA ?_|fail))
  · have h48 : (c.toNat : Int) = 48 ∧ t ≠ [] := by
      rcases hc with hc | hc
      · exact ⟨hc.2, by rintro rfl; simp at hc⟩
      · simp at hc
    rw [if_pos ⟨h48.1, .inl h48.2⟩] at he
    subst he
    ((first|refine RetOk.tup Z Z ?_|refine RetOk.one Z ?_)<;>(repeat' (first|exact V0|refine V1 ?_|refine V2 ?_ ?_|fail)))
  · rw [if_neg (by
      rintro ⟨q1, q2⟩
      cases t <;> simp at hc q2 <;> omega)] at he
    refine AW.loopF (X := Nat × Int) (fun x => ⟨[(4, .v (.string (bs (c :: t)))), (5, .v (.bool false)), (6, .v (.int .i64 x.2)), (7, .v (.int .i64 (x.1 : Int)))], []⟩)
      (fun x => x.1 ≤ (c :: t).length ∧ 0 ≤ x.2 ∧ x.2 ≤ 18014398509481984 ∧ ∃ n, dig (c :: t) 0 = dig ((c :: t).drop x.1) n ∧ Relm n x.2) (fun x => (c :: t).length - x.1) (0, 0) ?_ ?_ ?_
    · refine Conv.mk [] Z Z Z ?_ Z ?_
      (repeat' (first|exact V0|refine V3 ?_|refine V2 ?_ ?_|fail))
      (all_goals (try (first|refine CvL.eq ?_|refine Cv.eq ?_)))
      all_goals (simp [AV.ren]; try omega)
    · exact ⟨Nat.zero_le _, by simp only; omega, by simp only; omega, 0, rfl, .inl ⟨by omega, rfl⟩⟩
    · rintro ⟨i, m⟩ ⟨h1, h3, h4, n, h2, h5⟩
      simp only at h1 h2 h3 h4 h5 ⊢
      rcases Nat.lt_or_ge i ((c :: t)).length with h | h
      · obtain ⟨x, hx⟩ : ∃ x, ((c :: t))[i] = x := ⟨_, rfl⟩
        have hG : ((c :: t))[(i : Int).toNat]? = some x := by rw [Int.toNat_natCast, List.getElem?_eq_getElem h, hx]
        have hd : ((c :: t)).drop i = x :: ((c :: t)).drop (i + 1) := by rw [List.drop_eq_getElem_cons h, hx]
        have hdg : dig (x :: ((c :: t)).drop (i + 1)) n = if 48 ≤ (x.toNat : Int) ∧ (x.toNat : Int) ≤ 57 then dig (((c :: t)).drop (i + 1)) (if n ≤ 9007199254740992 then 10 * n + ((x.toNat : Int) - 48) else n) else none := rfl
        rw [hd, hdg] at h2
        (repeat' (first|refine AW.seq_k (fun K hK=>?_)|(refine hK _ ?_;clear hK)|refine AW.uC (fun hc=>?_) (fun hc=>?_)|refine AW.block ?_|refine AW.ret ?_|refine AW.skip ?_|exact trivial|refine AW.rI [8, 10, 11, 12, 9] Z ?_|refine UA ?_|fail))
        · rw [h2, if_neg (by omega)] at he
          subst he
          ((first|refine RetOk.tup Z Z ?_|refine RetOk.one Z ?_)<;>(repeat' (first|exact V0|refine V1 ?_|refine V2 ?_ ?_|fail)))
        · ((repeat (with_reducible refine inB_n ?_)); refine thenA_n ?_)
          rw [if_pos (by omega)] at h2
          refine ⟨(i + 1, Min.min (m * 10 + ((x.toNat : Int) - 48)) 18014398509481984), ⟨h, by simp only; omega, by simp only; omega, _, h2, ?_⟩, by simp only; omega, ?_⟩
          · exact h5.step (by omega) (by omega)
          · refine Conv.mk [] Z Z Z ?_ Z ?_
            (repeat' (first|exact V0|refine V3 ?_|refine V2 ?_ ?_|fail))
            (all_goals (try (first|refine CvL.eq ?_|refine Cv.eq ?_)))
            all_goals simp [AV.ren]
      · have hdg : dig [] n = some n := rfl
        rw [List.drop_eq_nil_of_le h, hdg] at h2
        rw [h2] at he
        (repeat' (first|refine AW.seq_k (fun K hK=>?_)|(refine hK _ ?_;clear hK)|refine AW.uC (fun hc=>?_) (fun hc=>?_)|refine AW.exit ?_|refine AW.ret ?_|refine AW.skip ?_|(clear hK;refine hK _ ?_;clear hK)|exact trivial|refine AW.rI [8, 13, 14, 15, 17] Z ?_|refine UA ?_|fail))
        · simp only [if_pos (h5.big (by assumption))] at he
          subst he
          ((first|refine RetOk.tup Z Z ?_|refine RetOk.one Z ?_)<;>(repeat' (first|exact V0|refine V1 ?_|refine V2 ?_ ?_|fail)))
        · obtain ⟨e1, e2⟩ := h5.small (by assumption)
          subst e1
          simp only [if_neg (show ¬ 9007199254740992 < n by omega)] at he
          subst he
          ((first|refine RetOk.tup Z Z ?_|refine RetOk.one Z ?_)<;>(repeat' (first|exact V0|refine V1 ?_|refine V2 ?_ ?_|fail)))
theorem rNumber_c (s : List UInt8) (hs : s.length ≤ 1099511627776) : ACalls Try.prog 52 [.v (.string (bs s))] [] (.tup [.v (.int .i64 (numberP s).1), .v (.int .i64 (numberP s).2)]) [] := by
  rcases s with _ | ⟨c, t⟩
  · exact rNumber_0
  · by_cases h : (c.toNat : Int) = 45
    · rcases t with _ | ⟨e, t⟩
      · exact rNumber_m c h
      · exact rNumber_n c e t hs h
    · exact rNumber_p c t hs h
end Go.Proofs.Ytpacgphnpalepaa
