/-
  Walks of the reference's Number and Format.
-/
import Derived.Test.YtpacgphnpalepaaDoorQAA
import Derived.Test.YtpacgphnpalepaaDoorIto
import Derived.Test.YtpacgphnpalepaaDoorQAF
namespace Go.Proofs.YtpacgphnpalepaaDoor
set_option linter.unusedVariables false
set_option linter.unusedSimpArgs false
theorem wrapP (n : Int) (h : 0 ≤ n) (h1 : n ≤ 9223372036854775807) : IntKind.u64.wrap n = n := IntWalk.u64_in _ (by omega)
theorem wrapN (n : Int) (h : n < 0) (h1 : -9223372036854775808 ≤ n) : IntKind.u64.wrap (-(IntKind.u64.wrap n)) = -n := by
  have e : IntKind.u64.wrap n = n + 18446744073709551616 := by
    have : IntKind.u64.wrap n = IntKind.u64.wrap (n + 18446744073709551616) := by
      simp [IntKind.wrap, IntKind.signed, IntKind.bits]
    rw [this]; exact IntWalk.u64_in _ (by omega)
  rw [e]
  have : IntKind.u64.wrap (-(n + 18446744073709551616)) = IntKind.u64.wrap (-n) := by
    simp [IntKind.wrap, IntKind.signed, IntKind.bits]
    omega
  rw [this]; exact IntWalk.u64_in _ (by omega)
set_option maxHeartbeats 4000000 in
theorem rFormat_c (n : Int) (h0 : -9223372036854775808 ≤ n) (h1 : n ≤ 9223372036854775807) : ACalls Tryd.prog 25 [.v (.int .i64 n)] [] (.v (.string (bs (Lib.itoa n)))) [] := by
  obtain ⟨sg, hsg⟩ : ∃ sg : List UInt8, sg = if n < 0 then [45] else [] := ⟨_, rfl⟩
  have hl : sg.length ≤ 1 := by rw [hsg]; split <;> simp
  have hr : Lib.itoa n = sg ++ Lib.decDigits n.natAbs := by
    rw [hsg, Lib.itoa]
    split
    · rfl
    · rw [show n.toNat = n.natAbs by omega]; rfl
  have hL : (Lib.decDigits n.natAbs).length ≤ 20 := by rw [Lib.decDigits_length]; exact Lib.nDigits_le20 _ (by omega)
  generalize Lib.itoa n = r at hr
  refine (ACalls.of (fn := Tryd.f25) Tryd.func25 Z Z Tryd.ntmps25 (fun I M w own => ?_))
  (repeat' (first|refine AW.seq_k (fun K hK=>?_)|(refine hK _ ?_;clear hK)|refine AW.uC (fun hc=>?_) (fun hc=>?_)|refine AW.block ?_|refine AW.skip ?_|exact trivial|refine AW.rI [0, 1, 2, 3, 4] Z ?_|refine UA ?_|fail))
  all_goals
    refine AW.loopF (X := Nat × List UInt8) (fun x => ⟨[(3, .v (.int .u64 (x.1 : Int))), (4, .v (.string (bs sg))), (5, .v (.string (bs x.2)))], []⟩)
      (fun x => x.1 < 18446744073709551616 ∧ Lib.decDigits n.natAbs = Lib.decDigits x.1 ++ x.2) (fun x => x.1) (n.natAbs, []) ?_ ?_ ?_
  · refine Conv.mk [] Z Z Z ?_ Z ?_
    (repeat' (first|exact V0|refine V3 ?_|refine V2 ?_ ?_|fail))
    (all_goals (try (first|refine CvL.eq ?_|refine Cv.eq ?_)))
    · simp only [AV.ren, AV.v.injEq, Value.int.injEq, true_and]; rw [wrapN n (by assumption) h0]; omega
    · rw [hsg, if_pos (by assumption)]; rfl
  · exact ⟨by simp only; omega, by simp⟩
  · rintro ⟨u, s⟩ ⟨q1, q2⟩
    simp only at q1 q2 ⊢
    have hB : [[PV.v (.int .u8 (48 + (u : Int) % 10))]] = bsP [UInt8.ofNat (48 + u % 10)] := by
      have : (UInt8.ofNat (48 + u % 10)).toNat = 48 + u % 10 := by
        rw [UInt8.toNat_ofNat']; omega
      simp only [bsP, List.map_cons, List.map_nil, this]
      congr 4
    have hw : IntKind.u64.wrap ((u : Int) / 10) = ((u / 10 : Nat) : Int) := by rw [IntWalk.u64_in _ (by omega)]; omega
    have hS : s.length ≤ 20 := by rw [q2, List.length_append] at hL; omega
    (repeat' (first|refine AW.seq_k (fun K hK=>?_)|(refine hK _ ?_;clear hK)|refine AW.uC (fun hc=>?_) (fun hc=>?_)|refine AW.block ?_|refine AW.ret ?_|refine AW.skip ?_|exact trivial|refine AW.rI [5, 6, 7, 8] Z ?_|refine UA ?_|fail))
    · rw [hw] at hc
      have hd : Lib.decDigits u = [UInt8.ofNat (48 + u % 10)] := by rw [Lib.decDigits, dif_pos (by omega), Nat.mod_eq_of_lt (by omega)]
      rw [hd] at q2
      obtain rfl : r = sg ++ ([UInt8.ofNat (48 + u % 10)] ++ s) := by rw [hr, q2]
      ((first|refine RetOk.tup Z Z ?_|refine RetOk.one Z ?_)<;>(repeat' (first|exact V0|refine V1 ?_|refine V2 ?_ ?_|fail)))
    · rw [hw] at hc
      have hd : Lib.decDigits u = Lib.decDigits (u / 10) ++ [UInt8.ofNat (48 + u % 10)] := by rw [Lib.decDigits, dif_neg (by omega)]
      rw [hd, List.append_assoc] at q2
      ((repeat (with_reducible refine inB_n ?_)); refine thenA_n ?_)
      refine ⟨(u / 10, [UInt8.ofNat (48 + u % 10)] ++ s), ⟨by simp only; omega, q2⟩, by simp only; omega, ?_⟩
      refine Conv.mk [] Z Z Z ?_ Z ?_
      (repeat' (first|exact V0|refine V3 ?_|refine V2 ?_ ?_|fail))
      (all_goals (try (first|refine CvL.eq ?_|refine Cv.eq ?_)))
      all_goals (simp only [AV.ren, AV.v.injEq, Value.int.injEq, true_and]; rw [hw])
  · refine Conv.mk [] Z Z Z ?_ Z ?_
    (repeat' (first|exact V0|refine V3 ?_|refine V2 ?_ ?_|fail))
    (all_goals (try (first|refine CvL.eq ?_|refine Cv.eq ?_)))
    · simp only [AV.ren, AV.v.injEq, Value.int.injEq, true_and]; rw [wrapP n (by omega) h1]; omega
    · rw [hsg, if_neg (by assumption)]; rfl
  · exact ⟨by simp only; omega, by simp⟩
  · rintro ⟨u, s⟩ ⟨q1, q2⟩
    simp only at q1 q2 ⊢
    have hB : [[PV.v (.int .u8 (48 + (u : Int) % 10))]] = bsP [UInt8.ofNat (48 + u % 10)] := by
      have : (UInt8.ofNat (48 + u % 10)).toNat = 48 + u % 10 := by
        rw [UInt8.toNat_ofNat']; omega
      simp only [bsP, List.map_cons, List.map_nil, this]
      congr 4
    have hw : IntKind.u64.wrap ((u : Int) / 10) = ((u / 10 : Nat) : Int) := by rw [IntWalk.u64_in _ (by omega)]; omega
    have hS : s.length ≤ 20 := by rw [q2, List.length_append] at hL; omega
    (repeat' (first|refine AW.seq_k (fun K hK=>?_)|(refine hK _ ?_;clear hK)|refine AW.uC (fun hc=>?_) (fun hc=>?_)|refine AW.block ?_|refine AW.ret ?_|refine AW.skip ?_|exact trivial|refine AW.rI [5, 6, 7, 8] Z ?_|refine UA ?_|fail))
    · rw [hw] at hc
      have hd : Lib.decDigits u = [UInt8.ofNat (48 + u % 10)] := by rw [Lib.decDigits, dif_pos (by omega), Nat.mod_eq_of_lt (by omega)]
      rw [hd] at q2
      obtain rfl : r = sg ++ ([UInt8.ofNat (48 + u % 10)] ++ s) := by rw [hr, q2]
      ((first|refine RetOk.tup Z Z ?_|refine RetOk.one Z ?_)<;>(repeat' (first|exact V0|refine V1 ?_|refine V2 ?_ ?_|fail)))
    · rw [hw] at hc
      have hd : Lib.decDigits u = Lib.decDigits (u / 10) ++ [UInt8.ofNat (48 + u % 10)] := by rw [Lib.decDigits, dif_neg (by omega)]
      rw [hd, List.append_assoc] at q2
      ((repeat (with_reducible refine inB_n ?_)); refine thenA_n ?_)
      refine ⟨(u / 10, [UInt8.ofNat (48 + u % 10)] ++ s), ⟨by simp only; omega, q2⟩, by simp only; omega, ?_⟩
      refine Conv.mk [] Z Z Z ?_ Z ?_
      (repeat' (first|exact V0|refine V3 ?_|refine V2 ?_ ?_|fail))
      (all_goals (try (first|refine CvL.eq ?_|refine Cv.eq ?_)))
      all_goals (simp only [AV.ren, AV.v.injEq, Value.int.injEq, true_and]; rw [hw])
end Go.Proofs.YtpacgphnpalepaaDoor
