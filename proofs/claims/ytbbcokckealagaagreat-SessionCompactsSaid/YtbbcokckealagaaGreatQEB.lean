/-
  Walks of chapter 1: numbers, texts and sums, the reference.
-/
import Derived.Test.YtbbcokckealagaaGreatQAA
import Derived.Test.YtbbcokckealagaaGreatQEA
namespace Go.Proofs.YtbbcokckealagaaGreat
set_option linter.unusedVariables false
set_option linter.unusedSimpArgs false
set_option maxHeartbeats 4000000 in
theorem rput_c (l : List UInt8) (f : Bool) (n k : Nat) (hn : n < 18446744073709551616) (hk : k ≤ 8) (hl : l.length ≤ 1000000000) : ACalls Tryz.prog 110 [bsl l f, .v (.int .u64 (n : Int)), .v (.int .i64 (k : Int))] [] (bsl (l ++ le n k) false) [] := by
  have hll : (bsP l).length = l.length := by simp
  refine (ACalls.of (fn := Tryz.f110) Tryz.func110 O O Tryz.ntmps110 (fun I M w own => ?_))
  (repeat' (first|refine AW.seq_k (fun K hK=>?_)|(refine hK _ ?_;clear hK)|refine AW.block ?_|refine AW.rI [0, 1, 2] O ?_|refine UA ?_|fail))
  refine AW.loopF (X := Nat) (fun x => ⟨[(1, .v (.int .u64 (n : Int))), (2, .v (.int .i64 (k : Int))), (7, .row 0 (bsP (l ++ le n x)).length), (8, .v (.int .i64 (x : Int)))], [.row 1 (bsP (l ++ le n x))]⟩)
    (fun x => x ≤ k) (fun x => k - x) 0 ?_ ?_ ?_
  · refine Conv.mk [0] O O O ?_ O ?_
    (repeat' (first|exact V0|refine V3 ?_|refine V2 ?_ ?_|fail))
    (all_goals (try (first|refine CvL.eq ?_|refine Cv.eq ?_)))
    all_goals simp [AV.ren, renL, le]
  · exact Nat.zero_le _
  · intro j hj
    have hjl : (bsP (l ++ le n j)).length = l.length + j := by simp [le_length]
    have hjl2 : (le n j).length = j := le_length n j
    rcases Nat.lt_or_ge j k with h | h
    · have hw := bs_snoc' l n j (IntKind.u8.wrap ((n : Int) / 2 ^ (8 * (j : Int)).toNat)) (by
        rw [IntKind.wrap_u8, show (8 * (j : Int)).toNat = 8 * j by omega, pow_step', show ((256 : Int) ^ j) = ((256 ^ j : Nat) : Int) by rw [Int.natCast_pow]; rfl]; rfl)
      (repeat' (first|refine AW.seq_k (fun K hK=>?_)|(refine hK _ ?_;clear hK)|refine AW.uC (fun hc=>?_) (fun hc=>?_)|refine AW.block ?_|refine AW.skip ?_|exact trivial|refine AW.rI [3, 5, 4] O ?_|refine UA ?_|fail))
      ((repeat (with_reducible refine inB_n ?_)); refine thenA_n ?_)
      refine ⟨j + 1, h, by omega, ?_⟩
      refine Conv.mk [0] O O O ?_ O ?_
      (repeat' (first|exact V0|refine V3 ?_|refine V2 ?_ ?_|fail))
      (all_goals (try (first|refine CvL.eq ?_|refine Cv.eq ?_)))
      all_goals (simp only [AV.ren, renL, hw]; first | done | rfl | (rw [IntWalk.i64_in _ (by omega)]; first | done | rfl))
    · obtain rfl : j = k := by omega
      (repeat' (first|refine AW.seq_k (fun K hK=>?_)|(refine hK _ ?_;clear hK)|refine AW.uC (fun hc=>?_) (fun hc=>?_)|refine AW.exit ?_|refine AW.ret ?_|(clear hK;refine hK _ ?_;clear hK)|exact trivial|refine AW.rI [3, 6] O ?_|refine UA ?_|fail))
      ((first|refine RetOk.tup O O ?_|refine RetOk.one O ?_)<;>(repeat' (first|exact V0|refine V1 ?_|refine V2 ?_ ?_|fail)))
set_option maxHeartbeats 4000000 in
theorem rputR_c (l : List UInt8) (f : Bool) (n k : Nat) (hn : n < 18446744073709551616) (hk : k ≤ 8) (hl : l.length ≤ 1000000000) : ACalls Tryz.prog 110 [bsl l f, .v (.int .u64 (n : Int)), .v (.int .i64 (k : Int))] [] (.row 0 (bsP (l ++ le n k)).length) [.row 1 (bsP (l ++ le n k))] := by
  have hll : (bsP l).length = l.length := by simp
  refine (ACalls.of (fn := Tryz.f110) Tryz.func110 O O Tryz.ntmps110 (fun I M w own => ?_))
  (repeat' (first|refine AW.seq_k (fun K hK=>?_)|(refine hK _ ?_;clear hK)|refine AW.block ?_|refine AW.rI [0, 1, 2] O ?_|refine UA ?_|fail))
  refine AW.loopF (X := Nat) (fun x => ⟨[(1, .v (.int .u64 (n : Int))), (2, .v (.int .i64 (k : Int))), (7, .row 0 (bsP (l ++ le n x)).length), (8, .v (.int .i64 (x : Int)))], [.row 1 (bsP (l ++ le n x))]⟩)
    (fun x => x ≤ k) (fun x => k - x) 0 ?_ ?_ ?_
  · refine Conv.mk [0] O O O ?_ O ?_
    (repeat' (first|exact V0|refine V3 ?_|refine V2 ?_ ?_|fail))
    (all_goals (try (first|refine CvL.eq ?_|refine Cv.eq ?_)))
    all_goals simp [AV.ren, renL, le]
  · exact Nat.zero_le _
  · intro j hj
    have hjl : (bsP (l ++ le n j)).length = l.length + j := by simp [le_length]
    have hjl2 : (le n j).length = j := le_length n j
    rcases Nat.lt_or_ge j k with h | h
    · have hw := bs_snoc' l n j (IntKind.u8.wrap ((n : Int) / 2 ^ (8 * (j : Int)).toNat)) (by
        rw [IntKind.wrap_u8, show (8 * (j : Int)).toNat = 8 * j by omega, pow_step', show ((256 : Int) ^ j) = ((256 ^ j : Nat) : Int) by rw [Int.natCast_pow]; rfl]; rfl)
      (repeat' (first|refine AW.seq_k (fun K hK=>?_)|(refine hK _ ?_;clear hK)|refine AW.uC (fun hc=>?_) (fun hc=>?_)|refine AW.block ?_|refine AW.skip ?_|exact trivial|refine AW.rI [3, 5, 4] O ?_|refine UA ?_|fail))
      ((repeat (with_reducible refine inB_n ?_)); refine thenA_n ?_)
      refine ⟨j + 1, h, by omega, ?_⟩
      refine Conv.mk [0] O O O ?_ O ?_
      (repeat' (first|exact V0|refine V3 ?_|refine V2 ?_ ?_|fail))
      (all_goals (try (first|refine CvL.eq ?_|refine Cv.eq ?_)))
      all_goals (simp only [AV.ren, renL, hw]; first | done | rfl | (rw [IntWalk.i64_in _ (by omega)]; first | done | rfl))
    · obtain rfl : j = k := by omega
      (repeat' (first|refine AW.seq_k (fun K hK=>?_)|(refine hK _ ?_;clear hK)|refine AW.uC (fun hc=>?_) (fun hc=>?_)|refine AW.exit ?_|refine AW.ret ?_|(clear hK;refine hK _ ?_;clear hK)|exact trivial|refine AW.rI [3, 6] O ?_|refine UA ?_|fail))
      ((first|refine RetOk.tupS [0] O O O O O ?_ ?_|refine RetOk.oneS [0] O O O O ?_ ?_)<;>(repeat' (first|exact V0|refine V1 ?_|refine V2 ?_ ?_|fail)))
      (all_goals (try (first|refine CvL.eq ?_|refine Cv.eq ?_)))
      all_goals rfl
set_option maxHeartbeats 4000000 in
theorem rPut64_c (l : List UInt8) (f : Bool) (n : Nat) (hn : n < 18446744073709551616) (hl : l.length ≤ 1000000000) : ACalls Tryz.prog 64 [bsl l f, .v (.int .u64 (n : Int))] [] (bsl (l ++ le n 8) false) [] := by
  have q := rput_c l f n 8 (by omega) (by decide) hl
  refine (ACalls.of (fn := Tryz.f64) Tryz.func64 O O Tryz.ntmps64 (fun I M w own => ?_))
  (repeat' (first|refine AW.seq_k (fun K hK=>?_)|(refine hK _ ?_;clear hK)|refine AW.ret ?_|refine AW.region ?_|refine Run.c0 q O O O O O O O O ?_|refine UA ?_|fail))
  ((first|refine RetOk.tup O O ?_|refine RetOk.one O ?_)<;>(repeat' (first|exact V0|refine V1 ?_|refine V2 ?_ ?_|fail)))
set_option maxHeartbeats 4000000 in
theorem rget_c (l : List UInt8) (f : Bool) (a : Int) (ha : -9223372036854775808 ≤ a ∧ a ≤ 9223372036854775807) (k : Nat) (hk : 1 ≤ k ∧ k ≤ 8) (hl : l.length ≤ 1000000000) : ACalls Tryz.prog 109 [bsl l f, .v (.int .i64 a), .v (.int .i64 (k : Int))] [] (.tup [.v (.int .u64 ((getM l a k).1 : Int)), .v (.int .i64 (getM l a k).2.1), .v (.int .i64 (getM l a k).2.2)]) [] := by
  have hll : (bsP l).length = l.length := by simp
  by_cases h1 : a < 0 ∨ (l.length : Int) < a
  · rw [getM_out l a _ h1]
    refine (ACalls.of (fn := Tryz.f109) Tryz.func109 O O Tryz.ntmps109 (fun I M w own => ?_))
    (repeat' (first|refine AW.seq_k (fun K hK=>?_)|(refine hK _ ?_;clear hK)|refine AW.uC (fun hc=>?_) (fun hc=>?_)|refine AW.ret ?_|exact trivial|refine AW.rI [0, 1, 2] O ?_|refine UA ?_|fail))
    all_goals ((first|refine RetOk.tup O O ?_|refine RetOk.one O ?_)<;>(repeat' (first|exact V0|refine V1 ?_|refine V2 ?_ ?_|fail)))
  · obtain ⟨q, rfl⟩ : ∃ q : Nat, a = (q : Int) := ⟨a.toNat, by omega⟩
    by_cases h2 : l.length < q + k
    · rw [getM_short l q _ (by omega) h2]
      refine (ACalls.of (fn := Tryz.f109) Tryz.func109 O O Tryz.ntmps109 (fun I M w own => ?_))
      (repeat' (first|refine AW.seq_k (fun K hK=>?_)|(refine hK _ ?_;clear hK)|refine AW.uC (fun hc=>?_) (fun hc=>?_)|refine AW.ret ?_|refine AW.skip ?_|exact trivial|refine AW.rI [0, 1, 3, 4] O ?_|refine UA ?_|fail))
      all_goals ((first|refine RetOk.tup O O ?_|refine RetOk.one O ?_)<;>(repeat' (first|exact V0|refine V1 ?_|refine V2 ?_ ?_|fail)))
    · rw [getM_in l q _ (by omega)]
      refine (ACalls.of (fn := Tryz.f109) Tryz.func109 O O Tryz.ntmps109 (fun I M w own => ?_))
      (repeat' (first|refine AW.seq_k (fun K hK=>?_)|(refine hK _ ?_;clear hK)|refine AW.uC (fun hc=>?_) (fun hc=>?_)|refine AW.block ?_|refine AW.skip ?_|exact trivial|refine AW.rI [0, 1, 3, 5, 6] O ?_|refine UA ?_|fail))
      refine AW.loopF (X := Nat) (fun x => ⟨[(0, bsl l f), (1, .v (.int .i64 (q : Int))), (2, .v (.int .i64 (k : Int))), (9, .v (.int .u64 (unle (seg l (q + x) (k - x)) : Int))), (10, .v (.int .i64 ((x : Int) - 1)))], []⟩)
        (fun x => x ≤ k) (fun x => x) k ?_ ?_ ?_
      · refine Conv.mk [] O O O ?_ O ?_
        (repeat' (first|exact V0|refine V3 ?_|refine V2 ?_ ?_|fail))
        (all_goals (try (first|refine CvL.eq ?_|refine Cv.eq ?_)))
        all_goals simp [AV.ren, seg, unle]
      · exact Nat.le_refl _
      · intro x hx
        rcases Nat.eq_zero_or_pos x with h | h
        · subst h
          (repeat' (first|refine AW.seq_k (fun K hK=>?_)|(refine hK _ ?_;clear hK)|refine AW.uC (fun hc=>?_) (fun hc=>?_)|refine AW.exit ?_|refine AW.ret ?_|(clear hK;refine hK _ ?_;clear hK)|exact trivial|refine AW.rI [7, 10] O ?_|refine UA ?_|fail))
          ((first|refine RetOk.tup O O ?_|refine RetOk.one O ?_)<;>(repeat' (first|exact V0|refine V1 ?_|refine V2 ?_ ?_|fail)))
          (all_goals (try (first|refine CvL.eq ?_|refine Cv.eq ?_)))
          all_goals simp [AV.ren]
        · obtain ⟨j, rfl⟩ : ∃ j, x = j + 1 := ⟨x - 1, by omega⟩
          have hjl : q + j < l.length := by omega
          have hA : At (bsP l) ((q : Int) + (((j + 1 : Nat) : Int) - 1)) [PV.v (.int .u8 (l[q + j].toNat : Int))] := At.mk (q + j) (by omega) (by simp [hjl])
          have hss : unle (seg l (q + j) (k - j)) = l[q + j].toNat + 256 * unle (seg l (q + (j + 1)) (k - (j + 1))) := by
            rw [show k - j = k - (j + 1) + 1 by omega, seg_cons l (q + j) _ hjl, unle, show q + j + 1 = q + (j + 1) by omega]
          have hr := unle_lt (seg l (q + (j + 1)) (k - (j + 1)))
          rw [seg_length l _ _ (by omega)] at hr
          have hO := or64' (unle (seg l (q + (j + 1)) (k - (j + 1)))) (k - (j + 1)) l[q + j] hr (by omega)
          rw [byte_u64] at hO
          generalize l[q + j] = c at hA hss hO
          have hcb := c.toNat_lt
          generalize unle (seg l (q + (j + 1)) (k - (j + 1))) = r at hss hO hr
          (repeat' (first|refine AW.seq_k (fun K hK=>?_)|(refine hK _ ?_;clear hK)|refine AW.uC (fun hc=>?_) (fun hc=>?_)|refine AW.block ?_|refine AW.skip ?_|exact trivial|refine AW.rI [7, 9, 8] O ?_|refine UA ?_|fail))
          ((repeat (with_reducible refine inB_n ?_)); refine thenA_n ?_)
          refine ⟨j, by omega, by omega, ?_⟩
          refine Conv.mk [] O O O ?_ O ?_
          (repeat' (first|exact V0|refine V3 ?_|refine V2 ?_ ?_|fail))
          (all_goals (try (first|refine CvL.eq ?_|refine Cv.eq ?_)))
          · simp only [AV.ren, hO, hss]
          · simp only [AV.ren]; congr 2; omega
set_option maxHeartbeats 4000000 in
theorem rGet16_c (l : List UInt8) (f : Bool) (a : Int) (ha : -9223372036854775808 ≤ a ∧ a ≤ 9223372036854775807) (hl : l.length ≤ 1000000000) : ACalls Tryz.prog 107 [bsl l f, .v (.int .i64 a)] [] (.tup [.v (.int .u16 ((getM l a 2).1 : Int)), .v (.int .i64 (getM l a 2).2.1), .v (.int .i64 (getM l a 2).2.2)]) [] := by
  have q := rget_c l f a ha 2 (by decide) hl
  have hb := getM_lt l a 2
  generalize getM l a 2 = g at q hb
  simp only [Nat.reducePow] at hb
  refine (ACalls.of (fn := Tryz.f107) Tryz.func107 O O Tryz.ntmps107 (fun I M w own => ?_))
  (repeat' (first|refine AW.seq_k (fun K hK=>?_)|(refine hK _ ?_;clear hK)|refine AW.ret ?_|refine AW.region ?_|refine Run.c0 q O O O O O O O O ?_|refine UA ?_|fail))
  ((first|refine RetOk.tup O O ?_|refine RetOk.one O ?_)<;>(repeat' (first|exact V0|refine V1 ?_|refine V2 ?_ ?_|fail)))
set_option maxHeartbeats 4000000 in
theorem rGet64_c (l : List UInt8) (f : Bool) (a : Int) (ha : -9223372036854775808 ≤ a ∧ a ≤ 9223372036854775807) (hl : l.length ≤ 1000000000) : ACalls Tryz.prog 108 [bsl l f, .v (.int .i64 a)] [] (.tup [.v (.int .u64 ((getM l a 8).1 : Int)), .v (.int .i64 (getM l a 8).2.1), .v (.int .i64 (getM l a 8).2.2)]) [] := by
  have q := rget_c l f a ha 8 (by decide) hl
  have hb := getM_lt l a 8
  generalize getM l a 8 = g at q hb
  simp only [Nat.reducePow] at hb
  refine (ACalls.of (fn := Tryz.f108) Tryz.func108 O O Tryz.ntmps108 (fun I M w own => ?_))
  (repeat' (first|refine AW.seq_k (fun K hK=>?_)|(refine hK _ ?_;clear hK)|refine AW.ret ?_|refine AW.region ?_|refine Run.c0 q O O O O O O O O ?_|refine UA ?_|fail))
  ((first|refine RetOk.tup O O ?_|refine RetOk.one O ?_)<;>(repeat' (first|exact V0|refine V1 ?_|refine V2 ?_ ?_|fail)))
set_option maxHeartbeats 4000000 in
theorem put16R_c (l : List UInt8) (f : Bool) (n : Nat) (hn : n < 65536) (hl : l.length ≤ 1000000000) : ACalls Tryz.prog 118 [bsl l f, .v (.int .u16 (n : Int)), .v (.int .i64 2)] [] (.row 0 (bsP (l ++ le n 2)).length) [.row 1 (bsP (l ++ le n 2))] := by
  have hll : (bsP l).length = l.length := by simp
  refine (ACalls.of (fn := Tryz.f118) Tryz.func118 O O Tryz.ntmps118 (fun I M w own => ?_))
  (repeat' (first|refine AW.seq_k (fun K hK=>?_)|(refine hK _ ?_;clear hK)|refine AW.rI [0, 1] O ?_|refine Run.apB (sz := 1) O O O O (Or.inl ⟨_, rfl⟩) O O O (SrcNI.dat Dat.sl) (by simp;rfl) (by simp) (mm := l.length) (by simp) (by omega) O (by omega) (by simp [maxLen];omega) (by (repeat constructor);first|done|fail) O ?_|refine Um ?_|fail))
  refine AW.freezeW 0 1 (bsP l) (List.replicate 2 [PV.v (.int .u8 0)]) ((bsP l).length + 2) O (by simp; rfl) (by simp; intro y hy; rcases hy with ⟨_, _, rfl⟩ | rfl <;> rfl) (by simp) (by omega) ?_
  (repeat' (first|(refine hK _ ?_;clear hK)|refine AW.block ?_|refine rG 2 ?_|refine UA ?_|fail))
  refine AW.loopF (X := Nat) (fun x => ⟨[(1, .v (.int .u16 ((n / 256 ^ x : Nat) : Int))), (7, .row 0 (bsP (l ++ le n x)).length), (15, .v (.int .i64 2)), (16, .v (.int .i64 (x : Int)))], [.row 1 (bsP (l ++ le n x))]⟩)
    (fun x => x ≤ 2) (fun x => 2 - x) 0 ?_ ?_ ?_
  · refine Conv.mk [1] O O O ?_ O ?_
    (repeat' (first|exact V0|refine V3 ?_|refine V2 ?_ ?_|fail))
    (all_goals (try (first|refine CvL.eq ?_|refine Cv.eq ?_)))
    all_goals simp [AV.ren, renL, le]
  · simp
  · intro j hj
    have hjl : (bsP (l ++ le n j)).length = l.length + j := by simp [le_length]
    have hjl2 : (le n j).length = j := le_length n j
    rcases Nat.lt_or_ge j 2 with h | h
    · have hb : n / 256 ^ j < 65536 := Nat.lt_of_le_of_lt (Nat.div_le_self _ _) hn
      have hd : n / 256 ^ j / 256 = n / 256 ^ (j + 1) := by rw [Nat.pow_succ, Nat.div_div_eq_div_mul]
      have hs := bs_snoc' l n j
      generalize n / 256 ^ j = q at hb hd hs
      have hw := hs (IntKind.u8.wrap (q : Int)) (by rw [IntKind.wrap_u8]; omega)
      have hd' : (q : Int) / 256 = ((n / 256 ^ (j + 1) : Nat) : Int) := by rw [← hd]; rfl
      (repeat' (first|refine AW.seq_k (fun K hK=>?_)|(refine hK _ ?_;clear hK)|refine AW.uC (fun hc=>?_) (fun hc=>?_)|refine AW.block ?_|refine AW.skip ?_|exact trivial|refine AW.rI [3, 4, 5, 6] O ?_|refine UA ?_|fail))
      ((repeat (with_reducible refine inB_n ?_)); refine thenA_n ?_)
      refine ⟨j + 1, h, by omega, ?_⟩
      refine Conv.mk [0] O O O ?_ O ?_
      (repeat' (first|exact V0|refine V3 ?_|refine V2 ?_ ?_|fail))
      (all_goals (try (first|refine CvL.eq ?_|refine Cv.eq ?_)))
      all_goals (simp only [AV.ren, renL, hw, hd']; first | done | rfl | (rw [IntWalk.i64_in _ (by omega)]; first | done | rfl))
    · obtain rfl : j = 2 := by omega
      (repeat' (first|refine AW.seq_k (fun K hK=>?_)|(refine hK _ ?_;clear hK)|refine AW.uC (fun hc=>?_) (fun hc=>?_)|refine AW.exit ?_|refine AW.ret ?_|(clear hK;refine hK _ ?_;clear hK)|exact trivial|refine AW.rI [3, 7] O ?_|refine UA ?_|fail))
      ((first|refine RetOk.tupS [0] O O O O O ?_ ?_|refine RetOk.oneS [0] O O O O ?_ ?_)<;>(repeat' (first|exact V0|refine V1 ?_|refine V2 ?_ ?_|fail)))
      (all_goals (try (first|refine CvL.eq ?_|refine Cv.eq ?_)))
      all_goals rfl
set_option maxHeartbeats 4000000 in
theorem Put16R_c (l : List UInt8) (f : Bool) (n : Nat) (hn : n < 65536) (hl : l.length ≤ 1000000000) : ACalls Tryz.prog 84 [bsl l f, .v (.int .u16 (n : Int))] [] (.row 0 (bsP (l ++ le n 2)).length) [.row 1 (bsP (l ++ le n 2))] := by
  have h := put16R_c l f n hn hl
  refine (ACalls.of (fn := Tryz.f84) Tryz.func84 O O Tryz.ntmps84 (fun I M w own => ?_))
  (repeat' (first|refine AW.seq_k (fun K hK=>?_)|(refine hK _ ?_;clear hK)|refine AW.ret ?_|refine AW.region ?_|refine Run.cSA [] h O O O O O O O O O O O O ?_|refine UA ?_|fail))
  ((first|refine RetOk.tupS [0] O O O O O ?_ ?_|refine RetOk.oneS [0] O O O O ?_ ?_)<;>(repeat' (first|exact V0|refine V1 ?_|refine V2 ?_ ?_|fail)))
  all_goals first | rfl | (refine Cv.eq ?_; rfl)
set_option maxHeartbeats 4000000 in
theorem rPut16R_c (l : List UInt8) (f : Bool) (n : Nat) (hn : n < 65536) (hl : l.length ≤ 1000000000) : ACalls Tryz.prog 63 [bsl l f, .v (.int .u16 (n : Int))] [] (.row 0 (bsP (l ++ le n 2)).length) [.row 1 (bsP (l ++ le n 2))] := by
  have h := rputR_c l f n 2 (by omega) (by decide) hl
  refine (ACalls.of (fn := Tryz.f63) Tryz.func63 O O Tryz.ntmps63 (fun I M w own => ?_))
  (repeat' (first|refine AW.seq_k (fun K hK=>?_)|(refine hK _ ?_;clear hK)|refine AW.ret ?_|refine AW.region ?_|refine Run.cSA [] h O O O O O O O O O O O O ?_|refine UA ?_|fail))
  ((first|refine RetOk.tupS [0] O O O O O ?_ ?_|refine RetOk.oneS [0] O O O O ?_ ?_)<;>(repeat' (first|exact V0|refine V1 ?_|refine V2 ?_ ?_|fail)))
  all_goals first | rfl | (refine Cv.eq ?_; rfl)
end Go.Proofs.YtbbcokckealagaaGreat
