/-
  Walk of chapter 41: the record of bytes, or the error, the reference.
-/
import Derived.Test.YtbbcokckealagaaGreatQAA
import Derived.Test.YtbbcokckealagaaGreatQED
namespace Go.Proofs.YtbbcokckealagaaGreat
set_option linter.unusedVariables false
set_option linter.unusedSimpArgs false
theorem bad_end {b : List UInt8} (h : (recM b).2.er ≠ 0) : decM b = none := by rw [decM, if_pos (.inl h)]
set_option maxHeartbeats 4000000 in
theorem rDecode_c (b : List UInt8) (f : Bool) (hb : b.length ≤ 1000000000) : ACalls Tryz.prog 25 [bsl b f] [] (decE (decM b)) [] := by
  obtain ⟨ho, hw, ht⟩ := recM_ok b hb
  have hp := qProper_c okR (recM b).1 ho (ps_ref _ (by omega))
  have hby : properR okR (recM b).1 = true → _ := fun h => bytes_c (recM b).1 (proper_fine h hw)
  have hcan := fun h1 h2 => canon (b := b) h1 h2 hw
  have hbad := bad_end (b := b)
  have hD : decM b = if (recM b).2.er ≠ 0 ∨ properR okR (recM b).1 = false then none else some (recM b).1 := rfl
  generalize decM b = D at hbad hD
  clear ho hw ht
  generalize hR : recM b = R at hp hby hcan hbad hD
  simp only [recM] at hR
  have h1 := small_q b ⟨0, 0⟩ hb (ok0 b)
  have o1 := curN_ok (k := 2) (ok0 b)
  generalize curN b 2 ⟨0, 0⟩ = q1 at hR h1 o1
  have h2 := large_q b q1.2 hb o1
  have o2 := curN_ok (k := 8) o1
  generalize curN b 8 q1.2 = q2 at hR h2 o2
  have h3 := rGetText_c b f q2.2.off (by have := o2.1; have := o2.2; omega) hb
  have o3 := curT_ok o2
  have c3 : curT b q2.2 = curT b q2.2 := rfl
  conv at c3 => rhs; rw [curT]
  generalize curT b q2.2 = q3 at hR o3 c3
  generalize textM b q2.2.off = g at h3 c3
  have h4 := small_q b q3.2 hb o3
  have o4 := curN_ok (k := 2) o3
  have k4 := curN_back (b := b) (k := 2) (s := q3.2)
  generalize curN b 2 q3.2 = q4 at hR h4 o4 k4
  have h5 := small_q b q4.2 hb o4
  have o5 := curN_ok (k := 2) o4
  have k5 := curN_back (b := b) (k := 2) (s := q4.2)
  generalize curN b 2 q4.2 = q5 at hR h5 o5 k5
  have h6 := large_q b q5.2 hb o5
  have o6 := curN_ok (k := 8) o5
  have k6 := curN_back (b := b) (k := 8) (s := q5.2)
  generalize curN b 8 q5.2 = q6 at hR h6 o6 k6
  have h7 := large_q b q6.2 hb o6
  have o7 := curN_ok (k := 8) o6
  have k7 := curN_back (b := b) (k := 8) (s := q6.2)
  generalize curN b 8 q6.2 = q7 at hR h7 o7 k7
  have h8 := small_q b q7.2 hb o7
  have o8 := curN_ok (k := 2) o7
  have k8 := curN_back (b := b) (k := 2) (s := q7.2)
  generalize curN b 2 q7.2 = q8 at hR h8 o8 k8
  have h9 := large_q b q8.2 hb o8
  have o9 := curN_ok (k := 8) o8
  have k9 := curN_back (b := b) (k := 8) (s := q8.2)
  generalize curN b 8 q8.2 = q9 at hR h9 o9 k9
  have h10 := small_q b q9.2 hb o9
  have o10 := curN_ok (k := 2) o9
  have k10 := curN_back (b := b) (k := 2) (s := q9.2)
  have n10 := curN_lt b 2 q9.2
  generalize curN b 2 q9.2 = q10 at hR h10 o10 n10 k10
  obtain ⟨v1, s1⟩ := q1
  obtain ⟨v2, s2⟩ := q2
  obtain ⟨v3, s3⟩ := q3
  obtain ⟨v4, s4⟩ := q4
  obtain ⟨v5, s5⟩ := q5
  obtain ⟨v6, s6⟩ := q6
  obtain ⟨v7, s7⟩ := q7
  obtain ⟨v8, s8⟩ := q8
  obtain ⟨v9, s9⟩ := q9
  obtain ⟨v10, s10⟩ := q10
  obtain ⟨g1, g2, g3⟩ := g
  simp only at hR h1 h2 h3 h4 h5 h6 h7 h8 h9 h10 o10 n10 c3 k4 k5 k6 k7 k8 k9 k10
  have hback : R.2.er = 0 → s3.er = 0 := by
    intro e
    rw [← hR] at e
    have k11 := setM_back (b := b) v10 s10 []
    generalize setM b v10 s10 [] = q11 at e k11
    have k12 := curN_back (b := b) (k := 2) (s := q11.2)
    generalize curN b 2 q11.2 = q12 at e k12
    split at e
    · exact k4 (k5 (k6 (k7 (k8 (k9 (k10 (k11 (k12 e))))))))
    · simp at e
  refine (ACalls.of (fn := Tryz.f25) Tryz.func25 O O Tryz.ntmps25 (fun I M w own => ?_))
  (repeat' (first|refine AW.seq_k (fun K hK=>?_)|(refine hK _ ?_;clear hK)|refine AW.rI [0, 1, 2] O ?_|refine Ud ?_|fail))
  refine AW.conv (s' := ⟨[(0, bsl b f), (2, .ptr 0 0), (4, .ptr 1 0), (5, .ptr 2 0)], [.box [.v (.int .i64 0), .v (.int .i64 0), .v (.string (bs [])), .v (.int .i64 0), .v (.int .i64 0), .v (.int .i64 0), .v (.int .i64 0), .v (.int .i64 0), .v (.int .u64 0), .v (.slice none 0 0), .v (.string (bs []))], .box [bsl b false, .v (.int .i64 0), .v (.bool (decide ((0 : Int) ≠ 0)))], .box [.v (.int .i64 0), .v (.int .i64 0), .v (.string (bs [])), .v (.int .i64 0), .v (.int .i64 0), .v (.int .i64 0), .v (.int .i64 0), .v (.int .i64 0), .v (.int .u64 0), .v (.slice none 0 0), .v (.string (bs []))]]⟩) (Conv.mk [0, 1, 2] O O O ?_ O ?_) ?_
  · (repeat' (first|exact V0|refine V3 ?_|refine V2 ?_ ?_|fail))
  · (repeat' (first|exact V0|refine V3 ?_|refine V2 ?_ ?_|fail))
    all_goals first | rfl | (refine Cv.eq ?_; rfl)
  (repeat' (first|refine AW.seq_k (fun K hK=>?_)|(refine hK _ ?_;clear hK)|refine rG 3 ?_|refine Run.cSA [1] h1 O O O O O O O O O O O O ?_|refine Run.cSA [1] h2 O O O O O O O O O O O O ?_|refine Ud ?_|fail))
  by_cases e2 : s2.er ≠ 0
  · rw [if_pos e2] at c3
    have hDn : D = none := hbad (fun e => e2 (by have := hback e; rw [(Prod.mk.inj c3).2] at this; exact this))
    subst hDn
    refine AW.conv (s' := ⟨[(0, bsl b f), (2, .ptr 0 0), (4, .ptr 1 0), (5, .ptr 2 0)], [.box [.v (.int .i64 0), .v (.int .i64 0), .v (.string (bs [])), .v (.int .i64 0), .v (.int .i64 0), .v (.int .i64 0), .v (.int .i64 0), .v (.int .i64 0), .v (.int .u64 0), .v (.slice none 0 0), .v (.string (bs []))], .box [bsl b false, .v (.int .i64 s2.off), .v (.bool true)], .box [.v (.int .i64 (v1 : Int)), .v (.int .i64 (i64w v2)), .v (.string (bs [])), .v (.int .i64 0), .v (.int .i64 0), .v (.int .i64 0), .v (.int .i64 0), .v (.int .i64 0), .v (.int .u64 0), .v (.slice none 0 0), .v (.string (bs []))]]⟩) (Conv.mk [0, 1, 2] O O O ?_ O ?_) ?_
    · (repeat' (first|exact V0|refine V3 ?_|refine V2 ?_ ?_|fail))
    · (repeat' (first|exact V0|refine V3 ?_|refine V2 ?_ ?_|fail))
      all_goals first | rfl | (refine Cv.eq ?_; simp [AV.ren, renL, e2]; done)
    (repeat' (first|refine AW.seq_k (fun K hK=>?_)|(refine hK _ ?_;clear hK)|refine AW.uC (fun hc=>?_) (fun hc=>?_)|refine AW.ret ?_|exact trivial|refine AW.rI [4, 5, 6] O ?_|refine Run.c0 h3 O O O O O O O O ?_|refine Ud ?_|fail))
    ((first|refine RetOk.tup O O ?_|refine RetOk.one O ?_)<;>(repeat' (first|exact V0|refine V1 ?_|refine V2 ?_ ?_|fail)))
  rw [if_neg e2] at c3
  refine AW.conv (s' := ⟨[(0, bsl b f), (2, .ptr 0 0), (4, .ptr 1 0), (5, .ptr 2 0)], [.box [.v (.int .i64 0), .v (.int .i64 0), .v (.string (bs [])), .v (.int .i64 0), .v (.int .i64 0), .v (.int .i64 0), .v (.int .i64 0), .v (.int .i64 0), .v (.int .u64 0), .v (.slice none 0 0), .v (.string (bs []))], .box [bsl b false, .v (.int .i64 s2.off), .v (.bool false)], .box [.v (.int .i64 (v1 : Int)), .v (.int .i64 (i64w v2)), .v (.string (bs [])), .v (.int .i64 0), .v (.int .i64 0), .v (.int .i64 0), .v (.int .i64 0), .v (.int .i64 0), .v (.int .u64 0), .v (.slice none 0 0), .v (.string (bs []))]]⟩) (Conv.mk [0, 1, 2] O O O ?_ O ?_) ?_
  · (repeat' (first|exact V0|refine V3 ?_|refine V2 ?_ ?_|fail))
  · (repeat' (first|exact V0|refine V3 ?_|refine V2 ?_ ?_|fail))
    all_goals first | rfl | (refine Cv.eq ?_; simp [AV.ren, renL, e2]; done)
  by_cases e3 : g3 ≠ 0
  · rw [if_pos e3] at c3
    have hDn : D = none := hbad (fun e => e3 (by have := hback e; rw [(Prod.mk.inj c3).2] at this; exact this))
    subst hDn
    (repeat' (first|refine AW.seq_k (fun K hK=>?_)|(refine hK _ ?_;clear hK)|refine AW.uC (fun hc=>?_) (fun hc=>?_)|refine AW.ret ?_|exact trivial|refine AW.rI [4, 5, 6] O ?_|refine Run.c0 h3 O O O O O O O O ?_|refine Ud ?_|fail))
    ((first|refine RetOk.tup O O ?_|refine RetOk.one O ?_)<;>(repeat' (first|exact V0|refine V1 ?_|refine V2 ?_ ?_|fail)))
  rw [if_neg e3] at c3
  obtain ⟨rfl, rfl⟩ := Prod.mk.inj c3
  have e30 : g3 = 0 := Decidable.not_not.1 e3
  subst e30
  (repeat' (first|refine AW.seq_k (fun K hK=>?_)|(refine hK _ ?_;clear hK)|refine AW.uC (fun hc=>?_) (fun hc=>?_)|refine AW.skip ?_|exact trivial|refine AW.rI [4, 5, 7] O ?_|refine Run.c0 h3 O O O O O O O O ?_|refine Ud ?_|fail))
  refine AW.conv (s' := ⟨[(0, bsl b f), (2, .ptr 0 0), (4, .ptr 1 0), (5, .ptr 2 0)], [.box [.v (.int .i64 0), .v (.int .i64 0), .v (.string (bs [])), .v (.int .i64 0), .v (.int .i64 0), .v (.int .i64 0), .v (.int .i64 0), .v (.int .i64 0), .v (.int .u64 0), .v (.slice none 0 0), .v (.string (bs []))], .box [bsl b false, .v (.int .i64 g2), .v (.bool (decide ((0 : Int) ≠ 0)))], .box [.v (.int .i64 (v1 : Int)), .v (.int .i64 (i64w v2)), .v (.string (bs v3)), .v (.int .i64 0), .v (.int .i64 0), .v (.int .i64 0), .v (.int .i64 0), .v (.int .i64 0), .v (.int .u64 0), .v (.slice none 0 0), .v (.string (bs []))]]⟩) (Conv.mk [0, 1, 2] O O O ?_ O ?_) ?_
  · (repeat' (first|exact V0|refine V3 ?_|refine V2 ?_ ?_|fail))
  · (repeat' (first|exact V0|refine V3 ?_|refine V2 ?_ ?_|fail))
    all_goals first | rfl | (refine Cv.eq ?_; simp [AV.ren, renL, e2]; done)
  (repeat' (first|refine AW.seq_k (fun K hK=>?_)|(refine hK _ ?_;clear hK)|refine AW.block ?_|refine AW.rI [8, 9, 10, 11] O ?_|refine Run.cSA [1] h4 O O O O O O O O O O O O ?_|refine Run.cSA [1] h5 O O O O O O O O O O O O ?_|refine Run.cSA [1] h6 O O O O O O O O O O O O ?_|refine Run.cSA [1] h7 O O O O O O O O O O O O ?_|refine Run.cSA [1] h8 O O O O O O O O O O O O ?_|refine Run.cSA [1] h9 O O O O O O O O O O O O ?_|refine Run.cSA [1] h10 O O O O O O O O O O O O ?_|refine Ud ?_|fail))
  obtain ⟨q11, hq11⟩ : ∃ q, q = setM b v10 s10 [] := ⟨_, rfl⟩
  rw [← hq11] at hR
  refine AW.loopF (X := Nat × Cu × List Int) (fun y => ⟨[(0, bsl b f), (2, .ptr 0 0), (4, .ptr 1 0), (5, .ptr 2 0), (9, .v (.int .i64 (y.1 : Int)))], [.box [.v (.int .i64 0), .v (.int .i64 0), .v (.string (bs [])), .v (.int .i64 0), .v (.int .i64 0), .v (.int .i64 0), .v (.int .i64 0), .v (.int .i64 0), .v (.int .u64 0), .v (.slice none 0 0), .v (.string (bs []))], .box [bsl b false, .v (.int .i64 y.2.1.off), .v (.bool (decide (y.2.1.er ≠ 0)))], .box [.v (.int .i64 (v1 : Int)), .v (.int .i64 (i64w v2)), .v (.string (bs v3)), .v (.int .i64 (v4 : Int)), .v (.int .i64 (v5 : Int)), .v (.int .i64 (i64w v6)), .v (.int .i64 (i64w v7)), .v (.int .i64 (v8 : Int)), .v (.int .u64 (v9 : Int)), .row 3 (ids y.2.2).length, .v (.string (bs []))], .row 1 (ids y.2.2)]⟩)
    (fun y => y.2.1.ok b ∧ y.1 + y.2.2.length ≤ 65535 ∧ setM b y.1 y.2.1 y.2.2 = q11) (fun y => y.1) (v10, s10, []) ?_ ⟨o10, by simp only [List.length_nil]; omega, hq11.symm⟩ ?_
  · refine Conv.ownB 2 9 1 [] O O (Or.inr ⟨rfl, rfl⟩) (by repeat constructor) (by repeat constructor) ?_
    refine Conv.mk [0, 1, 2, 3] O O O ?_ O ?_
    · (repeat' (first|exact V0|refine V3 ?_|refine V2 ?_ ?_|fail))
    · (repeat' (first|exact V0|refine V3 ?_|refine V2 ?_ ?_|fail))
      all_goals first | rfl | (refine Cv.eq ?_; simp [AV.ren, renL]; done)
  rintro ⟨n, s, l⟩ ⟨i1, i2, i3⟩
  simp only at i1 i2 i3 ⊢
  have hll : (ids l).length = l.length := by simp
  by_cases her : s.er = 0
  · have hbf : decide (s.er ≠ 0) = false := by simp [her]
    rcases Nat.eq_zero_or_pos n with hn0 | hn0
    · subst hn0
      rw [setM] at i3
      subst i3
      simp only at hR
      have h12 := small_q b s hb i1
      rw [show cuQ b s = [.box [bsl b false, .v (.int .i64 s.off), .v (.bool false)]] by simp [cuQ, her]] at h12
      have n12 := curN_lt b 2 s
      have o12 := curN_ok (k := 2) i1
      generalize curN b 2 s = q12 at hR h12 o12 n12
      obtain ⟨v12, s12⟩ := q12
      simp only at hR h12 o12 n12
      obtain ⟨p1, p2⟩ := o12
      have hbl : (bsP b).length = b.length := by simp
      have hB : (bsP b).drop s12.off.toNat = bsP (b.drop s12.off.toNat) := (List.map_drop ..).symm
      have hng : ¬ ((0 : Nat) : Int) > 0 := by omega
      refine AW.conv (s' := ⟨[(0, bsl b f), (2, .ptr 0 0), (4, .ptr 1 0), (5, .ptr 2 0), (9, .v (.int .i64 ((0 : Nat) : Int)))], [.box [.v (.int .i64 0), .v (.int .i64 0), .v (.string (bs [])), .v (.int .i64 0), .v (.int .i64 0), .v (.int .i64 0), .v (.int .i64 0), .v (.int .i64 0), .v (.int .u64 0), .v (.slice none 0 0), .v (.string (bs []))], .box [bsl b false, .v (.int .i64 s.off), .v (.bool false)], .box [.v (.int .i64 (v1 : Int)), .v (.int .i64 (i64w v2)), .v (.string (bs v3)), .v (.int .i64 (v4 : Int)), .v (.int .i64 (v5 : Int)), .v (.int .i64 (i64w v6)), .v (.int .i64 (i64w v7)), .v (.int .i64 (v8 : Int)), .v (.int .u64 (v9 : Int)), .row 3 (ids l).length, .v (.string (bs []))], .row 1 (ids l)]⟩) (Conv.mk [0, 1, 2, 3] O O O ?_ O ?_) ?_
      · (repeat' (first|exact V0|refine V3 ?_|refine V2 ?_ ?_|fail))
      · (repeat' (first|exact V0|refine V3 ?_|refine V2 ?_ ?_|fail))
        all_goals first | rfl | (refine Cv.eq ?_; simp [AV.ren, renL, her]; done)
      (repeat' (first|refine AW.seq_k (fun K hK=>?_)|(refine hK _ ?_;clear hK)|refine AW.uC (fun hc=>?_) (fun hc=>?_)|refine AW.exit ?_|(clear hK;refine hK _ ?_;clear hK)|exact trivial|refine AW.rI [12, 15] O ?_|refine Run.cSA [1] h12 O O O O O O O O O O O O ?_|refine Ud ?_|fail))
      by_cases e12 : s12.er = 0
      · by_cases e13 : s12.off + (v12 : Int) ≠ ((bsP b).length : Int)
        · rw [if_neg (fun h => e13 (by omega))] at hR
          have hDn : D = none := hbad (by rw [← hR]; simp)
          subst hDn
          refine AW.conv (s' := ⟨[(0, bsl b f), (2, .ptr 0 0), (4, .ptr 1 0), (5, .ptr 2 0), (10, .v (.int .i64 (v12 : Int)))], [.box [.v (.int .i64 0), .v (.int .i64 0), .v (.string (bs [])), .v (.int .i64 0), .v (.int .i64 0), .v (.int .i64 0), .v (.int .i64 0), .v (.int .i64 0), .v (.int .u64 0), .v (.slice none 0 0), .v (.string (bs []))], .box [bsl b false, .v (.int .i64 s12.off), .v (.bool false)], .box [.v (.int .i64 (v1 : Int)), .v (.int .i64 (i64w v2)), .v (.string (bs v3)), .v (.int .i64 (v4 : Int)), .v (.int .i64 (v5 : Int)), .v (.int .i64 (i64w v6)), .v (.int .i64 (i64w v7)), .v (.int .i64 (v8 : Int)), .v (.int .u64 (v9 : Int)), .sl 1 (ids l) false, .v (.string (bs []))]]⟩) (Conv.mk [0, 1, 2] O O O ?_ O ?_) ?_
          · (repeat' (first|exact V0|refine V3 ?_|refine V2 ?_ ?_|fail))
          · (repeat' (first|exact V0|refine V3 ?_|refine V2 ?_ ?_|fail))
            all_goals first | rfl | (refine Cv.eq ?_; simp [AV.ren, renL, e12]; done)
          (repeat' (first|refine AW.seq_k (fun K hK=>?_)|(refine hK _ ?_;clear hK)|refine AW.uC (fun hc=>?_) (fun hc=>?_)|refine AW.ret ?_|exact trivial|refine AW.rI [16, 17] O ?_|refine Ud ?_|fail))
          ((first|refine RetOk.tup O O ?_|refine RetOk.one O ?_)<;>(repeat' (first|exact V0|refine V1 ?_|refine V2 ?_ ?_|fail)))
        · rw [if_pos ⟨e12, by omega⟩] at hR
          subst hR
          simp only at hp hby hcan hD hbad
          refine AW.conv (s' := ⟨[(0, bsl b f), (2, .ptr 0 0), (4, .ptr 1 0), (5, .ptr 2 0), (10, .v (.int .i64 (v12 : Int)))], [.box [.v (.int .i64 0), .v (.int .i64 0), .v (.string (bs [])), .v (.int .i64 0), .v (.int .i64 0), .v (.int .i64 0), .v (.int .i64 0), .v (.int .i64 0), .v (.int .u64 0), .v (.slice none 0 0), .v (.string (bs []))], .box [bsl b false, .v (.int .i64 s12.off), .v (.bool false)], .box [.v (.int .i64 (v1 : Int)), .v (.int .i64 (i64w v2)), .v (.string (bs v3)), .v (.int .i64 (v4 : Int)), .v (.int .i64 (v5 : Int)), .v (.int .i64 (i64w v6)), .v (.int .i64 (i64w v7)), .v (.int .i64 (v8 : Int)), .v (.int .u64 (v9 : Int)), .sl 1 (ids l) false, .v (.string (bs []))]]⟩) (Conv.mk [0, 1, 2] O O O ?_ O ?_) ?_
          · (repeat' (first|exact V0|refine V3 ?_|refine V2 ?_ ?_|fail))
          · (repeat' (first|exact V0|refine V3 ?_|refine V2 ?_ ?_|fail))
            all_goals first | rfl | (refine Cv.eq ?_; simp [AV.ren, renL, e12]; done)
          simp only [e12, ne_eq, not_true_eq_false, false_or] at hD
          (repeat' (first|refine AW.seq_k (fun K hK=>?_)|(refine hK _ ?_;clear hK)|refine AW.uC (fun hc=>?_) (fun hc=>?_)|refine AW.skip ?_|exact trivial|refine AW.rI [16, 18] O ?_|refine Ud ?_|fail))
          cases hq : properR okR ⟨v1, i64w v2, v3, v4, v5, i64w v6, i64w v7, v8, v9, l, b.drop s12.off.toNat⟩ with
          | false =>
            rw [hq] at hp hD
            rw [if_pos O] at hD
            subst hD
            (repeat' (first|refine AW.seq_k (fun K hK=>?_)|(refine hK _ ?_;clear hK)|refine AW.uC (fun hc=>?_) (fun hc=>?_)|refine AW.ret ?_|exact trivial|refine AW.draw (id := 19) (by kernel_rfl) ?_|refine rG 20 ?_|refine Run.c0 hp O O O O O O O O ?_|refine Ud ?_|fail))
            ((first|refine RetOk.tup O O ?_|refine RetOk.one O ?_)<;>(repeat' (first|exact V0|refine V1 ?_|refine V2 ?_ ?_|fail)))
          | true =>
            rw [hq] at hp hD
            rw [if_neg (by decide)] at hD
            subst hD
            have hb1 := hby hq
            rw [hcan e12 hq] at hb1
            have hbb : ¬ (b ≠ b) := fun h => h O
            (repeat' (first|refine AW.seq_k (fun K hK=>?_)|(refine hK _ ?_;clear hK)|refine AW.uC (fun hc=>?_) (fun hc=>?_)|refine AW.ret ?_|refine AW.skip ?_|exact trivial|refine AW.draw (id := 19) (by kernel_rfl) ?_|refine rG 21 ?_|refine Run.c0 hp O O O O O O O O ?_|refine Run.c0 hb1 O O O O O O O O ?_|refine Ud ?_|fail))
            ((first|refine RetOk.tup O O ?_|refine RetOk.one O ?_)<;>(repeat' (first|exact V0|refine V1 ?_|refine V2 ?_ ?_|fail)))
      · rw [if_neg (fun h => e12 h.1)] at hR
        have hDn : D = none := hbad (by rw [← hR]; simp)
        subst hDn
        refine AW.conv (s' := ⟨[(0, bsl b f), (2, .ptr 0 0), (4, .ptr 1 0), (5, .ptr 2 0), (10, .v (.int .i64 (v12 : Int)))], [.box [.v (.int .i64 0), .v (.int .i64 0), .v (.string (bs [])), .v (.int .i64 0), .v (.int .i64 0), .v (.int .i64 0), .v (.int .i64 0), .v (.int .i64 0), .v (.int .u64 0), .v (.slice none 0 0), .v (.string (bs []))], .box [bsl b false, .v (.int .i64 s12.off), .v (.bool true)], .box [.v (.int .i64 (v1 : Int)), .v (.int .i64 (i64w v2)), .v (.string (bs v3)), .v (.int .i64 (v4 : Int)), .v (.int .i64 (v5 : Int)), .v (.int .i64 (i64w v6)), .v (.int .i64 (i64w v7)), .v (.int .i64 (v8 : Int)), .v (.int .u64 (v9 : Int)), .sl 1 (ids l) false, .v (.string (bs []))]]⟩) (Conv.mk [0, 1, 2] O O O ?_ O ?_) ?_
        · (repeat' (first|exact V0|refine V3 ?_|refine V2 ?_ ?_|fail))
        · (repeat' (first|exact V0|refine V3 ?_|refine V2 ?_ ?_|fail))
          all_goals first | rfl | (refine Cv.eq ?_; simp [AV.ren, renL, e12]; done)
        (repeat' (first|refine AW.seq_k (fun K hK=>?_)|(refine hK _ ?_;clear hK)|refine AW.uC (fun hc=>?_) (fun hc=>?_)|refine AW.ret ?_|exact trivial|refine AW.rI [16, 17] O ?_|refine Ud ?_|fail))
        ((first|refine RetOk.tup O O ?_|refine RetOk.one O ?_)<;>(repeat' (first|exact V0|refine V1 ?_|refine V2 ?_ ?_|fail)))
    · obtain ⟨n, rfl⟩ : ∃ m, n = m + 1 := ⟨n - 1, by omega⟩
      have hgt : ((n + 1 : Nat) : Int) > 0 := by omega
      have hlg := large_q b s hb i1
      rw [show cuQ b s = [.box [bsl b false, .v (.int .i64 s.off), .v (.bool false)]] by simp [cuQ, her]] at hlg
      have ho := curN_ok (k := 8) i1
      rw [setM, if_pos her] at i3
      generalize curN b 8 s = q at hlg ho i3
      refine AW.conv (s' := ⟨[(0, bsl b f), (2, .ptr 0 0), (4, .ptr 1 0), (5, .ptr 2 0), (9, .v (.int .i64 ((n + 1 : Nat) : Int)))], [.box [.v (.int .i64 0), .v (.int .i64 0), .v (.string (bs [])), .v (.int .i64 0), .v (.int .i64 0), .v (.int .i64 0), .v (.int .i64 0), .v (.int .i64 0), .v (.int .u64 0), .v (.slice none 0 0), .v (.string (bs []))], .box [bsl b false, .v (.int .i64 s.off), .v (.bool false)], .box [.v (.int .i64 (v1 : Int)), .v (.int .i64 (i64w v2)), .v (.string (bs v3)), .v (.int .i64 (v4 : Int)), .v (.int .i64 (v5 : Int)), .v (.int .i64 (i64w v6)), .v (.int .i64 (i64w v7)), .v (.int .i64 (v8 : Int)), .v (.int .u64 (v9 : Int)), .row 3 (ids l).length, .v (.string (bs []))], .row 1 (ids l)]⟩) (Conv.mk [0, 1, 2, 3] O O O ?_ O ?_) ?_
      · (repeat' (first|exact V0|refine V3 ?_|refine V2 ?_ ?_|fail))
      · (repeat' (first|exact V0|refine V3 ?_|refine V2 ?_ ?_|fail))
        all_goals first | rfl | (refine Cv.eq ?_; simp [AV.ren, renL, her]; done)
      (repeat' (first|refine AW.seq_k (fun K hK=>?_)|(refine hK _ ?_;clear hK)|refine AW.uC (fun hc=>?_) (fun hc=>?_)|refine AW.block ?_|refine AW.skip ?_|exact trivial|refine AW.draw (id := 14) (by kernel_rfl) ?_|refine AW.rI [12, 13] O ?_|refine Run.cSA [1] hlg O O O O O O O O O O O O ?_|refine Ud ?_|fail))
      ((repeat (with_reducible refine inB_n ?_)); refine thenA_n ?_)
      refine ⟨(n, q.2, l ++ [(q.1 : Int)]), ⟨ho, by simp only [List.length_append, List.length_singleton]; omega, i3⟩, by simp only; omega, ?_⟩
      refine Conv.mk [0, 1, 2, 3] O O O ?_ O ?_
      · (repeat' (first|exact V0|refine V3 ?_|refine V2 ?_ ?_|fail))
        all_goals first | rfl | (refine Cv.eq ?_; simp [AV.ren, renL]; done) | (refine Cv.eq ?_; simp [AV.ren, renL]; exact IntWalk.i64_in _ (by omega))
      · (repeat' (first|exact V0|refine V3 ?_|refine V2 ?_ ?_|fail))
        all_goals first | rfl | (simp; done) | (refine Cv.eq ?_; simp [AV.ren, renL]; done)
  · have hbf : decide (s.er ≠ 0) = true := by simp [her]
    have hq : q11 = (l, s) := by
      rw [← i3]
      cases n with
      | zero => rfl
      | succ n => rw [setM, if_neg her]
    subst hq
    simp only at hR
    have h12 := small_q b s hb i1
    rw [show cuQ b s = [.box [bsl b false, .v (.int .i64 s.off), .v (.bool true)]] by simp [cuQ, her]] at h12
    have n12 := curN_lt b 2 s
    have o12 := curN_ok (k := 2) i1
    generalize curN b 2 s = q12 at hR h12 o12 n12
    obtain ⟨v12, s12⟩ := q12
    simp only at hR h12 o12 n12
    obtain ⟨p1, p2⟩ := o12
    have hbl : (bsP b).length = b.length := by simp
    have hB : (bsP b).drop s12.off.toNat = bsP (b.drop s12.off.toNat) := (List.map_drop ..).symm
    refine AW.conv (s' := ⟨[(0, bsl b f), (2, .ptr 0 0), (4, .ptr 1 0), (5, .ptr 2 0), (9, .v (.int .i64 (n : Int)))], [.box [.v (.int .i64 0), .v (.int .i64 0), .v (.string (bs [])), .v (.int .i64 0), .v (.int .i64 0), .v (.int .i64 0), .v (.int .i64 0), .v (.int .i64 0), .v (.int .u64 0), .v (.slice none 0 0), .v (.string (bs []))], .box [bsl b false, .v (.int .i64 s.off), .v (.bool true)], .box [.v (.int .i64 (v1 : Int)), .v (.int .i64 (i64w v2)), .v (.string (bs v3)), .v (.int .i64 (v4 : Int)), .v (.int .i64 (v5 : Int)), .v (.int .i64 (i64w v6)), .v (.int .i64 (i64w v7)), .v (.int .i64 (v8 : Int)), .v (.int .u64 (v9 : Int)), .row 3 (ids l).length, .v (.string (bs []))], .row 1 (ids l)]⟩) (Conv.mk [0, 1, 2, 3] O O O ?_ O ?_) ?_
    · (repeat' (first|exact V0|refine V3 ?_|refine V2 ?_ ?_|fail))
    · (repeat' (first|exact V0|refine V3 ?_|refine V2 ?_ ?_|fail))
      all_goals first | rfl | (refine Cv.eq ?_; simp [AV.ren, renL, her]; done)
    by_cases hn : (n : Int) > 0
    · (repeat' (first|refine AW.seq_k (fun K hK=>?_)|(refine hK _ ?_;clear hK)|refine AW.uC (fun hc=>?_) (fun hc=>?_)|refine AW.exit ?_|(clear hK;refine hK _ ?_;clear hK)|exact trivial|refine AW.rI [12, 15] O ?_|refine Run.cSA [1] h12 O O O O O O O O O O O O ?_|refine Ud ?_|fail))
      by_cases e12 : s12.er = 0
      · by_cases e13 : s12.off + (v12 : Int) ≠ ((bsP b).length : Int)
        · rw [if_neg (fun h => e13 (by omega))] at hR
          have hDn : D = none := hbad (by rw [← hR]; simp)
          subst hDn
          refine AW.conv (s' := ⟨[(0, bsl b f), (2, .ptr 0 0), (4, .ptr 1 0), (5, .ptr 2 0), (10, .v (.int .i64 (v12 : Int)))], [.box [.v (.int .i64 0), .v (.int .i64 0), .v (.string (bs [])), .v (.int .i64 0), .v (.int .i64 0), .v (.int .i64 0), .v (.int .i64 0), .v (.int .i64 0), .v (.int .u64 0), .v (.slice none 0 0), .v (.string (bs []))], .box [bsl b false, .v (.int .i64 s12.off), .v (.bool false)], .box [.v (.int .i64 (v1 : Int)), .v (.int .i64 (i64w v2)), .v (.string (bs v3)), .v (.int .i64 (v4 : Int)), .v (.int .i64 (v5 : Int)), .v (.int .i64 (i64w v6)), .v (.int .i64 (i64w v7)), .v (.int .i64 (v8 : Int)), .v (.int .u64 (v9 : Int)), .sl 1 (ids l) false, .v (.string (bs []))]]⟩) (Conv.mk [0, 1, 2] O O O ?_ O ?_) ?_
          · (repeat' (first|exact V0|refine V3 ?_|refine V2 ?_ ?_|fail))
          · (repeat' (first|exact V0|refine V3 ?_|refine V2 ?_ ?_|fail))
            all_goals first | rfl | (refine Cv.eq ?_; simp [AV.ren, renL, e12]; done)
          (repeat' (first|refine AW.seq_k (fun K hK=>?_)|(refine hK _ ?_;clear hK)|refine AW.uC (fun hc=>?_) (fun hc=>?_)|refine AW.ret ?_|exact trivial|refine AW.rI [16, 17] O ?_|refine Ud ?_|fail))
          ((first|refine RetOk.tup O O ?_|refine RetOk.one O ?_)<;>(repeat' (first|exact V0|refine V1 ?_|refine V2 ?_ ?_|fail)))
        · rw [if_pos ⟨e12, by omega⟩] at hR
          subst hR
          simp only at hp hby hcan hD hbad
          refine AW.conv (s' := ⟨[(0, bsl b f), (2, .ptr 0 0), (4, .ptr 1 0), (5, .ptr 2 0), (10, .v (.int .i64 (v12 : Int)))], [.box [.v (.int .i64 0), .v (.int .i64 0), .v (.string (bs [])), .v (.int .i64 0), .v (.int .i64 0), .v (.int .i64 0), .v (.int .i64 0), .v (.int .i64 0), .v (.int .u64 0), .v (.slice none 0 0), .v (.string (bs []))], .box [bsl b false, .v (.int .i64 s12.off), .v (.bool false)], .box [.v (.int .i64 (v1 : Int)), .v (.int .i64 (i64w v2)), .v (.string (bs v3)), .v (.int .i64 (v4 : Int)), .v (.int .i64 (v5 : Int)), .v (.int .i64 (i64w v6)), .v (.int .i64 (i64w v7)), .v (.int .i64 (v8 : Int)), .v (.int .u64 (v9 : Int)), .sl 1 (ids l) false, .v (.string (bs []))]]⟩) (Conv.mk [0, 1, 2] O O O ?_ O ?_) ?_
          · (repeat' (first|exact V0|refine V3 ?_|refine V2 ?_ ?_|fail))
          · (repeat' (first|exact V0|refine V3 ?_|refine V2 ?_ ?_|fail))
            all_goals first | rfl | (refine Cv.eq ?_; simp [AV.ren, renL, e12]; done)
          simp only [e12, ne_eq, not_true_eq_false, false_or] at hD
          (repeat' (first|refine AW.seq_k (fun K hK=>?_)|(refine hK _ ?_;clear hK)|refine AW.uC (fun hc=>?_) (fun hc=>?_)|refine AW.skip ?_|exact trivial|refine AW.rI [16, 18] O ?_|refine Ud ?_|fail))
          cases hq : properR okR ⟨v1, i64w v2, v3, v4, v5, i64w v6, i64w v7, v8, v9, l, b.drop s12.off.toNat⟩ with
          | false =>
            rw [hq] at hp hD
            rw [if_pos O] at hD
            subst hD
            (repeat' (first|refine AW.seq_k (fun K hK=>?_)|(refine hK _ ?_;clear hK)|refine AW.uC (fun hc=>?_) (fun hc=>?_)|refine AW.ret ?_|exact trivial|refine AW.draw (id := 19) (by kernel_rfl) ?_|refine rG 20 ?_|refine Run.c0 hp O O O O O O O O ?_|refine Ud ?_|fail))
            ((first|refine RetOk.tup O O ?_|refine RetOk.one O ?_)<;>(repeat' (first|exact V0|refine V1 ?_|refine V2 ?_ ?_|fail)))
          | true =>
            rw [hq] at hp hD
            rw [if_neg (by decide)] at hD
            subst hD
            have hb1 := hby hq
            rw [hcan e12 hq] at hb1
            have hbb : ¬ (b ≠ b) := fun h => h O
            (repeat' (first|refine AW.seq_k (fun K hK=>?_)|(refine hK _ ?_;clear hK)|refine AW.uC (fun hc=>?_) (fun hc=>?_)|refine AW.ret ?_|refine AW.skip ?_|exact trivial|refine AW.draw (id := 19) (by kernel_rfl) ?_|refine rG 21 ?_|refine Run.c0 hp O O O O O O O O ?_|refine Run.c0 hb1 O O O O O O O O ?_|refine Ud ?_|fail))
            ((first|refine RetOk.tup O O ?_|refine RetOk.one O ?_)<;>(repeat' (first|exact V0|refine V1 ?_|refine V2 ?_ ?_|fail)))
      · rw [if_neg (fun h => e12 h.1)] at hR
        have hDn : D = none := hbad (by rw [← hR]; simp)
        subst hDn
        refine AW.conv (s' := ⟨[(0, bsl b f), (2, .ptr 0 0), (4, .ptr 1 0), (5, .ptr 2 0), (10, .v (.int .i64 (v12 : Int)))], [.box [.v (.int .i64 0), .v (.int .i64 0), .v (.string (bs [])), .v (.int .i64 0), .v (.int .i64 0), .v (.int .i64 0), .v (.int .i64 0), .v (.int .i64 0), .v (.int .u64 0), .v (.slice none 0 0), .v (.string (bs []))], .box [bsl b false, .v (.int .i64 s12.off), .v (.bool true)], .box [.v (.int .i64 (v1 : Int)), .v (.int .i64 (i64w v2)), .v (.string (bs v3)), .v (.int .i64 (v4 : Int)), .v (.int .i64 (v5 : Int)), .v (.int .i64 (i64w v6)), .v (.int .i64 (i64w v7)), .v (.int .i64 (v8 : Int)), .v (.int .u64 (v9 : Int)), .sl 1 (ids l) false, .v (.string (bs []))]]⟩) (Conv.mk [0, 1, 2] O O O ?_ O ?_) ?_
        · (repeat' (first|exact V0|refine V3 ?_|refine V2 ?_ ?_|fail))
        · (repeat' (first|exact V0|refine V3 ?_|refine V2 ?_ ?_|fail))
          all_goals first | rfl | (refine Cv.eq ?_; simp [AV.ren, renL, e12]; done)
        (repeat' (first|refine AW.seq_k (fun K hK=>?_)|(refine hK _ ?_;clear hK)|refine AW.uC (fun hc=>?_) (fun hc=>?_)|refine AW.ret ?_|exact trivial|refine AW.rI [16, 17] O ?_|refine Ud ?_|fail))
        ((first|refine RetOk.tup O O ?_|refine RetOk.one O ?_)<;>(repeat' (first|exact V0|refine V1 ?_|refine V2 ?_ ?_|fail)))
    · (repeat' (first|refine AW.seq_k (fun K hK=>?_)|(refine hK _ ?_;clear hK)|refine AW.uC (fun hc=>?_) (fun hc=>?_)|refine AW.exit ?_|(clear hK;refine hK _ ?_;clear hK)|exact trivial|refine AW.rI [12, 15] O ?_|refine Run.cSA [1] h12 O O O O O O O O O O O O ?_|refine Ud ?_|fail))
      by_cases e12 : s12.er = 0
      · by_cases e13 : s12.off + (v12 : Int) ≠ ((bsP b).length : Int)
        · rw [if_neg (fun h => e13 (by omega))] at hR
          have hDn : D = none := hbad (by rw [← hR]; simp)
          subst hDn
          refine AW.conv (s' := ⟨[(0, bsl b f), (2, .ptr 0 0), (4, .ptr 1 0), (5, .ptr 2 0), (10, .v (.int .i64 (v12 : Int)))], [.box [.v (.int .i64 0), .v (.int .i64 0), .v (.string (bs [])), .v (.int .i64 0), .v (.int .i64 0), .v (.int .i64 0), .v (.int .i64 0), .v (.int .i64 0), .v (.int .u64 0), .v (.slice none 0 0), .v (.string (bs []))], .box [bsl b false, .v (.int .i64 s12.off), .v (.bool false)], .box [.v (.int .i64 (v1 : Int)), .v (.int .i64 (i64w v2)), .v (.string (bs v3)), .v (.int .i64 (v4 : Int)), .v (.int .i64 (v5 : Int)), .v (.int .i64 (i64w v6)), .v (.int .i64 (i64w v7)), .v (.int .i64 (v8 : Int)), .v (.int .u64 (v9 : Int)), .sl 1 (ids l) false, .v (.string (bs []))]]⟩) (Conv.mk [0, 1, 2] O O O ?_ O ?_) ?_
          · (repeat' (first|exact V0|refine V3 ?_|refine V2 ?_ ?_|fail))
          · (repeat' (first|exact V0|refine V3 ?_|refine V2 ?_ ?_|fail))
            all_goals first | rfl | (refine Cv.eq ?_; simp [AV.ren, renL, e12]; done)
          (repeat' (first|refine AW.seq_k (fun K hK=>?_)|(refine hK _ ?_;clear hK)|refine AW.uC (fun hc=>?_) (fun hc=>?_)|refine AW.ret ?_|exact trivial|refine AW.rI [16, 17] O ?_|refine Ud ?_|fail))
          ((first|refine RetOk.tup O O ?_|refine RetOk.one O ?_)<;>(repeat' (first|exact V0|refine V1 ?_|refine V2 ?_ ?_|fail)))
        · rw [if_pos ⟨e12, by omega⟩] at hR
          subst hR
          simp only at hp hby hcan hD hbad
          refine AW.conv (s' := ⟨[(0, bsl b f), (2, .ptr 0 0), (4, .ptr 1 0), (5, .ptr 2 0), (10, .v (.int .i64 (v12 : Int)))], [.box [.v (.int .i64 0), .v (.int .i64 0), .v (.string (bs [])), .v (.int .i64 0), .v (.int .i64 0), .v (.int .i64 0), .v (.int .i64 0), .v (.int .i64 0), .v (.int .u64 0), .v (.slice none 0 0), .v (.string (bs []))], .box [bsl b false, .v (.int .i64 s12.off), .v (.bool false)], .box [.v (.int .i64 (v1 : Int)), .v (.int .i64 (i64w v2)), .v (.string (bs v3)), .v (.int .i64 (v4 : Int)), .v (.int .i64 (v5 : Int)), .v (.int .i64 (i64w v6)), .v (.int .i64 (i64w v7)), .v (.int .i64 (v8 : Int)), .v (.int .u64 (v9 : Int)), .sl 1 (ids l) false, .v (.string (bs []))]]⟩) (Conv.mk [0, 1, 2] O O O ?_ O ?_) ?_
          · (repeat' (first|exact V0|refine V3 ?_|refine V2 ?_ ?_|fail))
          · (repeat' (first|exact V0|refine V3 ?_|refine V2 ?_ ?_|fail))
            all_goals first | rfl | (refine Cv.eq ?_; simp [AV.ren, renL, e12]; done)
          simp only [e12, ne_eq, not_true_eq_false, false_or] at hD
          (repeat' (first|refine AW.seq_k (fun K hK=>?_)|(refine hK _ ?_;clear hK)|refine AW.uC (fun hc=>?_) (fun hc=>?_)|refine AW.skip ?_|exact trivial|refine AW.rI [16, 18] O ?_|refine Ud ?_|fail))
          cases hq : properR okR ⟨v1, i64w v2, v3, v4, v5, i64w v6, i64w v7, v8, v9, l, b.drop s12.off.toNat⟩ with
          | false =>
            rw [hq] at hp hD
            rw [if_pos O] at hD
            subst hD
            (repeat' (first|refine AW.seq_k (fun K hK=>?_)|(refine hK _ ?_;clear hK)|refine AW.uC (fun hc=>?_) (fun hc=>?_)|refine AW.ret ?_|exact trivial|refine AW.draw (id := 19) (by kernel_rfl) ?_|refine rG 20 ?_|refine Run.c0 hp O O O O O O O O ?_|refine Ud ?_|fail))
            ((first|refine RetOk.tup O O ?_|refine RetOk.one O ?_)<;>(repeat' (first|exact V0|refine V1 ?_|refine V2 ?_ ?_|fail)))
          | true =>
            rw [hq] at hp hD
            rw [if_neg (by decide)] at hD
            subst hD
            have hb1 := hby hq
            rw [hcan e12 hq] at hb1
            have hbb : ¬ (b ≠ b) := fun h => h O
            (repeat' (first|refine AW.seq_k (fun K hK=>?_)|(refine hK _ ?_;clear hK)|refine AW.uC (fun hc=>?_) (fun hc=>?_)|refine AW.ret ?_|refine AW.skip ?_|exact trivial|refine AW.draw (id := 19) (by kernel_rfl) ?_|refine rG 21 ?_|refine Run.c0 hp O O O O O O O O ?_|refine Run.c0 hb1 O O O O O O O O ?_|refine Ud ?_|fail))
            ((first|refine RetOk.tup O O ?_|refine RetOk.one O ?_)<;>(repeat' (first|exact V0|refine V1 ?_|refine V2 ?_ ?_|fail)))
      · rw [if_neg (fun h => e12 h.1)] at hR
        have hDn : D = none := hbad (by rw [← hR]; simp)
        subst hDn
        refine AW.conv (s' := ⟨[(0, bsl b f), (2, .ptr 0 0), (4, .ptr 1 0), (5, .ptr 2 0), (10, .v (.int .i64 (v12 : Int)))], [.box [.v (.int .i64 0), .v (.int .i64 0), .v (.string (bs [])), .v (.int .i64 0), .v (.int .i64 0), .v (.int .i64 0), .v (.int .i64 0), .v (.int .i64 0), .v (.int .u64 0), .v (.slice none 0 0), .v (.string (bs []))], .box [bsl b false, .v (.int .i64 s12.off), .v (.bool true)], .box [.v (.int .i64 (v1 : Int)), .v (.int .i64 (i64w v2)), .v (.string (bs v3)), .v (.int .i64 (v4 : Int)), .v (.int .i64 (v5 : Int)), .v (.int .i64 (i64w v6)), .v (.int .i64 (i64w v7)), .v (.int .i64 (v8 : Int)), .v (.int .u64 (v9 : Int)), .sl 1 (ids l) false, .v (.string (bs []))]]⟩) (Conv.mk [0, 1, 2] O O O ?_ O ?_) ?_
        · (repeat' (first|exact V0|refine V3 ?_|refine V2 ?_ ?_|fail))
        · (repeat' (first|exact V0|refine V3 ?_|refine V2 ?_ ?_|fail))
          all_goals first | rfl | (refine Cv.eq ?_; simp [AV.ren, renL, e12]; done)
        (repeat' (first|refine AW.seq_k (fun K hK=>?_)|(refine hK _ ?_;clear hK)|refine AW.uC (fun hc=>?_) (fun hc=>?_)|refine AW.ret ?_|exact trivial|refine AW.rI [16, 17] O ?_|refine Ud ?_|fail))
        ((first|refine RetOk.tup O O ?_|refine RetOk.one O ?_)<;>(repeat' (first|exact V0|refine V1 ?_|refine V2 ?_ ?_|fail)))
end Go.Proofs.YtbbcokckealagaaGreat
