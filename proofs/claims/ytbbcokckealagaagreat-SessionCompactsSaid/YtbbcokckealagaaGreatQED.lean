/-
  Walks of chapter 41: the record of bytes, the program.
-/
import Derived.Test.YtbbcokckealagaaGreatQAA
import Derived.Test.YtbbcokckealagaaGreatQEC
namespace Go.Proofs.YtbbcokckealagaaGreat
set_option linter.unusedVariables false
set_option linter.unusedSimpArgs false
def setM (b : List UInt8) : Nat → Cu → List Int → List Int × Cu
  | 0, s, l => (l, s)
  | n + 1, s, l => if s.er = 0 then setM b n (curN b 8 s).2 (l ++ [((curN b 8 s).1 : Int)]) else (l, s)
abbrev i64w (n : Nat) : Int := IntKind.i64.wrap (n : Int)
def recM (b : List UInt8) : Rc × Cu :=
  let q1 := curN b 2 ⟨0, 0⟩
  let q2 := curN b 8 q1.2
  let q3 := curT b q2.2
  let q4 := curN b 2 q3.2
  let q5 := curN b 2 q4.2
  let q6 := curN b 8 q5.2
  let q7 := curN b 8 q6.2
  let q8 := curN b 2 q7.2
  let q9 := curN b 8 q8.2
  let q10 := curN b 2 q9.2
  let q11 := setM b q10.1 q10.2 []
  let q12 := curN b 2 q11.2
  if q12.2.er = 0 ∧ (q12.1 : Int) = (b.length : Int) - q12.2.off then (⟨q1.1, i64w q2.1, q3.1, q4.1, q5.1, i64w q6.1, i64w q7.1, q8.1, q9.1, q11.1, b.drop q12.2.off.toNat⟩, q12.2)
  else (⟨q1.1, i64w q2.1, q3.1, q4.1, q5.1, i64w q6.1, i64w q7.1, q8.1, q9.1, q11.1, []⟩, ⟨q12.2.off, 5⟩)
theorem setM_len {b : List UInt8} : ∀ (n : Nat) (s : Cu) (l : List Int), (setM b n s l).1.length ≤ l.length + n
  | 0, s, l => Nat.le_refl _
  | n + 1, s, l => by
    rw [setM]
    split
    · have := setM_len (b := b) n (curN b 8 s).2 (l ++ [((curN b 8 s).1 : Int)])
      simp only [List.length_append, List.length_singleton] at this
      omega
    · exact Nat.le_add_right _ _
theorem ok0 (b : List UInt8) : Cu.ok b ⟨0, 0⟩ := ⟨by simp, by simp⟩
set_option maxHeartbeats 4000000 in
theorem record_c (b : List UInt8) (hb : b.length ≤ 1000000000) : ACalls Tryz.prog 57 [.ptr 0 0] (cuR b ⟨0, 0⟩) (.agg (recM b).1.cells) (cuR b (recM b).2) := by
  generalize hR : recM b = R
  simp only [recM] at hR
  have h1 := cshort_c b ⟨0, 0⟩ hb (ok0 b)
  have o1 := curN_ok (k := 2) (ok0 b)
  generalize curN b 2 ⟨0, 0⟩ = q1 at hR h1 o1
  have h2 := clong_c b q1.2 hb o1
  have o2 := curN_ok (k := 8) o1
  generalize curN b 8 q1.2 = q2 at hR h2 o2
  have h3 := nextT_c b q2.2 hb o2
  have o3 := curT_ok o2
  generalize curT b q2.2 = q3 at hR h3 o3
  have h4 := cshort_c b q3.2 hb o3
  have o4 := curN_ok (k := 2) o3
  generalize curN b 2 q3.2 = q4 at hR h4 o4
  have h5 := cshort_c b q4.2 hb o4
  have o5 := curN_ok (k := 2) o4
  generalize curN b 2 q4.2 = q5 at hR h5 o5
  have h6 := clong_c b q5.2 hb o5
  have o6 := curN_ok (k := 8) o5
  generalize curN b 8 q5.2 = q6 at hR h6 o6
  have h7 := clong_c b q6.2 hb o6
  have o7 := curN_ok (k := 8) o6
  generalize curN b 8 q6.2 = q7 at hR h7 o7
  have h8 := cshort_c b q7.2 hb o7
  have o8 := curN_ok (k := 2) o7
  generalize curN b 2 q7.2 = q8 at hR h8 o8
  have h9 := clong_c b q8.2 hb o8
  have o9 := curN_ok (k := 8) o8
  generalize curN b 8 q8.2 = q9 at hR h9 o9
  have h10 := cshort_c b q9.2 hb o9
  have o10 := curN_ok (k := 2) o9
  have n10 := curN_lt b 2 q9.2
  generalize curN b 2 q9.2 = q10 at hR h10 o10 n10
  obtain ⟨v1, s1⟩ := q1
  obtain ⟨v2, s2⟩ := q2
  obtain ⟨v3, s3⟩ := q3
  obtain ⟨v4, s4⟩ := q4
  obtain ⟨v5, s5⟩ := q5
  obtain ⟨v6, s6⟩ := q6
  obtain ⟨v7, s7⟩ := q7
  obtain ⟨v8, s8⟩ := q8
  obtain ⟨v9, s9⟩ := q9
  obtain ⟨v10, s10⟩ := q10
  simp only at hR h1 h2 h3 h4 h5 h6 h7 h8 h9 h10 o10 n10
  refine (ACalls.of (fn := Tryz.f57) Tryz.func57 O O Tryz.ntmps57 (fun I M w own => ?_))
  (repeat' (first|refine AW.seq_k (fun K hK=>?_)|(refine hK _ ?_;clear hK)|refine AW.block ?_|refine AW.rI [0, 1, 2, 3, 4, 5, 6, 7] O ?_|refine Run.cSA [0] h1 O O O O O O O O O O O O ?_|refine Run.cSA [0] h2 O O O O O O O O O O O O ?_|refine Run.cSA [0] h3 O O O O O O O O O O O O ?_|refine Run.cSA [0] h4 O O O O O O O O O O O O ?_|refine Run.cSA [0] h5 O O O O O O O O O O O O ?_|refine Run.cSA [0] h6 O O O O O O O O O O O O ?_|refine Run.cSA [0] h7 O O O O O O O O O O O O ?_|refine Run.cSA [0] h8 O O O O O O O O O O O O ?_|refine Run.cSA [0] h9 O O O O O O O O O O O O ?_|refine Run.cSA [0] h10 O O O O O O O O O O O O ?_|refine UA ?_|fail))
  obtain ⟨q11, hq11⟩ : ∃ q, q = setM b v10 s10 [] := ⟨_, rfl⟩
  rw [← hq11] at hR
  refine AW.loopF (X := Nat × Cu × List Int) (fun y => ⟨[(0, .ptr 0 0), (2, .ptr 1 0), (3, .ptr 2 0), (4, .v (.int .i64 (y.1 : Int)))], [.box [bsl b false, .v (.int .i64 y.2.1.off), .v (.int .i64 y.2.1.er)], .box [.v (.int .i64 0), .v (.int .i64 0), .v (.string (bs [])), .v (.int .i64 0), .v (.int .i64 0), .v (.int .i64 0), .v (.int .i64 0), .v (.int .i64 0), .v (.int .u64 0), .v (.slice none 0 0), .v (.string (bs []))], .box [.v (.int .i64 (v1 : Int)), .v (.int .i64 (i64w v2)), .v (.string (bs v3)), .v (.int .i64 (v4 : Int)), .v (.int .i64 (v5 : Int)), .v (.int .i64 (i64w v6)), .v (.int .i64 (i64w v7)), .v (.int .i64 (v8 : Int)), .v (.int .u64 (v9 : Int)), .row 3 (ids y.2.2).length, .v (.string (bs []))], .row 1 (ids y.2.2)]⟩)
    (fun y => y.2.1.ok b ∧ y.1 + y.2.2.length ≤ 65535 ∧ setM b y.1 y.2.1 y.2.2 = q11) (fun y => y.1) (v10, s10, []) ?_ ⟨o10, by simp only [List.length_nil]; omega, hq11.symm⟩ ?_
  · refine Conv.ownB 2 9 1 [] O O (Or.inr ⟨rfl, rfl⟩) (by repeat constructor) (by repeat constructor) ?_
    refine Conv.mk [0, 1, 2, 3] O O O ?_ O ?_
    · (repeat' (first|exact V0|refine V3 ?_|refine V2 ?_ ?_|fail))
    · (repeat' (first|exact V0|refine V3 ?_|refine V2 ?_ ?_|fail))
      all_goals first | rfl | (refine Cv.eq ?_; simp [AV.ren, renL]; done)
  rintro ⟨n, s, l⟩ ⟨i1, i2, i3⟩
  simp only at i1 i2 i3 ⊢
  have hll : (ids l).length = l.length := by simp
  by_cases hgo : 0 < n ∧ s.er = 0
  · obtain ⟨n, rfl⟩ : ∃ m, n = m + 1 := ⟨n - 1, by omega⟩
    have hgt : ((n + 1 : Nat) : Int) > 0 := by omega
    have her : s.er = 0 := hgo.2
    have hlg := clong_c b s hb i1
    have ho := curN_ok (k := 8) i1
    rw [setM, if_pos her] at i3
    generalize curN b 8 s = q at hlg ho i3
    (repeat' (first|refine AW.seq_k (fun K hK=>?_)|(refine hK _ ?_;clear hK)|refine AW.uC (fun hc=>?_) (fun hc=>?_)|refine AW.block ?_|refine AW.skip ?_|exact trivial|refine AW.draw (id := 10) (by kernel_rfl) ?_|refine AW.rI [8, 9] O ?_|refine Run.cSA [0] hlg O O O O O O O O O O O O ?_|refine Ud ?_|fail))
    ((repeat (with_reducible refine inB_n ?_)); refine thenA_n ?_)
    refine ⟨(n, q.2, l ++ [(q.1 : Int)]), ⟨ho, by simp only [List.length_append, List.length_singleton]; omega, i3⟩, by simp only; omega, ?_⟩
    refine Conv.mk [0, 1, 2, 3] O O O ?_ O ?_
    · (repeat' (first|exact V0|refine V3 ?_|refine V2 ?_ ?_|fail))
      all_goals first | rfl | (refine Cv.eq ?_; simp [AV.ren, renL]; done) | (refine Cv.eq ?_; simp [AV.ren, renL]; exact IntWalk.i64_in _ (by omega))
    · (repeat' (first|exact V0|refine V3 ?_|refine V2 ?_ ?_|fail))
      all_goals first | rfl | (simp; done) | (refine Cv.eq ?_; simp [AV.ren, renL]; done)
  have hq : q11 = (l, s) := by
    rw [← i3]
    cases n with
    | zero => rfl
    | succ n => rw [setM, if_neg (fun h => hgo ⟨by omega, h⟩)]
  subst hq
  simp only at hR
  have h12 := cshort_c b s hb i1
  have o12 := curN_ok (k := 2) i1
  generalize curN b 2 s = q12 at hR h12 o12
  obtain ⟨v12, s12⟩ := q12
  simp only at hR h12 o12
  obtain ⟨p1, p2⟩ := o12
  have hbl : (bsP b).length = b.length := by simp
  have hB : (bsP b).drop s12.off.toNat = bsP (b.drop s12.off.toNat) := (List.map_drop ..).symm
  by_cases hn : (n : Int) > 0
  · have her : ¬ s.er = 0 := fun h => hgo ⟨by omega, h⟩
    (repeat' (first|refine AW.seq_k (fun K hK=>?_)|(refine hK _ ?_;clear hK)|refine AW.uC (fun hc=>?_) (fun hc=>?_)|refine AW.exit ?_|(clear hK;refine hK _ ?_;clear hK)|exact trivial|refine AW.rI [8, 11] O ?_|refine Run.cSA [0] h12 O O O O O O O O O O O O ?_|refine Ud ?_|fail))
    by_cases e1 : s12.er = 0
    · by_cases e2 : (v12 : Int) = ((bsP b).length : Int) - s12.off
      · rw [if_pos ⟨e1, by rw [← hbl]; exact e2⟩] at hR
        subst hR
        (repeat' (first|refine AW.seq_k (fun K hK=>?_)|(refine hK _ ?_;clear hK)|refine AW.uC (fun hc=>?_) (fun hc=>?_)|refine AW.ret ?_|exact trivial|refine AW.draw (id := 12) (by kernel_rfl) ?_|refine AW.draw (id := 13) (by kernel_rfl) ?_|refine rG 15 ?_|refine Ud ?_|fail))
        ((first|refine RetOk.tupS [0] O O O O O ?_ ?_|refine RetOk.oneS [0] O O O O ?_ ?_)<;>(repeat' (first|exact V0|refine V1 ?_|refine V2 ?_ ?_|fail)))
        all_goals first | rfl | (refine Cv.eq ?_; rfl)
      · rw [if_neg (fun h => e2 (by rw [hbl]; exact h.2))] at hR
        subst hR
        (repeat' (first|refine AW.seq_k (fun K hK=>?_)|(refine hK _ ?_;clear hK)|refine AW.uC (fun hc=>?_) (fun hc=>?_)|refine AW.ret ?_|exact trivial|refine AW.draw (id := 12) (by kernel_rfl) ?_|refine AW.rI [14, 15] O ?_|refine Ud ?_|fail))
        ((first|refine RetOk.tupS [0] O O O O O ?_ ?_|refine RetOk.oneS [0] O O O O ?_ ?_)<;>(repeat' (first|exact V0|refine V1 ?_|refine V2 ?_ ?_|fail)))
        all_goals first | rfl | (refine Cv.eq ?_; rfl)
    · rw [if_neg (fun h => e1 h.1)] at hR
      subst hR
      (repeat' (first|refine AW.seq_k (fun K hK=>?_)|(refine hK _ ?_;clear hK)|refine AW.uC (fun hc=>?_) (fun hc=>?_)|refine AW.ret ?_|exact trivial|refine AW.draw (id := 12) (by kernel_rfl) ?_|refine AW.rI [14, 15] O ?_|refine Ud ?_|fail))
      ((first|refine RetOk.tupS [0] O O O O O ?_ ?_|refine RetOk.oneS [0] O O O O ?_ ?_)<;>(repeat' (first|exact V0|refine V1 ?_|refine V2 ?_ ?_|fail)))
      all_goals first | rfl | (refine Cv.eq ?_; rfl)
  · (repeat' (first|refine AW.seq_k (fun K hK=>?_)|(refine hK _ ?_;clear hK)|refine AW.uC (fun hc=>?_) (fun hc=>?_)|refine AW.exit ?_|(clear hK;refine hK _ ?_;clear hK)|exact trivial|refine AW.rI [8, 11] O ?_|refine Run.cSA [0] h12 O O O O O O O O O O O O ?_|refine Ud ?_|fail))
    by_cases e1 : s12.er = 0
    · by_cases e2 : (v12 : Int) = ((bsP b).length : Int) - s12.off
      · rw [if_pos ⟨e1, by rw [← hbl]; exact e2⟩] at hR
        subst hR
        (repeat' (first|refine AW.seq_k (fun K hK=>?_)|(refine hK _ ?_;clear hK)|refine AW.uC (fun hc=>?_) (fun hc=>?_)|refine AW.ret ?_|exact trivial|refine AW.draw (id := 12) (by kernel_rfl) ?_|refine AW.draw (id := 13) (by kernel_rfl) ?_|refine rG 15 ?_|refine Ud ?_|fail))
        ((first|refine RetOk.tupS [0] O O O O O ?_ ?_|refine RetOk.oneS [0] O O O O ?_ ?_)<;>(repeat' (first|exact V0|refine V1 ?_|refine V2 ?_ ?_|fail)))
        all_goals first | rfl | (refine Cv.eq ?_; rfl)
      · rw [if_neg (fun h => e2 (by rw [hbl]; exact h.2))] at hR
        subst hR
        (repeat' (first|refine AW.seq_k (fun K hK=>?_)|(refine hK _ ?_;clear hK)|refine AW.uC (fun hc=>?_) (fun hc=>?_)|refine AW.ret ?_|exact trivial|refine AW.draw (id := 12) (by kernel_rfl) ?_|refine AW.rI [14, 15] O ?_|refine Ud ?_|fail))
        ((first|refine RetOk.tupS [0] O O O O O ?_ ?_|refine RetOk.oneS [0] O O O O ?_ ?_)<;>(repeat' (first|exact V0|refine V1 ?_|refine V2 ?_ ?_|fail)))
        all_goals first | rfl | (refine Cv.eq ?_; rfl)
    · rw [if_neg (fun h => e1 h.1)] at hR
      subst hR
      (repeat' (first|refine AW.seq_k (fun K hK=>?_)|(refine hK _ ?_;clear hK)|refine AW.uC (fun hc=>?_) (fun hc=>?_)|refine AW.ret ?_|exact trivial|refine AW.draw (id := 12) (by kernel_rfl) ?_|refine AW.rI [14, 15] O ?_|refine Ud ?_|fail))
      ((first|refine RetOk.tupS [0] O O O O O ?_ ?_|refine RetOk.oneS [0] O O O O ?_ ?_)<;>(repeat' (first|exact V0|refine V1 ?_|refine V2 ?_ ?_|fail)))
      all_goals first | rfl | (refine Cv.eq ?_; rfl)
theorem curT_len (b : List UInt8) (s : Cu) : (curT b s).1.length ≤ 64 := by
  rw [curT]
  split
  · simp
  split
  · simp
  · rename_i h
    have h := Decidable.not_not.1 h
    unfold textM at h ⊢
    split at h
    · simp at h
    · rename_i h1
      rw [if_neg h1]
      cases hx : b[s.off.toNat]? with
      | none => rw [hx] at h; simp at h
      | some c =>
        rw [hx] at h
        simp only at h ⊢
        split at h
        · simp at h
        · rename_i h2
          rw [if_neg h2]
          split at h
          · simp at h
          · rename_i h3
            rw [if_neg h3]
            simp only [seg, List.length_take]
            omega
theorem setM_wf {b : List UInt8} : ∀ (n : Nat) (s : Cu) (l : List Int), (∀ x ∈ l, 0 ≤ x ∧ x < 18446744073709551616) → ∀ x ∈ (setM b n s l).1, 0 ≤ x ∧ x < 18446744073709551616
  | 0, s, l, h => h
  | n + 1, s, l, h => by
    rw [setM]
    split
    · refine setM_wf n _ _ (fun x hx => ?_)
      rcases List.mem_append.1 hx with hx | hx
      · exact h x hx
      · obtain rfl := List.mem_singleton.1 hx
        have := curN_lt b 8 s
        omega
    · exact h
theorem recM_ok (b : List UInt8) (hb : b.length ≤ 1000000000) : (recM b).1.ok ∧ Rwf (recM b).1 ∧ (recM b).1.text.length ≤ b.length := by
  generalize hR : recM b = R
  simp only [recM] at hR
  have n3 := curT_len b (curN b 8 (curN b 2 ⟨0, 0⟩).2).2
  generalize curT b (curN b 8 (curN b 2 ⟨0, 0⟩).2).2 = q3 at hR n3
  generalize curN b 2 (curN b 8 (curN b 8 (curN b 2 (curN b 2 q3.2).2).2).2).2 = q8 at hR
  have n9 := curN_lt b 8 q8.2
  generalize curN b 8 q8.2 = q9 at hR n9
  have n10 := curN_lt b 2 q9.2
  generalize curN b 2 q9.2 = q10 at hR n10
  have n11 := setM_len (b := b) q10.1 q10.2 []
  have w11 := setM_wf (b := b) q10.1 q10.2 [] (by simp)
  generalize setM b q10.1 q10.2 [] = q11 at hR n11 w11
  simp only [List.length_nil, Nat.zero_add] at n11
  subst hR
  split
  · exact ⟨⟨by simp only; omega, by simp only; omega, by simp only [List.length_drop]; omega⟩, ⟨by simp only; omega, w11⟩, by simp only [List.length_drop]; omega⟩
  · exact ⟨⟨by simp only; omega, by simp only; omega, by simp⟩, ⟨by simp only; omega, w11⟩, by simp⟩
def decM (b : List UInt8) : Option Rc := if (recM b).2.er ≠ 0 ∨ properR okR (recM b).1 = false then none else some (recM b).1
def zeroRc : Rc := ⟨0, 0, [], 0, 0, 0, 0, 0, 0, [], []⟩
def decE : Option Rc → AV
  | none => .tup [.agg zeroRc.cells, .v (.int .i64 5)]
  | some r => .tup [.agg r.cells, .v (.int .i64 0)]
set_option maxHeartbeats 4000000 in
theorem sDecode_c (b : List UInt8) (f : Bool) (hb : b.length ≤ 1000000000) : ACalls Tryz.prog 24 [bsl b f] [] (decE (decM b)) [] := by
  have hr := record_c b hb
  obtain ⟨ho, hw, ht⟩ := recM_ok b hb
  have hp := sProper_c okR (recM b).1 ho (ps_prog _ (by omega))
  generalize hD : decM b = D
  rw [decM] at hD
  generalize recM b = q at hr hp hD
  obtain ⟨r, s⟩ := q
  simp only at hr hp hD
  refine (ACalls.of (fn := Tryz.f24) Tryz.func24 O O Tryz.ntmps24 (fun I M w own => ?_))
  (repeat' (first|refine AW.seq_k (fun K hK=>?_)|(refine hK _ ?_;clear hK)|refine AW.rI [0, 1] O ?_|refine Ud ?_|fail))
  refine AW.conv (s' := ⟨[(0, bsl b f), (2, .ptr 0 0), (4, .ptr 1 0)], [.box [.v (.int .i64 0), .v (.int .i64 0), .v (.string (bs [])), .v (.int .i64 0), .v (.int .i64 0), .v (.int .i64 0), .v (.int .i64 0), .v (.int .i64 0), .v (.int .u64 0), .v (.slice none 0 0), .v (.string (bs []))]] ++ cuR b ⟨0, 0⟩⟩) (Conv.mk [0, 1] O O O ?_ O ?_) ?_
  · (repeat' (first|exact V0|refine V3 ?_|refine V2 ?_ ?_|fail))
  · (repeat' (first|exact V0|refine V3 ?_|refine V2 ?_ ?_|fail))
  by_cases he : s.er ≠ 0
  · rw [if_pos (.inl he)] at hD
    subst hD
    (repeat' (first|refine AW.seq_k (fun K hK=>?_)|(refine hK _ ?_;clear hK)|refine AW.uC (fun hc=>?_) (fun hc=>?_)|refine AW.ret ?_|exact trivial|refine AW.rI [2, 3, 4] O ?_|refine Run.cSA [1] hr O O O O O O O O O O O O ?_|refine Ud ?_|fail))
    ((first|refine RetOk.tup O O ?_|refine RetOk.one O ?_)<;>(repeat' (first|exact V0|refine V1 ?_|refine V2 ?_ ?_|fail)))
  cases hq : properR okR r with
  | false =>
    rw [hq] at hp
    rw [if_pos (.inr hq)] at hD
    subst hD
    (repeat' (first|refine AW.seq_k (fun K hK=>?_)|(refine hK _ ?_;clear hK)|refine AW.uC (fun hc=>?_) (fun hc=>?_)|refine AW.ret ?_|exact trivial|refine AW.rI [2, 3, 4] O ?_|refine Run.cSA [1] hr O O O O O O O O O O O O ?_|refine Run.c0 hp O O O O O O O O ?_|refine Ud ?_|fail))
    ((first|refine RetOk.tup O O ?_|refine RetOk.one O ?_)<;>(repeat' (first|exact V0|refine V1 ?_|refine V2 ?_ ?_|fail)))
  | true =>
    rw [hq] at hp
    rw [if_neg (by simp [he, hq])] at hD
    subst hD
    (repeat' (first|refine AW.seq_k (fun K hK=>?_)|(refine hK _ ?_;clear hK)|refine AW.uC (fun hc=>?_) (fun hc=>?_)|refine AW.ret ?_|refine AW.skip ?_|exact trivial|refine AW.rI [2, 3, 5] O ?_|refine Run.cSA [1] hr O O O O O O O O O O O O ?_|refine Run.c0 hp O O O O O O O O ?_|refine Ud ?_|fail))
    ((first|refine RetOk.tup O O ?_|refine RetOk.one O ?_)<;>(repeat' (first|exact V0|refine V1 ?_|refine V2 ?_ ?_|fail)))
theorem le_unle : ∀ (l : List UInt8), le (unle l) l.length = l
  | [] => rfl
  | c :: r => by
    have hc := c.toNat_lt
    rw [unle, List.length_cons, le, show (c.toNat + 256 * unle r) % 256 = c.toNat by omega, show (c.toNat + 256 * unle r) / 256 = unle r by omega, le_unle r]
    congr 1
    exact UInt8.ofNat_toNat
end Go.Proofs.YtbbcokckealagaaGreat
