/-
  Walks of Name, of the program and of the reference.
-/
import Derived.Test.YtbbcokckealagaaGreatQAA
import Derived.Test.YtbbcokckealagaaGreatTy
import Derived.Test.YtbbcokckealagaaGreatQAD
import Derived.Test.YtbbcokckealagaaGreatQAE
namespace Go.Proofs.YtbbcokckealagaaGreat
set_option linter.unusedVariables false
set_option linter.unusedSimpArgs false
def otherB (c : UInt8) : Bool := decide (48 ≤ (c.toNat : Int) ∧ (c.toNat : Int) ≤ 57 ∨ (c.toNat : Int) = 45 ∨ (c.toNat : Int) = 46 ∨ (c.toNat : Int) = 95)
def letterB (c : UInt8) : Bool := decide (97 ≤ (c.toNat : Int) ∧ (c.toNat : Int) ≤ 122 ∨ 65 ≤ (c.toNat : Int) ∧ (c.toNat : Int) ≤ 90)
def nmB (first : Bool) (c : UInt8) : Bool := letterB c || (!first && otherB c)
def nmGo : Bool → List UInt8 → Bool
  | _, [] => true
  | f, c :: r => nmB f c && nmGo false r
def nameB (s : List UInt8) : Bool := nmGo true s && (decide (s ≠ []) && decide (s.length ≤ 64))
theorem or32 (c : UInt8) : 97 ≤ bits BinOp.or IntKind.u8 (c.toNat : Int) 32 ∧ bits BinOp.or IntKind.u8 (c.toNat : Int) 32 ≤ 122 ↔ letterB c = true := by
  have h : ∀ n : Fin 256, (97 ≤ bits BinOp.or IntKind.u8 ((n.1 : Nat) : Int) 32 ∧ bits BinOp.or IntKind.u8 ((n.1 : Nat) : Int) 32 ≤ 122) ↔ (97 ≤ ((n.1 : Nat) : Int) ∧ ((n.1 : Nat) : Int) ≤ 122 ∨ 65 ≤ ((n.1 : Nat) : Int) ∧ ((n.1 : Nat) : Int) ≤ 90) := by decide +kernel
  have := h ⟨c.toNat, c.toNat_lt⟩
  simp only at this
  rw [this, letterB, decide_eq_true_eq]
theorem nmB_iff (i : Nat) (c : UInt8) : nmB (decide (i = 0)) c = true ↔ (97 ≤ bits BinOp.or IntKind.u8 (c.toNat : Int) 32 ∧ bits BinOp.or IntKind.u8 (c.toNat : Int) 32 ≤ 122) ∨ ¬ (i : Int) = 0 ∧ (48 ≤ (c.toNat : Int) ∧ (c.toNat : Int) ≤ 57 ∨ (c.toNat : Int) = 45 ∨ (c.toNat : Int) = 46 ∨ (c.toNat : Int) = 95) := by
  rw [or32]
  simp only [nmB, otherB, Bool.or_eq_true, Bool.and_eq_true, Bool.not_eq_true', decide_eq_false_iff_not, decide_eq_true_eq, Int.natCast_eq_zero, or_assoc, and_assoc]
set_option maxHeartbeats 4000000 in
theorem Name_c (s : List UInt8) (hs : s.length ≤ 9223372036854775807) : ACalls Tryz.prog 50 [.v (.string (bs s))] [] (.v (.bool (nameB s))) [] := by
  generalize hr : nameB s = r
  rw [nameB] at hr
  refine (ACalls.of (fn := Tryz.f50) Tryz.func50 O O Tryz.ntmps50 (fun I M w own => ?_))
  (repeat' (first|refine AW.seq_k (fun K hK=>?_)|(refine hK _ ?_;clear hK)|refine AW.block ?_|refine AW.rI [0, 1] O ?_|refine UA ?_|fail))
  refine AW.loopF (X := Nat) (fun x => ⟨[(0, .v (.string (bs s))), (8, .v (.int .i64 (s.length : Int))), (9, .v (.int .i64 (x : Int)))], []⟩)
    (fun x => x ≤ s.length ∧ nmGo true s = nmGo (decide (x = 0)) (s.drop x)) (fun x => s.length - x) 0 ?_ ?_ ?_
  · refine Conv.mk [] O O O ?_ O ?_
    (repeat' (first|exact V0|refine V3 ?_|refine V2 ?_ ?_|fail))
    (all_goals (try (first|refine CvL.eq ?_|refine Cv.eq ?_)))
    all_goals simp [AV.ren]
  · simp
  · rintro i ⟨h1, h2⟩
    rcases Nat.lt_or_ge i s.length with h | h
    · have hF : s[(i : Int).toNat]? = some s[i] := by simp [h]
      have hN := nmB_iff i s[i]
      rw [List.drop_eq_getElem_cons h, nmGo] at h2
      (repeat' (first|refine AW.seq_k (fun K hK=>?_)|(refine hK _ ?_;clear hK)|refine AW.uC (fun hc=>?_) (fun hc=>?_)|refine AW.block ?_|refine AW.ret ?_|refine AW.skip ?_|exact trivial|refine AW.rI [2, 3, 4, 5, 6, 7, 8, 9] O ?_|refine UA ?_|fail))
      · have : nmB (decide (i = 0)) s[i] = false := by
          cases hb : nmB (decide (i = 0)) s[i] with
          | false => rfl
          | true => exfalso; have := hN.1 hb; omega
        rw [h2, this] at hr
        subst hr
        ((first|refine RetOk.tup O O ?_|refine RetOk.one O ?_)<;>(repeat' (first|exact V0|refine V1 ?_|refine V2 ?_ ?_|fail)))
      · have : nmB (decide (i = 0)) s[i] = true := hN.2 (by omega)
        rw [this, Bool.true_and] at h2
        ((repeat (with_reducible refine inB_n ?_)); refine thenA_n ?_)
        refine ⟨i + 1, ⟨h, ?_⟩, by omega, ?_⟩
        · rw [h2]; simp
        · refine Conv.mk [] O O O ?_ O ?_
          (repeat' (first|exact V0|refine V3 ?_|refine V2 ?_ ?_|fail))
          (all_goals (try (first|refine CvL.eq ?_|refine Cv.eq ?_)))
          all_goals simp [AV.ren]
    · rw [List.drop_eq_nil_of_le h, nmGo] at h2
      rw [h2, Bool.true_and] at hr
      (repeat' (first|refine AW.seq_k (fun K hK=>?_)|(refine hK _ ?_;clear hK)|refine AW.uC (fun hc=>?_) (fun hc=>?_)|refine AW.exit ?_|refine AW.ret ?_|(clear hK;refine hK _ ?_;clear hK)|exact trivial|refine AW.rI [2, 10] O ?_|refine UA ?_|fail))
      obtain rfl : r = (decide (s ≠ []) && decide ((s.length : Int) ≤ 64)) := by rw [← hr]; congr 1; exact decide_eq_decide.2 (by omega)
      ((first|refine RetOk.tup O O ?_|refine RetOk.one O ?_)<;>(repeat' (first|exact V0|refine V1 ?_|refine V2 ?_ ?_|fail)))
set_option maxHeartbeats 4000000 in
theorem letter_c (c : UInt8) : ACalls Tryz.prog 128 [.v (.int .u8 (c.toNat : Int))] [] (.v (.bool (letterB c))) [] := by
  generalize hr : letterB c = r
  refine (ACalls.of (fn := Tryz.f128) Tryz.func128 O O Tryz.ntmps128 (fun I M w own => ?_))
  (repeat' (first|refine AW.seq_k (fun K hK=>?_)|(refine hK _ ?_;clear hK)|refine AW.ret ?_|refine AW.region ?_|refine UA ?_|fail))
  all_goals subst hr
  all_goals ((first|refine RetOk.tup O O ?_|refine RetOk.one O ?_)<;>(repeat' (first|exact V0|refine V1 ?_|refine V2 ?_ ?_|fail)))
  (all_goals (try (first|refine CvL.eq ?_|refine Cv.eq ?_)))
  all_goals (simp only [AV.ren, AV.v.injEq, Value.bool.injEq]; rw [Bool.eq_iff_iff]; simp only [letterB, Bool.and_eq_true, Bool.or_eq_true, Bool.not_eq_true', Bool.not_eq_false', Bool.and_eq_false_iff, Bool.or_eq_false_iff, Bool.and_eq_false_imp, decide_eq_true_eq, decide_eq_false_iff_not, Decidable.not_not, Int.not_lt, Int.not_le, ne_eq, Bool.not_not]; try omega)
set_option maxHeartbeats 4000000 in
theorem rName_c (s : List UInt8) (hs : s.length ≤ 9223372036854775807) : ACalls Tryz.prog 96 [.v (.string (bs s))] [] (.v (.bool (nameB s))) [] := by
  generalize hr : nameB s = r
  rw [nameB] at hr
  refine (ACalls.of (fn := Tryz.f96) Tryz.func96 O O Tryz.ntmps96 (fun I M w own => ?_))
  (repeat' (first|refine AW.seq_k (fun K hK=>?_)|(refine hK _ ?_;clear hK)|refine AW.block ?_|refine AW.rI [0, 1] O ?_|refine UA ?_|fail))
  refine AW.loopF (X := Nat) (fun x => ⟨[(0, .v (.string (bs s))), (3, .v (.int .i64 (x : Int)))], []⟩)
    (fun x => x ≤ s.length ∧ nmGo true s = nmGo (decide (x = 0)) (s.drop x)) (fun x => s.length - x) 0 ?_ ?_ ?_
  · refine Conv.mk [] O O O ?_ O ?_
    (repeat' (first|exact V0|refine V3 ?_|refine V2 ?_ ?_|fail))
    (all_goals (try (first|refine CvL.eq ?_|refine Cv.eq ?_)))
    all_goals simp [AV.ren]
  · simp
  · rintro i ⟨h1, h2⟩
    rcases Nat.lt_or_ge i s.length with h | h
    · have hF : s[(i : Int).toNat]? = some s[i] := by simp [h]
      rw [List.drop_eq_getElem_cons h, nmGo] at h2
      have hl := letter_c s[i]
      cases hL : letterB s[i] with
      | true =>
        rw [hL] at hl
        have : nmB (decide (i = 0)) s[i] = true := by simp [nmB, hL]
        rw [this, Bool.true_and] at h2
        (repeat' (first|refine AW.seq_k (fun K hK=>?_)|(refine hK _ ?_;clear hK)|refine AW.uC (fun hc=>?_) (fun hc=>?_)|refine AW.block ?_|refine AW.skip ?_|exact trivial|refine AW.rI [2, 4, 5, 3] O ?_|refine Run.c0 hl O O O O O O O O ?_|refine UA ?_|fail))
        ((repeat (with_reducible refine inB_n ?_)); refine thenA_n ?_)
        refine ⟨i + 1, ⟨h, ?_⟩, by omega, ?_⟩
        · rw [h2]; simp
        · refine Conv.mk [] O O O ?_ O ?_
          (repeat' (first|exact V0|refine V3 ?_|refine V2 ?_ ?_|fail))
          (all_goals (try (first|refine CvL.eq ?_|refine Cv.eq ?_)))
          all_goals simp [AV.ren]
      | false =>
        rw [hL] at hl
        have hN : nmB (decide (i = 0)) s[i] = true ↔ ¬ (i : Int) = 0 ∧ (48 ≤ (s[i].toNat : Int) ∧ (s[i].toNat : Int) ≤ 57 ∨ (s[i].toNat : Int) = 45 ∨ (s[i].toNat : Int) = 46 ∨ (s[i].toNat : Int) = 95) := by
          simp only [nmB, hL, otherB, Bool.false_or, Bool.or_eq_true, Bool.and_eq_true, Bool.not_eq_true', decide_eq_false_iff_not, decide_eq_true_eq, Int.natCast_eq_zero, or_assoc, and_assoc]
        (repeat' (first|refine AW.seq_k (fun K hK=>?_)|(refine hK _ ?_;clear hK)|refine AW.uC (fun hc=>?_) (fun hc=>?_)|refine AW.block ?_|refine AW.ret ?_|refine AW.skip ?_|exact trivial|refine AW.rI [2, 4, 5, 6, 3] O ?_|refine Run.c0 hl O O O O O O O O ?_|refine UA ?_|fail))
        · have : nmB (decide (i = 0)) s[i] = false := by
            cases hb : nmB (decide (i = 0)) s[i] with
            | false => rfl
            | true => exfalso; have := hN.1 hb; omega
          rw [h2, this] at hr
          subst hr
          ((first|refine RetOk.tup O O ?_|refine RetOk.one O ?_)<;>(repeat' (first|exact V0|refine V1 ?_|refine V2 ?_ ?_|fail)))
        · have : nmB (decide (i = 0)) s[i] = true := hN.2 (by omega)
          rw [this, Bool.true_and] at h2
          ((repeat (with_reducible refine inB_n ?_)); refine thenA_n ?_)
          refine ⟨i + 1, ⟨h, ?_⟩, by omega, ?_⟩
          · rw [h2]; simp
          · refine Conv.mk [] O O O ?_ O ?_
            (repeat' (first|exact V0|refine V3 ?_|refine V2 ?_ ?_|fail))
            (all_goals (try (first|refine CvL.eq ?_|refine Cv.eq ?_)))
            all_goals simp [AV.ren]
    · rw [List.drop_eq_nil_of_le h, nmGo] at h2
      rw [h2, Bool.true_and] at hr
      (repeat' (first|refine AW.seq_k (fun K hK=>?_)|(refine hK _ ?_;clear hK)|refine AW.uC (fun hc=>?_) (fun hc=>?_)|refine AW.exit ?_|refine AW.ret ?_|(clear hK;refine hK _ ?_;clear hK)|exact trivial|refine AW.rI [2, 7] O ?_|refine UA ?_|fail))
      obtain rfl : r = (decide (s ≠ []) && decide ((s.length : Int) ≤ 64)) := by rw [← hr]; congr 1; exact decide_eq_decide.2 (by omega)
      ((first|refine RetOk.tup O O ?_|refine RetOk.one O ?_)<;>(repeat' (first|exact V0|refine V1 ?_|refine V2 ?_ ?_|fail)))
def dig : List UInt8 → Int → Option Int
  | [], n => some n
  | c :: t, n => if 48 ≤ (c.toNat : Int) ∧ (c.toNat : Int) ≤ 57 then dig t (if n ≤ 9007199254740992 then 10 * n + ((c.toNat : Int) - 48) else n) else none
def numD (neg : Bool) (d : List UInt8) : Int × Int :=
  match d with
  | [] => (0, 5)
  | c :: t => if (c.toNat : Int) = 48 ∧ (t ≠ [] ∨ neg = true) then (0, 5) else match dig (c :: t) 0 with
    | none => (0, 5)
    | some n => if 9007199254740992 < n then (0, 2) else (if neg then -n else n, 0)
def numberP (s : List UInt8) : Int × Int :=
  match s with
  | [] => (0, 5)
  | c :: t => if (c.toNat : Int) = 45 then numD true t else numD false s
set_option maxHeartbeats 4000000 in
theorem Number_0 (hs : (([] : List UInt8)).length ≤ 1099511627776) : ACalls Tryz.prog 148 [.v (.string (bs (([] : List UInt8))))] [] (.tup [.v (.int .i64 (numberP (([] : List UInt8))).1), .v (.int .i64 (numberP (([] : List UInt8))).2)]) [] := by
  generalize he : numberP (([] : List UInt8)) = r
  have hF : decide ((0 : Int) < (([] : List UInt8).length : Int)) = true → ([] : List UInt8)[(0 : Int).toNat]? = some 0 := by simp
  refine (ACalls.of (fn := Tryz.f148) Tryz.func148 O O Tryz.ntmps148 (fun I M w own => ?_))
  (repeat' (first|refine AW.seq_k (fun K hK=>?_)|(refine hK _ ?_;clear hK)|refine AW.uC (fun hc=>?_) (fun hc=>?_)|refine AW.ret ?_|refine AW.skip ?_|exact trivial|refine AW.rI [0, 1, 2, 3, 5, 6] O ?_|refine UA ?_|fail))
  all_goals subst he
  ((first|refine RetOk.tup O O ?_|refine RetOk.one O ?_)<;>(repeat' (first|exact V0|refine V1 ?_|refine V2 ?_ ?_|fail)))
set_option maxHeartbeats 4000000 in
theorem Number_m (c : UInt8) (hs : ([c]).length ≤ 1099511627776) (hc0 : (c.toNat : Int) = 45) : ACalls Tryz.prog 148 [.v (.string (bs ([c])))] [] (.tup [.v (.int .i64 (numberP ([c])).1), .v (.int .i64 (numberP ([c])).2)]) [] := by
  generalize he : numberP ([c]) = r
  have hF : [c][(0 : Int).toNat]? = some c := rfl
  have hF2 : (!decide (List.drop (Int.toNat 1) [c] = [])) = true → (List.drop (Int.toNat 1) [c])[(0 : Int).toNat]? = some 0 := by simp
  simp only [numberP, if_pos hc0, numD] at he
  refine (ACalls.of (fn := Tryz.f148) Tryz.func148 O O Tryz.ntmps148 (fun I M w own => ?_))
  (repeat' (first|refine AW.seq_k (fun K hK=>?_)|(refine hK _ ?_;clear hK)|refine AW.uC (fun hc=>?_) (fun hc=>?_)|refine AW.ret ?_|exact trivial|refine AW.rI [0, 1, 2, 3, 4, 5, 6] O ?_|refine UA ?_|fail))
  subst he
  ((first|refine RetOk.tup O O ?_|refine RetOk.one O ?_)<;>(repeat' (first|exact V0|refine V1 ?_|refine V2 ?_ ?_|fail)))
set_option maxHeartbeats 4000000 in
theorem Number_n (c e : UInt8) (t : List UInt8) (hs : (c :: e :: t).length ≤ 1099511627776) (hc0 : (c.toNat : Int) = 45) : ACalls Tryz.prog 148 [.v (.string (bs (c :: e :: t)))] [] (.tup [.v (.int .i64 (numberP (c :: e :: t)).1), .v (.int .i64 (numberP (c :: e :: t)).2)]) [] := by
  generalize he : numberP (c :: e :: t) = r
  have hF : (c :: e :: t)[(0 : Int).toNat]? = some c := rfl
  have hF2 : (List.drop (Int.toNat 1) (c :: e :: t))[(0 : Int).toNat]? = some e := rfl
  have hL : (c :: e :: t).length = t.length + 2 := rfl
  have hL2 : (e :: t).length = t.length + 1 := rfl
  simp only [numberP, if_pos hc0, numD] at he
  refine (ACalls.of (fn := Tryz.f148) Tryz.func148 O O Tryz.ntmps148 (fun I M w own => ?_))
  (repeat' (first|refine AW.seq_k (fun K hK=>?_)|(refine hK _ ?_;clear hK)|refine AW.uC (fun hc=>?_) (fun hc=>?_)|refine AW.block ?_|refine AW.ret ?_|refine AW.skip ?_|exact trivial|refine AW.rI [0, 1, 2, 3, 4, 5, 6, 7, 8] O ?_|refine UA ?_|fail))
  · rw [if_pos (by simp [hc.1])] at he
    subst he
    ((first|refine RetOk.tup O O ?_|refine RetOk.one O ?_)<;>(repeat' (first|exact V0|refine V1 ?_|refine V2 ?_ ?_|fail)))
  · rw [if_neg (by simp at hc ⊢; omega)] at he
    refine AW.loopF (X := Nat × Int) (fun x => ⟨[(4, .v (.bool true)), (5, .v (.string (bs (e :: t)))), (6, .v (.int .i64 x.2)), (36, .v (.int .i64 (((e :: t)).length : Int))), (37, .v (.int .i64 (x.1 : Int)))], []⟩) (fun x => x.1 ≤ ((e :: t)).length ∧ dig (e :: t) 0 = dig (((e :: t)).drop x.1) x.2 ∧ 0 ≤ x.2 ∧ x.2 ≤ 90071992547409929) (fun x => ((e :: t)).length - x.1) (0, 0) ?_ ?_ ?_
    · refine Conv.mk [] O O O ?_ O ?_
      (repeat' (first|exact V0|refine V3 ?_|refine V2 ?_ ?_|fail))
      (all_goals (try (first|refine CvL.eq ?_|refine Cv.eq ?_)))
      all_goals (simp [AV.ren]; try omega)
    · simp
    · rintro ⟨i, n⟩ ⟨h1, h2, h3, h4⟩
      simp only at h1 h2 h3 h4 ⊢
      rcases Nat.lt_or_ge i ((e :: t)).length with h | h
      · obtain ⟨x, hx⟩ : ∃ x, ((e :: t))[i] = x := ⟨_, rfl⟩
        have hG : ((e :: t))[(i : Int).toNat]? = some x := by rw [Int.toNat_natCast, List.getElem?_eq_getElem h, hx]
        have hd : ((e :: t)).drop i = x :: ((e :: t)).drop (i + 1) := by rw [List.drop_eq_getElem_cons h, hx]
        have hdg : dig (x :: ((e :: t)).drop (i + 1)) n = if 48 ≤ (x.toNat : Int) ∧ (x.toNat : Int) ≤ 57 then dig (((e :: t)).drop (i + 1)) (if n ≤ 9007199254740992 then 10 * n + ((x.toNat : Int) - 48) else n) else none := rfl
        rw [hd, hdg] at h2
        (repeat' (first|refine AW.seq_k (fun K hK=>?_)|(refine hK _ ?_;clear hK)|refine AW.uC (fun hc=>?_) (fun hc=>?_)|refine AW.block ?_|refine AW.ret ?_|refine AW.skip ?_|exact trivial|refine AW.rI [9, 10, 11, 12, 13, 14, 15] O ?_|refine UA ?_|fail))
        · rw [h2, if_neg (by omega)] at he
          subst he
          ((first|refine RetOk.tup O O ?_|refine RetOk.one O ?_)<;>(repeat' (first|exact V0|refine V1 ?_|refine V2 ?_ ?_|fail)))
        · ((repeat (with_reducible refine inB_n ?_)); refine thenA_n ?_)
          refine ⟨(i + 1, 10 * n + ((x.toNat : Int) - 48)), ⟨h, ?_, by simp only; omega, by simp only; omega⟩, by simp only; omega, ?_⟩
          · rw [h2, if_pos (by omega), if_pos (by omega)]
          · refine Conv.mk [] O O O ?_ O ?_
            (repeat' (first|exact V0|refine V3 ?_|refine V2 ?_ ?_|fail))
            (all_goals (try (first|refine CvL.eq ?_|refine Cv.eq ?_)))
            all_goals simp [AV.ren]
        · ((repeat (with_reducible refine inB_n ?_)); refine thenA_n ?_)
          refine ⟨(i + 1, n), ⟨h, ?_, h3, h4⟩, by simp only; omega, ?_⟩
          · rw [h2, if_pos (by omega), if_neg (by omega)]
          · refine Conv.mk [] O O O ?_ O ?_
            (repeat' (first|exact V0|refine V3 ?_|refine V2 ?_ ?_|fail))
            (all_goals (try (first|refine CvL.eq ?_|refine Cv.eq ?_)))
            all_goals simp [AV.ren]
      · have hdg : dig [] n = some n := rfl
        rw [List.drop_eq_nil_of_le h, hdg] at h2
        rw [h2] at he
        (repeat' (first|refine AW.seq_k (fun K hK=>?_)|(refine hK _ ?_;clear hK)|refine AW.uC (fun hc=>?_) (fun hc=>?_)|refine AW.exit ?_|refine AW.ret ?_|refine AW.skip ?_|(clear hK;refine hK _ ?_;clear hK)|exact trivial|refine AW.rI [9, 16, 17, 18, 19, 20] O ?_|refine UA ?_|fail))
        · simp only [if_pos (show 9007199254740992 < n by assumption)] at he
          subst he
          ((first|refine RetOk.tup O O ?_|refine RetOk.one O ?_)<;>(repeat' (first|exact V0|refine V1 ?_|refine V2 ?_ ?_|fail)))
        · simp only [if_neg (show ¬ 9007199254740992 < n by assumption)] at he
          subst he
          ((first|refine RetOk.tup O O ?_|refine RetOk.one O ?_)<;>(repeat' (first|exact V0|refine V1 ?_|refine V2 ?_ ?_|fail)))
set_option maxHeartbeats 4000000 in
theorem Number_p (c : UInt8) (t : List UInt8) (hs : (c :: t).length ≤ 1099511627776) (hc0 : ¬ (c.toNat : Int) = 45) : ACalls Tryz.prog 148 [.v (.string (bs (c :: t)))] [] (.tup [.v (.int .i64 (numberP (c :: t)).1), .v (.int .i64 (numberP (c :: t)).2)]) [] := by
  generalize he : numberP (c :: t) = r
  have hF : (c :: t)[(0 : Int).toNat]? = some c := rfl
  have hL : (c :: t).length = t.length + 1 := rfl
  simp only [numberP, if_neg hc0, numD] at he
  refine (ACalls.of (fn := Tryz.f148) Tryz.func148 O O Tryz.ntmps148 (fun I M w own => ?_))
  (repeat' (first|refine AW.seq_k (fun K hK=>?_)|(refine hK _ ?_;clear hK)|refine AW.uC (fun hc=>?_) (fun hc=>?_)|refine AW.block ?_|refine AW.ret ?_|refine AW.skip ?_|exact trivial|refine AW.rI [0, 1, 2, 3, 5, 6, 7, 8] O ?_|refine UA ?_|fail))
  · rw [if_pos ⟨hc.1, by left; rintro rfl; simp at hc; omega⟩] at he
    subst he
    ((first|refine RetOk.tup O O ?_|refine RetOk.one O ?_)<;>(repeat' (first|exact V0|refine V1 ?_|refine V2 ?_ ?_|fail)))
  · rw [if_neg (by rintro ⟨q1, q2⟩; cases t <;> simp at hc q2 <;> omega)] at he
    refine AW.loopF (X := Nat × Int) (fun x => ⟨[(4, .v (.bool false)), (5, .v (.string (bs (c :: t)))), (6, .v (.int .i64 x.2)), (36, .v (.int .i64 (((c :: t)).length : Int))), (37, .v (.int .i64 (x.1 : Int)))], []⟩) (fun x => x.1 ≤ ((c :: t)).length ∧ dig (c :: t) 0 = dig (((c :: t)).drop x.1) x.2 ∧ 0 ≤ x.2 ∧ x.2 ≤ 90071992547409929) (fun x => ((c :: t)).length - x.1) (0, 0) ?_ ?_ ?_
    · refine Conv.mk [] O O O ?_ O ?_
      (repeat' (first|exact V0|refine V3 ?_|refine V2 ?_ ?_|fail))
      (all_goals (try (first|refine CvL.eq ?_|refine Cv.eq ?_)))
      all_goals (simp [AV.ren]; try omega)
    · simp
    · rintro ⟨i, n⟩ ⟨h1, h2, h3, h4⟩
      simp only at h1 h2 h3 h4 ⊢
      rcases Nat.lt_or_ge i ((c :: t)).length with h | h
      · obtain ⟨x, hx⟩ : ∃ x, ((c :: t))[i] = x := ⟨_, rfl⟩
        have hG : ((c :: t))[(i : Int).toNat]? = some x := by rw [Int.toNat_natCast, List.getElem?_eq_getElem h, hx]
        have hd : ((c :: t)).drop i = x :: ((c :: t)).drop (i + 1) := by rw [List.drop_eq_getElem_cons h, hx]
        have hdg : dig (x :: ((c :: t)).drop (i + 1)) n = if 48 ≤ (x.toNat : Int) ∧ (x.toNat : Int) ≤ 57 then dig (((c :: t)).drop (i + 1)) (if n ≤ 9007199254740992 then 10 * n + ((x.toNat : Int) - 48) else n) else none := rfl
        rw [hd, hdg] at h2
        (repeat' (first|refine AW.seq_k (fun K hK=>?_)|(refine hK _ ?_;clear hK)|refine AW.uC (fun hc=>?_) (fun hc=>?_)|refine AW.block ?_|refine AW.ret ?_|refine AW.skip ?_|exact trivial|refine AW.rI [9, 10, 11, 12, 13, 14, 15] O ?_|refine UA ?_|fail))
        · rw [h2, if_neg (by omega)] at he
          subst he
          ((first|refine RetOk.tup O O ?_|refine RetOk.one O ?_)<;>(repeat' (first|exact V0|refine V1 ?_|refine V2 ?_ ?_|fail)))
        · ((repeat (with_reducible refine inB_n ?_)); refine thenA_n ?_)
          refine ⟨(i + 1, 10 * n + ((x.toNat : Int) - 48)), ⟨h, ?_, by simp only; omega, by simp only; omega⟩, by simp only; omega, ?_⟩
          · rw [h2, if_pos (by omega), if_pos (by omega)]
          · refine Conv.mk [] O O O ?_ O ?_
            (repeat' (first|exact V0|refine V3 ?_|refine V2 ?_ ?_|fail))
            (all_goals (try (first|refine CvL.eq ?_|refine Cv.eq ?_)))
            all_goals simp [AV.ren]
        · ((repeat (with_reducible refine inB_n ?_)); refine thenA_n ?_)
          refine ⟨(i + 1, n), ⟨h, ?_, h3, h4⟩, by simp only; omega, ?_⟩
          · rw [h2, if_pos (by omega), if_neg (by omega)]
          · refine Conv.mk [] O O O ?_ O ?_
            (repeat' (first|exact V0|refine V3 ?_|refine V2 ?_ ?_|fail))
            (all_goals (try (first|refine CvL.eq ?_|refine Cv.eq ?_)))
            all_goals simp [AV.ren]
      · have hdg : dig [] n = some n := rfl
        rw [List.drop_eq_nil_of_le h, hdg] at h2
        rw [h2] at he
        (repeat' (first|refine AW.seq_k (fun K hK=>?_)|(refine hK _ ?_;clear hK)|refine AW.uC (fun hc=>?_) (fun hc=>?_)|refine AW.exit ?_|refine AW.ret ?_|refine AW.skip ?_|(clear hK;refine hK _ ?_;clear hK)|exact trivial|refine AW.rI [9, 16, 17, 18, 20] O ?_|refine UA ?_|fail))
        · simp only [if_pos (show 9007199254740992 < n by assumption)] at he
          subst he
          ((first|refine RetOk.tup O O ?_|refine RetOk.one O ?_)<;>(repeat' (first|exact V0|refine V1 ?_|refine V2 ?_ ?_|fail)))
        · simp only [if_neg (show ¬ 9007199254740992 < n by assumption)] at he
          subst he
          ((first|refine RetOk.tup O O ?_|refine RetOk.one O ?_)<;>(repeat' (first|exact V0|refine V1 ?_|refine V2 ?_ ?_|fail)))
theorem Number_c (s : List UInt8) (hs : s.length ≤ 1099511627776) : ACalls Tryz.prog 148 [.v (.string (bs s))] [] (.tup [.v (.int .i64 (numberP s).1), .v (.int .i64 (numberP s).2)]) [] := by
  rcases s with _ | ⟨c, t⟩
  · exact Number_0 hs
  · by_cases h : (c.toNat : Int) = 45
    · rcases t with _ | ⟨e, t⟩
      · exact Number_m c hs h
      · exact Number_n c e t hs h
    · exact Number_p c t hs h
def Rd.fin (o : Option Rd) : Option (List (List UInt8)) := match o with
  | none => none
  | some r => if r.st = 1 ∨ r.st = 4 then some (r.ws ++ [r.w]) else none
theorem space_not (c : UInt8) (h : (c.toNat : Int) = 32) : simpleB c = false := by simp [simpleB, h]
theorem run1 : ∀ (l w : List UInt8) (ws : List (List UInt8)), Rd.run l ⟨1, w, ws⟩ = match l.dropWhile simpleB with
    | [] => some ⟨1, w ++ l.takeWhile simpleB, ws⟩
    | c :: t => if (c.toNat : Int) = 32 then Rd.run t ⟨0, [], ws ++ [w ++ l.takeWhile simpleB]⟩ else none := by
  intro l
  induction l with
  | nil => intro w ws; simp [Rd.run]
  | cons c l ih =>
    intro w ws
    rw [Rd.run]
    by_cases h : (c.toNat : Int) = 32
    · have hs := space_not c h
      simp [tkPush, Rd.step, h, hs]
    · by_cases hs : simpleB c = true
      · simp [tkPush, tkOk, Rd.step, h, hs, tkSt, tkAdd, ih]
      · rw [Bool.not_eq_true] at hs
        simp [tkPush, tkOk, h, hs]
theorem run4 (l w : List UInt8) (ws : List (List UInt8)) : Rd.run l ⟨4, w, ws⟩ = match l with
    | [] => some ⟨4, w, ws⟩
    | c :: t => if (c.toNat : Int) = 32 then Rd.run t ⟨0, [], ws ++ [w]⟩ else none := by
  cases l with
  | nil => rfl
  | cons c t =>
    rw [Rd.run]
    by_cases h : (c.toNat : Int) = 32 <;> simp [tkPush, tkOk, Rd.step, h]
theorem run2 : ∀ (n : Nat) (l w : List UInt8) (ws : List (List UInt8)), l.length < n → Rd.fin (Rd.run l ⟨2, w, ws⟩) = match qRead n l w with
    | none => none
    | some (w', t) => Rd.fin (Rd.run t ⟨4, w', ws⟩) := by
  intro n
  induction n with
  | zero => intro l w ws h; omega
  | succ n ih =>
    intro l w ws hl
    rcases l with _ | ⟨c, l⟩
    · simp [Rd.run, Rd.fin, qRead]
    · simp only [List.length_cons] at hl
      rw [Rd.run]
      simp only [qRead]
      by_cases h1 : (c.toNat : Int) = 34
      · simp [tkPush, tkOk, Rd.step, h1, tkSt, tkAdd]
      · by_cases h2 : (c.toNat : Int) = 10 ∨ (c.toNat : Int) = 13
        · have e : (tkPush 2 c || tkOk 2 c) = false := by
            rw [Bool.or_eq_false_iff]
            refine ⟨by simp [tkPush], ?_⟩
            simp [tkOk]; omega
          simp only [e]
          simp [h1, h2, Rd.fin]
        · have h2' : ¬ (c.toNat : Int) = 10 ∧ ¬ (c.toNat : Int) = 13 := by omega
          by_cases h3 : (c.toNat : Int) = 92
          · rcases l with _ | ⟨e, l⟩
            · simp [tkPush, tkOk, Rd.step, h1, h3, tkSt, tkAdd, Rd.run, Rd.fin]
            · simp only [List.length_cons] at hl
              cases hm : meant e with
              | none => simp [tkPush, tkOk, Rd.step, h1, h3, tkSt, tkAdd, Rd.run, Rd.fin, hm]
              | some x => simp [tkPush, tkOk, Rd.step, h1, h3, tkSt, tkAdd, Rd.run, hm, ih l (w ++ [x]) ws (by omega)]
          · simp [tkPush, tkOk, Rd.step, h1, h2, h2', h3, tkSt, tkAdd, ih l (w ++ [c]) ws (by omega)]
theorem split_run : ∀ (n : Nat) (l : List UInt8) (out : List (List UInt8)), l.length < n → rSplit n l out = Rd.fin (Rd.run l ⟨0, [], out⟩) := by
  intro n
  induction n with
  | zero => intro l out h; omega
  | succ n ih =>
    intro l out hl
    rcases l with _ | ⟨c, r⟩
    · simp [rSplit, wordR, Rd.run, Rd.fin]
    · simp only [List.length_cons] at hl
      rw [rSplit, Rd.run]
      by_cases h1 : (c.toNat : Int) = 34
      · have e1 : (if (tkPush 0 c || tkOk 0 c) = true then Rd.run r (Rd.step ⟨0, [], out⟩ c) else none) = Rd.run r ⟨2, [], out⟩ := by simp [tkPush, tkOk, Rd.step, tkSt, tkAdd, h1]
        simp only [e1]
        rw [run2 (r.length + 1) r [] out (by omega)]
        simp only [wordR, if_pos h1]
        cases hq : qRead (r.length + 1) r [] with
        | none => rfl
        | some p =>
          obtain ⟨w, t⟩ := p
          obtain ⟨d, hd⟩ := qRead_suf _ _ _ _ _ hq
          simp only
          rw [run4]
          rcases t with _ | ⟨c', t⟩
          · simp [Rd.fin]
          · simp only
            have : r.length = d.length + (t.length + 1) := by rw [hd]; simp
            by_cases h2 : (c'.toNat : Int) = 32
            · rw [if_pos h2, if_pos h2, ih t _ (by omega)]
            · rw [if_neg h2, if_neg h2]; rfl
      · by_cases hs : simpleB c = true
        · have e1 : (if (tkPush 0 c || tkOk 0 c) = true then Rd.run r (Rd.step ⟨0, [], out⟩ c) else none) = Rd.run r ⟨1, [c], out⟩ := by simp [tkPush, tkOk, Rd.step, tkSt, tkAdd, h1, hs]
          simp only [e1]
          rw [run1]
          have hlen : (r.dropWhile simpleB).length ≤ r.length := by
            have := congrArg List.length (List.takeWhile_append_dropWhile (p := simpleB) (l := r))
            rw [List.length_append] at this; omega
          simp only [wordR, if_neg h1, List.takeWhile_cons, List.dropWhile_cons, hs, if_true]
          generalize r.dropWhile simpleB = t at hlen
          rcases t with _ | ⟨c', t⟩
          · simp [Rd.fin]
          · simp only [List.length_cons] at hlen
            simp only [reduceCtorEq, if_false]
            by_cases h2 : (c'.toNat : Int) = 32
            · rw [if_pos h2, if_pos h2, ih t _ (by omega)]; rfl
            · rw [if_neg h2, if_neg h2]; rfl
        · rw [Bool.not_eq_true] at hs
          simp [wordR, h1, hs, tkPush, tkOk, Rd.fin]
theorem split_eq (s : List UInt8) : splitP s = rSplitP s := by
  unfold splitP rSplitP
  split
  · rfl
  · split
    · rfl
    · rw [split_run (s.length + 1) s [] (by omega)]
      cases Rd.run s ⟨0, [], []⟩ with
      | none => rfl
      | some r =>
        simp only [Rd.fin]
        by_cases h : r.st = 1 ∨ r.st = 4
        · rw [if_neg (by omega), if_pos h]
          simp
        · rw [if_pos (by omega), if_neg h]
theorem esc_ge (c : UInt8) : 1 ≤ (esc c).length := by unfold esc; (repeat' split) <;> simp
theorem flat_esc_ge (s : List UInt8) : s.length ≤ (s.flatMap esc).length := by
  induction s with
  | nil => simp
  | cons c s ih =>
    rw [List.flatMap_cons, List.length_append]
    have := esc_ge c
    simp only [List.length_cons]; omega
theorem writtenL_ge (s : List UInt8) : s.length ≤ (writtenL s).length := by
  unfold writtenL
  split
  · exact Nat.le_refl _
  · have := flat_esc_ge s
    simp only [List.length_cons, List.length_append]; omega
def J : List (List UInt8) → List UInt8
  | [] => []
  | [w] => writtenL w
  | w :: v :: ws => writtenL w ++ 32 :: J (v :: ws)
def Jb (f : Bool) (b : List UInt8) : List (List UInt8) → List UInt8
  | [] => b
  | w :: ws => Jb false ((if f then b else b ++ [32]) ++ writtenL w) ws
def Aft (l : List UInt8) : Prop := l = [] ∨ ∃ t, l = 32 :: t
theorem meant_esc (d x : UInt8) (h : meant d = some x) : (esc x).length = 2 := by
  unfold meant at h
  (repeat' split at h) <;> first | (cases h; done) | skip
  · injection h with h; subst h; simp [esc, *]
  · injection h with h; subst h; decide
  · injection h with h; subst h; decide
theorem qRead_len : ∀ (n : Nat) (l out w t : List UInt8), qRead n l out = some (w, t) → ∃ d e, l = d ++ t ∧ w = out ++ e ∧ (e.flatMap esc).length + 1 ≤ d.length := by
  intro n
  induction n with
  | zero => intro l out w t h; simp [qRead] at h
  | succ n ih =>
    intro l out w t h
    rcases l with _ | ⟨c, l⟩
    · simp [qRead] at h
    · simp only [qRead] at h
      split at h
      · simp at h; exact ⟨[c], [], by simp [h.2], by simp [h.1], by simp⟩
      · split at h
        · cases h
        · split at h
          · rcases l with _ | ⟨e, l⟩
            · simp at h
            · simp only at h
              cases hm : meant e with
              | none => rw [hm] at h; simp at h
              | some x =>
                rw [hm] at h
                obtain ⟨d, f, rfl, rfl, hl⟩ := ih _ _ _ _ h
                refine ⟨c :: e :: d, x :: f, by simp, by simp, ?_⟩
                have := meant_esc e x hm
                simp only [List.flatMap_cons, List.length_append, List.length_cons]; omega
          · obtain ⟨d, f, rfl, rfl, hl⟩ := ih _ _ _ _ h
            refine ⟨c :: d, c :: f, by simp, by simp, ?_⟩
            have : (esc c).length = 1 := by
              unfold esc
              rw [if_neg (by omega), if_neg (by omega), if_neg (by omega)]; rfl
            simp only [List.flatMap_cons, List.length_append, List.length_cons]; omega
theorem wordR_len (l w t : List UInt8) (h : wordR l = (w, some t)) : ∃ d, l = d ++ t ∧ (writtenL w).length ≤ d.length := by
  rcases l with _ | ⟨c, r⟩
  · simp [wordR] at h
  · simp only [wordR] at h
    split at h
    · rename_i hc
      cases hq : qRead (r.length + 1) r [] with
      | none => rw [hq] at h; simp at h
      | some p =>
        obtain ⟨w', t'⟩ := p
        rw [hq] at h
        simp at h
        obtain ⟨rfl, rfl⟩ := h
        obtain ⟨d, e, h1, h2, h3⟩ := qRead_len _ _ _ _ _ hq
        rw [List.nil_append] at h2
        subst h2
        refine ⟨c :: d, by rw [h1]; rfl, ?_⟩
        have := flat_esc_ge w'
        unfold writtenL
        split <;> simp only [List.length_cons, List.length_append, List.length_nil] <;> omega
    · rename_i hc
      injection h with h1 h2
      split at h2
      · cases h2
      · rename_i hne
        injection h2 with h2
        refine ⟨w, by rw [← h1, ← h2]; exact (List.takeWhile_append_dropWhile ..).symm, ?_⟩
        have : bareB w = true := by
          rw [← h1]
          simp only [bareB, Bool.and_eq_true, decide_eq_true_eq]
          refine ⟨?_, hne⟩
          rw [List.all_eq_true]
          intro x hx
          have := List.all_takeWhile (p := simpleB) (l := c :: r)
          exact (List.all_eq_true.1 this) x hx
        unfold writtenL
        rw [if_pos this]; exact Nat.le_refl _
theorem rSplit_len : ∀ (n : Nat) (l : List UInt8) (out r : List (List UInt8)), rSplit n l out = some r → ∃ ws, ws ≠ [] ∧ r = out ++ ws ∧ (J ws).length ≤ l.length := by
  intro n
  induction n with
  | zero => intro l out r h; simp [rSplit] at h
  | succ n ih =>
    intro l out r h
    rw [rSplit] at h
    generalize hw : wordR l = wr at h
    obtain ⟨w, to⟩ := wr
    rcases to with _ | t
    · simp at h
    · obtain ⟨d, hd, hl⟩ := wordR_len l w t hw
      rcases t with _ | ⟨c, t⟩
      · simp at h
        refine ⟨[w], by simp, h.symm, ?_⟩
        rw [hd]; simp only [J, List.append_nil]; exact hl
      · simp only at h
        split at h
        · obtain ⟨ws, h1, h2, h3⟩ := ih _ _ _ h
          rcases ws with _ | ⟨v, ws⟩
          · exact absurd O h1
          · refine ⟨w :: v :: ws, by simp, by rw [h2]; simp, ?_⟩
            rw [hd]; simp only [J, List.length_append, List.length_cons]; omega
        · cases h
theorem split_join (s : List UInt8) (h : (splitP s).2 = 0) : (splitP s).1.length ≤ 64 ∧ (J (splitP s).1).length ≤ s.length ∧ s.length ≤ 4096 := by
  rw [split_eq] at h ⊢
  unfold rSplitP at h ⊢
  by_cases h1 : 4096 < s.length
  · rw [if_pos h1] at h; simp at h
  · rw [if_neg h1] at h ⊢
    by_cases h2 : s = []
    · rw [if_pos h2]; simp [J]; omega
    · rw [if_neg h2] at h ⊢
      cases hr : rSplit (s.length + 1) s [] with
      | none => rw [hr] at h; simp at h
      | some r =>
        rw [hr] at h
        simp only at h ⊢
        by_cases h3 : 64 < r.length
        · rw [if_pos h3] at h; simp at h
        · rw [if_neg h3]
          obtain ⟨ws, _, e, hl⟩ := rSplit_len _ _ _ _ hr
          rw [List.nil_append] at e
          subst e
          exact ⟨by simp only; omega, hl, by omega⟩
theorem split_err (s : List UInt8) (h : (splitP s).2 ≠ 0) : (splitP s).1 = [] := by
  unfold splitP at h ⊢
  (repeat' split) <;> first | rfl | skip
  all_goals simp_all
end Go.Proofs.YtbbcokckealagaaGreat
