/-
  Walks of the reference's rules: the lines of a text.
-/
import Derived.Test.YtbbcokckealagaaGreatQAA
import Derived.Test.YtbbcokckealagaaGreatQBD
import Derived.Test.YtbbcokckealagaaGreatQAE
import Derived.Test.YtbbcokckealagaaGreatQAL
import Derived.Test.YtbbcokckealagaaGreatQAM
import Derived.Test.YtbbcokckealagaaGreatQAN
namespace Go.Proofs.YtbbcokckealagaaGreat
set_option linter.unusedVariables false
set_option linter.unusedSimpArgs false
def rLinesP : List UInt8 → List UInt8 → List (List UInt8)
  | cur, [] => if cur = [] then [] else [cur]
  | cur, c :: t => if c = 10 then cur :: rLinesP [] t else rLinesP (cur ++ [c]) t
set_option maxHeartbeats 4000000 in
theorem rLines_c (s : List UInt8) (hs : s.length ≤ 1099511627776) : ACalls Tryz.prog 100 [.v (.string (bs s))] [] (.sl 1 (wdsP (rLinesP [] s)) false) [] := by
  generalize hR : rLinesP [] s = R
  refine (ACalls.of (fn := Tryz.f100) Tryz.func100 O O Tryz.ntmps100 (fun I M w own => ?_))
  (repeat' (first|refine AW.seq_k (fun K hK=>?_)|(refine hK _ ?_;clear hK)|refine AW.block ?_|refine AW.rI [0, 1, 2, 3] O ?_|refine UA ?_|fail))
  refine AW.loopF (X := List Wd × Nat × Nat) (fun y => ⟨[(0, .v (.string (bs s))), (3, .row 0 (wdsP y.1).length), (4, .v (.int .i64 (y.2.1 : Int))), (5, .v (.int .i64 (y.2.2 : Int)))], [.row 1 (wdsP y.1)]⟩)
    (fun y => y.2.1 ≤ y.2.2 ∧ y.2.2 ≤ s.length ∧ y.1.length ≤ y.2.2 ∧ y.1 ++ rLinesP ((s.take y.2.2).drop y.2.1) (s.drop y.2.2) = R) (fun y => s.length - y.2.2) ([], 0, 0) ?_ ⟨Nat.le_refl _, Nat.zero_le _, Nat.zero_le _, by simpa using hR⟩ ?_
  · refine Conv.own 3 1 [] (Or.inr ⟨rfl, rfl⟩) ?_
    refine Conv.mk [0] O O O ?_ O ?_
    · (repeat' (first|exact V0|refine V3 ?_|refine V2 ?_ ?_|fail))
    · (repeat' (first|exact V0|refine V3 ?_|refine V2 ?_ ?_|fail))
      all_goals rfl
  rintro ⟨out, fr, i⟩ ⟨h1, h2, h3, h4⟩
  simp only at h1 h2 h3 h4 ⊢
  have hol : (wdsP out).length = out.length := by simp
  rcases Nat.lt_or_ge i s.length with h | h
  · obtain ⟨c, hch⟩ : ∃ c, s[i]? = some c := ⟨s[i], by simp [h]⟩
    have hdr : s.drop i = c :: s.drop (i + 1) := by
      rw [List.drop_eq_getElem_cons h]
      congr 1
      simpa [h] using hch
    have hlt : (i : Int) < (s.length : Int) := by omega
    rw [hdr, rLinesP] at h4
    by_cases h10 : c = 10
    · rw [if_pos h10] at h4
      have h10' : (c.toNat : Int) = 10 := by subst h10; rfl
      (repeat' (first|refine AW.seq_k (fun K hK=>?_)|(refine hK _ ?_;clear hK)|refine AW.uC (fun hc=>?_) (fun hc=>?_)|refine AW.block ?_|refine AW.skip ?_|exact trivial|refine AW.rI [4, 6, 7, 5] O ?_|refine Ud ?_|fail))
      ((repeat (with_reducible refine inB_n ?_)); refine thenA_n ?_)
      refine ⟨(out ++ [(s.take i).drop fr], i + 1, i + 1), ⟨Nat.le_refl _, by simp only; omega, by simp only [List.length_append, List.length_singleton]; omega, ?_⟩, by simp only; omega, ?_⟩
      · rw [← h4]
        simp only [List.append_assoc, List.singleton_append]
        rw [show (s.take (i + 1)).drop (i + 1) = [] from List.drop_eq_nil_of_le (by rw [List.length_take]; omega)]
      · refine Conv.mk [0] O O O ?_ O ?_
        · (repeat' (first|exact V0|refine V3 ?_|refine V2 ?_ ?_|fail))
          all_goals first | rfl | (refine Cv.eq ?_; simp [AV.ren, renL]; done)
        · (repeat' (first|exact V0|refine V3 ?_|refine V2 ?_ ?_|fail))
          all_goals first | rfl | (simp; done)
    · rw [if_neg h10] at h4
      have h10' : ¬ (c.toNat : Int) = 10 := fun e => h10 (UInt8.toNat_inj.1 (by have : c.toNat = 10 := by omega
                                                                                rw [this]; rfl))
      (repeat' (first|refine AW.seq_k (fun K hK=>?_)|(refine hK _ ?_;clear hK)|refine AW.uC (fun hc=>?_) (fun hc=>?_)|refine AW.block ?_|refine AW.skip ?_|exact trivial|refine AW.rI [4, 6, 5] O ?_|refine Ud ?_|fail))
      ((repeat (with_reducible refine inB_n ?_)); refine thenA_n ?_)
      refine ⟨(out, fr, i + 1), ⟨by simp only; omega, by simp only; omega, by simp only; omega, ?_⟩, by simp only; omega, ?_⟩
      · rw [← h4]
        simp only
        rw [List.take_add_one, hch, List.drop_append_of_le_length (by rw [List.length_take]; omega)]
        rfl
      · refine Conv.mk [0] O O O ?_ O ?_
        · (repeat' (first|exact V0|refine V3 ?_|refine V2 ?_ ?_|fail))
          all_goals first | rfl | (refine Cv.eq ?_; simp [AV.ren, renL]; done)
        · (repeat' (first|exact V0|refine V3 ?_|refine V2 ?_ ?_|fail))
          all_goals rfl
  · have hge : ¬ (i : Int) < (s.length : Int) := by omega
    obtain rfl : i = s.length := by omega
    rw [List.take_length, List.drop_length, rLinesP] at h4
    by_cases hf : fr < s.length
    · have hf' : (fr : Int) < (s.length : Int) := by omega
      rw [if_neg (by rw [List.drop_eq_nil_iff]; omega)] at h4
      subst h4
      (repeat' (first|refine AW.seq_k (fun K hK=>?_)|(refine hK _ ?_;clear hK)|refine AW.uC (fun hc=>?_) (fun hc=>?_)|refine AW.exit ?_|refine AW.ret ?_|(clear hK;refine hK _ ?_;clear hK)|exact trivial|refine AW.rI [4, 8, 9, 10] O ?_|refine Ud ?_|fail))
      ((first|refine RetOk.tupS [] O O O O O ?_ ?_|refine RetOk.oneS [] O O O O ?_ ?_)<;>(repeat' (first|exact V0|refine V1 ?_|refine V2 ?_ ?_|fail)))
      all_goals first | rfl | (simp; done)
    · have hf' : ¬ (fr : Int) < (s.length : Int) := by omega
      rw [if_pos (by rw [List.drop_eq_nil_iff]; omega), List.append_nil] at h4
      subst h4
      (repeat' (first|refine AW.seq_k (fun K hK=>?_)|(refine hK _ ?_;clear hK)|refine AW.uC (fun hc=>?_) (fun hc=>?_)|refine AW.exit ?_|refine AW.ret ?_|refine AW.skip ?_|(clear hK;refine hK _ ?_;clear hK)|exact trivial|refine AW.rI [4, 8, 10] O ?_|refine Ud ?_|fail))
      ((first|refine RetOk.tupS [] O O O O O ?_ ?_|refine RetOk.oneS [] O O O O ?_ ?_)<;>(repeat' (first|exact V0|refine V1 ?_|refine V2 ?_ ?_|fail)))
def rLineF (x : Nat × List Ru) (line : List UInt8) : (Nat × List Ru) ⊕ (Nat × Int) :=
  if line = [] ∨ line.head? = some 35 then .inl (x.1 + 1, x.2)
  else if (splitP line).2 ≠ 0 then .inr (x.1, (splitP line).2)
  else match rRule (splitP line).1 with
    | .inr e => .inr (x.1, e)
    | .inl r => if 64 ≤ x.2.length then .inr (x.1, 3) else .inl (x.1 + 1, x.2 ++ [r])
def rParseF (s : List UInt8) : (Nat × List Ru) ⊕ (Nat × Int) := if 65536 < s.length then .inr (0, 3) else foldS rLineF (0, []) (rLinesP [] s)
theorem rLinesP_le : ∀ (s cur : List UInt8), (∀ z ∈ rLinesP cur s, z.length ≤ cur.length + s.length) ∧ (rLinesP cur s).length ≤ s.length + 1
  | [], cur => by
    rw [rLinesP]
    split
    · simp
    · simp
  | c :: t, cur => by
    rw [rLinesP]
    split
    · obtain ⟨h1, h2⟩ := rLinesP_le t []
      refine ⟨fun z hz => ?_, by simp only [List.length_cons]; omega⟩
      rcases List.mem_cons.1 hz with rfl | hz
      · omega
      · have := h1 z hz
        simp only [List.length_nil, List.length_cons] at *
        omega
    · obtain ⟨h1, h2⟩ := rLinesP_le t (cur ++ [c])
      refine ⟨fun z hz => ?_, by simp only [List.length_cons]; omega⟩
      have := h1 z hz
      simp only [List.length_append, List.length_nil, List.length_cons] at *
      omega
theorem split_some {s : List UInt8} (h : s ≠ []) (h0 : (splitP s).2 = 0) : ∃ x r, (splitP s).1 = x :: r := by
  by_cases h1 : 4096 < s.length
  · rw [splitP, if_pos h1] at h0; simp at h0
  rw [splitP, if_neg h1, if_neg h] at h0 ⊢
  cases hr : Rd.run s ⟨0, [], []⟩ with
  | none => rw [hr] at h0; simp at h0
  | some r =>
    rw [hr] at h0
    simp only at h0 ⊢
    by_cases h2 : r.st ≠ 1 ∧ r.st ≠ 4
    · rw [if_pos h2] at h0; simp at h0
    rw [if_neg h2] at h0 ⊢
    by_cases h3 : 64 < r.ws.length + 1
    · rw [if_pos h3] at h0; simp at h0
    rw [if_neg h3]
    cases hw : r.ws with
    | nil => exact ⟨_, [], by simp; rfl⟩
    | cons a b => exact ⟨a, b ++ [r.w], by simp⟩
theorem rRule_err {l : List Wd} {e : Int} (h : rRule l = .inr e) : e ≠ 0 := by
  rw [rRule] at h
  split at h
  · injection h with h; omega
  · rw [rTail] at h
    split at h
    · injection h with h; omega
    · split at h
      · injection h with h; omega
      split at h
      · cases h
      · injection h with h; omega
set_option maxHeartbeats 4000000 in
theorem rParse_c (s : List UInt8) (hs : s.length ≤ 1099511627776) : ACalls Tryz.prog 56 [.v (.string (bs s))] [] (parseE (rParseF s)) [] := by
  generalize hR : rParseF s = R
  rw [rParseF] at hR
  by_cases hb : 65536 < s.length
  · rw [if_pos hb] at hR
    subst hR
    have hb' : (s.length : Int) > 65536 := by omega
    refine (ACalls.of (fn := Tryz.f56) Tryz.func56 O O Tryz.ntmps56 (fun I M w own => ?_))
    (repeat' (first|refine AW.seq_k (fun K hK=>?_)|(refine hK _ ?_;clear hK)|refine AW.uC (fun hc=>?_) (fun hc=>?_)|refine AW.ret ?_|exact trivial|refine AW.rI [0, 1, 2] O ?_|refine Ud ?_|fail))
    ((first|refine RetOk.tupS [] O O O O O ?_ ?_|refine RetOk.oneS [] O O O O ?_ ?_)<;>(repeat' (first|exact V0|refine V1 ?_|refine V2 ?_ ?_|fail)))
  rw [if_neg hb] at hR
  have hb' : ¬ (s.length : Int) > 65536 := by omega
  have hLi := rLines_c s hs
  obtain ⟨hle, hll⟩ := rLinesP_le s []
  generalize rLinesP [] s = ls at hR hLi hle hll
  have hlsl : (wdsP ls).length = ls.length := by simp
  refine (ACalls.of (fn := Tryz.f56) Tryz.func56 O O Tryz.ntmps56 (fun I M w own => ?_))
  (repeat' (first|refine AW.seq_k (fun K hK=>?_)|(refine hK _ ?_;clear hK)|refine AW.uC (fun hc=>?_) (fun hc=>?_)|refine AW.block ?_|refine AW.skip ?_|exact trivial|refine AW.rI [0, 1, 3, 4, 5] O ?_|refine Run.c0 hLi O O O O O O O O ?_|refine Ud ?_|fail))
  refine AW.loopF (X := Nat × List Ru) (fun y => ⟨[(0, .v (.string (bs s))), (5, .row 0 (ruP y.2).length), (6, .sl 1 (wdsP ls) false), (7, .v (.int .i64 (y.1 : Int)))], [.row 5 (ruP y.2)]⟩)
    (fun y => y.1 ≤ ls.length ∧ y.2.length ≤ 64 ∧ foldS rLineF y (ls.drop y.1) = R) (fun y => ls.length - y.1) (0, []) ?_ ⟨Nat.zero_le _, Nat.zero_le _, hR⟩ ?_
  · refine Conv.own 5 5 [] (Or.inr ⟨rfl, rfl⟩) ?_
    refine Conv.mk [0] O O O ?_ O ?_
    · (repeat' (first|exact V0|refine V3 ?_|refine V2 ?_ ?_|fail))
    · (repeat' (first|exact V0|refine V3 ?_|refine V2 ?_ ?_|fail))
      all_goals rfl
  rintro ⟨i, out⟩ ⟨h1, h2, h3⟩
  simp only at h1 h2 h3 ⊢
  have hol : (ruP out).length = out.length := by simp
  rcases Nat.lt_or_ge i ls.length with h | h
  · obtain ⟨ln, hln⟩ : ∃ ln, ls[i]? = some ln := ⟨ls[i], by simp [h]⟩
    have hdr : ls.drop i = ln :: ls.drop (i + 1) := by
      rw [List.drop_eq_getElem_cons h]
      congr 1
      simpa [h] using hln
    have hlt : (i : Int) < ((wdsP ls).length : Int) := by omega
    have hA : At (wdsP ls) (i : Int) [PV.v (.string (bs ln))] := At.mk i O (by simp [hln])
    have hlnl := hle ln (List.mem_of_getElem? hln)
    simp only [List.length_nil] at hlnl
    rw [hdr, foldS] at h3
    have hSp := rSplit_c ln
    rw [← split_eq] at hSp
    have hgo : ∀ o : List Ru, rLineF (i, out) ln = .inl (i + 1, o) → foldS rLineF (i + 1, o) (ls.drop (i + 1)) = R := fun o e => by rw [e] at h3; exact h3
    have hend : ∀ y, rLineF (i, out) ln = .inr y → R = .inr y := fun y e => by rw [e] at h3; exact h3.symm
    clear h3
    cases ln with
    | nil =>
      have h3 := hgo out (by simp [rLineF])
      (repeat' (first|refine AW.seq_k (fun K hK=>?_)|(refine hK _ ?_;clear hK)|refine AW.uC (fun hc=>?_) (fun hc=>?_)|refine AW.block ?_|refine AW.exit ?_|refine AW.skip ?_|(clear hK;refine hK _ ?_;clear hK)|exact trivial|refine AW.rI [6, 8, 7] O ?_|refine Ud ?_|fail))
      ((repeat (with_reducible refine inB_n ?_)); refine thenA_n ?_)
      refine ⟨(i + 1, out), ⟨by simp only; omega, by first | exact h2 | (simp only [List.length_append, List.length_singleton]; omega), h3⟩, by simp only; omega, ?_⟩
      refine Conv.mk [0] O O O ?_ O ?_
      · (repeat' (first|exact V0|refine V3 ?_|refine V2 ?_ ?_|fail))
        all_goals first | rfl | (refine Cv.eq ?_; simp [AV.ren, renL]; done)
      · (repeat' (first|exact V0|refine V3 ?_|refine V2 ?_ ?_|fail))
        all_goals first | rfl | (simp; done)
    | cons c t =>
      by_cases h35 : c = 35
      · have h3 := hgo out (by simp [rLineF, h35])
        have h35' : (c.toNat : Int) = 35 := by subst h35; rfl
        (repeat' (first|refine AW.seq_k (fun K hK=>?_)|(refine hK _ ?_;clear hK)|refine AW.uC (fun hc=>?_) (fun hc=>?_)|refine AW.block ?_|refine AW.exit ?_|refine AW.skip ?_|(clear hK;refine hK _ ?_;clear hK)|exact trivial|refine AW.rI [6, 8, 7] O ?_|refine Ud ?_|fail))
        ((repeat (with_reducible refine inB_n ?_)); refine thenA_n ?_)
        refine ⟨(i + 1, out), ⟨by simp only; omega, by first | exact h2 | (simp only [List.length_append, List.length_singleton]; omega), h3⟩, by simp only; omega, ?_⟩
        refine Conv.mk [0] O O O ?_ O ?_
        · (repeat' (first|exact V0|refine V3 ?_|refine V2 ?_ ?_|fail))
          all_goals first | rfl | (refine Cv.eq ?_; simp [AV.ren, renL]; done)
        · (repeat' (first|exact V0|refine V3 ?_|refine V2 ?_ ?_|fail))
          all_goals first | rfl | (simp; done)
      · have h35' : ¬ (c.toNat : Int) = 35 := fun e => h35 (UInt8.toNat_inj.1 (by have : c.toNat = 35 := by omega
                                                                                  rw [this]; rfl))
        have hsome := split_some (s := c :: t) (by simp)
        have hwd := split_wd (c :: t)
        have hct := split_ct (c :: t)
        have hlf : rLineF (i, out) (c :: t) = (if (splitP (c :: t)).2 ≠ 0 then .inr (i, (splitP (c :: t)).2) else match rRule (splitP (c :: t)).1 with | .inr e => .inr (i, e) | .inl r => if 64 ≤ out.length then .inr (i, 3) else .inl (i + 1, out ++ [r])) := by
          rw [rLineF, if_neg (by simp [h35])]
          all_goals rfl
        rw [hlf] at hgo hend
        clear hlf
        generalize splitP (c :: t) = sp at hSp hsome hwd hct hgo hend
        obtain ⟨ws, er⟩ := sp
        simp only at hSp hsome hwd hct hgo hend
        by_cases he : er = 0
        · obtain ⟨x, r, rfl⟩ := hsome he
          rw [if_neg (by simp [he])] at hgo hend
          have hru := rrule_c x r false (by omega) (fun z hz => by have := hwd z hz; omega)
          have herr : ∀ e, rRule (x :: r) = .inr e → e ≠ 0 := fun e h => rRule_err h
          generalize rRule (x :: r) = q at hru hgo hend herr
          cases q with
          | inr e =>
            have hRe := hend (i, e) O
            subst hRe
            have hne : e ≠ 0 := herr e O
            have hne' : ¬ e = 0 := hne
            simp only [rRuleE] at hru
            (repeat' (first|refine AW.seq_k (fun K hK=>?_)|(refine hK _ ?_;clear hK)|refine AW.uC (fun hc=>?_) (fun hc=>?_)|refine AW.block ?_|refine AW.ret ?_|refine AW.skip ?_|exact trivial|refine AW.rI [6, 8, 9, 10, 11, 12, 13, 15, 16] O ?_|refine Run.c0 hSp O O O O O O O O ?_|refine Run.c0 hru O O O O O O O O ?_|refine Ud ?_|fail))
            ((first|refine RetOk.tupS [] O O O O O ?_ ?_|refine RetOk.oneS [] O O O O ?_ ?_)<;>(repeat' (first|exact V0|refine V1 ?_|refine V2 ?_ ?_|fail)))
          | inl ru =>
            simp only [rRuleE] at hru
            by_cases h64 : 64 ≤ out.length
            · have hRe := hend (i, 3) (by simp [h64])
              subst hRe
              have h64' : ((ruP out).length : Int) ≥ 64 := by omega
              (repeat' (first|refine AW.seq_k (fun K hK=>?_)|(refine hK _ ?_;clear hK)|refine AW.uC (fun hc=>?_) (fun hc=>?_)|refine AW.block ?_|refine AW.ret ?_|refine AW.skip ?_|exact trivial|refine AW.rI [6, 8, 9, 10, 11, 12, 13, 14, 15, 16] O ?_|refine Run.c0 hSp O O O O O O O O ?_|refine Run.c0 hru O O O O O O O O ?_|refine Ud ?_|fail))
              ((first|refine RetOk.tupS [] O O O O O ?_ ?_|refine RetOk.oneS [] O O O O ?_ ?_)<;>(repeat' (first|exact V0|refine V1 ?_|refine V2 ?_ ?_|fail)))
            · have h3 := hgo (out ++ [ru]) (by simp [h64])
              have h64' : ¬ ((ruP out).length : Int) ≥ 64 := by omega
              (repeat' (first|refine AW.seq_k (fun K hK=>?_)|(refine hK _ ?_;clear hK)|refine AW.uC (fun hc=>?_) (fun hc=>?_)|refine AW.block ?_|refine AW.skip ?_|exact trivial|refine AW.rI [6, 8, 9, 10, 11, 12, 13, 15, 17, 7] O ?_|refine Run.c0 hSp O O O O O O O O ?_|refine Run.c0 hru O O O O O O O O ?_|refine Ud ?_|fail))
              ((repeat (with_reducible refine inB_n ?_)); refine thenA_n ?_)
              refine ⟨(i + 1, out ++ [ru]), ⟨by simp only; omega, by first | exact h2 | (simp only [List.length_append, List.length_singleton]; omega), h3⟩, by simp only; omega, ?_⟩
              refine Conv.mk [0] O O O ?_ O ?_
              · (repeat' (first|exact V0|refine V3 ?_|refine V2 ?_ ?_|fail))
                all_goals first | rfl | (refine Cv.eq ?_; simp [AV.ren, renL]; done)
              · (repeat' (first|exact V0|refine V3 ?_|refine V2 ?_ ?_|fail))
                all_goals first | rfl | (simp; done)
        · rw [if_pos he] at hend
          have hRe := hend (i, er) O
          subst hRe
          have he' : er ≠ 0 := he
          (repeat' (first|refine AW.seq_k (fun K hK=>?_)|(refine hK _ ?_;clear hK)|refine AW.uC (fun hc=>?_) (fun hc=>?_)|refine AW.block ?_|refine AW.ret ?_|refine AW.skip ?_|exact trivial|refine AW.rI [6, 8, 9, 10, 11, 13, 15, 16] O ?_|refine Run.c0 hSp O O O O O O O O ?_|refine Ud ?_|fail))
          ((first|refine RetOk.tupS [] O O O O O ?_ ?_|refine RetOk.oneS [] O O O O ?_ ?_)<;>(repeat' (first|exact V0|refine V1 ?_|refine V2 ?_ ?_|fail)))
  · rw [List.drop_eq_nil_of_le h, foldS] at h3
    subst h3
    have hge : ¬ (i : Int) < ((wdsP ls).length : Int) := by omega
    obtain rfl : i = ls.length := by omega
    (repeat' (first|refine AW.seq_k (fun K hK=>?_)|(refine hK _ ?_;clear hK)|refine AW.uC (fun hc=>?_) (fun hc=>?_)|refine AW.exit ?_|refine AW.ret ?_|(clear hK;refine hK _ ?_;clear hK)|exact trivial|refine AW.rI [6, 18] O ?_|refine Ud ?_|fail))
    ((first|refine RetOk.tupS [] O O O O O ?_ ?_|refine RetOk.oneS [] O O O O ?_ ?_)<;>(repeat' (first|exact V0|refine V1 ?_|refine V2 ?_ ?_|fail)))
    all_goals (refine Cv.eq ?_; simp [AV.ren, renL]; done)
def Rel (l : List Wd) (o : RS) (q : Rq) : Prop := (o = none ∧ q.bad = true) ∨ (q.bad = false ∧ q.pos ≤ l.length ∧ o = some (l.drop q.pos, q.ts))
theorem isP_q {x : Wd} {l : List Wd} {s : Rq} (h : s.bad = false) : isP x (l.drop s.pos) = qIs x l s := by simp [isP, qIs, h, List.head?_drop]
theorem qRest_bad {elem : Rq → Rq} {x : Wd} {k : Int} {l : List Wd} {f : Nat} {s : Rq} (h : s.bad = true) : qRest elem x k l f s = s := by
  cases f with
  | zero => rfl
  | succ f => rw [qRest, if_neg (by simp [qIs, h])]
theorem rest_rel {l : List Wd} {eF : List Wd → List Tm → RS} {eQ : Rq → Rq} {N : Nat} (hE : ∀ s : Rq, s.bad = false → s.pos ≤ l.length → l.length - s.pos ≤ N → Rel l (eF (l.drop s.pos) s.ts) (eQ s)) (hv : ∀ s : Rq, s.pos ≤ l.length → Qv l s (eQ s)) (x : Wd) (k : Int) :
    ∀ (f : Nat) (s : Rq), s.bad = false → s.pos ≤ l.length → l.length - s.pos ≤ N → Rel l (restF eF x k f (l.drop s.pos) s.ts) (qRest eQ x k l f s)
  | 0, s, h1, h2, _ => .inr ⟨h1, h2, rfl⟩
  | f + 1, s, h1, h2, h3 => by
    rw [restF, qRest, isP_q h1]
    cases hx : qIs x l s with
    | false => exact .inr ⟨h1, h2, rfl⟩
    | true =>
      rw [if_pos O, if_pos O, List.tail_drop]
      have hlt := qIs_lt hx
      have hw := hv s.adv hlt
      have hl := hw.le
      rcases hE s.adv h1 hlt (by simp only [Rq.adv]; omega) with ⟨e1, e2⟩ | ⟨e1, e2, e3⟩
      · simp only [Rq.adv] at e1
        rw [e1]
        exact .inl ⟨rfl, by rw [qRest_bad (show ((eQ s.adv).app k).bad = true from e2)]; exact e2⟩
      · simp only [Rq.adv] at e3
        rw [e3]
        exact rest_rel hE hv x k f ((eQ s.adv).app k) e1 e2 (by simp only [Rq.adv] at hl; simp only [Rq.app]; simp only [Rq.adv]; omega)
theorem join_rel {l : List Wd} {eF : List Wd → List Tm → RS} {eQ : Rq → Rq} {N : Nat} (hE : ∀ s : Rq, s.bad = false → s.pos ≤ l.length → l.length - s.pos ≤ N → Rel l (eF (l.drop s.pos) s.ts) (eQ s)) (hv : ∀ s : Rq, s.pos ≤ l.length → Qv l s (eQ s)) (x : Wd) (k : Int)
    (s : Rq) (h1 : s.bad = false) (h2 : s.pos ≤ l.length) (h3 : l.length - s.pos ≤ N) : Rel l (joinF eF x k (l.drop s.pos) s.ts) (qJoin eQ x k l s) := by
  rw [joinF, qJoin]
  have hl := (hv s h2).le
  rcases hE s h1 h2 h3 with ⟨e1, e2⟩ | ⟨e1, e2, e3⟩
  · rw [e1]
    exact .inl ⟨rfl, by rw [qRest_bad e2]; exact e2⟩
  · rw [e3]
    simp only [List.length_drop]
    exact rest_rel hE hv x k _ (eQ s) e1 e2 (by omega)
theorem named_rel {l : List Wd} (kind : Int) (s : Rq) (h1 : s.bad = false) : Rel l (nameT kind s.ts (l.drop s.pos)) (qNamed kind l s) := by
  cases hx : l[s.pos]? with
  | none =>
    rw [List.drop_eq_nil_of_le (List.getElem?_eq_none_iff.1 hx), nameT]
    exact .inl ⟨rfl, by simp [qNamed, hx, Rq.fail]⟩
  | some y =>
    have hlt := (List.getElem?_eq_some_iff.1 hx).1
    have hy := (List.getElem?_eq_some_iff.1 hx).2
    rw [List.drop_eq_getElem_cons hlt, hy, nameT]
    cases hn : nameB y with
    | true => exact .inr ⟨by simp [qNamed, hx, hn, h1], by simp [qNamed, hx, hn]; omega, by simp [qNamed, hx, hn]⟩
    | false => exact .inl ⟨by simp, by simp [qNamed, hx, hn, Rq.fail]⟩
theorem part_rel (l : List Wd) : ∀ (n m : Nat) (s : Rq), s.bad = false → s.pos ≤ l.length → l.length - s.pos ≤ n → l.length - s.pos ≤ m → Rel l (partF n (l.drop s.pos) s.ts) (qPart l m s) := by
  intro n
  induction n with
  | zero =>
    intro m s h1 h2 h3 h4
    refine .inl ⟨rfl, ?_⟩
    have he : l.length ≤ s.pos := by omega
    cases m with
    | zero => rfl
    | succ m => simp [qPart, qIs_end he, Rq.fail]
  | succ n ih =>
    intro m s h1 h2 h3 h4
    rcases Nat.lt_or_ge s.pos l.length with hlt | he
    · obtain ⟨m, rfl⟩ : ∃ m', m = m' + 1 := ⟨m - 1, by omega⟩
      have hq : ∀ w, qIs w l s = decide (l[s.pos] = w) := fun w => by simp [qIs, h1, List.getElem?_eq_getElem hlt]
      have hrec : ∀ s' : Rq, s'.bad = false → s'.pos ≤ l.length → l.length - s'.pos ≤ l.length - (s.pos + 1) → Rel l (partF n (l.drop s'.pos) s'.ts) (qPart l m s') := fun s' a b c => ih m s' a b (by omega) (by omega)
      rw [List.drop_eq_getElem_cons hlt, partF, qPart, hq, hq, hq, hq]
      generalize l[s.pos] = x
      by_cases k1 : x = wActive
      · simp only [k1, decide_true, if_true]
        exact named_rel 1 s.adv h1
      simp only [k1, decide_false, if_false, Bool.false_eq_true]
      by_cases k2 : x = wPresent
      · simp only [k2, decide_true, if_true]
        exact named_rel 2 s.adv h1
      simp only [k2, decide_false, if_false, Bool.false_eq_true]
      by_cases k3 : x = wNot
      · simp only [k3, decide_true, if_true]
        rcases hrec s.adv h1 hlt (Nat.le_refl _) with ⟨e1, e2⟩ | ⟨e1, e2, e3⟩
        · simp only [Rq.adv] at e1
          rw [e1]
          exact .inl ⟨rfl, e2⟩
        · simp only [Rq.adv] at e3
          rw [e3]
          exact .inr ⟨e1, e2, rfl⟩
      simp only [k3, decide_false, if_false, Bool.false_eq_true]
      by_cases k4 : x = wOpen
      · simp only [k4, decide_true, if_true]
        have hj : Rel l (condF (partF n) (l.drop s.adv.pos) s.adv.ts) (qEither (qPart l m) l s.adv) :=
          join_rel (N := l.length - (s.pos + 1)) (fun s h1 h2 h3 => join_rel hrec (qPart_v l m) wAnd 4 s h1 h2 h3) (qJoin_v (qPart_v l m) wAnd 4) wOr 5 s.adv h1 hlt (Nat.le_refl _)
        generalize qEither (qPart l m) l s.adv = q at hj ⊢
        rcases hj with ⟨e1, e2⟩ | ⟨e1, e2, e3⟩
        · simp only [Rq.adv] at e1
          rw [e1]
          refine .inl ⟨rfl, ?_⟩
          split
          · exact e2
          · rfl
        · simp only [Rq.adv] at e3
          rw [e3]
          simp only
          rw [isP_q e1]
          cases hx : qIs wClose l q with
          | true =>
            simp only [if_true]
            refine .inr ⟨e1, qIs_lt hx, ?_⟩
            simp only [List.tail_drop]
            rfl
          | false => exact .inl ⟨rfl, rfl⟩
      · simp only [k4, decide_false, if_false, Bool.false_eq_true]
        exact .inl ⟨rfl, rfl⟩
    · rw [List.drop_eq_nil_of_le he, partF]
      refine .inl ⟨rfl, ?_⟩
      cases m with
      | zero => rfl
      | succ m => simp [qPart, qIs_end he, Rq.fail]
theorem foldN_one {c : List Tm} {k : Int} {y : Wd} (hk : k = 1 ∨ k = 2) (hy : nameB y = true) (d : Nat) : foldN d [(k, y)] = some (d + 1) := by
  have ha : arityF k = 0 := by rcases hk with rfl | rfl <;> rfl
  simp [foldN, badT, ha, hy]
theorem foldN_two {k : Int} (hk : k = 4 ∨ k = 5) (d : Nat) : foldN (d + 2) [(k, [])] = some (d + 1) := by
  have ha : arityF k = 2 := by rcases hk with rfl | rfl <;> rfl
  have hb : ¬ badT (d + 2) (k, []) = true := by simp only [badT, ha]; simp; omega
  rw [foldN, if_neg hb, ha]
  simp only [foldN]
  congr 1
theorem foldN_not (d : Nat) : foldN (d + 1) [((3 : Int), [])] = some (d + 1) := by
  have ha : arityF 3 = 1 := rfl
  have hb : ¬ badT (d + 1) ((3 : Int), []) = true := by simp only [badT, ha]; simp; omega
  rw [foldN, if_neg hb, ha]
  simp only [foldN]
  congr 1
def Adds (o : RS) (ts : List Tm) : Prop := ∀ p, o = some p → ∃ c, p.2 = ts ++ c ∧ ∀ d, foldN d c = some (d + 1)
theorem rest_adds {eF : List Wd → List Tm → RS} (hE : ∀ ws ts, Adds (eF ws ts) ts) (x : Wd) {k : Int} (hk : k = 4 ∨ k = 5) : ∀ (f : Nat) (ws : List Wd) (ts : List Tm) (p : List Wd × List Tm), restF eF x k f ws ts = some p → ∃ c, p.2 = ts ++ c ∧ ∀ d, foldN (d + 1) c = some (d + 1)
  | 0, ws, ts, p, h => by
    obtain rfl := Option.some.inj h
    exact ⟨[], by simp, fun d => rfl⟩
  | f + 1, ws, ts, p, h => by
    rw [restF] at h
    split at h
    · cases he : eF ws.tail ts with
      | none => rw [he] at h; cases h
      | some q =>
        rw [he] at h
        obtain ⟨c, h1, h2⟩ := hE ws.tail ts q he
        obtain ⟨c', h3, h4⟩ := rest_adds hE x hk f q.1 (q.2 ++ [(k, [])]) p h
        refine ⟨c ++ [(k, [])] ++ c', by rw [h3, h1]; simp, fun d => ?_⟩
        rw [foldN_app, foldN_app, h2]
        simp only [Option.bind_some]
        rw [foldN_two hk]
        simp only [Option.bind_some]
        exact h4 d
    · obtain rfl := Option.some.inj h
      exact ⟨[], by simp, fun d => rfl⟩
theorem join_adds {eF : List Wd → List Tm → RS} (hE : ∀ ws ts, Adds (eF ws ts) ts) (x : Wd) {k : Int} (hk : k = 4 ∨ k = 5) (ws : List Wd) (ts : List Tm) : Adds (joinF eF x k ws ts) ts := by
  intro p h
  rw [joinF] at h
  cases he : eF ws ts with
  | none => rw [he] at h; cases h
  | some q =>
    rw [he] at h
    obtain ⟨c, h1, h2⟩ := hE ws ts q he
    obtain ⟨c', h3, h4⟩ := rest_adds hE x hk _ q.1 q.2 p h
    refine ⟨c ++ c', by rw [h3, h1, List.append_assoc], fun d => ?_⟩
    rw [foldN_app, h2]
    exact h4 d
theorem nameT_adds {k : Int} (hk : k = 1 ∨ k = 2) (ts : List Tm) (ws : List Wd) : Adds (nameT k ts ws) ts := by
  intro p h
  cases ws with
  | nil => cases h
  | cons y t =>
    rw [nameT] at h
    split at h
    · rename_i hy
      obtain rfl := Option.some.inj h
      exact ⟨[(k, y)], rfl, fun d => foldN_one (c := []) hk hy d⟩
    · cases h
theorem part_adds : ∀ (n : Nat) (ws : List Wd) (ts : List Tm), Adds (partF n ws ts) ts
  | 0, _, _ => fun p h => by cases h
  | _ + 1, [], _ => fun p h => by cases h
  | n + 1, x :: r, ts => by
    rw [partF]
    split
    · exact nameT_adds (.inl O) ts r
    split
    · exact nameT_adds (.inr O) ts r
    split
    · intro p h
      cases he : partF n r ts with
      | none => rw [he] at h; cases h
      | some q =>
        rw [he] at h
        obtain rfl := Option.some.inj h
        obtain ⟨c, h1, h2⟩ := part_adds n r ts q he
        refine ⟨c ++ [(3, [])], by simp only; rw [h1, List.append_assoc], fun d => ?_⟩
        rw [foldN_app, h2]
        exact foldN_not d
    split
    · intro p h
      cases he : condF (partF n) r ts with
      | none => rw [he] at h; cases h
      | some q =>
        rw [he] at h
        simp only at h
        split at h
        · obtain rfl := Option.some.inj h
          exact join_adds (join_adds (part_adds n) wAnd (.inl O)) wOr (.inr O) r ts q he
        · cases h
    · intro p h; cases h
theorem tail_eq (t : List Wd) : rCond t = tailF t := by
  rw [rCond, tailF]
  cases t with
  | nil => rfl
  | cons x r =>
    rw [if_neg (by simp), ← isP_q (l := x :: r) (s := ⟨0, false, []⟩) O]
    simp only [List.drop_zero]
    cases hx : isP wWhen (x :: r) with
    | false => rw [if_neg (by decide), if_neg (by decide), if_neg (by simp)]
    | true =>
      rw [if_pos O, if_pos O, List.tail_cons]
      have hj : Rel (x :: r) (condF (partF r.length) r []) (qEither (qPart (x :: r) (x :: r).length) (x :: r) ⟨1, false, []⟩) :=
        join_rel (l := x :: r) (N := (x :: r).length - 1) (fun s h1 h2 h3 => join_rel (N := (x :: r).length - 1) (fun s h1 h2 h3 => part_rel (x :: r) r.length (x :: r).length s h1 h2 (by simp only [List.length_cons] at *; omega) (by omega)) (qPart_v _ _) wAnd 4 s h1 h2 h3) (qJoin_v (qPart_v _ _) wAnd 4) wOr 5 ⟨1, false, []⟩ O (by simp) (Nat.le_refl _)
      generalize qEither (qPart (x :: r) (x :: r).length) (x :: r) ⟨1, false, []⟩ = q at hj ⊢
      rcases hj with ⟨e1, e2⟩ | ⟨e1, e2, e3⟩
      · rw [e1, if_pos (.inl e2)]
      · rw [e3]
        simp only
        by_cases hl : q.pos < (x :: r).length
        · rw [if_pos (.inr hl), if_neg (by rw [List.drop_eq_nil_iff]; omega)]
        · rw [if_neg (by simp only [e1]; simp only [Bool.false_eq_true, false_or]; exact hl), if_pos (by rw [List.drop_eq_nil_iff]; omega)]
theorem tail_prop {t : List Wd} {c : List Tm} (h : tailF t = some c) : c = [] ∨ foldN 0 c = some 1 := by
  rw [tailF] at h
  split at h
  · cases he : condF (partF t.tail.length) t.tail [] with
    | none => rw [he] at h; cases h
    | some p =>
      rw [he] at h
      simp only at h
      split at h
      · obtain rfl := Option.some.inj h
        obtain ⟨c, h1, h2⟩ := join_adds (join_adds (part_adds t.tail.length) wAnd (.inl O)) wOr (.inr O) t.tail [] p he
        rw [List.nil_append] at h1
        rw [h1]
        exact .inr (h2 0)
      · cases h
  · split at h
    · obtain rfl := Option.some.inj h
      exact .inl O
    · cases h
def headOK (h : Hd) : Bool := nameB h.role && (if h.kind = 1 then nameB h.cls && decide (h.pct = 0)
     else if h.kind = 2 then (decide (h.cls = []) && decide (0 ≤ h.pct)) && decide (h.pct ≤ 100)
     else if h.kind = 3 then decide (h.cls = []) && decide (h.pct = 0) else false)
theorem valid_head (h : Hd) (c : List Tm) : validF ⟨h, c⟩ = (properF c && headOK h) := by
  rw [validF, headOK]
  cases properF c <;> cases nameB h.role <;> simp
theorem head_eq (ws : List Wd) : headF ws = (match rHead ws with | none => none | some y => if headOK y.1 = true then some (y.1, ws.drop y.2) else none) := by
  rcases ws with _ | ⟨x, r⟩
  · rfl
  by_cases h1 : x = wRoute
  · rcases r with _ | ⟨a, _ | ⟨b, t⟩⟩
    · simp [headF, rHead, h1]
    · simp [headF, rHead, h1]
    · cases ha : nameB a <;> cases hb : nameB b <;> simp [headF, rHead, h1, headOK, ha, hb]
  by_cases h2 : x = wDuck
  · rcases r with _ | ⟨a, _ | ⟨b, t⟩⟩
    · simp [headF, rHead, h2]
    · simp [headF, rHead, h2]
    · have e1 : headF (x :: a :: b :: t) = (if nameB a = true then if ((numberP b).2 ≠ 0 ∨ (numberP b).1 < 0) ∨ 100 < (numberP b).1 then none else some (⟨2, a, [], (numberP b).1⟩, t) else none) := by simp [headF, h2]
      have e2 : rHead (x :: a :: b :: t) = (if (numberP b).2 = 0 then some (⟨2, a, [], (numberP b).1⟩, 3) else none) := by simp [rHead, h2]
      rw [e1, e2]
      generalize numberP b = q
      by_cases hq : q.2 = 0
      · rw [if_pos hq]
        cases ha : nameB a with
        | false => simp [headOK, ha]
        | true =>
          by_cases hr : (q.2 ≠ 0 ∨ q.1 < 0) ∨ 100 < q.1
          · rw [if_pos O, if_pos hr]
            have : headOK ⟨2, a, [], q.1⟩ = false := by
              simp [headOK, ha]
              omega
            simp [this]
          · rw [if_pos O, if_neg hr]
            have : headOK ⟨2, a, [], q.1⟩ = true := by
              simp [headOK, ha]
              omega
            simp [this]
      · rw [if_neg hq]
        cases nameB a with
        | false => rfl
        | true => rw [if_pos O, if_pos (.inl (.inl hq))]
  by_cases h3 : x = wMute
  · rcases r with _ | ⟨a, t⟩
    · simp [headF, rHead, h3]
    · cases ha : nameB a <;> simp [headF, rHead, h3, headOK, ha]
  · simp [headF, rHead, h1, h2, h3]
theorem rule_eq (ws : List Wd) : rRule ws = (match ruleF ws with | none => .inr 5 | some r => if 16 < r.cond.length then .inr 3 else .inl r) := by
  rw [rRule, ruleF, head_eq]
  cases rHead ws with
  | none => rfl
  | some y =>
    simp only
    rw [rTail, tail_eq]
    cases hok : headOK y.1 with
    | false =>
      rw [if_neg (by simp)]
      cases tailF (ws.drop y.2) with
      | none => rfl
      | some c => simp [valid_head, hok]
    | true =>
      rw [if_pos O]
      simp only
      cases ht : tailF (ws.drop y.2) with
      | none => rfl
      | some c =>
        simp only
        have hp0 : properF [] = true := rfl
        by_cases h16 : 16 < c.length
        · rw [if_pos ⟨h16, by rw [valid_head, hok, hp0]; rfl⟩, if_pos h16]
        · rw [if_neg (by simp [h16]), if_neg h16, if_pos]
          rw [valid_head, hok, properF]
          rcases tail_prop ht with rfl | h
          · rfl
          · simp [foldNE, h16, h]
theorem line_eq (x : PX) (line : List UInt8) : rLineF x (trimSuf line [10]) = lineF x line := by
  rw [rLineF, lineF, rule_eq]
  generalize trimSuf line [10] = t
  split
  · rfl
  split
  · rfl
  cases ruleF (splitP t).1 with
  | none => rfl
  | some r =>
    simp only
    by_cases h16 : 16 < r.cond.length
    · rw [if_pos h16, if_pos (.inl h16)]
    · rw [if_neg h16]
      simp only
      by_cases h64 : 64 ≤ x.2.length
      · rw [if_pos h64, if_pos (.inr h64)]
      · rw [if_neg h64, if_neg (by omega)]
theorem foldS_map {X Y : Type} (F G : X → List UInt8 → X ⊕ Y) (g : List UInt8 → List UInt8) (h : ∀ x l, F x (g l) = G x l) : ∀ (ls : List (List UInt8)) (x : X), foldS F x (ls.map g) = foldS G x ls
  | [], x => rfl
  | l :: r, x => by
    rw [List.map_cons, foldS, foldS, h]
    cases G x l with
    | inl y => exact foldS_map F G g h r y
    | inr y => rfl
theorem rL_end : ∀ (a cur : List UInt8), (10 : UInt8) ∉ a → rLinesP cur a = if cur ++ a = [] then [] else [cur ++ a]
  | [], cur, _ => by rw [rLinesP, List.append_nil]
  | c :: t, cur, h => by
    have hc : ¬ c = 10 := fun e => h (by simp [e])
    rw [rLinesP, if_neg hc, rL_end t _ (fun e => h (List.mem_cons_of_mem _ e)), List.append_assoc]
    rfl
theorem rL_line : ∀ (a cur b : List UInt8), (10 : UInt8) ∉ a → rLinesP cur (a ++ 10 :: b) = (cur ++ a) :: rLinesP [] b
  | [], cur, b, _ => by rw [List.nil_append, rLinesP, if_pos O, List.append_nil]
  | c :: t, cur, b, h => by
    have hc : ¬ c = 10 := fun e => h (by simp [e])
    rw [List.cons_append, rLinesP, if_neg hc, rL_line t _ b (fun e => h (List.mem_cons_of_mem _ e)), List.append_assoc]
    rfl
theorem idx10 : ∀ (s : List UInt8), (Lib.indexByte s 10 = -1 ∧ (10 : UInt8) ∉ s) ∨ ∃ a b, s = a ++ 10 :: b ∧ (10 : UInt8) ∉ a ∧ Lib.indexByte s 10 = a.length
  | [] => .inl ⟨rfl, by simp⟩
  | c :: t => by
    rw [Lib.indexByte]
    by_cases hc : c = 10
    · subst hc
      exact .inr ⟨[], t, rfl, by simp, by simp⟩
    · have hc' : ¬ (c == 10) = true := by simpa using hc
      rw [if_neg hc']
      rcases idx10 t with ⟨h1, h2⟩ | ⟨a, b, h1, h2, h3⟩
      · rw [h1]
        refine .inl ⟨rfl, ?_⟩
        rw [List.mem_cons]
        rintro (h | h)
        · exact hc h.symm
        · exact h2 h
      · rw [h3, if_neg (by simp)]
        refine .inr ⟨c :: a, b, by rw [h1]; rfl, ?_, by simp⟩
        rw [List.mem_cons]
        rintro (h | h)
        · exact hc h.symm
        · exact h2 h
theorem trim_line (a : List UInt8) : trimSuf (a ++ [10]) [10] = a := by
  have : hasSuf (a ++ [10]) [10] = true := by simp [hasSuf]
  rw [trimSuf, if_pos this]
  simp
theorem trim_last {s : List UInt8} (h : (10 : UInt8) ∉ s) : trimSuf s [10] = s := by
  rw [trimSuf]
  split
  · rename_i hs
    simp only [hasSuf, decide_eq_true_eq] at hs
    exact absurd (List.mem_of_mem_drop (by rw [hs.2]; simp)) h
  · rfl
theorem lines_eq : ∀ (n : Nat) (s : List UInt8), s.length ≤ n → rLinesP [] s = (linesG n s).map fun l => trimSuf l [10]
  | 0, s, h => by
    obtain rfl := List.eq_nil_of_length_eq_zero (Nat.le_zero.1 h)
    rfl
  | n + 1, s, h => by
    rw [linesG]
    by_cases h0 : s = []
    · rw [if_pos h0, h0]; rfl
    rw [if_neg h0, List.map_cons]
    rcases idx10 s with ⟨h1, h2⟩ | ⟨a, b, h1, h2, h3⟩
    · have hl : lineAt s = s.length := by rw [lineAt, h1]; rfl
      rw [rL_end s [] h2, List.nil_append, if_neg h0, hl, List.take_length, List.drop_length, trim_last h2, ← lines_eq n [] (Nat.zero_le _)]
      rfl
    · have hl : lineAt s = a.length + 1 := by rw [lineAt, h3, if_pos (by omega)]; omega
      have e1 : s.take (a.length + 1) = a ++ [10] := by
        rw [h1, show a ++ 10 :: b = (a ++ [10]) ++ b by simp]
        exact List.take_left' (by simp)
      have e2 : s.drop (a.length + 1) = b := by
        rw [h1, show a ++ 10 :: b = (a ++ [10]) ++ b by simp]
        exact List.drop_left' (by simp)
      have hb : b.length ≤ n := by
        have : s.length = a.length + (b.length + 1) := by rw [h1]; simp
        omega
      rw [hl, e1, e2, trim_line, ← lines_eq n b hb, h1, rL_line a [] b h2]
      rfl
theorem parse_eq (s : List UInt8) : rParseF s = parseF s := by
  rw [rParseF, parseF, lines_eq s.length s (Nat.le_refl _)]
  split
  · rfl
  · exact foldS_map rLineF lineF _ line_eq _ _
theorem rParse_p (s : List UInt8) (hs : s.length ≤ 1099511627776) : ACalls Tryz.prog 56 [.v (.string (bs s))] [] (parseE (parseF s)) [] := by
  rw [← parse_eq]
  exact rParse_c s hs
end Go.Proofs.YtbbcokckealagaaGreat
