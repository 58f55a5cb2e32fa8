/-
  Walks of the reference's rules: the lines of a text.
-/
import Derived.Test.YtpacgphnpalepaaQAA
import Derived.Test.YtpacgphnpalepaaQBD
import Derived.Test.YtpacgphnpalepaaQAE
import Derived.Test.YtpacgphnpalepaaQAL
import Derived.Test.YtpacgphnpalepaaQAM
import Derived.Test.YtpacgphnpalepaaQAN
namespace Go.Proofs.Ytpacgphnpalepaa
set_option linter.unusedVariables false
set_option linter.unusedSimpArgs false
def rLinesP : List UInt8 → List UInt8 → List (List UInt8)
  | cur, [] => if cur = [] then [] else [cur]
  | cur, c :: t => if c = 10 then cur :: rLinesP [] t else rLinesP (cur ++ [c]) t
set_option maxHeartbeats 4000000 in
theorem rLines_c (s : List UInt8) (hs : s.length ≤ 1099511627776) : ACalls Try.prog 28 [.v (.string (bs s))] [] (.sl 1 (wdsP (rLinesP [] s)) false) [] := by
  generalize hR : rLinesP [] s = R
  refine (ACalls.of (fn := Try.f28) Try.func28 Z Z Try.ntmps28 (fun I M w own => ?_))
  (repeat' (first|refine AW.seq_k (fun K hK=>?_)|(refine hK _ ?_;clear hK)|refine AW.block ?_|refine AW.rI [0, 1, 2, 3] Z ?_|refine UA ?_|fail))
  refine AW.loopF (X := List Wd × Nat × Nat) (fun y => ⟨[(0, .v (.string (bs s))), (3, .row 0 (wdsP y.1).length), (4, .v (.int .i64 (y.2.1 : Int))), (5, .v (.int .i64 (y.2.2 : Int)))], [.row 1 (wdsP y.1)]⟩)
    (fun y => y.2.1 ≤ y.2.2 ∧ y.2.2 ≤ s.length ∧ y.1.length ≤ y.2.2 ∧ y.1 ++ rLinesP ((s.take y.2.2).drop y.2.1) (s.drop y.2.2) = R) (fun y => s.length - y.2.2) ([], 0, 0) ?_ ⟨Nat.le_refl _, Nat.zero_le _, Nat.zero_le _, by simpa using hR⟩ ?_
  · refine Conv.own 3 1 [] (Or.inr ⟨rfl, rfl⟩) ?_
    refine Conv.mk [0] Z Z Z ?_ Z ?_
    · (repeat' (first|exact V0|refine V3 ?_|refine V2 ?_ ?_|fail))
    · (repeat' (first|exact V0|refine V3 ?_|refine V2 ?_ ?_|fail))
      all_goals rfl
  rintro ⟨out, fr, i⟩ ⟨h1, h2, h3, h4⟩
  simp only at h1 h2 h3 h4 ⊢
  have hol : (wdsP out).length = out.length := by simp
  rcases Nat.lt_or_ge i s.length with h | h
  · obtain ⟨c, hch⟩ : ∃ c, s[i]? = some c := ⟨s[i], by simp [h]⟩
    have hdr : s.drop i = c :: s.drop (i + 1) := by
      rw [List.drop_eq_getElem_cons h]
      congr 1
      simpa [h] using hch
    have hlt : (i : Int) < (s.length : Int) := by omega
    rw [hdr, rLinesP] at h4
    by_cases h10 : c = 10
    · rw [if_pos h10] at h4
      have h10' : (c.toNat : Int) = 10 := by subst h10; rfl
      (repeat' (first|refine AW.seq_k (fun K hK=>?_)|(refine hK _ ?_;clear hK)|refine AW.uC (fun hc=>?_) (fun hc=>?_)|refine AW.block ?_|refine AW.skip ?_|exact trivial|refine AW.rI [4, 6, 7, 5] Z ?_|refine Ud ?_|fail))
      ((repeat (with_reducible refine inB_n ?_)); refine thenA_n ?_)
      refine ⟨(out ++ [(s.take i).drop fr], i + 1, i + 1), ⟨Nat.le_refl _, by simp only; omega, by simp only [List.length_append, List.length_singleton]; omega, ?_⟩, by simp only; omega, ?_⟩
      · rw [← h4]
        simp only [List.append_assoc, List.singleton_append]
        rw [show (s.take (i + 1)).drop (i + 1) = [] from List.drop_eq_nil_of_le (by rw [List.length_take]; omega)]
      · refine Conv.mk [0] Z Z Z ?_ Z ?_
        · (repeat' (first|exact V0|refine V3 ?_|refine V2 ?_ ?_|fail))
          all_goals first | rfl | (refine Cv.eq ?_; simp [AV.ren, renL]; done)
        · (repeat' (first|exact V0|refine V3 ?_|refine V2 ?_ ?_|fail))
          all_goals first | rfl | (simp; done)
    · rw [if_neg h10] at h4
      have h10' : ¬ (c.toNat : Int) = 10 := fun e => h10 (UInt8.toNat_inj.1 (by have : c.toNat = 10 := by omega
                                                                                rw [this]; rfl))
      (repeat' (first|refine AW.seq_k (fun K hK=>?_)|(refine hK _ ?_;clear hK)|refine AW.uC (fun hc=>?_) (fun hc=>?_)|refine AW.block ?_|refine AW.skip ?_|exact trivial|refine AW.rI [4, 6, 5] Z ?_|refine Ud ?_|fail))
      ((repeat (with_reducible refine inB_n ?_)); refine thenA_n ?_)
      refine ⟨(out, fr, i + 1), ⟨by simp only; omega, by simp only; omega, by simp only; omega, ?_⟩, by simp only; omega, ?_⟩
      · rw [← h4]
        simp only
        rw [List.take_add_one, hch, List.drop_append_of_le_length (by rw [List.length_take]; omega)]
        rfl
      · refine Conv.mk [0] Z Z Z ?_ Z ?_
        · (repeat' (first|exact V0|refine V3 ?_|refine V2 ?_ ?_|fail))
          all_goals first | rfl | (refine Cv.eq ?_; simp [AV.ren, renL]; done)
        · (repeat' (first|exact V0|refine V3 ?_|refine V2 ?_ ?_|fail))
          all_goals rfl
  · have hge : ¬ (i : Int) < (s.length : Int) := by omega
    obtain rfl : i = s.length := by omega
    rw [List.take_length, List.drop_length, rLinesP] at h4
    by_cases hf : fr < s.length
    · have hf' : (fr : Int) < (s.length : Int) := by omega
      rw [if_neg (by rw [List.drop_eq_nil_iff]; omega)] at h4
      subst h4
      (repeat' (first|refine AW.seq_k (fun K hK=>?_)|(refine hK _ ?_;clear hK)|refine AW.uC (fun hc=>?_) (fun hc=>?_)|refine AW.exit ?_|refine AW.ret ?_|(clear hK;refine hK _ ?_;clear hK)|exact trivial|refine AW.rI [4, 8, 9, 10] Z ?_|refine Ud ?_|fail))
      ((first|refine RetOk.tupS [] Z Z Z Z Z ?_ ?_|refine RetOk.oneS [] Z Z Z Z ?_ ?_)<;>(repeat' (first|exact V0|refine V1 ?_|refine V2 ?_ ?_|fail)))
      all_goals first | rfl | (simp; done)
    · have hf' : ¬ (fr : Int) < (s.length : Int) := by omega
      rw [if_pos (by rw [List.drop_eq_nil_iff]; omega), List.append_nil] at h4
      subst h4
      (repeat' (first|refine AW.seq_k (fun K hK=>?_)|(refine hK _ ?_;clear hK)|refine AW.uC (fun hc=>?_) (fun hc=>?_)|refine AW.exit ?_|refine AW.ret ?_|refine AW.skip ?_|(clear hK;refine hK _ ?_;clear hK)|exact trivial|refine AW.rI [4, 8, 10] Z ?_|refine Ud ?_|fail))
      ((first|refine RetOk.tupS [] Z Z Z Z Z ?_ ?_|refine RetOk.oneS [] Z Z Z Z ?_ ?_)<;>(repeat' (first|exact V0|refine V1 ?_|refine V2 ?_ ?_|fail)))
def rLineF (x : Nat × List Ru) (line : List UInt8) : (Nat × List Ru) ⊕ (Nat × Int) :=
  if line = [] ∨ line.head? = some 35 then .inl (x.1 + 1, x.2)
  else if (splitP line).2 ≠ 0 then .inr (x.1, (splitP line).2)
  else match rRule (splitP line).1 with
    | .inr e => .inr (x.1, e)
    | .inl r => if 64 ≤ x.2.length then .inr (x.1, 3) else .inl (x.1 + 1, x.2 ++ [r])
def rParseF (s : List UInt8) : (Nat × List Ru) ⊕ (Nat × Int) := if 65536 < s.length then .inr (0, 3) else foldS rLineF (0, []) (rLinesP [] s)
theorem rLinesP_le : ∀ (s cur : List UInt8), (∀ z ∈ rLinesP cur s, z.length ≤ cur.length + s.length) ∧ (rLinesP cur s).length ≤ s.length + 1
  | [], cur => by
    rw [rLinesP]
    split
    · simp
    · simp
  | c :: t, cur => by
    rw [rLinesP]
    split
    · obtain ⟨h1, h2⟩ := rLinesP_le t []
      refine ⟨fun z hz => ?_, by simp only [List.length_cons]; omega⟩
      rcases List.mem_cons.1 hz with rfl | hz
      · omega
      · have := h1 z hz
        simp only [List.length_nil, List.length_cons] at *
        omega
    · obtain ⟨h1, h2⟩ := rLinesP_le t (cur ++ [c])
      refine ⟨fun z hz => ?_, by simp only [List.length_cons]; omega⟩
      have := h1 z hz
      simp only [List.length_append, List.length_nil, List.length_cons] at *
      omega
theorem split_some {s : List UInt8} (h : s ≠ []) (h0 : (splitP s).2 = 0) : ∃ x r, (splitP s).1 = x :: r := by
  by_cases h1 : 4096 < s.length
  · rw [splitP, if_pos h1] at h0; simp at h0
  rw [splitP, if_neg h1, if_neg h] at h0 ⊢
  cases hr : Rd.run s ⟨0, [], []⟩ with
  | none => rw [hr] at h0; simp at h0
  | some r =>
    rw [hr] at h0
    simp only at h0 ⊢
    by_cases h2 : r.st ≠ 1 ∧ r.st ≠ 4
    · rw [if_pos h2] at h0; simp at h0
    rw [if_neg h2] at h0 ⊢
    by_cases h3 : 64 < r.ws.length + 1
    · rw [if_pos h3] at h0; simp at h0
    rw [if_neg h3]
    cases hw : r.ws with
    | nil => exact ⟨_, [], by simp; rfl⟩
    | cons a b => exact ⟨a, b ++ [r.w], by simp⟩
theorem rRule_err {l : List Wd} {e : Int} (h : rRule l = .inr e) : e ≠ 0 := by
  rw [rRule] at h
  split at h
  · injection h with h; omega
  · rw [rTail] at h
    split at h
    · injection h with h; omega
    · split at h
      · injection h with h; omega
      split at h
      · cases h
      · injection h with h; omega
set_option maxHeartbeats 4000000 in
theorem rParse_c (s : List UInt8) (hs : s.length ≤ 1099511627776) : ACalls Try.prog 10 [.v (.string (bs s))] [] (parseE (rParseF s)) [] := by
  generalize hR : rParseF s = R
  rw [rParseF] at hR
  by_cases hb : 65536 < s.length
  · rw [if_pos hb] at hR
    subst hR
    have hb' : (s.length : Int) > 65536 := by omega
    refine (ACalls.of (fn := Try.f10) Try.func10 Z Z Try.ntmps10 (fun I M w own => ?_))
    (repeat' (first|refine AW.seq_k (fun K hK=>?_)|(refine hK _ ?_;clear hK)|refine AW.uC (fun hc=>?_) (fun hc=>?_)|refine AW.ret ?_|exact trivial|refine AW.rI [0, 1, 2] Z ?_|refine Ud ?_|fail))
    ((first|refine RetOk.tupS [] Z Z Z Z Z ?_ ?_|refine RetOk.oneS [] Z Z Z Z ?_ ?_)<;>(repeat' (first|exact V0|refine V1 ?_|refine V2 ?_ ?_|fail)))
  rw [if_neg hb] at hR
  have hb' : ¬ (s.length : Int) > 65536 := by omega
  have hLi := rLines_c s hs
  obtain ⟨hle, hll⟩ := rLinesP_le s []
  generalize rLinesP [] s = ls at hR hLi hle hll
  have hlsl : (wdsP ls).length = ls.length := by simp
  refine (ACalls.of (fn := Try.f10) Try.func10 Z Z Try.ntmps10 (fun I M w own => ?_))
  (repeat' (first|refine AW.seq_k (fun K hK=>?_)|(refine hK _ ?_;clear hK)|refine AW.uC (fun hc=>?_) (fun hc=>?_)|refine AW.block ?_|refine AW.skip ?_|exact trivial|refine AW.rI [0, 1, 3, 4, 5] Z ?_|refine Run.c0 hLi Z Z Z Z Z Z Z Z ?_|refine Ud ?_|fail))
  refine AW.loopF (X := Nat × List Ru) (fun y => ⟨[(0, .v (.string (bs s))), (5, .row 0 (ruP y.2).length), (6, .sl 1 (wdsP ls) false), (7, .v (.int .i64 (y.1 : Int)))], [.row 5 (ruP y.2)]⟩)
    (fun y => y.1 ≤ ls.length ∧ y.2.length ≤ 64 ∧ foldS rLineF y (ls.drop y.1) = R) (fun y => ls.length - y.1) (0, []) ?_ ⟨Nat.zero_le _, Nat.zero_le _, hR⟩ ?_
  · refine Conv.own 5 5 [] (Or.inr ⟨rfl, rfl⟩) ?_
    refine Conv.mk [0] Z Z Z ?_ Z ?_
    · (repeat' (first|exact V0|refine V3 ?_|refine V2 ?_ ?_|fail))
    · (repeat' (first|exact V0|refine V3 ?_|refine V2 ?_ ?_|fail))
      all_goals rfl
  rintro ⟨i, out⟩ ⟨h1, h2, h3⟩
  simp only at h1 h2 h3 ⊢
  have hol : (ruP out).length = out.length := by simp
  rcases Nat.lt_or_ge i ls.length with h | h
  · obtain ⟨ln, hln⟩ : ∃ ln, ls[i]? = some ln := ⟨ls[i], by simp [h]⟩
    have hdr : ls.drop i = ln :: ls.drop (i + 1) := by
      rw [List.drop_eq_getElem_cons h]
      congr 1
      simpa [h] using hln
    have hlt : (i : Int) < ((wdsP ls).length : Int) := by omega
    have hA : At (wdsP ls) (i : Int) [PV.v (.string (bs ln))] := At.mk i Z (by simp [hln])
    have hlnl := hle ln (List.mem_of_getElem? hln)
    simp only [List.length_nil] at hlnl
    rw [hdr, foldS] at h3
    have hSp := rSplit_c ln
    rw [← split_eq] at hSp
    have hgo : ∀ o : List Ru, rLineF (i, out) ln = .inl (i + 1, o) → foldS rLineF (i + 1, o) (ls.drop (i + 1)) = R := fun o e => by rw [e] at h3; exact h3
    have hend : ∀ y, rLineF (i, out) ln = .inr y → R = .inr y := fun y e => by rw [e] at h3; exact h3.symm
    clear h3
    cases ln with
    | nil =>
      have h3 := hgo out (by simp [rLineF])
      (repeat' (first|refine AW.seq_k (fun K hK=>?_)|(refine hK _ ?_;clear hK)|refine AW.uC (fun hc=>?_) (fun hc=>?_)|refine AW.block ?_|refine AW.exit ?_|refine AW.skip ?_|(clear hK;refine hK _ ?_;clear hK)|exact trivial|refine AW.rI [6, 8, 7] Z ?_|refine Ud ?_|fail))
      ((repeat (with_reducible refine inB_n ?_)); refine thenA_n ?_)
      refine ⟨(i + 1, out), ⟨by simp only; omega, by first | exact h2 | (simp only [List.length_append, List.length_singleton]; omega), h3⟩, by simp only; omega, ?_⟩
      refine Conv.mk [0] Z Z Z ?_ Z ?_
      · (repeat' (first|exact V0|refine V3 ?_|refine V2 ?_ ?_|fail))
        all_goals first | rfl | (refine Cv.eq ?_; simp [AV.ren, renL]; done)
      · (repeat' (first|exact V0|refine V3 ?_|refine V2 ?_ ?_|fail))
        all_goals first | rfl | (simp; done)
    | cons c t =>
      by_cases h35 : c = 35
      · have h3 := hgo out (by simp [rLineF, h35])
        have h35' : (c.toNat : Int) = 35 := by subst h35; rfl
        (repeat' (first|refine AW.seq_k (fun K hK=>?_)|(refine hK _ ?_;clear hK)|refine AW.uC (fun hc=>?_) (fun hc=>?_)|refine AW.block ?_|refine AW.exit ?_|refine AW.skip ?_|(clear hK;refine hK _ ?_;clear hK)|exact trivial|refine AW.rI [6, 8, 7] Z ?_|refine Ud ?_|fail))
        ((repeat (with_reducible refine inB_n ?_)); refine thenA_n ?_)
        refine ⟨(i + 1, out), ⟨by simp only; omega, by first | exact h2 | (simp only [List.length_append, List.length_singleton]; omega), h3⟩, by simp only; omega, ?_⟩
        refine Conv.mk [0] Z Z Z ?_ Z ?_
        · (repeat' (first|exact V0|refine V3 ?_|refine V2 ?_ ?_|fail))
          all_goals first | rfl | (refine Cv.eq ?_; simp [AV.ren, renL]; done)
        · (repeat' (first|exact V0|refine V3 ?_|refine V2 ?_ ?_|fail))
          all_goals first | rfl | (simp; done)
      · have h35' : ¬ (c.toNat : Int) = 35 := fun e => h35 (UInt8.toNat_inj.1 (by have : c.toNat = 35 := by omega
                                                                                  rw [this]; rfl))
        have hsome := split_some (s := c :: t) (by simp)
        have hwd := split_wd (c :: t)
        have hct := split_ct (c :: t)
        have hlf : rLineF (i, out) (c :: t) = (if (splitP (c :: t)).2 ≠ 0 then .inr (i, (splitP (c :: t)).2) else match rRule (splitP (c :: t)).1 with | .inr e => .inr (i, e) | .inl r => if 64 ≤ out.length then .inr (i, 3) else .inl (i + 1, out ++ [r])) := by
          rw [rLineF, if_neg (by simp [h35])]
          all_goals rfl
        rw [hlf] at hgo hend
        clear hlf
        generalize splitP (c :: t) = sp at hSp hsome hwd hct hgo hend
        obtain ⟨ws, er⟩ := sp
        simp only at hSp hsome hwd hct hgo hend
        by_cases he : er = 0
        · obtain ⟨x, r, rfl⟩ := hsome he
          rw [if_neg (by simp [he])] at hgo hend
          have hru := rrule_c x r false (by omega) (fun z hz => by have := hwd z hz; omega)
          have herr : ∀ e, rRule (x :: r) = .inr e → e ≠ 0 := fun e h => rRule_err h
          generalize rRule (x :: r) = q at hru hgo hend herr
          cases q with
          | inr e =>
            have hRe := hend (i, e) Z
            subst hRe
            have hne : e ≠ 0 := herr e Z
            have hne' : ¬ e = 0 := hne
            simp only [rRuleE] at hru
            (repeat' (first|refine AW.seq_k (fun K hK=>?_)|(refine hK _ ?_;clear hK)|refine AW.uC (fun hc=>?_) (fun hc=>?_)|refine AW.block ?_|refine AW.ret ?_|refine AW.skip ?_|exact trivial|refine AW.rI [6, 8, 9, 10, 11, 12, 13, 15, 16] Z ?_|refine Run.c0 hSp Z Z Z Z Z Z Z Z ?_|refine Run.c0 hru Z Z Z Z Z Z Z Z ?_|refine Ud ?_|fail))
            ((first|refine RetOk.tupS [] Z Z Z Z Z ?_ ?_|refine RetOk.oneS [] Z Z Z Z ?_ ?_)<;>(repeat' (first|exact V0|refine V1 ?_|refine V2 ?_ ?_|fail)))
          | inl ru =>
            simp only [rRuleE] at hru
            by_cases h64 : 64 ≤ out.length
            · have hRe := hend (i, 3) (by simp [h64])
              subst hRe
              have h64' : ((ruP out).length : Int) ≥ 64 := by omega
              (repeat' (first|refine AW.seq_k (fun K hK=>?_)|(refine hK _ ?_;clear hK)|refine AW.uC (fun hc=>?_) (fun hc=>?_)|refine AW.block ?_|refine AW.ret ?_|refine AW.skip ?_|exact trivial|refine AW.rI [6, 8, 9, 10, 11, 12, 13, 14, 15, 16] Z ?_|refine Run.c0 hSp Z Z Z Z Z Z Z Z ?_|refine Run.c0 hru Z Z Z Z Z Z Z Z ?_|refine Ud ?_|fail))
              ((first|refine RetOk.tupS [] Z Z Z Z Z ?_ ?_|refine RetOk.oneS [] Z Z Z Z ?_ ?_)<;>(repeat' (first|exact V0|refine V1 ?_|refine V2 ?_ ?_|fail)))
            · have h3 := hgo (out ++ [ru]) (by simp [h64])
              have h64' : ¬ ((ruP out).length : Int) ≥ 64 := by omega
              (repeat' (first|refine AW.seq_k (fun K hK=>?_)|(refine hK _ ?_;clear hK)|refine AW.uC (fun hc=>?_) (fun hc=>?_)|refine AW.block ?_|refine AW.skip ?_|exact trivial|refine AW.rI [6, 8, 9, 10, 11, 12, 13, 15, 17, 7] Z ?_|refine Run.c0 hSp Z Z Z Z Z Z Z Z ?_|refine Run.c0 hru Z Z Z Z Z Z Z Z ?_|refine Ud ?_|fail))
              ((repeat (with_reducible refine inB_n ?_)); refine thenA_n ?_)
              refine ⟨(i + 1, out ++ [ru]), ⟨by simp only; omega, by first | exact h2 | (simp only [List.length_append, List.length_singleton]; omega), h3⟩, by simp only; omega, ?_⟩
              refine Conv.mk [0] Z Z Z ?_ Z ?_
              · (repeat' (first|exact V0|refine V3 ?_|refine V2 ?_ ?_|fail))
                all_goals first | rfl | (refine Cv.eq ?_; simp [AV.ren, renL]; done)
              · (repeat' (first|exact V0|refine V3 ?_|refine V2 ?_ ?_|fail))
                all_goals first | rfl | (simp; done)
        · rw [if_pos he] at hend
          have hRe := hend (i, er) Z
          subst hRe
          have he' : er ≠ 0 := he
          (repeat' (first|refine AW.seq_k (fun K hK=>?_)|(refine hK _ ?_;clear hK)|refine AW.uC (fun hc=>?_) (fun hc=>?_)|refine AW.block ?_|refine AW.ret ?_|refine AW.skip ?_|exact trivial|refine AW.rI [6, 8, 9, 10, 11, 13, 15, 16] Z ?_|refine Run.c0 hSp Z Z Z Z Z Z Z Z ?_|refine Ud ?_|fail))
          ((first|refine RetOk.tupS [] Z Z Z Z Z ?_ ?_|refine RetOk.oneS [] Z Z Z Z ?_ ?_)<;>(repeat' (first|exact V0|refine V1 ?_|refine V2 ?_ ?_|fail)))
  · rw [List.drop_eq_nil_of_le h, foldS] at h3
    subst h3
    have hge : ¬ (i : Int) < ((wdsP ls).length : Int) := by omega
    obtain rfl : i = ls.length := by omega
    (repeat' (first|refine AW.seq_k (fun K hK=>?_)|(refine hK _ ?_;clear hK)|refine AW.uC (fun hc=>?_) (fun hc=>?_)|refine AW.exit ?_|refine AW.ret ?_|(clear hK;refine hK _ ?_;clear hK)|exact trivial|refine AW.rI [6, 18] Z ?_|refine Ud ?_|fail))
    ((first|refine RetOk.tupS [] Z Z Z Z Z ?_ ?_|refine RetOk.oneS [] Z Z Z Z ?_ ?_)<;>(repeat' (first|exact V0|refine V1 ?_|refine V2 ?_ ?_|fail)))
    all_goals (refine Cv.eq ?_; simp [AV.ren, renL]; done)
end Go.Proofs.Ytpacgphnpalepaa
