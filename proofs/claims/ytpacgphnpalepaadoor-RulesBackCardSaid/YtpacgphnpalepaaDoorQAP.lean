/-
  Plain laws of conditions.
-/
import Derived.Test.YtpacgphnpalepaaDoorQAO
import Derived.Test.YtpacgphnpalepaaDoorQAA
namespace Go.Proofs.YtpacgphnpalepaaDoor
set_option linter.unusedVariables false
set_option linter.unusedSimpArgs false
theorem foldN_app : ∀ (x : List Tm) (n : Nat) (y : List Tm), foldN n (x ++ y) = (foldN n x).bind fun d => foldN d y
  | [], n, y => rfl
  | t :: x, n, y => by
    rw [List.cons_append, foldN, foldN]
    split
    · rfl
    · exact foldN_app x _ y
theorem badT_false {n : Nat} {t : Tm} (h : ¬ badT n t = true) : 0 ≤ arityF t.1 ∧ arityF t.1 ≤ n ∧ (arityF t.1 = 0 → nameB t.2 = true) ∧ (0 < arityF t.1 → t.2 = []) := by
  simp only [badT, decide_eq_true_eq, not_or, not_and, Bool.not_eq_false, Decidable.not_not] at h
  exact ⟨by omega, by omega, h.2.2.1, h.2.2.2⟩
def Prop1 (c : List Tm) : Prop := foldN 0 c = some 1
def roleL : List (List UInt8) := [[109, 117, 115, 105, 99], [118, 111, 105, 99, 101], [97, 108, 97, 114, 109], [103, 97, 109, 101]]
def roleAt (n : Int) : List UInt8 := roleL.getD n.toNat []
set_option maxHeartbeats 4000000 in
theorem Role_c (l : List Int) (hl : Fits l) (a : Nat) (ha : a ≤ l.length) : ACalls Tryd.prog 43 [.ptr 0 0] [dkR l a] (.v (.string (bs (roleAt (dkN l a 4))))) [dkR l (dkA l a)] := by
  have hN := Next_c l hl a ha 4 (by decide)
  obtain ⟨g1, g2⟩ := dkN_rng l a 4 (by decide)
  obtain ⟨n, hn⟩ : ∃ n : Nat, dkN l a 4 = (n : Int) := ⟨(dkN l a 4).toNat, by omega⟩
  rw [hn] at hN g1 g2 ⊢
  have hA : At [[PV.v (.string (bs [109, 117, 115, 105, 99]))], [PV.v (.string (bs [118, 111, 105, 99, 101]))], [PV.v (.string (bs [97, 108, 97, 114, 109]))], [PV.v (.string (bs [103, 97, 109, 101]))]] (n : Int) [PV.v (.string (bs (roleAt n)))] := by
    rcases n with _ | _ | _ | _ | n
    · exact At.mk 0 Z Z
    · exact At.mk 1 Z Z
    · exact At.mk 2 Z Z
    · exact At.mk 3 Z Z
    · omega
  refine (ACalls.of (fn := Tryd.f43) Tryd.func43 Z Z Tryd.ntmps43 (fun I M w own => ?_))
  (repeat' (first|refine AW.seq_k (fun K hK=>?_)|(refine hK _ ?_;clear hK)|refine AW.ret ?_|refine AW.region ?_|refine Run.cSA [0] hN Z Z Z Z Z Z Z Z Z Z Z Z ?_|refine UA ?_|fail))
  ((first|refine RetOk.tupS [0] Z Z Z Z Z ?_ ?_|refine RetOk.oneS [0] Z Z Z Z ?_ ?_)<;>(repeat' (first|exact V0|refine V1 ?_|refine V2 ?_ ?_|fail)))
def classL : List (List UInt8) := [[115, 112, 101, 97, 107, 101, 114], [104, 101, 97, 100, 115, 101, 116], [109, 105, 99], [97, 110, 121]]
def classAt (n : Int) : List UInt8 := classL.getD n.toNat []
set_option maxHeartbeats 4000000 in
theorem Class_c (l : List Int) (hl : Fits l) (a : Nat) (ha : a ≤ l.length) : ACalls Tryd.prog 45 [.ptr 0 0] [dkR l a] (.v (.string (bs (classAt (dkN l a 4))))) [dkR l (dkA l a)] := by
  have hN := Next_c l hl a ha 4 (by decide)
  obtain ⟨g1, g2⟩ := dkN_rng l a 4 (by decide)
  obtain ⟨n, hn⟩ : ∃ n : Nat, dkN l a 4 = (n : Int) := ⟨(dkN l a 4).toNat, by omega⟩
  rw [hn] at hN g1 g2 ⊢
  have hA : At [[PV.v (.string (bs [115, 112, 101, 97, 107, 101, 114]))], [PV.v (.string (bs [104, 101, 97, 100, 115, 101, 116]))], [PV.v (.string (bs [109, 105, 99]))], [PV.v (.string (bs [97, 110, 121]))]] (n : Int) [PV.v (.string (bs (classAt n)))] := by
    rcases n with _ | _ | _ | _ | n
    · exact At.mk 0 Z Z
    · exact At.mk 1 Z Z
    · exact At.mk 2 Z Z
    · exact At.mk 3 Z Z
    · omega
  refine (ACalls.of (fn := Tryd.f45) Tryd.func45 Z Z Tryd.ntmps45 (fun I M w own => ?_))
  (repeat' (first|refine AW.seq_k (fun K hK=>?_)|(refine hK _ ?_;clear hK)|refine AW.ret ?_|refine AW.region ?_|refine Run.cSA [0] hN Z Z Z Z Z Z Z Z Z Z Z Z ?_|refine UA ?_|fail))
  ((first|refine RetOk.tupS [0] Z Z Z Z Z ?_ ?_|refine RetOk.oneS [0] Z Z Z Z ?_ ?_)<;>(repeat' (first|exact V0|refine V1 ?_|refine V2 ?_ ?_|fail)))
structure Cs where
  a : Nat
  out : List Tm
  dep : Nat
def stepC (l : List Int) (s : Cs) : Cs :=
  if dkN l s.a 5 = 0 ∧ 1 ≤ s.dep then ⟨dkA l s.a, s.out ++ [(3, [])], s.dep⟩
  else if dkN l s.a 5 ≤ 2 ∧ 2 ≤ s.dep then ⟨dkA l s.a, s.out ++ [(4 + dkN l s.a 5 - 1, [])], s.dep - 1⟩
  else if dkN l s.a 5 = 3 then ⟨dkA l (dkA l s.a), s.out ++ [(2, classAt (dkN l (dkA l s.a) 4))], s.dep + 1⟩
  else ⟨dkA l (dkA l s.a), s.out ++ [(1, roleAt (dkN l (dkA l s.a) 4))], s.dep + 1⟩
def runC (l : List Int) : Nat → Cs → Cs
  | 0, s => s
  | k + 1, s => runC l k (stepC l s)
def endC (l : List Int) : Nat → Cs → Cs
  | 0, s => s
  | k + 1, s => endC l k ⟨dkA l s.a, s.out ++ [(4 + dkN l s.a 2, [])], s.dep - 1⟩
def fullC (l : List Int) (a : Nat) : Cs :=
  let s := runC l (dkN l a 9).toNat ⟨dkA l a, [], 0⟩
  endC l (s.dep - 1) s
def condL (l : List Int) (a : Nat) : List Tm := if 16 < (fullC l a).out.length then [] else (fullC l a).out
def condA (l : List Int) (a : Nat) : Nat := (fullC l a).a
theorem tmP_snoc (o : List Tm) (k : Int) (n : Wd) : tmP (o ++ [(k, n)]) = tmP o ++ [[PV.v (.int .i64 k), PV.v (.string (bs n))]] := by simp
set_option maxHeartbeats 4000000 in
theorem Cond_c (l : List Int) (hl : Fits l) (a : Nat) (ha : a ≤ l.length) : ACalls Tryd.prog 44 [.ptr 0 0] [dkR l a] (.sl 2 (tmP (condL l a)) false) [dkR l (condA l a)] := by
  have hN := Next_c l hl a ha 9 (by decide)
  obtain ⟨g1, g2⟩ := dkN_rng l a 9 (by decide)
  obtain ⟨k, hk⟩ : ∃ k : Nat, dkN l a 9 = (k : Int) := ⟨(dkN l a 9).toNat, by omega⟩
  generalize hS : fullC l a = S
  rw [fullC, hk] at hS
  rw [condL, condA]
  rw [show fullC l a = S by rw [fullC, hk]; exact hS]
  rw [hk] at hN g1 g2
  simp only [Int.toNat_natCast] at hS
  generalize hL : (if 16 < S.out.length then ([] : List Tm) else S.out) = L
  refine (ACalls.of (fn := Tryd.f44) Tryd.func44 Z Z Tryd.ntmps44 (fun I M w own => ?_))
  (repeat' (first|refine AW.seq_k (fun K hK=>?_)|(refine hK _ ?_;clear hK)|refine AW.block ?_|refine AW.rI [0, 1, 2, 3] Z ?_|refine Run.cSA [0] hN Z Z Z Z Z Z Z Z Z Z Z Z ?_|refine Ud ?_|fail))
  obtain ⟨S1, hS1⟩ : ∃ S1, runC l k ⟨dkA l a, [], 0⟩ = S1 := ⟨_, rfl⟩
  rw [hS1] at hS
  refine AW.loopF (X := Nat × Cs) (fun x => ⟨[(0, .ptr 0 0), (3, .row 1 (tmP x.2.out).length), (4, .v (.int .i64 (x.2.dep : Int))), (5, .v (.int .i64 (x.1 : Int)))], [dkR l x.2.a, .row 2 (tmP x.2.out)]⟩)
    (fun x => x.2.a ≤ l.length ∧ x.2.dep + x.1 ≤ 9 ∧ x.2.out.length + x.1 ≤ 9 ∧ runC l x.1 x.2 = S1) (fun x => x.1) (k, ⟨dkA l a, [], 0⟩) ?_ ?_ ?_
  · refine Conv.own 3 2 [] (Or.inr ⟨rfl, rfl⟩) ?_
    refine Conv.mk [0, 1] Z Z Z ?_ Z ?_
    · (repeat' (first|exact V0|refine V3 ?_|refine V2 ?_ ?_|fail))
    · (repeat' (first|exact V0|refine V3 ?_|refine V2 ?_ ?_|fail))
      all_goals rfl
  · exact ⟨dkA_le ha, by simp only; omega, by simp only [List.length_nil]; omega, hS1⟩
  rintro ⟨kx, ⟨sa, so, sd⟩⟩ ⟨hs, hd, ho, hrun⟩
  simp only at hs hd ho hrun ⊢
  have hol : (tmP so).length = so.length := by simp
  cases kx with
  | zero =>
    rw [runC] at hrun
    subst hrun
    (repeat' (first|refine AW.seq_k (fun K hK=>?_)|(refine hK _ ?_;clear hK)|refine AW.uC (fun hc=>?_) (fun hc=>?_)|refine AW.block ?_|refine AW.exit ?_|(clear hK;refine hK _ ?_;clear hK)|exact trivial|refine rG 4 ?_|refine Ud ?_|fail))
    refine AW.loopF (X := Nat × Cs) (fun x => ⟨[(0, .ptr 0 0), (3, .row 1 (tmP x.2.out).length), (4, .v (.int .i64 (x.2.dep : Int)))], [dkR l x.2.a, .row 2 (tmP x.2.out)]⟩)
      (fun x => x.2.a ≤ l.length ∧ x.1 = x.2.dep - 1 ∧ x.2.dep ≤ 9 ∧ x.2.out.length + x.1 ≤ 18 ∧ endC l x.1 x.2 = S) (fun x => x.1) (sd - 1, ⟨sa, so, sd⟩) ?_ ?_ ?_
    · refine Conv.mk [0, 1] Z Z Z ?_ Z ?_
      · (repeat' (first|exact V0|refine V3 ?_|refine V2 ?_ ?_|fail))
      · (repeat' (first|exact V0|refine V3 ?_|refine V2 ?_ ?_|fail))
        all_goals rfl
    · exact ⟨hs, rfl, by simp only; omega, by simp only; omega, hS⟩
    rintro ⟨kx, ⟨ta, to, td⟩⟩ ⟨hs, hk1, hd, ho, hrun⟩
    simp only at hs hk1 hd ho hrun ⊢
    have hol : (tmP to).length = to.length := by simp
    cases kx with
    | succ kk =>
      rw [endC] at hrun
      simp only at hrun
      have hN2 := Next_c l hl ta hs 2 (by decide)
      obtain ⟨c1, c2⟩ := dkN_rng l ta 2 (by decide)
      generalize dkN l ta 2 = c at hN2 hrun c1 c2
      (repeat' (first|refine AW.seq_k (fun K hK=>?_)|(refine hK _ ?_;clear hK)|refine AW.uC (fun hc=>?_) (fun hc=>?_)|refine AW.block ?_|refine AW.skip ?_|exact trivial|refine AW.rI [14, 16, 15] Z ?_|refine Run.cSA [0] hN2 Z Z Z Z Z Z Z Z Z Z Z Z ?_|refine Ud ?_|fail))
      all_goals first | (exfalso; omega) | skip
      ((repeat (with_reducible refine inB_n ?_)); refine thenA_n ?_)
      refine ⟨(kk, ⟨dkA l ta, to ++ [(4 + c, [])], td - 1⟩), ⟨?_, ?_, ?_, ?_, ?_⟩, by simp, ?_⟩
      · exact dkA_le hs
      · simp only; omega
      · simp only; omega
      · simp only [List.length_append, List.length_cons, List.length_nil]; omega
      · exact hrun
      · simp only
        rw [tmP_snoc]
        refine Conv.mk [0, 1] Z Z Z ?_ Z ?_
        · (repeat' (first|exact V0|refine V3 ?_|refine V2 ?_ ?_|fail))
          all_goals first | rfl | (refine Cv.eq ?_; simp [AV.ren, AV.rens, renL]; done) | (refine Cv.eq ?_; simp [AV.ren, AV.rens, renL]; omega)
        · (repeat' (first|exact V0|refine V3 ?_|refine V2 ?_ ?_|fail))
          all_goals rfl
    | zero =>
      rw [endC] at hrun
      subst hrun
      simp only
      by_cases hbig : 16 < to.length
      · obtain rfl : [] = L := by rw [← hL]; exact (if_pos hbig).symm
        (repeat' (first|refine AW.seq_k (fun K hK=>?_)|(refine hK _ ?_;clear hK)|refine AW.uC (fun hc=>?_) (fun hc=>?_)|refine AW.exit ?_|refine AW.ret ?_|(clear hK;refine hK _ ?_;clear hK)|exact trivial|refine AW.rI [14, 17, 18] Z ?_|refine Ud ?_|fail))
        all_goals first | (exfalso; simp only [List.length_map] at *; omega) | skip
        ((first|refine RetOk.tupS [0] Z Z Z Z Z ?_ ?_|refine RetOk.oneS [0] Z Z Z Z ?_ ?_)<;>(repeat' (first|exact V0|refine V1 ?_|refine V2 ?_ ?_|fail)))
      · obtain rfl : to = L := by rw [← hL]; exact (if_neg hbig).symm
        (repeat' (first|refine AW.seq_k (fun K hK=>?_)|(refine hK _ ?_;clear hK)|refine AW.uC (fun hc=>?_) (fun hc=>?_)|refine AW.exit ?_|refine AW.ret ?_|refine AW.skip ?_|(clear hK;refine hK _ ?_;clear hK)|exact trivial|refine AW.rI [14, 17, 19] Z ?_|refine Ud ?_|fail))
        all_goals first | (exfalso; simp only [List.length_map] at *; omega) | skip
        ((first|refine RetOk.tupS [0] Z Z Z Z Z ?_ ?_|refine RetOk.oneS [0] Z Z Z Z ?_ ?_)<;>(repeat' (first|exact V0|refine V1 ?_|refine V2 ?_ ?_|fail)))
  | succ kk =>
    rw [runC, stepC] at hrun
    simp only at hrun
    have hN5 := Next_c l hl sa hs 5 (by decide)
    have hRo := Role_c l hl (dkA l sa) (dkA_le hs)
    have hCl := Class_c l hl (dkA l sa) (dkA_le hs)
    obtain ⟨c1, c2⟩ := dkN_rng l sa 5 (by decide)
    generalize dkN l sa 5 = c at hN5 hrun c1 c2
    by_cases hA : c = 0 ∧ 1 ≤ sd
    · rw [if_pos hA] at hrun
      obtain ⟨rfl, hA2⟩ := hA
      · (repeat' (first|refine AW.seq_k (fun K hK=>?_)|(refine hK _ ?_;clear hK)|refine AW.uC (fun hc=>?_) (fun hc=>?_)|refine AW.block ?_|refine AW.skip ?_|exact trivial|refine AW.rI [4, 6, 8, 9, 5] Z ?_|refine Run.cSA [0] hN5 Z Z Z Z Z Z Z Z Z Z Z Z ?_|refine Ud ?_|fail))
        all_goals first | (exfalso; omega) | skip
        ((repeat (with_reducible refine inB_n ?_)); refine thenA_n ?_)
        refine ⟨(kk, ⟨dkA l sa, so ++ [(3, [])], sd⟩), ⟨?_, ?_, ?_, ?_⟩, by simp, ?_⟩
        · simp only; first | exact dkA_le hs | exact dkA_le (dkA_le hs)
        · simp only; omega
        · simp only [List.length_append, List.length_cons, List.length_nil]; omega
        · exact hrun
        · simp only
          rw [tmP_snoc]
          refine Conv.mk [0, 1] Z Z Z ?_ Z ?_
          · (repeat' (first|exact V0|refine V3 ?_|refine V2 ?_ ?_|fail))
            all_goals first | rfl | (refine Cv.eq ?_; simp [AV.ren, AV.rens, renL]; done) | (refine Cv.eq ?_; simp [AV.ren, AV.rens, renL]; omega)
          · (repeat' (first|exact V0|refine V3 ?_|refine V2 ?_ ?_|fail))
            all_goals rfl
    rw [if_neg hA] at hrun
    by_cases hB : c ≤ 2 ∧ 2 ≤ sd
    · rw [if_pos hB] at hrun
      have hA3 : ¬ c = 0 := by omega
      · (repeat' (first|refine AW.seq_k (fun K hK=>?_)|(refine hK _ ?_;clear hK)|refine AW.uC (fun hc=>?_) (fun hc=>?_)|refine AW.block ?_|refine AW.skip ?_|exact trivial|refine AW.rI [4, 6, 8, 10, 11, 5] Z ?_|refine Run.cSA [0] hN5 Z Z Z Z Z Z Z Z Z Z Z Z ?_|refine Ud ?_|fail))
        all_goals first | (exfalso; omega) | skip
        ((repeat (with_reducible refine inB_n ?_)); refine thenA_n ?_)
        refine ⟨(kk, ⟨dkA l sa, so ++ [(4 + c - 1, [])], sd - 1⟩), ⟨?_, ?_, ?_, ?_⟩, by simp, ?_⟩
        · simp only; first | exact dkA_le hs | exact dkA_le (dkA_le hs)
        · simp only; omega
        · simp only [List.length_append, List.length_cons, List.length_nil]; omega
        · exact hrun
        · simp only
          rw [tmP_snoc]
          refine Conv.mk [0, 1] Z Z Z ?_ Z ?_
          · (repeat' (first|exact V0|refine V3 ?_|refine V2 ?_ ?_|fail))
            all_goals first | rfl | (refine Cv.eq ?_; simp [AV.ren, AV.rens, renL]; done) | (refine Cv.eq ?_; simp [AV.ren, AV.rens, renL]; omega)
          · (repeat' (first|exact V0|refine V3 ?_|refine V2 ?_ ?_|fail))
            all_goals rfl
    rw [if_neg hB] at hrun
    by_cases hC : c = 3
    · rw [if_pos hC] at hrun
      · (repeat' (first|refine AW.seq_k (fun K hK=>?_)|(refine hK _ ?_;clear hK)|refine AW.uC (fun hc=>?_) (fun hc=>?_)|refine AW.block ?_|refine AW.skip ?_|exact trivial|refine AW.rI [4, 6, 8, 10, 12, 13, 5] Z ?_|refine Run.cSA [0] hN5 Z Z Z Z Z Z Z Z Z Z Z Z ?_|refine Run.cSA [0] hCl Z Z Z Z Z Z Z Z Z Z Z Z ?_|refine Ud ?_|fail))
        all_goals first | (exfalso; omega) | skip
        ((repeat (with_reducible refine inB_n ?_)); refine thenA_n ?_)
        refine ⟨(kk, ⟨dkA l (dkA l sa), so ++ [(2, classAt (dkN l (dkA l sa) 4))], sd + 1⟩), ⟨?_, ?_, ?_, ?_⟩, by simp, ?_⟩
        · simp only; first | exact dkA_le hs | exact dkA_le (dkA_le hs)
        · simp only; omega
        · simp only [List.length_append, List.length_cons, List.length_nil]; omega
        · exact hrun
        · simp only
          rw [tmP_snoc]
          refine Conv.mk [0, 1] Z Z Z ?_ Z ?_
          · (repeat' (first|exact V0|refine V3 ?_|refine V2 ?_ ?_|fail))
            all_goals first | rfl | (refine Cv.eq ?_; simp [AV.ren, AV.rens, renL]; done) | (refine Cv.eq ?_; simp [AV.ren, AV.rens, renL]; omega)
          · (repeat' (first|exact V0|refine V3 ?_|refine V2 ?_ ?_|fail))
            all_goals rfl
    · rw [if_neg hC] at hrun
      · (repeat' (first|refine AW.seq_k (fun K hK=>?_)|(refine hK _ ?_;clear hK)|refine AW.uC (fun hc=>?_) (fun hc=>?_)|refine AW.block ?_|refine AW.skip ?_|exact trivial|refine AW.rI [4, 6, 8, 10, 12, 7, 5] Z ?_|refine Run.cSA [0] hN5 Z Z Z Z Z Z Z Z Z Z Z Z ?_|refine Run.cSA [0] hRo Z Z Z Z Z Z Z Z Z Z Z Z ?_|refine Ud ?_|fail))
        all_goals first | (exfalso; omega) | skip
        ((repeat (with_reducible refine inB_n ?_)); refine thenA_n ?_)
        refine ⟨(kk, ⟨dkA l (dkA l sa), so ++ [(1, roleAt (dkN l (dkA l sa) 4))], sd + 1⟩), ⟨?_, ?_, ?_, ?_⟩, by simp, ?_⟩
        · simp only; first | exact dkA_le hs | exact dkA_le (dkA_le hs)
        · simp only; omega
        · simp only [List.length_append, List.length_cons, List.length_nil]; omega
        · exact hrun
        · simp only
          rw [tmP_snoc]
          refine Conv.mk [0, 1] Z Z Z ?_ Z ?_
          · (repeat' (first|exact V0|refine V3 ?_|refine V2 ?_ ?_|fail))
            all_goals first | rfl | (refine Cv.eq ?_; simp [AV.ren, AV.rens, renL]; done) | (refine Cv.eq ?_; simp [AV.ren, AV.rens, renL]; omega)
          · (repeat' (first|exact V0|refine V3 ?_|refine V2 ?_ ?_|fail))
            all_goals rfl
structure OkC (s : Cs) : Prop where
  fold : foldN 0 s.out = some s.dep
  nil : s.dep = 0 → s.out = []
  nms : ∀ t ∈ s.out, t.2.length ≤ 100
theorem foldN_snoc {x : List Tm} {d : Nat} {t : Tm} (h : foldN 0 x = some d) (hb : ¬ badT d t = true) : foldN 0 (x ++ [t]) = some (d - (arityF t.1).toNat + 1) := by
  rw [foldN_app, h, Option.bind_some, foldN, if_neg hb, foldN]
theorem nms_snoc {x : List Tm} {t : Tm} (h : ∀ t ∈ x, t.2.length ≤ 100) (ht : t.2.length ≤ 100) : ∀ u ∈ x ++ [t], u.2.length ≤ 100 := by
  intro u hu
  rcases List.mem_append.1 hu with q | q
  · exact h u q
  · obtain rfl := List.mem_singleton.1 q; exact ht
theorem role_ok {n : Int} (h : 0 ≤ n ∧ n < 4) : nameB (roleAt n) = true ∧ (roleAt n).length ≤ 100 := by
  obtain ⟨m, rfl⟩ : ∃ m : Nat, n = m := ⟨n.toNat, by omega⟩
  rcases m with _ | _ | _ | _ | m
  · exact ⟨by decide, by decide⟩
  · exact ⟨by decide, by decide⟩
  · exact ⟨by decide, by decide⟩
  · exact ⟨by decide, by decide⟩
  · omega
theorem class_ok {n : Int} (h : 0 ≤ n ∧ n < 4) : nameB (classAt n) = true ∧ (classAt n).length ≤ 100 := by
  obtain ⟨m, rfl⟩ : ∃ m : Nat, n = m := ⟨n.toNat, by omega⟩
  rcases m with _ | _ | _ | _ | m
  · exact ⟨by decide, by decide⟩
  · exact ⟨by decide, by decide⟩
  · exact ⟨by decide, by decide⟩
  · exact ⟨by decide, by decide⟩
  · omega
theorem stepC_ok {l : List Int} {s : Cs} (h : OkC s) : OkC (stepC l s) := by
  obtain ⟨c1, c2⟩ := dkN_rng l s.a 5 (by decide)
  have r4 := dkN_rng l (dkA l s.a) 4 (by decide)
  have hR := role_ok r4
  have hC := class_ok r4
  rw [stepC]
  generalize dkN l s.a 5 = c at c1 c2 ⊢
  split
  · rename_i hA
    have hb : ¬ badT s.dep (3, []) = true := by simp [badT, arityF]; omega
    refine ⟨?_, fun h0 => by simp only at h0; omega, nms_snoc h.nms (by simp)⟩
    have := foldN_snoc h.fold hb
    simp only
    rw [this]
    simp [arityF]
    omega
  split
  · rename_i hA hB
    have hk : c = 1 ∨ c = 2 := by omega
    have har : arityF (4 + c - 1) = 2 := by rcases hk with rfl | rfl <;> rfl
    have hb : ¬ badT s.dep (4 + c - 1, []) = true := by simp [badT, har]; omega
    refine ⟨?_, fun h0 => by simp only at h0; omega, nms_snoc h.nms (by simp)⟩
    have := foldN_snoc h.fold hb
    simp only at this ⊢
    rw [this, har]
    congr 1
    omega
  split
  · have hb : ¬ badT s.dep (2, classAt (dkN l (dkA l s.a) 4)) = true := by simp [badT, arityF, hC.1]
    refine ⟨?_, fun h0 => by simp only at h0; omega, nms_snoc h.nms hC.2⟩
    have := foldN_snoc h.fold hb
    simp only at this ⊢
    rw [this]
    rfl
  · have hb : ¬ badT s.dep (1, roleAt (dkN l (dkA l s.a) 4)) = true := by simp [badT, arityF, hR.1]
    refine ⟨?_, fun h0 => by simp only at h0; omega, nms_snoc h.nms hR.2⟩
    have := foldN_snoc h.fold hb
    simp only at this ⊢
    rw [this]
    rfl
theorem runC_ok {l : List Int} : ∀ (k : Nat) (s : Cs), OkC s → OkC (runC l k s)
  | 0, s, h => h
  | k + 1, s, h => runC_ok k _ (stepC_ok h)
theorem endC_ok {l : List Int} : ∀ (k : Nat) (s : Cs), OkC s → k = s.dep - 1 → OkC (endC l k s) ∧ (endC l k s).dep ≤ 1
  | 0, s, h, hk => ⟨h, by rw [endC]; omega⟩
  | k + 1, s, h, hk => by
    obtain ⟨c1, c2⟩ := dkN_rng l s.a 2 (by decide)
    rw [endC]
    generalize dkN l s.a 2 = c at c1 c2 ⊢
    have hk2 : c = 0 ∨ c = 1 := by omega
    have har : arityF (4 + c) = 2 := by rcases hk2 with rfl | rfl <;> rfl
    have hb : ¬ badT s.dep (4 + c, []) = true := by simp [badT, har]; omega
    refine endC_ok k _ ⟨?_, fun h0 => by simp only at h0; omega, nms_snoc h.nms (by simp)⟩ (by simp only; omega)
    have := foldN_snoc h.fold hb
    simp only at this ⊢
    rw [this, har]
    congr 1
    omega
theorem condL_ok (l : List Int) (a : Nat) : (condL l a = [] ∨ Prop1 (condL l a)) ∧ (condL l a).length ≤ 16 ∧ ∀ t ∈ condL l a, t.2.length ≤ 100 := by
  have h0 : OkC ⟨dkA l a, [], 0⟩ := ⟨rfl, fun _ => rfl, fun t ht => by simp at ht⟩
  have h1 := runC_ok (l := l) (dkN l a 9).toNat _ h0
  obtain ⟨h2, h3⟩ := endC_ok (l := l) _ _ h1 Z
  have h4 : fullC l a = endC l ((runC l (dkN l a 9).toNat ⟨dkA l a, [], 0⟩).dep - 1) (runC l (dkN l a 9).toNat ⟨dkA l a, [], 0⟩) := rfl
  rw [← h4] at h2 h3
  rw [condL]
  split
  · exact ⟨.inl Z, by simp, fun t ht => by simp at ht⟩
  · refine ⟨?_, by omega, h2.nms⟩
    rcases Nat.eq_zero_or_pos (fullC l a).dep with q | q
    · exact .inl (h2.nil q)
    · refine .inr ?_
      rw [Prop1, h2.fold]
      congr 1
      omega
end Go.Proofs.YtpacgphnpalepaaDoor
