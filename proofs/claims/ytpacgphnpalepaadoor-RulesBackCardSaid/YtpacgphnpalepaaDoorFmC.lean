/-
  Walks of the rules that the dice make.
-/
import Derived.Test.YtpacgphnpalepaaDoorQAA
import Derived.Test.YtpacgphnpalepaaDoorQAP
import Derived.Test.YtpacgphnpalepaaDoorQBH
import Derived.Test.YtpacgphnpalepaaDoorQAM
namespace Go.Proofs.YtpacgphnpalepaaDoor
set_option linter.unusedVariables false
set_option linter.unusedSimpArgs false
set_option maxHeartbeats 4000000 in
theorem Range_c (l : List Int) (hl : Fits l) (a : Nat) (ha : a ≤ l.length) (lo hi : Int) (h1 : 0 ≤ lo ∧ lo ≤ hi) (h2 : hi ≤ 1000000) : ACalls Tryd.prog 42 [.ptr 0 0, .v (.int .i64 lo), .v (.int .i64 hi)] [dkR l a] (.v (.int .i64 (lo + dkN l a (hi - lo + 1)))) [dkR l (dkA l a)] := by
  have hN := Next_c l hl a ha (hi - lo + 1) (by omega)
  obtain ⟨g1, g2⟩ := dkN_rng l a (hi - lo + 1) (by omega)
  refine (ACalls.of (fn := Tryd.f42) Tryd.func42 Z Z Tryd.ntmps42 (fun I M w own => ?_))
  (repeat' (first|refine AW.seq_k (fun K hK=>?_)|(refine hK _ ?_;clear hK)|refine AW.ret ?_|refine AW.region ?_|refine Run.cSA [0] hN Z Z Z Z Z Z Z Z Z Z Z Z ?_|refine UA ?_|fail))
  ((first|refine RetOk.tupS [0] Z Z Z Z Z ?_ ?_|refine RetOk.oneS [0] Z Z Z Z ?_ ?_)<;>(repeat' (first|exact V0|refine V1 ?_|refine V2 ?_ ?_|fail)))
def ruK (l : List Int) (a : Nat) : Int := 1 + dkN l a 3
def ruRo (l : List Int) (a : Nat) : Wd := if dkN l (condA l (dkA l (dkA l a))) 4 = 0 then wAny else roleAt (dkN l (dkA l a) 4)
def ruA4 (l : List Int) (a : Nat) : Nat := dkA l (condA l (dkA l (dkA l a)))
def ruL (l : List Int) (a : Nat) : Ru := ⟨⟨ruK l a, ruRo l a, if ruK l a = 1 then classAt (dkN l (ruA4 l a) 4) else [], if ruK l a = 2 then dkN l (ruA4 l a) 101 else 0⟩, condL l (dkA l (dkA l a))⟩
def ruA (l : List Int) (a : Nat) : Nat := if ruK l a = 3 then ruA4 l a else dkA l (ruA4 l a)
theorem ruA4_le {l : List Int} {a : Nat} (h : a ≤ l.length) : ruA4 l a ≤ l.length := dkA_le (condA_le _ _ (dkA_le (dkA_le h)))
theorem ruA_le {l : List Int} {a : Nat} (h : a ≤ l.length) : ruA l a ≤ l.length := by
  rw [ruA]
  split
  · exact ruA4_le h
  · exact dkA_le (ruA4_le h)
set_option maxHeartbeats 4000000 in
theorem Rule_c (l : List Int) (hl : Fits l) (a : Nat) (ha : a ≤ l.length) : ACalls Tryd.prog 21 [.ptr 0 0] [dkR l a] (.agg (ruL l a).cells) [dkR l (ruA l a)] := by
  have r1 := Range_c l hl a ha 1 3 (by decide) (by decide)
  have q1 := dkN_rng l a 3 (by decide)
  have b1 := dkA_le ha
  have r2 := Role_c l hl (dkA l a) b1
  have b2 := dkA_le b1
  have r3 := Cond_c l hl (dkA l (dkA l a)) b2
  have b3 := condA_le l (dkA l (dkA l a)) b2
  have r4 := Next_c l hl (condA l (dkA l (dkA l a))) b3 4 (by decide)
  have b4 : ruA4 l a ≤ l.length := ruA4_le ha
  have r5 := Class_c l hl (ruA4 l a) b4
  have r6 := Next_c l hl (ruA4 l a) b4 101 (by decide)
  generalize hR : ruL l a = R
  generalize hA : ruA l a = A
  rw [ruL, ruRo] at hR
  rw [ruA] at hA
  rw [show (3 : Int) - 1 + 1 = 3 by decide] at r1
  change ACalls _ _ _ _ (.v (.int .i64 (ruK l a))) _ at r1
  change ACalls _ _ _ _ _ [dkR l (ruA4 l a)] at r4
  have qk : ruK l a = 1 ∨ ruK l a = 2 ∨ ruK l a = 3 := by rw [ruK]; omega
  generalize ruK l a = k at r1 hR hA qk
  generalize ruA4 l a = a4 at r4 r5 r6 hR hA
  generalize dkN l (condA l (dkA l (dkA l a))) 4 = z at r4 hR
  generalize condA l (dkA l (dkA l a)) = a3 at r3 r4
  generalize condL l (dkA l (dkA l a)) = co at r3 hR
  generalize dkN l (dkA l a) 4 = ro at r2 hR
  generalize dkA l (dkA l a) = a2 at r2 r3
  generalize dkA l a = a1 at r1 r2
  have fin : ∀ y : Hd × List Tm, R = ⟨y.1, y.2⟩ → R.cells = y.1.cells ++ [.sl 2 (tmP y.2) false] := fun y e => by rw [e]
  refine (ACalls.of (fn := Tryd.f21) Tryd.func21 Z Z Tryd.ntmps21 (fun I M w own => ?_))
  by_cases hz : z = 0
  · rw [if_pos hz] at hR
    rcases qk with h | h | h
    · rw [if_pos h, if_neg (by omega)] at hR
      rw [if_neg (by omega)] at hA
      have d2 : ¬ k = 2 := by omega
      subst hR hA
      (repeat' (first|refine AW.seq_k (fun K hK=>?_)|(refine hK _ ?_;clear hK)|refine AW.uC (fun hc=>?_) (fun hc=>?_)|refine AW.block ?_|refine AW.ret ?_|exact trivial|refine AW.rI [0, 1, 2, 3, 4, 5, 6, 9] Z ?_|refine Run.cSA [0] r1 Z Z Z Z Z Z Z Z Z Z Z Z ?_|refine Run.cSA [0] r2 Z Z Z Z Z Z Z Z Z Z Z Z ?_|refine Run.cSA [0] r3 Z Z Z Z Z Z Z Z Z Z Z Z ?_|refine Run.cSA [0] r4 Z Z Z Z Z Z Z Z Z Z Z Z ?_|refine Run.cSA [0] r5 Z Z Z Z Z Z Z Z Z Z Z Z ?_|refine Ud ?_|fail))
      ((first|refine RetOk.tupS [0] Z Z Z Z Z ?_ ?_|refine RetOk.oneS [0] Z Z Z Z ?_ ?_)<;>(repeat' (first|exact V0|refine V1 ?_|refine V2 ?_ ?_|fail)))
    · rw [if_neg (by omega), if_pos h] at hR
      rw [if_neg (by omega)] at hA
      have d1 : ¬ k = 1 := by omega
      subst hR hA
      (repeat' (first|refine AW.seq_k (fun K hK=>?_)|(refine hK _ ?_;clear hK)|refine AW.uC (fun hc=>?_) (fun hc=>?_)|refine AW.block ?_|refine AW.ret ?_|exact trivial|refine AW.rI [0, 1, 2, 3, 4, 5, 7, 8, 9] Z ?_|refine Run.cSA [0] r1 Z Z Z Z Z Z Z Z Z Z Z Z ?_|refine Run.cSA [0] r2 Z Z Z Z Z Z Z Z Z Z Z Z ?_|refine Run.cSA [0] r3 Z Z Z Z Z Z Z Z Z Z Z Z ?_|refine Run.cSA [0] r4 Z Z Z Z Z Z Z Z Z Z Z Z ?_|refine Run.cSA [0] r6 Z Z Z Z Z Z Z Z Z Z Z Z ?_|refine Ud ?_|fail))
      ((first|refine RetOk.tupS [0] Z Z Z Z Z ?_ ?_|refine RetOk.oneS [0] Z Z Z Z ?_ ?_)<;>(repeat' (first|exact V0|refine V1 ?_|refine V2 ?_ ?_|fail)))
    · rw [if_neg (by omega), if_neg (by omega)] at hR
      rw [if_pos h] at hA
      have d1 : ¬ k = 1 := by omega
      have d2 : ¬ k = 2 := by omega
      subst hR hA
      (repeat' (first|refine AW.seq_k (fun K hK=>?_)|(refine hK _ ?_;clear hK)|refine AW.uC (fun hc=>?_) (fun hc=>?_)|refine AW.block ?_|refine AW.ret ?_|refine AW.skip ?_|exact trivial|refine AW.rI [0, 1, 2, 3, 4, 5, 7, 9] Z ?_|refine Run.cSA [0] r1 Z Z Z Z Z Z Z Z Z Z Z Z ?_|refine Run.cSA [0] r2 Z Z Z Z Z Z Z Z Z Z Z Z ?_|refine Run.cSA [0] r3 Z Z Z Z Z Z Z Z Z Z Z Z ?_|refine Run.cSA [0] r4 Z Z Z Z Z Z Z Z Z Z Z Z ?_|refine Ud ?_|fail))
      ((first|refine RetOk.tupS [0] Z Z Z Z Z ?_ ?_|refine RetOk.oneS [0] Z Z Z Z ?_ ?_)<;>(repeat' (first|exact V0|refine V1 ?_|refine V2 ?_ ?_|fail)))
  · rw [if_neg hz] at hR
    rcases qk with h | h | h
    · rw [if_pos h, if_neg (by omega)] at hR
      rw [if_neg (by omega)] at hA
      have d2 : ¬ k = 2 := by omega
      subst hR hA
      (repeat' (first|refine AW.seq_k (fun K hK=>?_)|(refine hK _ ?_;clear hK)|refine AW.uC (fun hc=>?_) (fun hc=>?_)|refine AW.block ?_|refine AW.ret ?_|refine AW.skip ?_|exact trivial|refine AW.rI [0, 1, 2, 4, 5, 6, 9] Z ?_|refine Run.cSA [0] r1 Z Z Z Z Z Z Z Z Z Z Z Z ?_|refine Run.cSA [0] r2 Z Z Z Z Z Z Z Z Z Z Z Z ?_|refine Run.cSA [0] r3 Z Z Z Z Z Z Z Z Z Z Z Z ?_|refine Run.cSA [0] r4 Z Z Z Z Z Z Z Z Z Z Z Z ?_|refine Run.cSA [0] r5 Z Z Z Z Z Z Z Z Z Z Z Z ?_|refine Ud ?_|fail))
      ((first|refine RetOk.tupS [0] Z Z Z Z Z ?_ ?_|refine RetOk.oneS [0] Z Z Z Z ?_ ?_)<;>(repeat' (first|exact V0|refine V1 ?_|refine V2 ?_ ?_|fail)))
    · rw [if_neg (by omega), if_pos h] at hR
      rw [if_neg (by omega)] at hA
      have d1 : ¬ k = 1 := by omega
      subst hR hA
      (repeat' (first|refine AW.seq_k (fun K hK=>?_)|(refine hK _ ?_;clear hK)|refine AW.uC (fun hc=>?_) (fun hc=>?_)|refine AW.block ?_|refine AW.ret ?_|refine AW.skip ?_|exact trivial|refine AW.rI [0, 1, 2, 4, 5, 7, 8, 9] Z ?_|refine Run.cSA [0] r1 Z Z Z Z Z Z Z Z Z Z Z Z ?_|refine Run.cSA [0] r2 Z Z Z Z Z Z Z Z Z Z Z Z ?_|refine Run.cSA [0] r3 Z Z Z Z Z Z Z Z Z Z Z Z ?_|refine Run.cSA [0] r4 Z Z Z Z Z Z Z Z Z Z Z Z ?_|refine Run.cSA [0] r6 Z Z Z Z Z Z Z Z Z Z Z Z ?_|refine Ud ?_|fail))
      ((first|refine RetOk.tupS [0] Z Z Z Z Z ?_ ?_|refine RetOk.oneS [0] Z Z Z Z ?_ ?_)<;>(repeat' (first|exact V0|refine V1 ?_|refine V2 ?_ ?_|fail)))
    · rw [if_neg (by omega), if_neg (by omega)] at hR
      rw [if_pos h] at hA
      have d1 : ¬ k = 1 := by omega
      have d2 : ¬ k = 2 := by omega
      subst hR hA
      (repeat' (first|refine AW.seq_k (fun K hK=>?_)|(refine hK _ ?_;clear hK)|refine AW.uC (fun hc=>?_) (fun hc=>?_)|refine AW.block ?_|refine AW.ret ?_|refine AW.skip ?_|exact trivial|refine AW.rI [0, 1, 2, 4, 5, 7, 9] Z ?_|refine Run.cSA [0] r1 Z Z Z Z Z Z Z Z Z Z Z Z ?_|refine Run.cSA [0] r2 Z Z Z Z Z Z Z Z Z Z Z Z ?_|refine Run.cSA [0] r3 Z Z Z Z Z Z Z Z Z Z Z Z ?_|refine Run.cSA [0] r4 Z Z Z Z Z Z Z Z Z Z Z Z ?_|refine Ud ?_|fail))
      ((first|refine RetOk.tupS [0] Z Z Z Z Z ?_ ?_|refine RetOk.oneS [0] Z Z Z Z ?_ ?_)<;>(repeat' (first|exact V0|refine V1 ?_|refine V2 ?_ ?_|fail)))
def rusL (l : List Int) : Nat → Nat → List Ru → List Ru × Nat
  | 0, a, o => (o, a)
  | k + 1, a, o => rusL l k (ruA l a) (o ++ [ruL l a])
def rulesL (l : List Int) (a : Nat) : List Ru := (rusL l (dkN l a 6).toNat (dkA l a) []).1
def rulesA (l : List Int) (a : Nat) : Nat := (rusL l (dkN l a 6).toNat (dkA l a) []).2
set_option maxHeartbeats 4000000 in
theorem Rules_c (l : List Int) (hl : Fits l) (a : Nat) (ha : a ≤ l.length) : ACalls Tryd.prog 8 [.ptr 0 0] [dkR l a] (.sl 5 (ruP (rulesL l a)) false) [dkR l (rulesA l a)] := by
  have hN := Next_c l hl a ha 6 (by decide)
  have hk := dkN_rng l a 6 (by decide)
  generalize hR : rulesL l a = R
  generalize hA : rulesA l a = A
  rw [rulesL] at hR
  rw [rulesA] at hA
  have b1 := dkA_le ha
  generalize dkN l a 6 = k0 at hN hk hR hA
  generalize dkA l a = a1 at hN b1 hR hA
  obtain ⟨k0, rfl⟩ : ∃ k : Nat, k0 = (k : Int) := ⟨k0.toNat, by omega⟩
  simp only [Int.toNat_natCast] at hR hA
  refine (ACalls.of (fn := Tryd.f8) Tryd.func8 Z Z Tryd.ntmps8 (fun I M w own => ?_))
  (repeat' (first|refine AW.seq_k (fun K hK=>?_)|(refine hK _ ?_;clear hK)|refine AW.block ?_|refine AW.rI [0, 1, 2] Z ?_|refine Run.cSA [0] hN Z Z Z Z Z Z Z Z Z Z Z Z ?_|refine UA ?_|fail))
  refine AW.loopF (X := Nat × Nat × List Ru) (fun y => ⟨[(0, .ptr 0 0), (3, .row 1 (ruP y.2.2).length), (4, .v (.int .i64 (y.1 : Int)))], [dkR l y.2.1, .row 5 (ruP y.2.2)]⟩)
    (fun y => y.2.1 ≤ l.length ∧ y.1 + y.2.2.length = k0 ∧ rusL l y.1 y.2.1 y.2.2 = (R, A)) (fun y => y.1) (k0, a1, []) ?_ ⟨b1, rfl, by rw [← hR, ← hA]⟩ ?_
  · refine Conv.own 3 5 [] (Or.inr ⟨rfl, rfl⟩) ?_
    refine Conv.mk [0, 1] Z Z Z ?_ Z ?_
    · (repeat' (first|exact V0|refine V3 ?_|refine V2 ?_ ?_|fail))
    · (repeat' (first|exact V0|refine V3 ?_|refine V2 ?_ ?_|fail))
      all_goals rfl
  rintro ⟨k, a, o⟩ ⟨j1, j2, j3⟩
  simp only at j1 j2 j3 ⊢
  have hol : (ruP o).length = o.length := by simp
  cases k with
  | succ k =>
    have hgt : ((k + 1 : Nat) : Int) > 0 := by omega
    have hRu := Rule_c l hl a j1
    have hb := ruA_le j1
    rw [rusL] at j3
    generalize ruL l a = r at hRu j3
    generalize ruA l a = a' at hRu j3 hb
    (repeat' (first|refine AW.seq_k (fun K hK=>?_)|(refine hK _ ?_;clear hK)|refine AW.uC (fun hc=>?_) (fun hc=>?_)|refine AW.block ?_|refine AW.skip ?_|exact trivial|refine AW.rI [3, 5, 4] Z ?_|refine Run.cSA [0] hRu Z Z Z Z Z Z Z Z Z Z Z Z ?_|refine Ud ?_|fail))
    ((repeat (with_reducible refine inB_n ?_)); refine thenA_n ?_)
    refine ⟨(k, a', o ++ [r]), ⟨hb, by simp only [List.length_append, List.length_singleton]; omega, j3⟩, by simp only; omega, ?_⟩
    refine Conv.mk [0, 1] Z Z Z ?_ Z ?_
    · (repeat' (first|exact V0|refine V3 ?_|refine V2 ?_ ?_|fail))
      all_goals first | rfl | (refine Cv.eq ?_; simp [AV.ren, renL]; done) | (refine Cv.eq ?_; simp [AV.ren, renL]; exact IntWalk.i64_in _ (by omega))
    · (repeat' (first|exact V0|refine V3 ?_|refine V2 ?_ ?_|fail))
      all_goals first | rfl | (simp; done)
  | zero =>
    have hng : ¬ ((0 : Nat) : Int) > 0 := by omega
    rw [rusL] at j3
    obtain ⟨rfl, rfl⟩ : o = R ∧ a = A := by simpa using j3
    (repeat' (first|refine AW.seq_k (fun K hK=>?_)|(refine hK _ ?_;clear hK)|refine AW.uC (fun hc=>?_) (fun hc=>?_)|refine AW.exit ?_|refine AW.ret ?_|(clear hK;refine hK _ ?_;clear hK)|exact trivial|refine AW.rI [3, 6] Z ?_|refine Ud ?_|fail))
    ((first|refine RetOk.tupS [0] Z Z Z Z Z ?_ ?_|refine RetOk.oneS [0] Z Z Z Z ?_ ?_)<;>(repeat' (first|exact V0|refine V1 ?_|refine V2 ?_ ?_|fail)))
    all_goals rfl
end Go.Proofs.YtpacgphnpalepaaDoor
