/-
  Walks of chapter 41: sessions of the dice, changed records, many records.
-/
import Derived.Test.YtbbcokckealagaaGreatQAA
import Derived.Test.YtbbcokckealagaaGreatQCH
import Derived.Test.YtbbcokckealagaaGreatQCI
import Derived.Test.YtbbcokckealagaaGreatASh
namespace Go.Proofs.YtbbcokckealagaaGreat
set_option linter.unusedVariables false
set_option linter.unusedSimpArgs false
theorem recTx_len (n : Nat) : (recTx n).length ≤ 100 := by
  rcases n with _ | _ | _ | n
  all_goals simp [recTx]
theorem recP_ok (l : List Int) (a : Nat) (ha : a ≤ l.length) : (recP l a).1.ok ∧ (recP l a).1.text.length ≤ 100 ∧ (recP l a).2 ≤ l.length := by
  rw [recP]
  have b1 := dkA_le ha
  generalize dkA l a = a1 at b1
  generalize kindAt (dkN l a 9).toNat = k
  have b2 := dkA_le b1
  have b3 := dkA_le b2
  have b4 := dkA_le b3
  have b5 := dkA_le b4
  have b6 := dkA_le b5
  have hro : ∀ n, (roleAt n).length ≤ 9223372036854775807 := by
    intro n
    have h : (roleAt n).length ≤ 100 := by
      rw [roleAt]
      rcases n.toNat with _ | _ | _ | _ | m
      all_goals first | decide | simp [roleL]
    omega
  obtain ⟨c1, c2, c3⟩ := choiceP_ok l a1 b1
  rw [recB]
  split
  · exact ⟨⟨hro _, by simp, by simp⟩, by simp, b6⟩
  split
  · exact ⟨⟨by simp, by simp, by simp⟩, by simp, b2⟩
  split
  · exact ⟨⟨by simp, by simp, by simp⟩, by simp, b3⟩
  split
  · exact ⟨⟨by simp, by simp, by simp⟩, by simp, b3⟩
  split
  · exact ⟨⟨by simp, by simp, by simp⟩, by simp, b3⟩
  split
  · exact ⟨⟨c2.1, c2.2, by simp⟩, by simp, c3⟩
  · have := recTx_len (dkN l a1 3).toNat
    exact ⟨⟨by simp, by simp, by simp only; omega⟩, this, b2⟩
theorem rap_c (s : Se) (r : Rc) (hs : s.ok) (ha : Asc s.streams) (ho : r.ok) (ht : r.text.length ≤ 1099511627776) : ACalls Tryz.prog 15 [.agg s.cells, .agg r.cells] [] (.tup [.agg (applyP okR s r).1.cells, .v (.int .i64 (applyP okR s r).2)]) [] := by
  rw [apply_eq okR s r ha]
  exact rApply_c okR s r hs ho (ps_ref r ht)
def badP (r : Rc) (w : Int) : Rc :=
  if w % 8 = 0 then { r with kind := w % 10 } else if w % 8 = 1 then { r with id := -1 } else if w % 8 = 2 then { r with n := 200 } else if w % 8 = 3 then { r with text := [114, 111, 117, 116, 101, 10] }
  else if w % 8 = 4 then { r with set := 9 :: r.set } else if w % 8 = 5 then { r with lat := -5 } else if w % 8 = 6 then { r with dev := IntKind.u64.wrap (r.dev + 1) } else r
def sesGo (l : List Int) : Nat → Nat → Se → List Rc → Se × List Rc × Nat
  | 0, a, s, o => (s, o, a)
  | k + 1, a, s, o => if (applyP okR s (recP l a).1).2 = 0 then sesGo l k (recP l a).2 (applyP okR s (recP l a).1).1 (o ++ [(recP l a).1]) else sesGo l k (recP l a).2 s o
def sesP (l : List Int) (a : Nat) : Se × List Rc × Nat := sesGo l (dkN l a 14).toNat (dkA l a) Se.zero []
theorem sesGo_ok (l : List Int) : ∀ (k a : Nat) (s : Se) (o : List Rc), a ≤ l.length → s.ok → Asc s.streams → (sesGo l k a s o).1.ok ∧ Asc (sesGo l k a s o).1.streams ∧ (sesGo l k a s o).2.2 ≤ l.length
  | 0, a, s, o, h1, h2, h3 => ⟨h2, h3, h1⟩
  | k + 1, a, s, o, h1, h2, h3 => by
    have hb := (recP_ok l a h1).2.2
    rw [sesGo]
    split
    · exact sesGo_ok l k _ _ _ hb (applyP_ok h2) (applyP_asc h3)
    · exact sesGo_ok l k _ _ _ hb h2 h3
theorem sesP_ok (l : List Int) (a : Nat) (ha : a ≤ l.length) : (sesP l a).1.ok ∧ Asc (sesP l a).1.streams ∧ (sesP l a).2.2 ≤ l.length := sesGo_ok l _ _ _ _ (dkA_le ha) zero_ok List.Pairwise.nil
set_option maxHeartbeats 4000000 in
theorem Session_c (l : List Int) (hl : Fits l) (a : Nat) (ha : a ≤ l.length) : ACalls Tryz.prog 9 [.ptr 0 0] [dkR l a] (.tup [.agg (sesP l a).1.cells, .sl 11 (rcs (sesP l a).2.1) false]) [dkR l (sesP l a).2.2] := by
  have hN := Next_c l hl a ha 14 (by decide)
  have hk := dkN_rng l a 14 (by decide)
  have b1 := dkA_le ha
  generalize hR : sesP l a = R
  rw [sesP] at hR
  generalize dkA l a = a1 at hN b1 hR
  generalize dkN l a 14 = k0 at hN hk hR
  obtain ⟨k0, rfl⟩ : ∃ k : Nat, k0 = (k : Int) := ⟨k0.toNat, by omega⟩
  rw [Int.toNat_natCast] at hR
  refine (ACalls.of (fn := Tryz.f9) Tryz.func9 O O Tryz.ntmps9 (fun I M w own => ?_))
  (repeat' (first|refine AW.seq_k (fun K hK=>?_)|(refine hK _ ?_;clear hK)|refine AW.block ?_|refine AW.rI [0, 1, 2, 3] O ?_|refine Run.cSA [0] hN O O O O O O O O O O O O ?_|refine UA ?_|fail))
  refine AW.loopF (X := Nat × Nat × Se × List Rc) (fun y => ⟨[(0, .ptr 0 0), (2, .ptr 1 0), (4, .ptr 2 0), (5, .row 3 (rcs y.2.2.2).length), (6, .v (.int .i64 (y.1 : Int)))], [dkR l y.2.1, .box [.v (.slice none 0 0), .v (.slice none 0 0), .v (.string (bs []))], .box y.2.2.1.cells, .row 11 (rcs y.2.2.2)]⟩)
    (fun y => y.2.1 ≤ l.length ∧ y.2.2.1.ok ∧ Asc y.2.2.1.streams ∧ y.1 + y.2.2.2.length ≤ k0 ∧ sesGo l y.1 y.2.1 y.2.2.1 y.2.2.2 = R) (fun y => y.1) (k0, a1, Se.zero, []) ?_ ⟨b1, zero_ok, List.Pairwise.nil, Nat.le_refl _, hR⟩ ?_
  · refine Conv.own 5 11 [] (Or.inr ⟨rfl, rfl⟩) ?_
    refine Conv.mk [0, 1, 2, 3] O O O ?_ O ?_
    · (repeat' (first|exact V0|refine V3 ?_|refine V2 ?_ ?_|fail))
      all_goals first | rfl | (refine Cv.eq ?_; rfl)
    · (repeat' (first|exact V0|refine V3 ?_|refine V2 ?_ ?_|fail))
      (all_goals (try (first|refine CvL.eq ?_|refine Cv.eq ?_)))
      all_goals first | rfl | (simp [AV.ren, renL, Se.zero]; done)
  rintro ⟨k, a, s, o⟩ ⟨h1, h2, h3, h4, h5⟩
  simp only at h1 h2 h3 h4 h5 ⊢
  have hol : (rcs o).length = o.length := by simp
  cases k with
  | succ k =>
    have hgt : ((k + 1 : Nat) : Int) > 0 := by omega
    have hRe := Record_c l hl a h1
    obtain ⟨g1, g2, g3⟩ := recP_ok l a h1
    rw [sesGo] at h5
    generalize recP l a = q at hRe g1 g2 g3 h5
    obtain ⟨r, a'⟩ := q
    simp only at hRe g1 g2 g3 h5
    have hap := rap_c s r h2 h3 g1 (by omega)
    have hok := applyP_ok (okT := okR) (r := r) h2
    have has := applyP_asc (okT := okR) (r := r) h3
    generalize applyP okR s r = q at hap hok has h5
    obtain ⟨s', e⟩ := q
    simp only at hap hok has h5
    by_cases he : e = 0
    · rw [if_pos he] at h5
      (repeat' (first|refine AW.seq_k (fun K hK=>?_)|(refine hK _ ?_;clear hK)|refine AW.uC (fun hc=>?_) (fun hc=>?_)|refine AW.block ?_|refine AW.skip ?_|exact trivial|refine AW.draw (id := 9) (by kernel_rfl) ?_|refine AW.rI [4, 6, 7, 8, 5] O ?_|refine Run.cSA [0] hRe O O O O O O O O O O O O ?_|refine Run.c0 hap O O O O O O O O ?_|refine Ud ?_|fail))
      ((repeat (with_reducible refine inB_n ?_)); refine thenA_n ?_)
      refine ⟨(k, a', s', o ++ [r]), ⟨g3, hok, has, by simp only [List.length_append, List.length_singleton]; omega, h5⟩, by simp only; omega, ?_⟩
      refine Conv.mk [0, 1, 2, 3] O O O ?_ O ?_
      · (repeat' (first|exact V0|refine V3 ?_|refine V2 ?_ ?_|fail))
        all_goals first | rfl | (refine Cv.eq ?_; simp [AV.ren, renL]; done) | (refine Cv.eq ?_; simp [AV.ren, renL]; exact IntWalk.i64_in _ (by omega))
      · (repeat' (first|exact V0|refine V3 ?_|refine V2 ?_ ?_|fail))
        all_goals first | rfl | (simp; done)
    · rw [if_neg he] at h5
      (repeat' (first|refine AW.seq_k (fun K hK=>?_)|(refine hK _ ?_;clear hK)|refine AW.uC (fun hc=>?_) (fun hc=>?_)|refine AW.block ?_|refine AW.skip ?_|exact trivial|refine AW.rI [4, 6, 7, 8, 5] O ?_|refine Run.cSA [0] hRe O O O O O O O O O O O O ?_|refine Run.c0 hap O O O O O O O O ?_|refine Ud ?_|fail))
      ((repeat (with_reducible refine inB_n ?_)); refine thenA_n ?_)
      refine ⟨(k, a', s, o), ⟨g3, h2, h3, by simp only; omega, h5⟩, by simp only; omega, ?_⟩
      refine Conv.mk [0, 1, 2, 3] O O O ?_ O ?_
      · (repeat' (first|exact V0|refine V3 ?_|refine V2 ?_ ?_|fail))
        all_goals first | rfl | (refine Cv.eq ?_; simp [AV.ren, renL]; done) | (refine Cv.eq ?_; simp [AV.ren, renL]; exact IntWalk.i64_in _ (by omega))
      · (repeat' (first|exact V0|refine V3 ?_|refine V2 ?_ ?_|fail))
        all_goals first | rfl | (simp; done)
  | zero =>
    have hng : ¬ ((0 : Nat) : Int) > 0 := by omega
    rw [sesGo] at h5
    subst h5
    (repeat' (first|refine AW.seq_k (fun K hK=>?_)|(refine hK _ ?_;clear hK)|refine AW.uC (fun hc=>?_) (fun hc=>?_)|refine AW.exit ?_|refine AW.ret ?_|(clear hK;refine hK _ ?_;clear hK)|exact trivial|refine AW.rI [4, 10] O ?_|refine Ud ?_|fail))
    ((first|refine RetOk.tupS [0] O O O O O ?_ ?_|refine RetOk.oneS [0] O O O O ?_ ?_)<;>(repeat' (first|exact V0|refine V1 ?_|refine V2 ?_ ?_|fail)))
    all_goals first | rfl | (refine Cv.eq ?_; rfl)
theorem replay_ok {okT : List UInt8 → Bool} : ∀ (l : List Rc) (s : Se) (n : Nat), s.ok → (replayGo okT l s n).1.ok
  | [], s, n, h => h
  | r :: t, s, n, h => by
    rw [replayGo]
    split
    · exact replay_ok t _ _ (applyP_ok h)
    · exact h
theorem sFits_of (xs : List (List PV)) (w : xs.length ≤ maxLen) (h : ∀ x ∈ xs, (Sh.int .i64).fits x) : ∃ l, xs = ivs l ∧ Fits l := by
  obtain ⟨l, rfl, hl⟩ := ints_of .i64 xs h
  exact ⟨l, rfl, by simpa [maxLen] using w, fun n hn => wfi64 (hl n hn)⟩
abbrev recSh : Sh := .st [.int .i64, .int .i64, .str, .int .i64, .int .i64, .int .i64, .int .i64, .int .i64, .int .u64, .sl (.int .u64), .str]
end Go.Proofs.YtbbcokckealagaaGreat
