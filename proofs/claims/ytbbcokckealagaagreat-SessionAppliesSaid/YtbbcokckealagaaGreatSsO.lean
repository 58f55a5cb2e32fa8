/-
  Walk of the law SessionApplies.
-/
import Derived.Test.YtbbcokckealagaaGreatSsN
namespace Go.Proofs.YtbbcokckealagaaGreat
set_option linter.unusedVariables false
set_option linter.unusedSimpArgs false
def sesGo (l : List Int) : Nat → Nat → Se → List Rc → Se × List Rc × Nat
  | 0, a, s, o => (s, o, a)
  | k + 1, a, s, o => if (applyP okR s (recP l a).1).2 = 0 then sesGo l k (recP l a).2 (applyP okR s (recP l a).1).1 (o ++ [(recP l a).1]) else sesGo l k (recP l a).2 s o
def sesP (l : List Int) (a : Nat) : Se × List Rc × Nat := sesGo l (dkN l a 14).toNat (dkA l a) Se.zero []
theorem sesGo_ok (l : List Int) : ∀ (k a : Nat) (s : Se) (o : List Rc), a ≤ l.length → s.ok → Asc s.streams → (sesGo l k a s o).1.ok ∧ Asc (sesGo l k a s o).1.streams ∧ (sesGo l k a s o).2.2 ≤ l.length
  | 0, a, s, o, h1, h2, h3 => ⟨h2, h3, h1⟩
  | k + 1, a, s, o, h1, h2, h3 => by
    have hb := (recP_ok l a h1).2.2
    rw [sesGo]
    split
    · exact sesGo_ok l k _ _ _ hb (applyP_ok h2) (applyP_asc h3)
    · exact sesGo_ok l k _ _ _ hb h2 h3
theorem sesP_ok (l : List Int) (a : Nat) (ha : a ≤ l.length) : (sesP l a).1.ok ∧ Asc (sesP l a).1.streams ∧ (sesP l a).2.2 ≤ l.length := sesGo_ok l _ _ _ _ (dkA_le ha) zero_ok List.Pairwise.nil
set_option maxHeartbeats 4000000 in
theorem Session_c (l : List Int) (hl : Fits l) (a : Nat) (ha : a ≤ l.length) : ACalls Tryz.prog 9 [.ptr 0 0] [dkR l a] (.tup [.agg (sesP l a).1.cells, .sl 11 (rcs (sesP l a).2.1) false]) [dkR l (sesP l a).2.2] := by
  have hN := Next_c l hl a ha 14 (by decide)
  have hk := dkN_rng l a 14 (by decide)
  have b1 := dkA_le ha
  generalize hR : sesP l a = R
  rw [sesP] at hR
  generalize dkA l a = a1 at hN b1 hR
  generalize dkN l a 14 = k0 at hN hk hR
  obtain ⟨k0, rfl⟩ : ∃ k : Nat, k0 = (k : Int) := ⟨k0.toNat, by omega⟩
  rw [Int.toNat_natCast] at hR
  refine (ACalls.of (fn := Tryz.f9) Tryz.func9 O O Tryz.ntmps9 (fun I M w own => ?_))
  (repeat' (first|refine AW.seq_k (fun K hK=>?_)|(refine hK _ ?_;clear hK)|refine AW.block ?_|refine rG 0 ?_|refine rG 1 ?_|refine rG 2 ?_|refine rG 3 ?_|refine Run.alA O O O O ?_|refine Run.q (OpP.asA O) ?_|refine Run.q (OpP.mvA O) ?_|refine Run.cSA [0] hN O O O O O O O O O O O O ?_|refine Run.fin O ?_))
  refine AW.loopF (X := Nat × Nat × Se × List Rc) (fun y => ⟨[(0, .ptr 0 0), (2, .ptr 1 0), (4, .ptr 2 0), (5, .row 3 (rcs y.2.2.2).length), (6, .v (.int .i64 (y.1 : Int)))], [dkR l y.2.1, .box [.v (.slice none 0 0), .v (.slice none 0 0), .v (.string (bs []))], .box y.2.2.1.cells, .row 11 (rcs y.2.2.2)]⟩)
    (fun y => y.2.1 ≤ l.length ∧ y.2.2.1.ok ∧ Asc y.2.2.1.streams ∧ y.1 + y.2.2.2.length ≤ k0 ∧ sesGo l y.1 y.2.1 y.2.2.1 y.2.2.2 = R) (fun y => y.1) (k0, a1, Se.zero, []) ?_ ⟨b1, zero_ok, List.Pairwise.nil, Nat.le_refl _, hR⟩ ?_
  · refine Conv.own 5 11 [] (Or.inr ⟨rfl, rfl⟩) ?_
    refine Conv.mk [0, 1, 2, 3] O O O ?_ O ?_
    · (repeat' (first|exact Cf.nil|exact Cv.refl|refine Cf.cons' (by (conv=>lhs;whnf)<;>rfl) ?_ ?_))
      all_goals first | rfl | (refine Cv.eq ?_; rfl)
    · (repeat' (first|exact CvL.refl _|exact Crs.nil|refine Crs.cons ?_ O ?_|refine Cr.row ?_|refine Cr.box ?_|exact Cv.nil|refine CvL.cons ?_ ?_))
      (all_goals (try (first|refine CvL.eq ?_|refine Cv.eq ?_)))
      all_goals first | rfl | (simp [AV.ren, renL, Se.zero]; done)
  rintro ⟨k, a, s, o⟩ ⟨h1, h2, h3, h4, h5⟩
  simp only at h1 h2 h3 h4 h5 ⊢
  have hol : (rcs o).length = o.length := by simp
  cases k with
  | succ k =>
    have hgt : ((k + 1 : Nat) : Int) > 0 := by omega
    have hRe := Record_c l hl a h1
    obtain ⟨g1, g2, g3⟩ := recP_ok l a h1
    rw [sesGo] at h5
    generalize recP l a = q at hRe g1 g2 g3 h5
    obtain ⟨r, a'⟩ := q
    simp only at hRe g1 g2 g3 h5
    have hap := rap_c s r h2 h3 g1 (by omega)
    have hok := applyP_ok (okT := okR) (r := r) h2
    have has := applyP_asc (okT := okR) (r := r) h3
    generalize applyP okR s r = q at hap hok has h5
    obtain ⟨s', e⟩ := q
    simp only at hap hok has h5
    by_cases he : e = 0
    · rw [if_pos he] at h5
      (repeat' (first|refine AW.seq_k (fun K hK=>?_)|(refine hK _ ?_;clear hK)|(refine AW.cond O (fun hc=>?_) (fun hc=>?_)<;>(try simp only [kA,kB,kC,kD,kE,kF,kG,kH,kI,kJ,kK,kL,kM,kN] at hc)<;>try (first|(exfalso;omega)|(cases hc;done)))|refine AW.block ?_|refine AW.skip ?_|refine rG 4 ?_|refine rG 6 ?_|refine rG 7 ?_|refine rG 8 ?_|refine AW.draw (id := 9) (by kernel_rfl) ?_|refine rG 5 ?_|refine Run.q (OpP.mvA O) ?_|refine Run.q (OpP.decT (OpP.gtt O O O) (by assumption)) ?_|refine Run.cSA [0] hRe O O O O O O O O O O O O ?_|refine Run.alA O O O O ?_|refine Run.stA O O O O O ?_|refine Run.ldNA O O O O O O O ?_|refine Run.c0 hap O O O O O O O O ?_|refine Run.q (OpP.extract O O O) ?_|refine Run.q (OpP.asA O) ?_|refine Run.q (OpP.decT (OpP.eq O O O) (by assumption)) ?_|refine Run.bsA O O O O O O ?_|refine Run.apRA O O O O O O O O O ?_|refine Run.q (OpP.subA O O O) ?_|refine Run.fin O ?_|refine Run.fin (by kernel_rfl) ?_))
      ((repeat (with_reducible refine inB_n ?_)); refine thenA_n ?_)
      refine ⟨(k, a', s', o ++ [r]), ⟨g3, hok, has, by simp only [List.length_append, List.length_singleton]; omega, h5⟩, by simp only; omega, ?_⟩
      refine Conv.mk [0, 1, 2, 3] O O O ?_ O ?_
      · (repeat' (first|exact Cf.nil|exact Cv.refl|refine Cf.cons' (by (conv=>lhs;whnf)<;>rfl) ?_ ?_))
        all_goals first | rfl | (refine Cv.eq ?_; simp [AV.ren, renL]; done) | (refine Cv.eq ?_; simp [AV.ren, renL]; exact IntWalk.i64_in _ (by omega))
      · (repeat' (first|exact CvL.refl _|exact Crs.nil|refine Crs.cons ?_ O ?_|refine Cr.row ?_|refine Cr.box ?_))
        all_goals first | rfl | (simp; done)
    · rw [if_neg he] at h5
      (repeat' (first|refine AW.seq_k (fun K hK=>?_)|(refine hK _ ?_;clear hK)|(refine AW.cond O (fun hc=>?_) (fun hc=>?_)<;>(try simp only [kA,kB,kC,kD,kE,kF,kG,kH,kI,kJ,kK,kL,kM,kN] at hc)<;>try (first|(exfalso;omega)|(cases hc;done)))|refine AW.block ?_|refine AW.skip ?_|refine rG 4 ?_|refine rG 6 ?_|refine rG 7 ?_|refine rG 8 ?_|refine rG 5 ?_|refine Run.q (OpP.mvA O) ?_|refine Run.q (OpP.decT (OpP.gtt O O O) (by assumption)) ?_|refine Run.cSA [0] hRe O O O O O O O O O O O O ?_|refine Run.alA O O O O ?_|refine Run.stA O O O O O ?_|refine Run.ldNA O O O O O O O ?_|refine Run.c0 hap O O O O O O O O ?_|refine Run.q (OpP.extract O O O) ?_|refine Run.q (OpP.asA O) ?_|refine Run.q (OpP.subA O O O) ?_|refine Run.q (OpP.decF (OpP.eq O O O) (by assumption)) ?_|refine Run.fin O ?_))
      ((repeat (with_reducible refine inB_n ?_)); refine thenA_n ?_)
      refine ⟨(k, a', s, o), ⟨g3, h2, h3, by simp only; omega, h5⟩, by simp only; omega, ?_⟩
      refine Conv.mk [0, 1, 2, 3] O O O ?_ O ?_
      · (repeat' (first|exact Cf.nil|exact Cv.refl|refine Cf.cons' (by (conv=>lhs;whnf)<;>rfl) ?_ ?_))
        all_goals first | rfl | (refine Cv.eq ?_; simp [AV.ren, renL]; done) | (refine Cv.eq ?_; simp [AV.ren, renL]; exact IntWalk.i64_in _ (by omega))
      · (repeat' (first|exact CvL.refl _|exact Crs.nil|refine Crs.cons ?_ O ?_|refine Cr.row ?_|refine Cr.box ?_))
        all_goals first | rfl | (simp; done)
  | zero =>
    have hng : ¬ ((0 : Nat) : Int) > 0 := by omega
    rw [sesGo] at h5
    subst h5
    (repeat' (first|refine AW.seq_k (fun K hK=>?_)|(refine hK _ ?_;clear hK)|(refine AW.cond O (fun hc=>?_) (fun hc=>?_)<;>(try simp only [kA,kB,kC,kD,kE,kF,kG,kH,kI,kJ,kK,kL,kM,kN] at hc)<;>try (first|(exfalso;omega)|(cases hc;done)))|refine AW.exit ?_|refine AW.ret ?_|(clear hK;refine hK _ ?_;clear hK)|refine rG 4 ?_|refine rG 10 ?_|refine Run.q (OpP.mvA O) ?_|refine Run.ldNA O O O O O O O ?_|refine Run.stA O O O O O ?_|refine Run.q (OpP.asA O) ?_|refine Run.q (OpP.decF (OpP.gtt O O O) (by assumption)) ?_|refine Run.fin O ?_))
    ((first|refine RetOk.tupS [0] O O O O O ?_ ?_|refine RetOk.oneS [0] O O O O ?_ ?_)<;>(repeat' (first|exact Cv.rowf O O|exact RetC.nil|exact CvL.refl _|exact Crs.nil|refine Crs.cons ?_ O ?_|refine Cr.box ?_|refine RetC.tmp (by (conv=>lhs;whnf)<;>rfl) ?_ ?_|refine RetC.cellN O O O (by repeat constructor) ?_ ?_)))
    all_goals first | rfl | (refine Cv.eq ?_; rfl)
set_option maxHeartbeats 4000000 in
theorem small_c (r : Rc) : ∃ b, (b = true → r.set.length ≤ 12 ∧ r.text.length ≤ 300 ∧ r.role.length ≤ 80) ∧ ACalls Tryz.prog 8 [.agg r.cells] [] (.v (.bool b)) [] := by
  have hsl : (ids r.set).length = r.set.length := by simp
  by_cases h1 : ((ids r.set).length : Int) ≤ 12
  · by_cases h2 : (r.text.length : Int) ≤ 300
    · by_cases h3 : (r.role.length : Int) ≤ 80
      · refine ⟨true, fun _ => ⟨by omega, by omega, by omega⟩, ?_⟩
        refine (ACalls.of (fn := Tryz.f8) Tryz.func8 O O Tryz.ntmps8 (fun I M w own => ?_))
        (repeat' (first|refine AW.seq_k (fun K hK=>?_)|(refine hK _ ?_;clear hK)|refine AW.ret ?_|refine rG 0 ?_|refine rG 1 ?_|refine Run.bxA O O O O ?_|refine Run.q (OpP.asA O) ?_|refine Run.q (OpP.fieldAddrA O O) ?_|refine Run.l O O O O O ?_|refine Run.ri O O O (OpRI.lenA O O) O ?_|refine Run.q (OpP.decT (OpP.lee O O O) (by assumption)) ?_|refine Run.q (OpP.mvA O) ?_|refine Run.q (OpP.lenStr O O) ?_|refine Run.q (OpP.pickA O O) ?_|refine Run.fin O ?_))
        ((first|refine RetOk.tup O O ?_|refine RetOk.one O ?_)<;>(repeat' (first|exact RetC.nil|exact Cv.refl|refine RetC.tmp (by (conv=>lhs;whnf)<;>rfl) ?_ ?_)))
      · refine ⟨false, by simp, ?_⟩
        refine (ACalls.of (fn := Tryz.f8) Tryz.func8 O O Tryz.ntmps8 (fun I M w own => ?_))
        (repeat' (first|refine AW.seq_k (fun K hK=>?_)|(refine hK _ ?_;clear hK)|refine AW.ret ?_|refine rG 0 ?_|refine rG 1 ?_|refine Run.bxA O O O O ?_|refine Run.q (OpP.asA O) ?_|refine Run.q (OpP.fieldAddrA O O) ?_|refine Run.l O O O O O ?_|refine Run.ri O O O (OpRI.lenA O O) O ?_|refine Run.q (OpP.decT (OpP.lee O O O) (by assumption)) ?_|refine Run.q (OpP.mvA O) ?_|refine Run.q (OpP.lenStr O O) ?_|refine Run.q (OpP.decF (OpP.lee O O O) (by assumption)) ?_|refine Run.q (OpP.pickA O O) ?_|refine Run.fin O ?_))
        ((first|refine RetOk.tup O O ?_|refine RetOk.one O ?_)<;>(repeat' (first|exact RetC.nil|exact Cv.refl|refine RetC.tmp (by (conv=>lhs;whnf)<;>rfl) ?_ ?_)))
    · refine ⟨false, by simp, ?_⟩
      refine (ACalls.of (fn := Tryz.f8) Tryz.func8 O O Tryz.ntmps8 (fun I M w own => ?_))
      (repeat' (first|refine AW.seq_k (fun K hK=>?_)|(refine hK _ ?_;clear hK)|refine AW.ret ?_|refine rG 0 ?_|refine rG 1 ?_|refine Run.bxA O O O O ?_|refine Run.q (OpP.asA O) ?_|refine Run.q (OpP.fieldAddrA O O) ?_|refine Run.l O O O O O ?_|refine Run.ri O O O (OpRI.lenA O O) O ?_|refine Run.q (OpP.decT (OpP.lee O O O) (by assumption)) ?_|refine Run.q (OpP.mvA O) ?_|refine Run.q (OpP.lenStr O O) ?_|refine Run.q (OpP.decF (OpP.lee O O O) (by assumption)) ?_|refine Run.q (OpP.pickA O O) ?_|refine Run.k ?_|refine Run.fin O ?_))
      ((first|refine RetOk.tup O O ?_|refine RetOk.one O ?_)<;>(repeat' (first|exact RetC.nil|exact Cv.refl|refine RetC.tmp (by (conv=>lhs;whnf)<;>rfl) ?_ ?_)))
  · refine ⟨false, by simp, ?_⟩
    refine (ACalls.of (fn := Tryz.f8) Tryz.func8 O O Tryz.ntmps8 (fun I M w own => ?_))
    (repeat' (first|refine AW.seq_k (fun K hK=>?_)|(refine hK _ ?_;clear hK)|refine AW.ret ?_|refine rG 0 ?_|refine rG 1 ?_|refine Run.bxA O O O O ?_|refine Run.q (OpP.asA O) ?_|refine Run.q (OpP.fieldAddrA O O) ?_|refine Run.l O O O O O ?_|refine Run.ri O O O (OpRI.lenA O O) O ?_|refine Run.q (OpP.mvA O) ?_|refine Run.q (OpP.decF (OpP.lee O O O) (by assumption)) ?_|refine Run.q (OpP.pickA O O) ?_|refine Run.k ?_|refine Run.fin O ?_))
    ((first|refine RetOk.tup O O ?_|refine RetOk.one O ?_)<;>(repeat' (first|exact RetC.nil|exact Cv.refl|refine RetC.tmp (by (conv=>lhs;whnf)<;>rfl) ?_ ?_)))
end Go.Proofs.YtbbcokckealagaaGreat
