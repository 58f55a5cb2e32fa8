/-
  Walk of the law SessionApplies.
-/
import Derived.Test.YtbbcokckealagaaGreatSsO
namespace Go.Proofs.YtbbcokckealagaaGreat
set_option linter.unusedVariables false
set_option linter.unusedSimpArgs false
theorem badP_ok {r : Rc} {w : Int} (h : r.ok) (ht : r.text.length ≤ 100) (hs : r.set.length ≤ 1000000) : (badP r w).ok ∧ (badP r w).text.length ≤ 100 := by
  obtain ⟨h1, h2, h3⟩ := h
  rw [badP]
  (repeat' split)
  all_goals first
    | exact ⟨⟨h1, h2, h3⟩, ht⟩
    | exact ⟨⟨h1, h2, by simp⟩, by simp⟩
    | exact ⟨⟨h1, by simp only [List.length_cons]; omega, h3⟩, ht⟩
theorem recP_set (l : List Int) (a : Nat) (ha : a ≤ l.length) : (recP l a).1.set.length ≤ 1000000 := by
  rw [recP]
  have b1 := dkA_le ha
  generalize dkA l a = a1 at b1
  generalize kindAt (dkN l a 9).toNat = k
  obtain ⟨c1, c2, c3⟩ := choiceP_ok l a1 b1
  have := proper_small c1
  rw [recB]
  (repeat' split) <;> first | (simp; done) | (simp only; omega)
theorem replay_ok {okT : List UInt8 → Bool} : ∀ (l : List Rc) (s : Se) (n : Nat), s.ok → (replayGo okT l s n).1.ok
  | [], s, n, h => h
  | r :: t, s, n, h => by
    rw [replayGo]
    split
    · exact replay_ok t _ _ (applyP_ok h)
    · exact h
set_option maxHeartbeats 4000000 in
theorem SessionApplies_c (l m : List Int) (fl fm : Bool) (hl : Fits l) (hm : Fits m) (raw : Rc) (hro : raw.ok) (v0 : Int) (hw : -9223372036854775808 ≤ v0 ∧ v0 ≤ 9223372036854775807) :
    ACalls Tryz.prog 3 [.sl 1 (ivs l) fl, .sl 1 (ivs m) fm, .agg raw.cells, .v (.int .i64 v0)] [] (.v (.bool true)) [] := by
  obtain ⟨b, hb, hsm⟩ := small_c raw
  refine (ACalls.of (fn := Tryz.f3) Tryz.func3 O O Tryz.ntmps3 (fun I M w own => ?_))
  cases b with
  | false =>
    (repeat' (first|refine AW.seq_k (fun K hK=>?_)|(refine hK _ ?_;clear hK)|(refine AW.cond O (fun hc=>?_) (fun hc=>?_)<;>(try simp only [kA,kB,kC,kD,kE,kF,kG,kH,kI,kJ,kK,kL,kM,kN] at hc)<;>try (first|(exfalso;omega)|(cases hc;done)))|refine AW.ret ?_|refine AW.skip ?_|refine rG 0 ?_|refine rG 1 ?_|refine rG 3 ?_|refine rG 4 ?_|refine Run.bxA O O O O ?_|refine Run.q (OpP.asA O) ?_|refine Run.c0 sane_c O O O O O O O O ?_|refine Run.q (OpP.not O O) ?_|refine Run.ldNA O O O O O O O ?_|refine Run.c0 hsm O O O O O O O O ?_|refine Run.fin O ?_))
    ((first|refine RetOk.tup O O ?_|refine RetOk.one O ?_)<;>(repeat' (first|exact RetC.nil|exact Cv.refl|refine RetC.tmp (by (conv=>lhs;whnf)<;>rfl) ?_ ?_)))
  | true =>
  obtain ⟨q1, q2, q3⟩ := hb O
  clear hb
  have hNl := New_c l fl
  have hNm := New_c m fm
  have hSe := Session_c l hl 0 (Nat.zero_le _)
  obtain ⟨s1, s2, s3⟩ := sesP_ok l 0 (Nat.zero_le _)
  generalize sesP l 0 = S at hSe s1 s2 s3
  obtain ⟨s, o, a0⟩ := S
  simp only at hSe s1 s2 s3
  have hNx := Next_c m hm 0 (Nat.zero_le _) 8 (by decide)
  have hk := dkN_rng m 0 8 (by decide)
  have b1 := dkA_le (l := m) (a := 0) (Nat.zero_le _)
  generalize dkN m 0 8 = k0 at hNx hk
  generalize dkA m 0 = a1 at hNx b1
  obtain ⟨k0, rfl⟩ : ∃ k : Nat, k0 = (k : Int) := ⟨k0.toNat, by omega⟩
  (repeat' (first|refine AW.seq_k (fun K hK=>?_)|(refine hK _ ?_;clear hK)|(refine AW.cond O (fun hc=>?_) (fun hc=>?_)<;>(try simp only [kA,kB,kC,kD,kE,kF,kG,kH,kI,kJ,kK,kL,kM,kN] at hc)<;>try (first|(exfalso;omega)|(cases hc;done)))|refine AW.block ?_|refine AW.skip ?_|refine rG 0 ?_|refine rG 1 ?_|refine rG 3 ?_|refine rG 5 ?_|refine rG 6 ?_|refine rG 7 ?_|refine rG 8 ?_|refine Run.bxA O O O O ?_|refine Run.q (OpP.asA O) ?_|refine Run.c0 sane_c O O O O O O O O ?_|refine Run.q (OpP.not O O) ?_|refine Run.ldNA O O O O O O O ?_|refine Run.c0 hsm O O O O O O O O ?_|refine Run.q (OpP.mvA O) ?_|refine Run.cSA [] hNl O O O O O O O O O O O O ?_|refine Run.cSA [1] hSe O O O O O O O O O O O O ?_|refine Run.q (OpP.extract O O O) ?_|refine Run.alA O O O O ?_|refine Run.stA O O O O O ?_|refine Run.cSA [3] hNx O O O O O O O O O O O O ?_|refine Run.cSA [] hNm O O O O O O O O O O O O ?_|refine Run.fin O ?_))
  refine AW.loopF (X := Nat × Nat × List Rc) (fun y => ⟨[(3, .v (.int .i64 v0)), (6, .ptr 0 0), (9, .ptr 1 0), (11, .ptr 2 0), (12, .row 3 (rcs y.2.2).length), (13, .v (.int .i64 (y.1 : Int)))], [.box raw.cells, .box s.cells, dkR m y.2.1, .row 11 (rcs y.2.2)]⟩)
    (fun y => y.2.1 ≤ m.length ∧ y.1 + y.2.2.length = k0 ∧ (∀ r ∈ y.2.2, r.ok) ∧ ∀ r ∈ y.2.2, r.text.length ≤ 1000) (fun y => y.1) (k0, a1, []) ?_ ⟨b1, rfl, by simp, by simp⟩ ?_
  · refine Conv.own 12 11 [] (Or.inr ⟨rfl, rfl⟩) ?_
    refine Conv.mk [0, 2, 3, 4] O O O ?_ O ?_
    · (repeat' (first|exact Cf.nil|exact Cv.refl|refine Cf.cons' (by (conv=>lhs;whnf)<;>rfl) ?_ ?_))
    · (repeat' (first|exact CvL.refl _|exact Crs.nil|refine Crs.cons ?_ O ?_|refine Cr.row ?_|refine Cr.box ?_))
      all_goals rfl
  rintro ⟨k, a, o2⟩ ⟨j1, j2, j3, j4⟩
  simp only at j1 j2 j3 j4 ⊢
  have hol : (rcs o2).length = o2.length := by simp
  have hsnoc : ∀ (L : List Rc) (r : Rc), (∀ x ∈ L, x.ok) → (∀ x ∈ L, x.text.length ≤ 1000) → r.ok → r.text.length ≤ 1000 → (∀ x ∈ L ++ [r], x.ok) ∧ ∀ x ∈ L ++ [r], x.text.length ≤ 1000 := by
    intro L r h1 h2 h3 h4
    constructor <;> intro x hx <;> rcases List.mem_append.1 hx with hx | hx
    · exact h1 x hx
    · obtain rfl := List.mem_singleton.1 hx; exact h3
    · exact h2 x hx
    · obtain rfl := List.mem_singleton.1 hx; exact h4
  cases k with
  | succ k =>
    have hgt : ((k + 1 : Nat) : Int) > 0 := by omega
    have hRe := Record_c m hm a j1
    obtain ⟨g1, g2, g3⟩ := recP_ok m a j1
    generalize recP m a = q at hRe g1 g2 g3
    obtain ⟨r, a'⟩ := q
    simp only at hRe g1 g2 g3
    obtain ⟨t1, t2⟩ := hsnoc o2 r j3 j4 g1 (by omega)
    (repeat' (first|refine AW.seq_k (fun K hK=>?_)|(refine hK _ ?_;clear hK)|(refine AW.cond O (fun hc=>?_) (fun hc=>?_)<;>(try simp only [kA,kB,kC,kD,kE,kF,kG,kH,kI,kJ,kK,kL,kM,kN] at hc)<;>try (first|(exfalso;omega)|(cases hc;done)))|refine AW.block ?_|refine AW.skip ?_|refine rG 9 ?_|refine rG 11 ?_|refine rG 10 ?_|refine Run.q (OpP.mvA O) ?_|refine Run.q (OpP.decT (OpP.gtt O O O) (by assumption)) ?_|refine Run.cSA [2] hRe O O O O O O O O O O O O ?_|refine Run.bsA O O O O O O ?_|refine Run.apRA O O O O O O O O O ?_|refine Run.q (OpP.asA O) ?_|refine Run.q (OpP.subA O O O) ?_|refine Run.fin O ?_))
    ((repeat (with_reducible refine inB_n ?_)); refine thenA_n ?_)
    refine ⟨(k, a', o2 ++ [r]), ⟨g3, by simp only [List.length_append, List.length_singleton]; omega, t1, t2⟩, by simp only; omega, ?_⟩
    refine Conv.mk [0, 1, 2, 3] O O O ?_ O ?_
    · (repeat' (first|exact Cf.nil|exact Cv.refl|refine Cf.cons' (by (conv=>lhs;whnf)<;>rfl) ?_ ?_))
      all_goals first | rfl | (refine Cv.eq ?_; simp [AV.ren, renL]; done) | (refine Cv.eq ?_; simp [AV.ren, renL]; exact IntWalk.i64_in _ (by omega))
    · (repeat' (first|exact CvL.refl _|exact Crs.nil|refine Crs.cons ?_ O ?_|refine Cr.row ?_|refine Cr.box ?_))
      all_goals first | rfl | (simp; done)
  | zero =>
    have hng : ¬ ((0 : Nat) : Int) > 0 := by omega
    have hR1 := Record_c m hm a j1
    obtain ⟨g1, g2, g3⟩ := recP_ok m a j1
    generalize recP m a = q at hR1 g1 g2 g3
    obtain ⟨r1, a2⟩ := q
    simp only at hR1 g1 g2 g3
    have hR2 := Record_c m hm a2 g3
    obtain ⟨e1, e2, e3⟩ := recP_ok m a2 g3
    have e4 := recP_set m a2 g3
    generalize recP m a2 = q at hR2 e1 e2 e3 e4
    obtain ⟨r2, a3⟩ := q
    simp only at hR2 e1 e2 e3 e4
    have hBd := bad_c r2 v0 hw e4
    obtain ⟨c1, c2⟩ := badP_ok (w := v0) e1 e2 e4
    generalize badP r2 v0 = r2' at hBd c1 c2
    (repeat' (first|refine AW.seq_k (fun K hK=>?_)|(refine hK _ ?_;clear hK)|(refine AW.cond O (fun hc=>?_) (fun hc=>?_)<;>(try simp only [kA,kB,kC,kD,kE,kF,kG,kH,kI,kJ,kK,kL,kM,kN] at hc)<;>try (first|(exfalso;omega)|(cases hc;done)))|refine AW.block ?_|refine AW.exit ?_|(clear hK;refine hK _ ?_;clear hK)|refine rG 9 ?_|refine AW.draw (id := 12) (by kernel_rfl) ?_|refine Run.q (OpP.mvA O) ?_|refine Run.cSA [2] hR1 O O O O O O O O O O O O ?_|refine Run.c0 hBd O O O O O O O O ?_|refine Run.ldNA O O O O O O O ?_|refine Run.bsA O O O O O O ?_|refine Run.ri O O O (OpRI.lenA O O) O ?_|refine Run.q (OpP.decF (OpP.gtt O O O) (by assumption)) ?_|refine Run.cSA [2] hR2 O O O O O O O O O O O O ?_|refine Run.fin O ?_|refine Run.fin (by kernel_rfl) ?_))
    obtain ⟨R3, hR3, hR3l, hR3o, hR3t⟩ : ∃ R3 : List Rc, R3 = [r1, r2', raw] ∧ R3.length = 3 ∧ (∀ x ∈ R3, x.ok) ∧ ∀ x ∈ R3, x.text.length ≤ 1000 := by
      refine ⟨_, rfl, rfl, ?_, ?_⟩
      · intro x hx
        simp only [List.mem_cons, List.not_mem_nil, or_false] at hx
        rcases hx with rfl | rfl | rfl
        · exact g1
        · exact c1
        · exact hro
      · intro x hx
        simp only [List.mem_cons, List.not_mem_nil, or_false] at hx
        rcases hx with rfl | rfl | rfl <;> omega
    have hRl : (rcs R3).length = 3 := by simp [hR3l]
    refine AW.loopF (X := Nat × List Rc) (fun y => ⟨[(9, .ptr 0 0), (12, .row 1 (rcs y.2).length), (57, .sl 11 (rcs R3) true), (58, .v (.int .i64 3)), (59, .v (.int .i64 (y.1 : Int)))], [.box s.cells, .row 11 (rcs y.2)]⟩)
      (fun y => y.1 ≤ 3 ∧ y.2.length = k0 + y.1 ∧ (∀ r ∈ y.2, r.ok) ∧ ∀ r ∈ y.2, r.text.length ≤ 1000) (fun y => 3 - y.1) (0, o2) ?_ ⟨Nat.zero_le _, by simp only; omega, j3, j4⟩ ?_
    · refine Conv.mk [1, 3] O O O ?_ O ?_
      · (repeat' (first|exact Cf.nil|exact Cv.refl|refine Cf.cons' (by (conv=>lhs;whnf)<;>rfl) ?_ ?_))
        all_goals first | rfl | (rw [hR3]; exact Cv.refl)
      · (repeat' (first|exact CvL.refl _|exact Crs.nil|refine Crs.cons ?_ O ?_|refine Cr.row ?_|refine Cr.box ?_))
        all_goals rfl
    rintro ⟨i, L⟩ ⟨i1, i2, i3, i4⟩
    simp only at i1 i2 i3 i4 ⊢
    have hLl : (rcs L).length = L.length := by simp
    rcases Nat.lt_or_ge i 3 with h | h
    · have hlt : (i : Int) < 3 := by omega
      obtain ⟨x, hx⟩ : ∃ x, R3[i]? = some x := ⟨R3[i]'(by omega), by simp [show i < R3.length by omega]⟩
      have hA : At (rcs R3) (i : Int) x.pv := At.mk i O (by simp [hx])
      have hxm := List.mem_of_getElem? hx
      have xo := hR3o x hxm
      have xt := hR3t x hxm
      have hp := pap_c s x s1 xo (by omega)
      have hr := rap_c s x s1 s2 xo (by omega)
      have ho := applyP_ok (okT := okR) (r := x) s1
      generalize applyP okR s x = q at hp hr ho
      obtain ⟨s', e⟩ := q
      simp only at hp hr ho
      have hSm := SameS_c s' ho
      have d1 : ¬ (e ≠ e) := fun h => h O
      obtain ⟨t1, t2⟩ := hsnoc L x i3 i4 xo xt
      (repeat' (first|refine AW.seq_k (fun K hK=>?_)|(refine hK _ ?_;clear hK)|(refine AW.cond O (fun hc=>?_) (fun hc=>?_)<;>(try simp only [kA,kB,kC,kD,kE,kF,kG,kH,kI,kJ,kK,kL,kM,kN] at hc)<;>try (first|(exfalso;omega)|(cases hc;done)))|refine AW.block ?_|refine AW.skip ?_|refine rG 13 ?_|refine rG 14 ?_|refine rG 15 ?_|refine rG 16 ?_|refine rG 17 ?_|refine rG 19 ?_|refine rG 20 ?_|refine Run.q (OpP.decT (OpP.ltt O O O) (by assumption)) ?_|refine Run.ri O O O (OpRI.indexAddrA O O) O ?_|refine Run.alA O O O O ?_|refine Run.stA O O O O O ?_|refine Run.ldNA O O O O O O O ?_|refine Run.c0 hp O O O O O O O O ?_|refine Run.q (OpP.mvA O) ?_|refine Run.q (OpP.extract O O O) ?_|refine Run.q (OpP.asA O) ?_|refine Run.c0 hr O O O O O O O O ?_|refine Run.c0 hSm O O O O O O O O ?_|refine Run.q (OpP.not O O) ?_|refine Run.bsA O O O O O O ?_|refine Run.apRA O O O O O O O O O ?_|refine Run.q (OpP.addA O O O) ?_|refine Run.q (OpP.loadES O O O (by repeat constructor)) ?_|refine Run.q (OpP.decF (OpP.ne O O O) (by assumption)) ?_|refine Run.q (OpP.pickA O O) ?_|refine Run.fin O ?_))
      ((repeat (with_reducible refine inB_n ?_)); refine thenA_n ?_)
      refine ⟨(i + 1, L ++ [x]), ⟨h, by simp only [List.length_append, List.length_singleton]; omega, t1, t2⟩, by simp only; omega, ?_⟩
      refine Conv.mk [0, 1] O O O ?_ O ?_
      · (repeat' (first|exact Cf.nil|exact Cv.refl|refine Cf.cons' (by (conv=>lhs;whnf)<;>rfl) ?_ ?_))
        all_goals first | rfl | (refine Cv.eq ?_; simp [AV.ren, renL]; done)
      · (repeat' (first|exact CvL.refl _|exact Crs.nil|refine Crs.cons ?_ O ?_|refine Cr.row ?_|refine Cr.box ?_))
        all_goals first | rfl | (simp; done)
    · have hge : ¬ (i : Int) < 3 := by omega
      have hp := Replay_c okR L false (by omega) i3 (fun r hr => ps_prog r (by have := i4 r hr; omega))
      have hr := rReplay_c L false (by omega) i3 (fun r hr => by have := i4 r hr; omega)
      have ho := replay_ok (okT := okR) L Se.zero 0 zero_ok
      generalize replayGo okR L Se.zero 0 = q at hp hr ho
      obtain ⟨s', n, e⟩ := q
      simp only at hp hr ho
      have hSm := SameS_c s' ho
      have d1 : (n : Int) = (n : Int) := rfl
      have d2 : e = e := rfl
      (repeat' (first|refine AW.seq_k (fun K hK=>?_)|(refine hK _ ?_;clear hK)|(refine AW.cond O (fun hc=>?_) (fun hc=>?_)<;>(try simp only [kA,kB,kC,kD,kE,kF,kG,kH,kI,kJ,kK,kL,kM,kN] at hc)<;>try (first|(exfalso;omega)|(cases hc;done)))|refine AW.exit ?_|(clear hK;refine hK _ ?_;clear hK)|refine rG 13 ?_|refine Run.q (OpP.decF (OpP.ltt O O O) (by assumption)) ?_|refine Run.fin O ?_))
      refine AW.conv (s' := ⟨[(12, .sl 11 (rcs L) false)], []⟩) (Conv.mk [] O O O ?_ O ?_) ?_
      · (repeat' (first|exact Cf.nil|exact Cv.rowf O O|refine Cf.cons' (by (conv=>lhs;whnf)<;>rfl) ?_ ?_))
      · (repeat' (first|exact Crs.nil))
      (repeat' (first|refine AW.seq_k (fun K hK=>?_)|(refine hK _ ?_;clear hK)|refine AW.ret ?_|refine rG 21 ?_|refine rG 22 ?_|refine rG 23 ?_|refine Run.q (OpP.mvA O) ?_|refine Run.c0 hp O O O O O O O O ?_|refine Run.q (OpP.extract O O O) ?_|refine Run.alA O O O O ?_|refine Run.stA O O O O O ?_|refine Run.q (OpP.asA O) ?_|refine Run.c0 hr O O O O O O O O ?_|refine Run.q (OpP.decT (OpP.eq O O O) (by assumption)) ?_|refine Run.ldNA O O O O O O O ?_|refine Run.c0 hSm O O O O O O O O ?_|refine Run.q (OpP.pickA O O) ?_|refine Run.fin O ?_))
      ((first|refine RetOk.tup O O ?_|refine RetOk.one O ?_)<;>(repeat' (first|exact RetC.nil|exact Cv.refl|refine RetC.tmp (by (conv=>lhs;whnf)<;>rfl) ?_ ?_)))
end Go.Proofs.YtbbcokckealagaaGreat
