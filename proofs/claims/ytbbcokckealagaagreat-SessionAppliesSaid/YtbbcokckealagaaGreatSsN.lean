/-
  Walks of chapter 41: sessions of the dice, changed records, many records.
-/
import Derived.Test.YtbbcokckealagaaGreatQCH
import Derived.Test.YtbbcokckealagaaGreatQCI
namespace Go.Proofs.YtbbcokckealagaaGreat
set_option linter.unusedVariables false
set_option linter.unusedSimpArgs false
theorem recTx_len (n : Nat) : (recTx n).length ≤ 100 := by
  rcases n with _ | _ | _ | n
  all_goals simp [recTx]
theorem recP_ok (l : List Int) (a : Nat) (ha : a ≤ l.length) : (recP l a).1.ok ∧ (recP l a).1.text.length ≤ 100 ∧ (recP l a).2 ≤ l.length := by
  rw [recP]
  have b1 := dkA_le ha
  generalize dkA l a = a1 at b1
  generalize kindAt (dkN l a 9).toNat = k
  have b2 := dkA_le b1
  have b3 := dkA_le b2
  have b4 := dkA_le b3
  have b5 := dkA_le b4
  have b6 := dkA_le b5
  have hro : ∀ n, (roleAt n).length ≤ 9223372036854775807 := by
    intro n
    have h : (roleAt n).length ≤ 100 := by
      rw [roleAt]
      rcases n.toNat with _ | _ | _ | _ | m
      all_goals first | decide | simp [roleL]
    omega
  obtain ⟨c1, c2, c3⟩ := choiceP_ok l a1 b1
  rw [recB]
  split
  · exact ⟨⟨hro _, by simp, by simp⟩, by simp, b6⟩
  split
  · exact ⟨⟨by simp, by simp, by simp⟩, by simp, b2⟩
  split
  · exact ⟨⟨by simp, by simp, by simp⟩, by simp, b3⟩
  split
  · exact ⟨⟨by simp, by simp, by simp⟩, by simp, b3⟩
  split
  · exact ⟨⟨by simp, by simp, by simp⟩, by simp, b3⟩
  split
  · exact ⟨⟨c2.1, c2.2, by simp⟩, by simp, c3⟩
  · have := recTx_len (dkN l a1 3).toNat
    exact ⟨⟨by simp, by simp, by simp only; omega⟩, this, b2⟩
theorem rap_c (s : Se) (r : Rc) (hs : s.ok) (ha : Asc s.streams) (ho : r.ok) (ht : r.text.length ≤ 1099511627776) : ACalls Tryz.prog 15 [.agg s.cells, .agg r.cells] [] (.tup [.agg (applyP okR s r).1.cells, .v (.int .i64 (applyP okR s r).2)]) [] := by
  rw [apply_eq okR s r ha]
  exact rApply_c okR s r hs ho (ps_ref r ht)
theorem pap_c (s : Se) (r : Rc) (hs : s.ok) (ho : r.ok) (ht : r.text.length ≤ 1099511627776) : ACalls Tryz.prog 14 [.agg s.cells, .agg r.cells] [] (.tup [.agg (applyP okR s r).1.cells, .v (.int .i64 (applyP okR s r).2)]) [] :=
  Apply_c okR s r hs ho (ps_prog r ht)
set_option maxHeartbeats 4000000 in
theorem rReplay_c (l : List Rc) (f : Bool) (hl : l.length ≤ 9223372036854775807) (ho : ∀ r ∈ l, r.ok) (ht : ∀ r ∈ l, r.text.length ≤ 1099511627776) :
    ACalls Tryz.prog 18 [.sl 11 (rcs l) f] [] (.tup [.agg (replayGo okR l Se.zero 0).1.cells, .v (.int .i64 ((replayGo okR l Se.zero 0).2.1 : Int)), .v (.int .i64 (replayGo okR l Se.zero 0).2.2)]) [] := by
  have hll : (rcs l).length = l.length := by simp
  generalize hr : replayGo okR l Se.zero 0 = R
  refine (ACalls.of (fn := Tryz.f18) Tryz.func18 O O Tryz.ntmps18 (fun I M w own => ?_))
  (repeat' (first|refine AW.seq_k (fun K hK=>?_)|(refine hK _ ?_;clear hK)|refine AW.block ?_|refine rG 0 ?_|refine rG 1 ?_|refine rG 2 ?_|refine Run.alA O O O O ?_|refine Run.q (OpP.asA O) ?_|refine Run.fin O ?_))
  refine AW.loopF (X := Nat × Se) (fun x => ⟨[(0, .sl 11 (rcs l) f), (2, .ptr 0 0), (5, .ptr 1 0), (6, .v (.int .i64 (x.1 : Int)))], [.box [.v (.slice none 0 0), .v (.slice none 0 0), .v (.string (bs []))], .box x.2.cells]⟩)
    (fun x => x.1 ≤ l.length ∧ x.2.ok ∧ Asc x.2.streams ∧ replayGo okR (l.drop x.1) x.2 x.1 = R) (fun x => l.length - x.1) (0, Se.zero) ?_ ⟨Nat.zero_le _, zero_ok, List.Pairwise.nil, hr⟩ ?_
  · refine Conv.mk [0, 1] O O O ?_ O ?_
    · (repeat' (first|exact Cf.nil|exact Cv.refl|refine Cf.cons' (by (conv=>lhs;whnf)<;>rfl) ?_ ?_))
    · refine Crs.cons (Cr.box ?_) O (Crs.cons (Cr.box ?_) O Crs.nil)
      all_goals (repeat' (first|exact CvL.refl _|exact Cv.nil|refine CvL.cons ?_ ?_))
      (all_goals (try (first|refine CvL.eq ?_|refine Cv.eq ?_)))
      all_goals simp [AV.ren, renL, Se.zero]
  rintro ⟨i, s⟩ ⟨h1, h2, h3, h4⟩
  simp only at h1 h2 h3 h4 ⊢
  rcases Nat.lt_or_ge i l.length with h | h
  · have hA : At (rcs l) (i : Int) l[i].pv := At.mk i O (by simp [h])
    have hlt : (i : Int) < ((rcs l).length : Int) := by omega
    have hmem := List.getElem_mem h
    have hap := rap_c s l[i] h2 h3 (ho _ hmem) (ht _ hmem)
    have hok := applyP_ok (okT := okR) (r := l[i]) h2
    have has := applyP_asc (okT := okR) (r := l[i]) h3
    rw [List.drop_eq_getElem_cons h, replayGo] at h4
    generalize applyP okR s l[i] = q at hap hok has h4
    by_cases hq : q.2 = 0
    · rw [if_pos hq] at h4
      have hq' : ¬ q.2 ≠ 0 := fun h => h hq
      (repeat' (first|refine AW.seq_k (fun K hK=>?_)|(refine hK _ ?_;clear hK)|(refine AW.cond O (fun hc=>?_) (fun hc=>?_)<;>(try simp only [kA,kB,kC,kD,kE,kF,kG,kH,kI,kJ,kK,kL,kM,kN] at hc)<;>try (first|(exfalso;omega)|(cases hc;done)))|refine AW.block ?_|refine AW.skip ?_|refine rG 3 ?_|refine AW.draw (id := 5) (by kernel_rfl) ?_|refine rG 6 ?_|refine rG 8 ?_|refine rG 4 ?_|refine Run.q (OpP.mvA O) ?_|refine Run.ri O O O (OpRI.lenA O O) O ?_|refine Run.q (OpP.decT (OpP.ltt O O O) (by assumption)) ?_|refine Run.ldNA O O O O O O O ?_|refine Run.ri O O O (OpRI.indexAddrA O O) O ?_|refine Run.c0 hap O O O O O O O O ?_|refine Run.q (OpP.extract O O O) ?_|refine Run.alA O O O O ?_|refine Run.stA O O O O O ?_|refine Run.q (OpP.asA O) ?_|refine Run.q (OpP.addA O O O) ?_|refine Run.q (OpP.loadES O O O (by repeat constructor)) ?_|refine Run.q (OpP.decF (OpP.ne O O O) (by assumption)) ?_|refine Run.fin O ?_|refine Run.fin (by kernel_rfl) ?_))
      ((repeat (with_reducible refine inB_n ?_)); refine thenA_n ?_)
      refine ⟨(i + 1, q.1), ⟨h, hok, has, h4⟩, by simp only; omega, ?_⟩
      refine Conv.mk [0, 1] O O O ?_ O ?_
      · (repeat' (first|exact Cf.nil|exact Cv.refl|refine Cf.cons' (by (conv=>lhs;whnf)<;>rfl) ?_ ?_))
        all_goals first | rfl | (refine Cv.eq ?_; simp [AV.ren, renL]; done)
      · refine Crs.cons (Cr.box ?_) O (Crs.cons (Cr.box ?_) O Crs.nil)
        all_goals (repeat' (first|exact CvL.refl _))
    · rw [if_neg hq] at h4
      subst h4
      have hq' : q.2 ≠ 0 := hq
      (repeat' (first|refine AW.seq_k (fun K hK=>?_)|(refine hK _ ?_;clear hK)|(refine AW.cond O (fun hc=>?_) (fun hc=>?_)<;>(try simp only [kA,kB,kC,kD,kE,kF,kG,kH,kI,kJ,kK,kL,kM,kN] at hc)<;>try (first|(exfalso;omega)|(cases hc;done)))|refine AW.block ?_|refine AW.ret ?_|refine AW.skip ?_|refine rG 3 ?_|refine AW.draw (id := 5) (by kernel_rfl) ?_|refine rG 6 ?_|refine rG 7 ?_|refine Run.q (OpP.mvA O) ?_|refine Run.ri O O O (OpRI.lenA O O) O ?_|refine Run.q (OpP.decT (OpP.ltt O O O) (by assumption)) ?_|refine Run.ldNA O O O O O O O ?_|refine Run.ri O O O (OpRI.indexAddrA O O) O ?_|refine Run.c0 hap O O O O O O O O ?_|refine Run.q (OpP.extract O O O) ?_|refine Run.alA O O O O ?_|refine Run.stA O O O O O ?_|refine Run.q (OpP.asA O) ?_|refine Run.q (OpP.decT (OpP.ne O O O) (by assumption)) ?_|refine Run.q (OpP.loadES O O O (by repeat constructor)) ?_|refine Run.fin O ?_|refine Run.fin (by kernel_rfl) ?_))
      ((first|refine RetOk.tup O O ?_|refine RetOk.one O ?_)<;>(repeat' (first|exact RetC.nil|exact CvL.refl _|exact Cv.refl|refine RetC.tmp (by (conv=>lhs;whnf)<;>rfl) ?_ ?_|refine RetC.cellN O O O (by repeat constructor) ?_ ?_)))
  · rw [List.drop_eq_nil_of_le h, replayGo] at h4
    subst h4
    have hge : ¬ (i : Int) < ((rcs l).length : Int) := by omega
    obtain rfl : i = l.length := by omega
    (repeat' (first|refine AW.seq_k (fun K hK=>?_)|(refine hK _ ?_;clear hK)|(refine AW.cond O (fun hc=>?_) (fun hc=>?_)<;>(try simp only [kA,kB,kC,kD,kE,kF,kG,kH,kI,kJ,kK,kL,kM,kN] at hc)<;>try (first|(exfalso;omega)|(cases hc;done)))|refine AW.exit ?_|refine AW.ret ?_|(clear hK;refine hK _ ?_;clear hK)|refine rG 3 ?_|refine rG 9 ?_|refine Run.q (OpP.mvA O) ?_|refine Run.ri O O O (OpRI.lenA O O) O ?_|refine Run.ldNA O O O O O O O ?_|refine Run.stA O O O O O ?_|refine Run.q (OpP.asA O) ?_|refine Run.q (OpP.decF (OpP.ltt O O O) (by assumption)) ?_|refine Run.fin O ?_))
    ((first|refine RetOk.tup O O ?_|refine RetOk.one O ?_)<;>(repeat' (first|exact RetC.nil|exact CvL.refl _|exact Cv.refl|refine RetC.tmp (by (conv=>lhs;whnf)<;>rfl) ?_ ?_|refine RetC.cellN O O O (by repeat constructor) ?_ ?_)))
    (all_goals (try (first|refine CvL.eq ?_|refine Cv.eq ?_)))
    all_goals first | rfl | (simp [AV.ren]; done)
def badP (r : Rc) (w : Int) : Rc :=
  if w % 8 = 0 then { r with kind := w % 10 } else if w % 8 = 1 then { r with id := -1 } else if w % 8 = 2 then { r with n := 200 } else if w % 8 = 3 then { r with text := [114, 111, 117, 116, 101, 10] }
  else if w % 8 = 4 then { r with set := 9 :: r.set } else if w % 8 = 5 then { r with lat := -5 } else if w % 8 = 6 then { r with dev := IntKind.u64.wrap (r.dev + 1) } else r
set_option maxHeartbeats 4000000 in
theorem bad_c (r : Rc) (w : Int) (hw : -9223372036854775808 ≤ w ∧ w ≤ 9223372036854775807) (hs : r.set.length ≤ 1000000) : ACalls Tryz.prog 13 [.agg r.cells, .v (.int .i64 w)] [] (.agg (badP r w).cells) [] := by
  have hM := Mod_c w 8 hw (by decide)
  have hM2 := Mod_c w 10 hw (by decide)
  have hb : 0 ≤ w % 8 ∧ w % 8 < 8 := ⟨Int.emod_nonneg _ (by decide), Int.emod_lt_of_pos _ (by decide)⟩
  generalize hR : badP r w = R
  rw [badP] at hR
  generalize w % 8 = v at hM hR hb
  generalize w % 10 = u at hM2 hR
  obtain ⟨kind, id, role, dir, ch, rate, lat, n, dev, set, text⟩ := r
  simp only at hR hs
  have hsl : (ids set).length = set.length := by simp
  refine (ACalls.of (fn := Tryz.f13) Tryz.func13 O O Tryz.ntmps13 (fun I M w own => ?_))
  by_cases v0 : v = 0
  · rw [if_pos v0] at hR
    subst hR
    (repeat' (first|refine AW.seq_k (fun K hK=>?_)|(refine hK _ ?_;clear hK)|(refine AW.cond O (fun hc=>?_) (fun hc=>?_)<;>(try simp only [kA,kB,kC,kD,kE,kF,kG,kH,kI,kJ,kK,kL,kM,kN] at hc)<;>try (first|(exfalso;omega)|(cases hc;done)))|refine AW.block ?_|refine AW.ret ?_|refine rG 0 ?_|refine rG 1 ?_|refine rG 2 ?_|refine rG 3 ?_|refine rG 16 ?_|refine Run.bxA O O O O ?_|refine Run.alA O O O O ?_|refine Run.q (OpP.mvA O) ?_|refine Run.c0 hM O O O O O O O O ?_|refine Run.q (OpP.decT (OpP.eq O O O) (by assumption)) ?_|refine Run.q (OpP.asA O) ?_|refine Run.q (OpP.fieldAddrA O O) ?_|refine Run.stA O O O O O ?_|refine Run.ldNA O O O O O O O ?_|refine Run.c0 hM2 O O O O O O O O ?_|refine Run.fin O ?_))
    ((first|refine RetOk.tup O O ?_|refine RetOk.one O ?_)<;>(repeat' (first|exact RetC.nil|exact CvL.refl _|refine RetC.cellN O O O (by repeat constructor) ?_ ?_)))
  rw [if_neg v0] at hR
  by_cases v1 : v = 1
  · rw [if_pos v1] at hR
    subst hR
    (repeat' (first|refine AW.seq_k (fun K hK=>?_)|(refine hK _ ?_;clear hK)|(refine AW.cond O (fun hc=>?_) (fun hc=>?_)<;>(try simp only [kA,kB,kC,kD,kE,kF,kG,kH,kI,kJ,kK,kL,kM,kN] at hc)<;>try (first|(exfalso;omega)|(cases hc;done)))|refine AW.block ?_|refine AW.ret ?_|refine rG 0 ?_|refine rG 1 ?_|refine rG 2 ?_|refine rG 4 ?_|refine rG 5 ?_|refine rG 16 ?_|refine Run.bxA O O O O ?_|refine Run.alA O O O O ?_|refine Run.q (OpP.mvA O) ?_|refine Run.c0 hM O O O O O O O O ?_|refine Run.q (OpP.asA O) ?_|refine Run.q (OpP.decT (OpP.eq O O O) (by assumption)) ?_|refine Run.q (OpP.fieldAddrA O O) ?_|refine Run.stA O O O O O ?_|refine Run.ldNA O O O O O O O ?_|refine Run.q (OpP.decF (OpP.eq O O O) (by assumption)) ?_|refine Run.fin O ?_))
    ((first|refine RetOk.tup O O ?_|refine RetOk.one O ?_)<;>(repeat' (first|exact RetC.nil|exact CvL.refl _|refine RetC.cellN O O O (by repeat constructor) ?_ ?_)))
  rw [if_neg v1] at hR
  by_cases v2 : v = 2
  · rw [if_pos v2] at hR
    subst hR
    (repeat' (first|refine AW.seq_k (fun K hK=>?_)|(refine hK _ ?_;clear hK)|(refine AW.cond O (fun hc=>?_) (fun hc=>?_)<;>(try simp only [kA,kB,kC,kD,kE,kF,kG,kH,kI,kJ,kK,kL,kM,kN] at hc)<;>try (first|(exfalso;omega)|(cases hc;done)))|refine AW.block ?_|refine AW.ret ?_|refine rG 0 ?_|refine rG 1 ?_|refine rG 2 ?_|refine rG 4 ?_|refine rG 6 ?_|refine rG 7 ?_|refine rG 16 ?_|refine Run.bxA O O O O ?_|refine Run.alA O O O O ?_|refine Run.q (OpP.mvA O) ?_|refine Run.c0 hM O O O O O O O O ?_|refine Run.q (OpP.asA O) ?_|refine Run.q (OpP.decT (OpP.eq O O O) (by assumption)) ?_|refine Run.q (OpP.fieldAddrA O O) ?_|refine Run.stA O O O O O ?_|refine Run.ldNA O O O O O O O ?_|refine Run.q (OpP.decF (OpP.eq O O O) (by assumption)) ?_|refine Run.fin O ?_))
    ((first|refine RetOk.tup O O ?_|refine RetOk.one O ?_)<;>(repeat' (first|exact RetC.nil|exact CvL.refl _|refine RetC.cellN O O O (by repeat constructor) ?_ ?_)))
  rw [if_neg v2] at hR
  by_cases v3 : v = 3
  · rw [if_pos v3] at hR
    subst hR
    (repeat' (first|refine AW.seq_k (fun K hK=>?_)|(refine hK _ ?_;clear hK)|(refine AW.cond O (fun hc=>?_) (fun hc=>?_)<;>(try simp only [kA,kB,kC,kD,kE,kF,kG,kH,kI,kJ,kK,kL,kM,kN] at hc)<;>try (first|(exfalso;omega)|(cases hc;done)))|refine AW.block ?_|refine AW.ret ?_|refine rG 0 ?_|refine rG 1 ?_|refine rG 2 ?_|refine rG 4 ?_|refine rG 6 ?_|refine rG 8 ?_|refine rG 9 ?_|refine rG 16 ?_|refine Run.bxA O O O O ?_|refine Run.alA O O O O ?_|refine Run.q (OpP.mvA O) ?_|refine Run.c0 hM O O O O O O O O ?_|refine Run.q (OpP.asA O) ?_|refine Run.q (OpP.decT (OpP.eq O O O) (by assumption)) ?_|refine Run.q (OpP.fieldAddrA O O) ?_|refine Run.stA O O O O O ?_|refine Run.ldNA O O O O O O O ?_|refine Run.q (OpP.decF (OpP.eq O O O) (by assumption)) ?_|refine Run.fin O ?_))
    ((first|refine RetOk.tup O O ?_|refine RetOk.one O ?_)<;>(repeat' (first|exact RetC.nil|exact CvL.refl _|refine RetC.cellN O O O (by repeat constructor) ?_ ?_)))
  rw [if_neg v3] at hR
  by_cases v4 : v = 4
  · rw [if_pos v4] at hR
    subst hR
    (repeat' (first|refine AW.seq_k (fun K hK=>?_)|(refine hK _ ?_;clear hK)|(refine AW.cond O (fun hc=>?_) (fun hc=>?_)<;>(try simp only [kA,kB,kC,kD,kE,kF,kG,kH,kI,kJ,kK,kL,kM,kN] at hc)<;>try (first|(exfalso;omega)|(cases hc;done)))|refine AW.block ?_|refine AW.ret ?_|refine rG 0 ?_|refine rG 1 ?_|refine rG 2 ?_|refine rG 4 ?_|refine rG 6 ?_|refine rG 8 ?_|refine rG 10 ?_|refine rG 11 ?_|refine rG 16 ?_|refine Run.bxA O O O O ?_|refine Run.alA O O O O ?_|refine Run.q (OpP.mvA O) ?_|refine Run.c0 hM O O O O O O O O ?_|refine Run.q (OpP.asA O) ?_|refine Run.q (OpP.decT (OpP.eq O O O) (by assumption)) ?_|refine Run.bsA O O O O O O ?_|refine Run.q (OpP.fieldAddrA O O) ?_|refine Run.l O O O O O ?_|refine Run.stA O O O O O ?_|refine Run.ldNA O O O O O O O ?_|refine Run.q (OpP.decF (OpP.eq O O O) (by assumption)) ?_|refine Run.apFA O O O O O O ?_|refine Run.fin O ?_))
    ((first|refine RetOk.tup O O ?_|refine RetOk.one O ?_)<;>(repeat' (first|exact Cv.rowf O O|exact RetC.nil|exact CvL.refl _|exact Cv.refl|refine RetC.cellN O O O (by repeat constructor) ?_ ?_|refine CvL.cons ?_ ?_)))
  rw [if_neg v4] at hR
  by_cases v5 : v = 5
  · rw [if_pos v5] at hR
    subst hR
    (repeat' (first|refine AW.seq_k (fun K hK=>?_)|(refine hK _ ?_;clear hK)|(refine AW.cond O (fun hc=>?_) (fun hc=>?_)<;>(try simp only [kA,kB,kC,kD,kE,kF,kG,kH,kI,kJ,kK,kL,kM,kN] at hc)<;>try (first|(exfalso;omega)|(cases hc;done)))|refine AW.block ?_|refine AW.ret ?_|refine rG 0 ?_|refine rG 1 ?_|refine rG 2 ?_|refine rG 4 ?_|refine rG 6 ?_|refine rG 8 ?_|refine rG 10 ?_|refine rG 12 ?_|refine rG 13 ?_|refine rG 16 ?_|refine Run.bxA O O O O ?_|refine Run.alA O O O O ?_|refine Run.q (OpP.mvA O) ?_|refine Run.c0 hM O O O O O O O O ?_|refine Run.q (OpP.asA O) ?_|refine Run.q (OpP.decT (OpP.eq O O O) (by assumption)) ?_|refine Run.q (OpP.fieldAddrA O O) ?_|refine Run.stA O O O O O ?_|refine Run.ldNA O O O O O O O ?_|refine Run.q (OpP.decF (OpP.eq O O O) (by assumption)) ?_|refine Run.fin O ?_))
    ((first|refine RetOk.tup O O ?_|refine RetOk.one O ?_)<;>(repeat' (first|exact RetC.nil|exact CvL.refl _|refine RetC.cellN O O O (by repeat constructor) ?_ ?_)))
  rw [if_neg v5] at hR
  by_cases v6 : v = 6
  · rw [if_pos v6] at hR
    subst hR
    (repeat' (first|refine AW.seq_k (fun K hK=>?_)|(refine hK _ ?_;clear hK)|(refine AW.cond O (fun hc=>?_) (fun hc=>?_)<;>(try simp only [kA,kB,kC,kD,kE,kF,kG,kH,kI,kJ,kK,kL,kM,kN] at hc)<;>try (first|(exfalso;omega)|(cases hc;done)))|refine AW.block ?_|refine AW.ret ?_|refine rG 0 ?_|refine rG 1 ?_|refine rG 2 ?_|refine rG 4 ?_|refine rG 6 ?_|refine rG 8 ?_|refine rG 10 ?_|refine rG 12 ?_|refine rG 14 ?_|refine rG 15 ?_|refine rG 16 ?_|refine Run.bxA O O O O ?_|refine Run.alA O O O O ?_|refine Run.q (OpP.mvA O) ?_|refine Run.c0 hM O O O O O O O O ?_|refine Run.q (OpP.asA O) ?_|refine Run.q (OpP.decT (OpP.eq O O O) (by assumption)) ?_|refine Run.q (OpP.fieldAddrA O O) ?_|refine Run.l O O O O O ?_|refine Run.q (OpP.addA O O O) ?_|refine Run.stA O O O O O ?_|refine Run.ldNA O O O O O O O ?_|refine Run.q (OpP.decF (OpP.eq O O O) (by assumption)) ?_|refine Run.fin O ?_))
    ((first|refine RetOk.tup O O ?_|refine RetOk.one O ?_)<;>(repeat' (first|exact RetC.nil|exact CvL.refl _|refine RetC.cellN O O O (by repeat constructor) ?_ ?_)))
    all_goals first | rfl | (refine Cv.eq ?_; simp [AV.ren, renL]; done)
  · rw [if_neg v6] at hR
    subst hR
    (repeat' (first|refine AW.seq_k (fun K hK=>?_)|(refine hK _ ?_;clear hK)|(refine AW.cond O (fun hc=>?_) (fun hc=>?_)<;>(try simp only [kA,kB,kC,kD,kE,kF,kG,kH,kI,kJ,kK,kL,kM,kN] at hc)<;>try (first|(exfalso;omega)|(cases hc;done)))|refine AW.block ?_|refine AW.ret ?_|refine AW.skip ?_|refine rG 0 ?_|refine rG 1 ?_|refine rG 2 ?_|refine rG 4 ?_|refine rG 6 ?_|refine rG 8 ?_|refine rG 10 ?_|refine rG 12 ?_|refine rG 14 ?_|refine rG 16 ?_|refine Run.bxA O O O O ?_|refine Run.alA O O O O ?_|refine Run.q (OpP.mvA O) ?_|refine Run.c0 hM O O O O O O O O ?_|refine Run.q (OpP.asA O) ?_|refine Run.ldNA O O O O O O O ?_|refine Run.stA O O O O O ?_|refine Run.q (OpP.decF (OpP.eq O O O) (by assumption)) ?_|refine Run.fin O ?_))
    ((first|refine RetOk.tup O O ?_|refine RetOk.one O ?_)<;>(repeat' (first|exact RetC.nil|exact CvL.refl _|refine RetC.cellN O O O (by repeat constructor) ?_ ?_)))
end Go.Proofs.YtbbcokckealagaaGreat
