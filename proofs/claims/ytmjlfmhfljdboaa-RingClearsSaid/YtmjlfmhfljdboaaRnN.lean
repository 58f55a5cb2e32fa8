/-
  Walk of the rings that the statements make: the loop.
-/
import Derived.Test.YtmjlfmhfljdboaaRnM
namespace Go.Proofs.Ytmjlfmhfljdboaa
set_option linter.unusedVariables false
set_option linter.unusedSimpArgs false
theorem made_c (l : List UInt8) : ACalls Try.prog 12 [.ptr 0 0] [diR l] (.agg ((madeM l).1.cs false)) [diR (madeM l).2] := by
  have n1 := dNext_c l 2 (by omega)
  have n2 := dNext_c (diL l 2) 12 (by omega)
  have n3 := dNext_c (diL (diL l 2) 12) 5 (by omega)
  have b1 := diV_bd l 2 (by omega)
  have b2 := diV_bd (diL l 2) 12 (by omega)
  have b3 := diV_bd (diL (diL l 2) 12) 5 (by omega)
  have hN := rrnew_c (1 + diV l 2) (1 + diV (diL l 2) 12)
  generalize hr : madeM l = q
  refine (ACalls.of (fn := Try.f12) Try.func12 rfl rfl Try.ntmps12 (fun I M w own => ?_))
  (repeat' (first | (first | refine AW.seq_k (fun K hK => ?_) | (refine hK _ ?_; clear hK) | (refine AW.condD rfl (fun hc => ?_) (fun hc => ?_) <;> try (first | (exfalso; omega) | (cases hc; done))) | (refine AW.cond rfl (fun hc => ?_) (fun hc => ?_) <;> (try simp only [Bool.and_eq_true, Bool.or_eq_true, Bool.not_eq_true', Bool.not_eq_false', Bool.and_eq_false_iff, Bool.or_eq_false_iff, Bool.and_eq_false_imp, decide_eq_true_eq, decide_eq_false_iff_not, Decidable.not_not, Int.not_lt, Int.not_le, ne_eq, Bool.not_not] at hc) <;> try (first | (exfalso; omega) | (cases hc; done))) | refine AW.block ?_ | refine AW.exit ?_ | refine AW.ret ?_ | refine AW.skip ?_ | (clear hK; refine hK _ ?_; clear hK) | (clear hK; clear hK; refine hK _ ?_; clear hK) | (clear hK; clear hK; clear hK; refine hK _ ?_; clear hK)) | (first | (refine AW.region (id := 0) ?_ <;> (try (refine Run.alA rfl rfl rfl rfl ?_)) <;> (try refine Run.fin rfl ?_)) | (refine AW.region (id := 1) ?_ <;> (try (refine Run.p rfl rfl rfl (OpP.mvA rfl) ?_)) <;> (try (first | refine Run.cSA [0] n1 rfl rfl rfl rfl rfl rfl rfl rfl rfl rfl rfl rfl ?_ | refine Run.cSA [0] n2 rfl rfl rfl rfl rfl rfl rfl rfl rfl rfl rfl rfl ?_ | refine Run.cSA [0] n3 rfl rfl rfl rfl rfl rfl rfl rfl rfl rfl rfl rfl ?_)) <;> (try (refine Run.p rfl rfl rfl (OpP.addA rfl rfl rfl) ?_)) <;> (try (refine Run.p rfl rfl rfl (OpP.mvA rfl) ?_)) <;> (try (first | refine Run.cSA [0] n1 rfl rfl rfl rfl rfl rfl rfl rfl rfl rfl rfl rfl ?_ | refine Run.cSA [0] n2 rfl rfl rfl rfl rfl rfl rfl rfl rfl rfl rfl rfl ?_ | refine Run.cSA [0] n3 rfl rfl rfl rfl rfl rfl rfl rfl rfl rfl rfl rfl ?_)) <;> (try (refine Run.p rfl rfl rfl (OpP.addA rfl rfl rfl) ?_)) <;> (try (refine Run.c0 hN rfl rfl rfl rfl rfl rfl rfl rfl ?_)) <;> (try (refine Run.p rfl rfl rfl (OpP.mvA rfl) ?_)) <;> (try (refine Run.p rfl rfl rfl (OpP.extract rfl rfl rfl) ?_)) <;> (try (refine Run.p rfl rfl rfl (OpP.extract rfl rfl rfl) ?_)) <;> (try (refine Run.alA rfl rfl rfl rfl ?_)) <;> (try (refine Run.stA rfl rfl rfl rfl rfl ?_)) <;> (try (refine Run.p rfl rfl rfl (OpP.asA rfl) ?_)) <;> (try refine Run.fin rfl ?_)) | (refine AW.region (id := 2) ?_ <;> (try (refine Run.p rfl rfl rfl (OpP.mvA rfl) ?_)) <;> (try (first | refine Run.cSA [0] n1 rfl rfl rfl rfl rfl rfl rfl rfl rfl rfl rfl rfl ?_ | refine Run.cSA [0] n2 rfl rfl rfl rfl rfl rfl rfl rfl rfl rfl rfl rfl ?_ | refine Run.cSA [0] n3 rfl rfl rfl rfl rfl rfl rfl rfl rfl rfl rfl rfl ?_)) <;> (try (refine Run.p rfl rfl rfl (OpP.asA rfl) ?_)) <;> (try refine Run.fin rfl ?_)))))
  refine AW.loopF (X := Nat × Rg × List UInt8) (fun x => ⟨[(0, .ptr 0 0), (2, .ptr 1 0), (3, .ptr 2 0), (5, .v (.int .i64 (x.1 : Int)))], [diR x.2.2, .box [.v (.int .i64 0), .v (.int .i64 0), .v (.int .i64 0), .v (.int .i64 0), .v (.slice none 0 0)], .box (x.2.1.cs false)]⟩)
    (fun x => x.1 ≤ 4 ∧ x.2.1.small (100 * (4 - x.1)) ∧ loopM x.1 x.2.1 x.2.2 = q) (fun x => x.1) ((diV (diL (diL l 2) 12) 5).toNat, (newR (1 + diV l 2) (1 + diV (diL l 2) 12)).1, diL (diL (diL l 2) 12) 5) ?_ ?_ ?_
  · refine Conv.mk [0, 1, 2] rfl rfl rfl ?_ rfl ?_
    (repeat' (first | exact Cf.nil | exact Cv.refl | exact CvL.refl _ | exact Cv.rowf rfl rfl | exact Crs.nil | refine Cf.cons' (by (conv => lhs; whnf) <;> rfl) ?_ ?_ | refine Crs.cons ?_ rfl ?_ | exact Cr.no | refine Cr.row ?_ | refine Cr.box ?_ | exact Cv.nil | exact Cv.full | exact CvL.nil | refine CvL.cons ?_ ?_))
    (all_goals (try (first | refine CvL.eq ?_ | refine Cv.eq ?_)))
    all_goals first | rfl | (simp only [AV.ren, AV.v.injEq, Value.int.injEq, true_and]; omega)
  · refine ⟨by simp only; omega, ?_, hr⟩
    simp only
    unfold newR
    split
    · unfold Rg.small; simp only [List.length_nil]; omega
    · exact Rg.small_zero _
  · rintro ⟨k, r, l'⟩ ⟨h1, h2, h3⟩
    simp only at h1 h2 h3 ⊢
    rcases k with _ | k
    · (repeat' (first | (first | refine AW.seq_k (fun K hK => ?_) | (refine hK _ ?_; clear hK) | (refine AW.condD rfl (fun hc => ?_) (fun hc => ?_) <;> try (first | (exfalso; omega) | (cases hc; done))) | (refine AW.cond rfl (fun hc => ?_) (fun hc => ?_) <;> (try simp only [Bool.and_eq_true, Bool.or_eq_true, Bool.not_eq_true', Bool.not_eq_false', Bool.and_eq_false_iff, Bool.or_eq_false_iff, Bool.and_eq_false_imp, decide_eq_true_eq, decide_eq_false_iff_not, Decidable.not_not, Int.not_lt, Int.not_le, ne_eq, Bool.not_not] at hc) <;> try (first | (exfalso; omega) | (cases hc; done))) | refine AW.block ?_ | refine AW.exit ?_ | refine AW.ret ?_ | refine AW.skip ?_ | (clear hK; refine hK _ ?_; clear hK) | (clear hK; clear hK; refine hK _ ?_; clear hK) | (clear hK; clear hK; clear hK; refine hK _ ?_; clear hK)) | (first | (refine AW.region (id := 3) ?_ <;> (try (refine Run.p rfl rfl rfl (OpP.mvA rfl) ?_)) <;> (try (refine Run.p rfl rfl rfl (OpP.gtt rfl rfl rfl) ?_)) <;> (try refine Run.fin rfl ?_)) | (refine AW.region (id := 7) ?_ <;> (try (first | refine Run.ldNA rfl rfl rfl rfl rfl rfl rfl ?_ | refine Run.p rfl rfl rfl (OpP.loadES rfl rfl rfl (by repeat constructor)) ?_)) <;> (try (refine Run.stA rfl rfl rfl rfl rfl ?_)) <;> (try refine Run.fin rfl ?_)))))
      obtain rfl : (r, l') = q := h3
      ((first | refine RetOk.tupS [0] rfl rfl rfl rfl rfl ?_ ?_ | refine RetOk.oneS [0] rfl rfl rfl rfl ?_ ?_) <;> (repeat' (first | exact Cv.nil | exact Cv.rowf rfl rfl | exact RetC.nil | exact CvL.refl _ | exact Cv.full | exact Cv.refl | exact Crs.nil | refine Crs.cons ?_ rfl ?_ | exact Cr.no | refine Cr.row ?_ | refine Cr.box ?_ | refine RetC.tmp (by (conv => lhs; whnf) <;> rfl) ?_ ?_ | refine RetC.cell1 rfl rfl rfl rfl ?_ ?_ | refine RetC.cellN rfl rfl rfl (by repeat constructor) ?_ ?_ | refine Cv.rowE rfl rfl ?_ | exact CvL.nil | refine CvL.cons ?_ ?_)))
    · have m1 := dNext_c l' 9 (by omega)
      have m2 := dNext_c (diL l' 9) 6 (by omega)
      have d1 := diV_bd l' 9 (by omega)
      have d2 := diV_bd (diL l' 9) 6 (by omega)
      have hs := h2
      unfold Rg.small at hs
      have hW := wave_c ((k + 1 : Nat) : Int) r.ch 0 (diV l' 9) (by omega) (by omega) (by omega) (by omega)
      have hwl := wvN_len ((k + 1 : Nat) : Int) r.ch 0 (diV l' 9).toNat
      have hwb : (diV l' 9).toNat * r.ch.toNat ≤ 9 * 8 := Nat.mul_le_mul (by omega) (by omega)
      have hX := rrWrite_c r false r.ch (wvN ((k + 1 : Nat) : Int) r.ch 0 (diV l' 9).toNat) false (h2.ok (by omega)) (by omega) (by omega)
      have hs2 := Rg.write_small h2 r.ch (wvN ((k + 1 : Nat) : Int) r.ch 0 (diV l' 9).toNat)
      have hY := rrRead_c (r.write r.ch (wvN ((k + 1 : Nat) : Int) r.ch 0 (diV l' 9).toNat)).1 false (diV (diL l' 9) 6) (hs2.ok (by omega)) (by omega)
      have hs3 := Rg.read_small hs2 (diV (diL l' 9) 6)
      (repeat' (first | (first | refine AW.seq_k (fun K hK => ?_) | (refine hK _ ?_; clear hK) | (refine AW.condD rfl (fun hc => ?_) (fun hc => ?_) <;> try (first | (exfalso; omega) | (cases hc; done))) | (refine AW.cond rfl (fun hc => ?_) (fun hc => ?_) <;> (try simp only [Bool.and_eq_true, Bool.or_eq_true, Bool.not_eq_true', Bool.not_eq_false', Bool.and_eq_false_iff, Bool.or_eq_false_iff, Bool.and_eq_false_imp, decide_eq_true_eq, decide_eq_false_iff_not, Decidable.not_not, Int.not_lt, Int.not_le, ne_eq, Bool.not_not] at hc) <;> try (first | (exfalso; omega) | (cases hc; done))) | refine AW.block ?_ | refine AW.exit ?_ | refine AW.ret ?_ | refine AW.skip ?_ | (clear hK; refine hK _ ?_; clear hK) | (clear hK; clear hK; refine hK _ ?_; clear hK) | (clear hK; clear hK; clear hK; refine hK _ ?_; clear hK)) | (first | (refine AW.region (id := 3) ?_ <;> (try (refine Run.p rfl rfl rfl (OpP.mvA rfl) ?_)) <;> (try (refine Run.p rfl rfl rfl (OpP.gtt rfl rfl rfl) ?_)) <;> (try refine Run.fin rfl ?_)) | (refine AW.draw (id := 5) (by kernel_rfl) ?_ <;> (try (first | refine Run.ldNA rfl rfl rfl rfl rfl rfl rfl ?_ | refine Run.p rfl rfl rfl (OpP.loadES rfl rfl rfl (by repeat constructor)) ?_)) <;> (try (refine Run.p rfl rfl rfl (OpP.mvA rfl) ?_)) <;> (try (first | refine Run.p rfl rfl rfl (OpP.fieldAddrA rfl rfl) ?_ | refine Run.p rfl rfl rfl (OpP.fieldAddrE rfl rfl (by decide) (by first | (simp only [Nat.reduceAdd, Nat.zero_add, Nat.add_zero]; rfl) | rfl) (by decide)) ?_)) <;> (try (first | refine Run.ld1 rfl rfl rfl rfl rfl rfl rfl rfl ?_ | refine Run.p rfl rfl rfl (OpP.loadE1 rfl rfl rfl rfl (by (conv => lhs; whnf) <;> rfl)) ?_)) <;> (try (refine Run.p rfl rfl rfl (OpP.mvA rfl) ?_)) <;> (try (first | refine Run.cSA [0] m1 rfl rfl rfl rfl rfl rfl rfl rfl rfl rfl rfl rfl ?_ | refine Run.cSA [0] m2 rfl rfl rfl rfl rfl rfl rfl rfl rfl rfl rfl rfl ?_)) <;> (try (refine Run.c0 hW rfl rfl rfl rfl rfl rfl rfl rfl ?_)) <;> (try (refine Run.c0 hX rfl rfl rfl rfl rfl rfl rfl rfl ?_)) <;> (try (refine Run.p rfl rfl rfl (OpP.mvA rfl) ?_)) <;> (try (refine Run.p rfl rfl rfl (OpP.extract rfl rfl rfl) ?_)) <;> (try (refine Run.p rfl rfl rfl (OpP.extract rfl rfl rfl) ?_)) <;> (try (refine Run.p rfl rfl rfl (OpP.extract rfl rfl rfl) ?_)) <;> (try (refine Run.stA rfl rfl rfl rfl rfl ?_)) <;> (try refine Run.fin (by kernel_rfl) ?_)) | (refine AW.draw (id := 6) (by kernel_rfl) ?_ <;> (try (first | refine Run.ldNA rfl rfl rfl rfl rfl rfl rfl ?_ | refine Run.p rfl rfl rfl (OpP.loadES rfl rfl rfl (by repeat constructor)) ?_)) <;> (try (refine Run.p rfl rfl rfl (OpP.mvA rfl) ?_)) <;> (try (first | refine Run.cSA [0] m1 rfl rfl rfl rfl rfl rfl rfl rfl rfl rfl rfl rfl ?_ | refine Run.cSA [0] m2 rfl rfl rfl rfl rfl rfl rfl rfl rfl rfl rfl rfl ?_)) <;> (try (refine Run.c0 hY rfl rfl rfl rfl rfl rfl rfl rfl ?_)) <;> (try (refine Run.p rfl rfl rfl (OpP.mvA rfl) ?_)) <;> (try (refine Run.p rfl rfl rfl (OpP.extract rfl rfl rfl) ?_)) <;> (try (refine Run.p rfl rfl rfl (OpP.extract rfl rfl rfl) ?_)) <;> (try (refine Run.p rfl rfl rfl (OpP.extract rfl rfl rfl) ?_)) <;> (try (refine Run.p rfl rfl rfl (OpP.extract rfl rfl rfl) ?_)) <;> (try (refine Run.stA rfl rfl rfl rfl rfl ?_)) <;> (try refine Run.fin (by kernel_rfl) ?_)) | (refine AW.region (id := 4) ?_ <;> (try (refine Run.p rfl rfl rfl (OpP.mvA rfl) ?_)) <;> (try (refine Run.p rfl rfl rfl (OpP.subA rfl rfl rfl) ?_)) <;> (try (refine Run.p rfl rfl rfl (OpP.asA rfl) ?_)) <;> (try refine Run.fin rfl ?_)))))
      ((repeat (with_reducible refine inB_n ?_)); refine thenA_n ?_)
      refine ⟨(k, (stepM ((k + 1 : Nat) : Int) r l').1, (stepM ((k + 1 : Nat) : Int) r l').2), ⟨by simp only; omega, ?_, h3⟩, by simp only; omega, ?_⟩
      · simp only [stepM]
        unfold Rg.small at hs3 ⊢
        omega
      · refine Conv.mk [0, 1, 2] rfl rfl rfl ?_ rfl ?_
        (repeat' (first | exact Cf.nil | exact Cv.refl | exact CvL.refl _ | exact Cv.rowf rfl rfl | exact Crs.nil | refine Cf.cons' (by (conv => lhs; whnf) <;> rfl) ?_ ?_ | refine Crs.cons ?_ rfl ?_ | exact Cr.no | refine Cr.row ?_ | refine Cr.box ?_ | exact Cv.nil | exact Cv.full | exact CvL.nil | refine CvL.cons ?_ ?_))
        (all_goals (try (first | refine CvL.eq ?_ | refine Cv.eq ?_)))
        all_goals first | rfl | (simp only [AV.ren, AV.v.injEq, Value.int.injEq, true_and]; omega)
end Go.Proofs.Ytmjlfmhfljdboaa
