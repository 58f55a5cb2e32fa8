/-
  Walks of the made descriptors: boxes, descriptors.
-/
import Derived.Test.YtgnlohecllokhaaMdB
namespace Go.Proofs.Ytgnlohecllokhaa
set_option linter.unusedVariables false
set_option linter.unusedSimpArgs false
theorem Boxes_c (l : List UInt8) : ACalls Try.prog 57 [.ptr 0 0, .v (.int .i64 1), .v (.int .i64 2)] [diR l] (.sl 4 (bxL (boxesD (1 + diV l 2).toNat (diL l 2) []).1) false) [diR (boxesD (1 + diV l 2).toNat (diL l 2) []).2] := by
  have q := dNext_c l 2 (by decide)
  have hr := diV_rng l 2 (by decide)
  generalize hR : boxesD (1 + diV l 2).toNat (diL l 2) [] = R
  generalize diV l 2 = v at q hr hR
  generalize diL l 2 = l0 at q hR
  refine (ACalls.of (fn := Try.f57) Try.func57 rfl rfl Try.ntmps57 (fun I M w own => ?_))
  (repeat' (first | refine AW.seq_k (fun K hK => ?_) | (refine hK _ ?_; clear hK) | refine AW.block ?_ | (first | (refine AW.region (id := 0) ?_ <;> (try (refine Run.p rfl rfl rfl (OpP.asA rfl) ?_)) <;> (try refine Run.fin rfl ?_)) | (refine AW.region (id := 1) ?_ <;> (try (refine Run.p rfl rfl rfl (OpP.asA rfl) ?_)) <;> (try refine Run.fin rfl ?_)) | (refine AW.region (id := 2) ?_ <;> (try (refine Run.p rfl rfl rfl (OpP.mvA rfl) ?_)) <;> (try (refine Run.p rfl rfl rfl (OpP.mvA rfl) ?_)) <;> (try (refine Run.p rfl rfl rfl (OpP.mvA rfl) ?_)) <;> (try (refine Run.p rfl rfl rfl (OpP.mvA rfl) ?_)) <;> (try (refine Run.p rfl rfl rfl (OpP.subA rfl rfl rfl) ?_)) <;> (try (refine Run.p rfl rfl rfl (OpP.addA rfl rfl rfl) ?_)) <;> (try (refine Run.cSA [0] q rfl rfl rfl rfl rfl rfl rfl rfl rfl rfl rfl rfl ?_)) <;> (try (refine Run.p rfl rfl rfl (OpP.addA rfl rfl rfl) ?_)) <;> (try (refine Run.p rfl rfl rfl (OpP.asA rfl) ?_)) <;> (try refine Run.fin rfl ?_)))))
  refine AW.loopF (X := Nat × List UInt8 × List Bx) (fun x => ⟨[(0, .ptr 0 0), (7, .row 1 (bxL x.2.2).length), (8, .v (.int .i64 (x.1 : Int)))], [diR x.2.1, .row 4 (bxL x.2.2)]⟩)
    (fun x => x.1 + x.2.2.length ≤ 2 ∧ boxesD x.1 x.2.1 x.2.2 = R) (fun x => x.1) ((1 + v).toNat, l0, []) ?_ ?_ ?_
  · refine Conv.own 7 4 [] (Or.inr ⟨rfl, rfl⟩) ?_
    refine Conv.mk [0, 1] rfl rfl rfl ?_ rfl ?_
    (repeat' (first | exact Cf.nil | exact Cv.refl | exact CvL.refl _ | exact Cv.rowf rfl rfl | exact Crs.nil | refine Cf.cons' (by (conv => lhs; whnf) <;> rfl) ?_ ?_ | refine Crs.cons ?_ rfl ?_ | exact Cr.no | refine Cr.row ?_ | refine Cr.box ?_ | exact Cv.nil | exact Cv.full | exact CvL.nil | refine CvL.cons ?_ ?_))
    (all_goals (try (first | refine CvL.eq ?_ | refine Cv.eq ?_)))
    all_goals first | rfl | (simp only [AV.ren]; congr 2; omega) | (simp [AV.ren, renL]; done)
  · exact ⟨by simp only [List.length_nil]; omega, hR⟩
  · rintro ⟨n, la, acc⟩ ⟨h1, h2⟩
    simp only at h1 h2 ⊢
    have hac : (bxL acc).length = acc.length := by simp
    rcases n with _ | n
    · have hd : ¬ (0 < ((0 : Nat) : Int)) := by omega
      rw [boxesD] at h2
      subst h2
      (repeat' (first | refine AW.seq_k (fun K hK => ?_) | (refine hK _ ?_; clear hK) | (refine AW.cond rfl (fun hc => ?_) (fun hc => ?_) <;> (try simp only [Bool.and_eq_true, Bool.or_eq_true, Bool.not_eq_true', Bool.not_eq_false', Bool.and_eq_false_iff, Bool.or_eq_false_iff, Bool.and_eq_false_imp, decide_eq_true_eq, decide_eq_false_iff_not, Decidable.not_not, Int.not_lt, Int.not_le, ne_eq, Bool.not_not] at hc) <;> try (first | (exfalso; omega) | (cases hc; done))) | refine AW.exit ?_ | refine AW.ret ?_ | (clear hK; refine hK _ ?_; clear hK) | (first | (refine AW.region (id := 3) ?_ <;> (try (refine Run.p rfl rfl rfl (OpP.mvA rfl) ?_)) <;> (try (refine Run.p rfl rfl rfl (OpP.decF (OpP.gtt rfl rfl rfl) (by assumption)) ?_)) <;> (try refine Run.fin rfl ?_)) | (refine AW.region (id := 6) ?_ <;> (try (refine Run.p rfl rfl rfl (OpP.mvA rfl) ?_)) <;> (try (refine Run.p rfl rfl rfl (OpP.asA rfl) ?_)) <;> (try refine Run.fin rfl ?_)))))
      ((first | refine RetOk.tupS [0] rfl rfl rfl rfl rfl ?_ ?_ | refine RetOk.oneS [0] rfl rfl rfl rfl ?_ ?_) <;> (repeat' (first | exact Cv.nil | exact Cv.rowf rfl rfl | exact RetC.nil | exact CvL.refl _ | exact Cv.full | exact Cv.refl | exact Crs.nil | refine Crs.cons ?_ rfl ?_ | exact Cr.no | refine Cr.row ?_ | refine Cr.box ?_ | refine RetC.tmp (by (conv => lhs; whnf) <;> rfl) ?_ ?_ | refine RetC.cell1 rfl rfl rfl rfl ?_ ?_ | refine RetC.cellN rfl rfl rfl (by repeat constructor) ?_ ?_ | refine Cv.rowE rfl rfl ?_ | exact CvL.nil | refine CvL.cons ?_ ?_)))
    · have hd : 0 < ((n + 1 : Nat) : Int) := by omega
      rw [boxesD] at h2
      have q1 := Box_c la
      generalize boxD la = B at q1 h2
      (repeat' (first | refine AW.seq_k (fun K hK => ?_) | (refine hK _ ?_; clear hK) | (refine AW.cond rfl (fun hc => ?_) (fun hc => ?_) <;> (try simp only [Bool.and_eq_true, Bool.or_eq_true, Bool.not_eq_true', Bool.not_eq_false', Bool.and_eq_false_iff, Bool.or_eq_false_iff, Bool.and_eq_false_imp, decide_eq_true_eq, decide_eq_false_iff_not, Decidable.not_not, Int.not_lt, Int.not_le, ne_eq, Bool.not_not] at hc) <;> try (first | (exfalso; omega) | (cases hc; done))) | refine AW.block ?_ | refine AW.skip ?_ | (first | (refine AW.region (id := 3) ?_ <;> (try (refine Run.p rfl rfl rfl (OpP.mvA rfl) ?_)) <;> (try (refine Run.p rfl rfl rfl (OpP.decT (OpP.gtt rfl rfl rfl) (by assumption)) ?_)) <;> (try refine Run.fin rfl ?_)) | (refine AW.region (id := 5) ?_ <;> (try (refine Run.p rfl rfl rfl (OpP.mvA rfl) ?_)) <;> (try (refine Run.p rfl rfl rfl (OpP.mvA rfl) ?_)) <;> (try (refine Run.cSA [0] q1 rfl rfl rfl rfl rfl rfl rfl rfl rfl rfl rfl rfl ?_)) <;> (try (refine Run.bsA rfl rfl rfl rfl rfl rfl ?_)) <;> (try (refine Run.apRA rfl rfl rfl rfl rfl rfl rfl rfl rfl ?_)) <;> (try (refine Run.p rfl rfl rfl (OpP.asA rfl) ?_)) <;> (try refine Run.fin rfl ?_)) | (refine AW.region (id := 4) ?_ <;> (try (refine Run.p rfl rfl rfl (OpP.mvA rfl) ?_)) <;> (try (refine Run.p rfl rfl rfl (OpP.subA rfl rfl rfl) ?_)) <;> (try (refine Run.p rfl rfl rfl (OpP.asA rfl) ?_)) <;> (try refine Run.fin rfl ?_)))))
      ((repeat (with_reducible refine inB_n ?_)); refine thenA_n ?_)
      refine ⟨(n, B.2, acc ++ [B.1]), ⟨by simp only [List.length_append, List.length_singleton]; omega, h2⟩, by simp only; omega, ?_⟩
      refine Conv.mk [0, 1] rfl rfl rfl ?_ rfl ?_
      (repeat' (first | exact Cf.nil | exact Cv.refl | exact CvL.refl _ | exact Cv.rowf rfl rfl | exact Crs.nil | refine Cf.cons' (by (conv => lhs; whnf) <;> rfl) ?_ ?_ | refine Crs.cons ?_ rfl ?_ | exact Cr.no | refine Cr.row ?_ | refine Cr.box ?_ | exact Cv.nil | exact Cv.full | exact CvL.nil | refine CvL.cons ?_ ?_))
      (all_goals (try (first | refine CvL.eq ?_ | refine Cv.eq ?_)))
      all_goals first | rfl | (simp only [AV.ren]; congr 2; omega) | (simp [AV.ren, renL]; done)
theorem Descriptor_c (dir : Int) (l : List UInt8) : ACalls Try.prog 20 [.ptr 0 0, .v (.int .i64 dir)] [diR l] (.agg (dsL (dscD dir l).1 false)) [diR (dscD dir l).2] := by
  generalize hR : dscD dir l = R
  rw [dscD] at hR
  have q1 := dNext_c l 256 (by decide)
  have r1 := diV_rng l 256 (by decide)
  generalize diV l 256 = v1 at q1 r1 hR
  generalize diL l 256 = l1 at q1 hR
  have q2 := dNext_c l1 3 (by decide)
  have r2 := diV_rng l1 3 (by decide)
  generalize diV l1 3 = v2 at q2 r2 hR
  generalize diL l1 3 = l2 at q2 hR
  have q3 := dNext_c l2 4 (by decide)
  have r3 := diV_rng l2 4 (by decide)
  generalize diV l2 4 = v3 at q3 r3 hR
  generalize diL l2 4 = l3 at q3 hR
  have q4 := dNext_c l3 200 (by decide)
  have r4 := diV_rng l3 200 (by decide)
  generalize diV l3 200 = v4 at q4 r4 hR
  generalize diL l3 200 = l4 at q4 hR
  have q5 := dNext_c l4 4 (by decide)
  have r5 := diV_rng l4 4 (by decide)
  generalize diV l4 4 = v5 at q5 r5 hR
  generalize diL l4 4 = l5 at q5 hR
  have q6 := dNext_c l5 4 (by decide)
  have r6 := diV_rng l5 4 (by decide)
  generalize diV l5 4 = v6 at q6 r6 hR
  generalize diL l5 4 = l6 at q6 hR
  have q7 := Boxes_c l6
  generalize boxesD (1 + diV l6 2).toNat (diL l6 2) [] = BX at q7 hR
  have hA : At [[PV.v (.string (bs [100, 97, 99]))], [PV.v (.string (bs [104, 100, 109, 105, 45, 49]))], [PV.v (.string (bs [77, 105, 99, 46, 50]))]] v2 [PV.v (.string (bs (namesT.getD v2.toNat [])))] := by
    have : v2 = 0 ∨ v2 = 1 ∨ v2 = 2 := by omega
    rcases this with rfl | rfl | rfl
    · exact At.mk 0 rfl rfl
    · exact At.mk 1 rfl rfl
    · exact At.mk 2 rfl rfl
  have hB : At [[PV.v (.int .i64 0)], [PV.v (.int .i64 66)], [PV.v (.int .i64 200)], [PV.v (.int .i64 7)]] v5 [PV.v (.int .i64 (driftT.getD v5.toNat 0))] := by
    have : v5 = 0 ∨ v5 = 1 ∨ v5 = 2 ∨ v5 = 3 := by omega
    rcases this with rfl | rfl | rfl | rfl
    · exact At.mk 0 rfl rfl
    · exact At.mk 1 rfl rfl
    · exact At.mk 2 rfl rfl
    · exact At.mk 3 rfl rfl
  generalize namesT.getD v2.toNat [] = nm at hA hR
  generalize driftT.getD v5.toNat 0 = dr at hB hR
  refine (ACalls.of (fn := Try.f20) Try.func20 rfl rfl Try.ntmps20 (fun I M w own => ?_))
  (repeat' (first | refine AW.seq_k (fun K hK => ?_) | (refine hK _ ?_; clear hK) | refine AW.ret ?_ | (first | (refine AW.region (id := 0) ?_ <;> (try (refine Run.alA rfl rfl rfl rfl ?_)) <;> (try refine Run.fin rfl ?_)) | (refine AW.draw (id := 1) (by kernel_rfl) ?_ <;> (try (refine Run.p rfl rfl rfl (OpP.mvA rfl) ?_)) <;> (try (refine Run.cSA [0] q1 rfl rfl rfl rfl rfl rfl rfl rfl rfl rfl rfl rfl ?_)) <;> (try (refine Run.p rfl rfl rfl (OpP.convA rfl rfl) ?_)) <;> (try (refine Run.bsA rfl rfl rfl rfl rfl rfl ?_)) <;> (try (refine Run.p rfl rfl rfl (OpP.mvA rfl) ?_)) <;> (try (refine Run.cSA [0] q2 rfl rfl rfl rfl rfl rfl rfl rfl rfl rfl rfl rfl ?_)) <;> (try (refine Run.ri rfl rfl rfl (OpRI.indexAddrA rfl rfl) rfl ?_)) <;> (try (refine Run.p rfl rfl rfl (OpP.loadE1 rfl rfl rfl rfl (by (conv => lhs; whnf) <;> rfl)) ?_)) <;> (try (refine Run.p rfl rfl rfl (OpP.mvA rfl) ?_)) <;> (try (refine Run.p rfl rfl rfl (OpP.mvA rfl) ?_)) <;> (try (refine Run.cSA [0] q3 rfl rfl rfl rfl rfl rfl rfl rfl rfl rfl rfl rfl ?_)) <;> (try (refine Run.p rfl rfl rfl (OpP.mvA rfl) ?_)) <;> (try (refine Run.cSA [0] q4 rfl rfl rfl rfl rfl rfl rfl rfl rfl rfl rfl rfl ?_)) <;> (try (refine Run.bsA rfl rfl rfl rfl rfl rfl ?_)) <;> (try (refine Run.p rfl rfl rfl (OpP.mvA rfl) ?_)) <;> (try (refine Run.cSA [0] q5 rfl rfl rfl rfl rfl rfl rfl rfl rfl rfl rfl rfl ?_)) <;> (try (refine Run.ri rfl rfl rfl (OpRI.indexAddrA rfl rfl) rfl ?_)) <;> (try (refine Run.p rfl rfl rfl (OpP.loadE1 rfl rfl rfl rfl (by (conv => lhs; whnf) <;> rfl)) ?_)) <;> (try (refine Run.p rfl rfl rfl (OpP.mvA rfl) ?_)) <;> (try (refine Run.cSA [0] q6 rfl rfl rfl rfl rfl rfl rfl rfl rfl rfl rfl rfl ?_)) <;> (try (refine Run.p rfl rfl rfl (OpP.mvA rfl) ?_)) <;> (try (refine Run.cSA [0] q7 rfl rfl rfl rfl rfl rfl rfl rfl rfl rfl rfl rfl ?_)) <;> (try (refine Run.p rfl rfl rfl (OpP.buildSA rfl) ?_)) <;> (try (refine Run.stA rfl rfl rfl rfl rfl ?_)) <;> (try refine Run.fin (by kernel_rfl) ?_)))))
  subst hR
  ((first | refine RetOk.tupS [0] rfl rfl rfl rfl rfl ?_ ?_ | refine RetOk.oneS [0] rfl rfl rfl rfl ?_ ?_) <;> (repeat' (first | exact Cv.nil | exact Cv.rowf rfl rfl | exact RetC.nil | exact CvL.refl _ | exact Cv.full | exact Cv.refl | exact Crs.nil | refine Crs.cons ?_ rfl ?_ | exact Cr.no | refine Cr.row ?_ | refine Cr.box ?_ | refine RetC.tmp (by (conv => lhs; whnf) <;> rfl) ?_ ?_ | refine RetC.cell1 rfl rfl rfl rfl ?_ ?_ | refine RetC.cellN rfl rfl rfl (by repeat constructor) ?_ ?_ | refine Cv.rowE rfl rfl ?_ | exact CvL.nil | refine CvL.cons ?_ ?_)))
  all_goals skip
theorem made_c (l : List UInt8) (f : Bool) (hl : l.length ≤ 9223372036854775807) : ACalls Try.prog 11 [.sl 1 (bsP l) f] [] (.agg (dsL (madeD l).1 false)) [] := by
  have q0 := dNew_c l f hl
  have q1 := dNext_c (l.take 300) 2 (by decide)
  have r1 := diV_rng (l.take 300) 2 (by decide)
  have q2 := Descriptor_c (1 + diV (l.take 300) 2) (diL (l.take 300) 2)
  generalize hR : madeD l = R
  rw [madeD] at hR
  rw [hR] at q2
  generalize diV (l.take 300) 2 = v at q1 r1 q2
  generalize diL (l.take 300) 2 = l1 at q1 q2
  generalize l.take 300 = l0 at q0 q1
  refine (ACalls.of (fn := Try.f11) Try.func11 rfl rfl Try.ntmps11 (fun I M w own => ?_))
  (repeat' (first | refine AW.seq_k (fun K hK => ?_) | (refine hK _ ?_; clear hK) | refine AW.ret ?_ | (first | (refine AW.region (id := 0) ?_ <;> (try (refine Run.alA rfl rfl rfl rfl ?_)) <;> (try refine Run.fin rfl ?_)) | (refine AW.region (id := 1) ?_ <;> (try (refine Run.p rfl rfl rfl (OpP.mvA rfl) ?_)) <;> (try (refine Run.cSA [] q0 rfl rfl rfl rfl rfl rfl rfl rfl rfl rfl rfl rfl ?_)) <;> (try (refine Run.p rfl rfl rfl (OpP.asA rfl) ?_)) <;> (try refine Run.fin rfl ?_)) | (refine AW.region (id := 2) ?_ <;> (try (refine Run.p rfl rfl rfl (OpP.mvA rfl) ?_)) <;> (try (refine Run.p rfl rfl rfl (OpP.mvA rfl) ?_)) <;> (try (refine Run.cSA [1] q1 rfl rfl rfl rfl rfl rfl rfl rfl rfl rfl rfl rfl ?_)) <;> (try (refine Run.p rfl rfl rfl (OpP.addA rfl rfl rfl) ?_)) <;> (try (refine Run.cSA [1] q2 rfl rfl rfl rfl rfl rfl rfl rfl rfl rfl rfl rfl ?_)) <;> (try (refine Run.stA rfl rfl rfl rfl rfl ?_)) <;> (try refine Run.fin rfl ?_)))))
  ((first | refine RetOk.tup rfl rfl ?_ | refine RetOk.one rfl ?_) <;> (repeat' (first | exact Cv.nil | exact Cv.rowf rfl rfl | exact RetC.nil | exact CvL.refl _ | exact Cv.refl | refine RetC.tmp (by (conv => lhs; whnf) <;> rfl) ?_ ?_ | refine RetC.cell1 rfl rfl rfl rfl ?_ ?_ | refine RetC.cellN rfl rfl rfl (by repeat constructor) ?_ ?_ | refine Cv.rowE rfl rfl ?_ | exact Cv.full | exact CvL.nil | refine CvL.cons ?_ ?_)))
end Go.Proofs.Ytgnlohecllokhaa
