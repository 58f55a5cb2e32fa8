/-
  The law DescriptorDecodes: the walk.
-/
import Derived.Test.YtgnlohecllokhaaMdL
namespace Go.Proofs.Ytgnlohecllokhaa
set_option linter.unusedVariables false
set_option linter.unusedSimpArgs false
abbrev llP (L : List (List UInt8)) : List (List PV) := L.map fun p => [PV.sl 1 (bsP p)]
theorem fit_v (d : Ds) (h : dsV d = true) : FitD d := by
  simp only [dsV, Bool.and_eq_true, decide_eq_true_eq, List.all_eq_true] at h
  obtain ⟨⟨h1, h2⟩, h3⟩ := h
  have a1 := (headV_ok d h1).1
  refine ⟨by omega, by omega, fun b hb => ?_⟩
  have q := h3 b hb
  simp only [bxV, withinV, Bool.and_eq_true, decide_eq_true_eq] at q
  obtain ⟨⟨⟨⟨k1, k2⟩, k3⟩, k4⟩, k5⟩ := q
  have f1 := (spV_ok _ k2.1).1
  have f3 := (spV_ok _ k3.1).1
  exact ⟨by omega, ⟨by omega, fun m hm => by have := (mapV_ok m (msGo_ok _ _ k4 m hm)).1; omega⟩, by omega⟩
theorem fit_nil : FitD {} := ⟨by simp, by simp, fun b hb => by cases hb⟩
theorem dec_fit (b : List UInt8) : FitD (decP b).1 := by
  unfold decP
  split
  · exact fit_nil
  · split
    · exact fit_nil
    · unfold decB
      split
      · exact fit_nil
      · split
        · exact fit_nil
        · split
          · exact fit_v _ (by assumption)
          · exact fit_nil
theorem u8_add (a b : UInt8) : IntKind.u8.wrap ((a.toNat : Int) + (b.toNat : Int)) = ((a + b).toNat : Int) := by
  rw [IntKind.wrap_u8, UInt8.toNat_add]
  omega
set_option maxHeartbeats 4000000 in
theorem DescriptorDecodes_c (raw : List UInt8) (fr : Bool) (hraw : raw.length ≤ 9223372036854775807) (l : List UInt8) (f : Bool) (hl : l.length ≤ 9223372036854775807) (at_ : Int) (ha : 0 ≤ at_ ∧ at_ ≤ 65535) (by_ : UInt8) (cut : Int) (hc : 0 ≤ cut ∧ cut ≤ 255) :
    ACalls Try.prog 4 [.sl 1 (bsP raw) fr, .sl 1 (bsP l) f, .v (.int .u16 at_), .v (.int .u8 (by_.toNat : Int)), .v (.int .u8 cut)] [] (.v (.bool true)) [] := by
  have hrl : (bsP raw).length = raw.length := by simp
  by_cases h600 : ((bsP raw).length : Int) > 600
  · refine (ACalls.of (fn := Try.f4) Try.func4 rfl rfl Try.ntmps4 (fun I M w own => ?_))
    (repeat' (first | refine AW.seq_k (fun K hK => ?_) | (refine hK _ ?_; clear hK) | (refine AW.cond rfl (fun hc => ?_) (fun hc => ?_) <;> (try simp only [Bool.and_eq_true, Bool.or_eq_true, Bool.not_eq_true', Bool.not_eq_false', Bool.and_eq_false_iff, Bool.or_eq_false_iff, Bool.and_eq_false_imp, decide_eq_true_eq, decide_eq_false_iff_not, Decidable.not_not, Int.not_lt, Int.not_le, ne_eq, Bool.not_not] at hc) <;> try (first | (exfalso; omega) | (cases hc; done))) | refine AW.ret ?_ | refine AW.skip ?_ | (first | (refine AW.region (id := 0) ?_ <;> (try (refine Run.p rfl rfl rfl (OpP.asA rfl) ?_)) <;> (try refine Run.fin rfl ?_)) | (refine AW.region (id := 1) ?_ <;> (try (refine Run.c0 sane_c rfl rfl rfl rfl rfl rfl rfl rfl ?_)) <;> (try (refine Run.p rfl rfl rfl (OpP.not rfl rfl) ?_)) <;> (try refine Run.fin rfl ?_)) | (refine AW.region (id := 3) ?_ <;> (try (refine Run.p rfl rfl rfl (OpP.mvA rfl) ?_)) <;> (try (refine Run.ri rfl rfl rfl (OpRI.lenA rfl rfl) rfl ?_)) <;> (try (refine Run.p rfl rfl rfl (OpP.decT (OpP.gtt rfl rfl rfl) (by assumption)) ?_)) <;> (try refine Run.fin rfl ?_)) | (refine AW.region (id := 4) ?_ <;> (try (refine Run.p rfl rfl rfl (OpP.asA rfl) ?_)) <;> (try refine Run.fin rfl ?_)))))
    ((first | refine RetOk.tup rfl rfl ?_ | refine RetOk.one rfl ?_) <;> (repeat' (first | exact Cv.nil | exact Cv.rowf rfl rfl | exact RetC.nil | exact CvL.refl _ | exact Cv.refl | refine RetC.tmp (by (conv => lhs; whnf) <;> rfl) ?_ ?_ | refine RetC.cell1 rfl rfl rfl rfl ?_ ?_ | refine RetC.cellN rfl rfl rfl (by repeat constructor) ?_ ?_ | refine Cv.rowE rfl rfl ?_ | exact Cv.full | exact CvL.nil | refine CvL.cons ?_ ?_)))
  · have q1 := made_c l f hl
    obtain ⟨hv, hf⟩ := made_ok l
    generalize (madeD l).1 = D at q1 hv hf
    have q2 := rdEncode_c D false (fit_of D hv hf) hf
    rw [encQ, if_pos hv] at q2
    simp only at q2
    have t1 := encB_len D
    obtain ⟨t2, t3⟩ := encB_top D hv
    have hb4 := body_len D
    have hX : List.take (((bsP (encB D)).length : Int) - 4).toNat (bsP (encB D)) = bsP (bodyB D) := by
      have hs : bsP (encB D) = bsP (bodyB D) ++ bsP (e32 (crc (bodyB D))) := by simp [encB, sealB]
      rw [show (((bsP (encB D)).length : Int) - 4).toNat = (bsP (bodyB D)).length by rw [List.length_map, List.length_map]; omega, hs, List.take_left' rfl]
    have hXl : (List.take (((bsP (encB D)).length : Int) - 4).toNat (bsP (encB D))).length = (bodyB D).length := by rw [hX]; simp
    generalize bodyB D = b at *
    generalize encB D = eb at *
    have hbl : (bsP eb).length = eb.length := by simp
    have hbb : (bsP b).length = b.length := by simp
    have hmod : 0 ≤ at_ % (b.length : Int) ∧ at_ % (b.length : Int) < (b.length : Int) := ⟨Int.emod_nonneg _ (by omega), Int.emod_lt_of_pos _ (by omega)⟩
    have hil : (at_ % (b.length : Int)).toNat < b.length := by omega
    refine (ACalls.of (fn := Try.f4) Try.func4 rfl rfl Try.ntmps4 (fun I M w own => ?_))
    (repeat' (first | refine AW.seq_k (fun K hK => ?_) | (refine hK _ ?_; clear hK) | (refine AW.cond rfl (fun hc => ?_) (fun hc => ?_) <;> (try simp only [Bool.and_eq_true, Bool.or_eq_true, Bool.not_eq_true', Bool.not_eq_false', Bool.and_eq_false_iff, Bool.or_eq_false_iff, Bool.and_eq_false_imp, decide_eq_true_eq, decide_eq_false_iff_not, Decidable.not_not, Int.not_lt, Int.not_le, ne_eq, Bool.not_not] at hc) <;> try (first | (exfalso; omega) | (cases hc; done))) | refine AW.skip ?_ | (first | (refine AW.region (id := 0) ?_ <;> (try (refine Run.p rfl rfl rfl (OpP.asA rfl) ?_)) <;> (try refine Run.fin rfl ?_)) | (refine AW.region (id := 1) ?_ <;> (try (refine Run.c0 sane_c rfl rfl rfl rfl rfl rfl rfl rfl ?_)) <;> (try (refine Run.p rfl rfl rfl (OpP.not rfl rfl) ?_)) <;> (try refine Run.fin rfl ?_)) | (refine AW.region (id := 3) ?_ <;> (try (refine Run.p rfl rfl rfl (OpP.mvA rfl) ?_)) <;> (try (refine Run.ri rfl rfl rfl (OpRI.lenA rfl rfl) rfl ?_)) <;> (try (refine Run.p rfl rfl rfl (OpP.decF (OpP.gtt rfl rfl rfl) (by assumption)) ?_)) <;> (try refine Run.fin rfl ?_)) | (refine AW.region (id := 5) ?_ <;> (try (refine Run.p rfl rfl rfl (OpP.mvA rfl) ?_)) <;> (try (refine Run.c0 q1 rfl rfl rfl rfl rfl rfl rfl rfl ?_)) <;> (try (refine Run.c0 q2 rfl rfl rfl rfl rfl rfl rfl rfl ?_)) <;> (try (refine Run.p rfl rfl rfl (OpP.mvA rfl) ?_)) <;> (try (refine Run.p rfl rfl rfl (OpP.extract rfl rfl rfl) ?_)) <;> (try (refine Run.p rfl rfl rfl (OpP.extract rfl rfl rfl) ?_)) <;> (try (refine Run.p rfl rfl rfl (OpP.asA rfl) ?_)) <;> (try (refine Run.p rfl rfl rfl (OpP.asA rfl) ?_)) <;> (try refine Run.fin rfl ?_)))))
    (repeat' (first | refine AW.seq_k (fun K hK => ?_) | (refine hK _ ?_; clear hK) | (refine AW.region (id := 6) ?_ <;> (try (refine Run.p rfl rfl rfl (OpP.mvA rfl) ?_)) <;> (try (refine Run.p rfl rfl rfl (OpP.mvA rfl) ?_)) <;> (try (refine Run.ri rfl rfl rfl (OpRI.lenA rfl rfl) rfl ?_)) <;> (try (refine Run.p rfl rfl rfl (OpP.subA rfl rfl rfl) ?_)) <;> (try (refine Run.ri rfl rfl rfl (OpRI.sliceHA rfl rfl rfl) rfl ?_)) <;> (try (refine Run.apBS (fun _ => rfl) rfl rfl rfl rfl (Or.inl ⟨_, rfl⟩) rfl rfl (Or.inr ⟨rfl, rfl⟩) (SrcNI.dat Dat.sl) (m := b.length) (by rw [hXl]; simp) (by rw [hXl]; omega) (by omega) (by simp [maxLen]; omega) rfl (by simp [keys]) (fun dd => ?_))) <;> (try (refine Run.p rfl rfl rfl (OpP.asA rfl) ?_)) <;> (try refine Run.fin rfl ?_))))
    refine AW.conv (s' := ⟨[(0, .sl 1 (bsP raw) fr), (3, .v (.int .u8 (by_.toNat : Int))), (2, .v (.int .u16 at_)), (4, .v (.int .u8 cut)), (11, .sl 1 (bsP eb) false), (13, .bsl 0 1 0 b.length (b.length + dd))], [.box (bxs (bsP b ++ List.replicate dd [PV.v (.int .u8 0)]))]⟩) (Conv.mk [0] rfl rfl rfl ?_ rfl ?_) ?_
    · (repeat' (first | exact Cf.nil | exact Cv.refl | exact CvL.refl _ | exact Cv.rowf rfl rfl | exact Crs.nil | refine Cf.cons' (by (conv => lhs; whnf) <;> rfl) ?_ ?_ | refine Crs.cons ?_ rfl ?_ | exact Cr.no | refine Cr.row ?_ | refine Cr.box ?_ | exact Cv.nil | exact Cv.full | exact CvL.nil | refine CvL.cons ?_ ?_))
    · refine Crs.cons (Cr.bxs ?_) (bxs_lt' _ _) Crs.nil
      rw [List.nil_append, hX]
      rfl
    have hld := bx_at (List.replicate dd [PV.v (.int .u8 0)]) b (at_ % (b.length : Int)).toNat hil
    have hO := bx_put b dd (at_ % (b.length : Int)).toNat (b[(at_ % (b.length : Int)).toNat] + by_) hil
    rw [← u8_add] at hO
    have hcl : (b.set (at_ % (b.length : Int)).toNat (b[(at_ % (b.length : Int)).toNat] + by_)).length = b.length := List.length_set
    generalize b[(at_ % (b.length : Int)).toNat] + by_ = v at hO hcl
    generalize b[(at_ % (b.length : Int)).toNat] = u at hld hO
    generalize b.set (at_ % (b.length : Int)).toNat v = c at hO hcl
    have hby := by_.toNat_lt
    have hut := u.toNat_lt
    (repeat' (first | refine AW.seq_k (fun K hK => ?_) | (refine hK _ ?_; clear hK) | (refine AW.region (id := 7) ?_ <;> (try (refine Run.p rfl rfl rfl (OpP.mvA rfl) ?_)) <;> (try (refine Run.p rfl rfl rfl (OpP.mvA rfl) ?_)) <;> (try (refine Run.p rfl rfl rfl (OpP.convA rfl rfl) ?_)) <;> (try (refine Run.p rfl rfl rfl (OpP.mvA rfl) ?_)) <;> (try (refine Run.p rfl rfl rfl (OpP.lenB rfl rfl) ?_)) <;> (try (refine Run.p rfl rfl rfl (OpP.remN rfl rfl rfl (by omega) (by omega) rfl) ?_)) <;> (try (refine Run.p rfl rfl rfl (OpP.indexAddrB rfl rfl rfl (by omega) (by omega) rfl) ?_)) <;> (try (refine Run.ld1F rfl rfl rfl rfl rfl rfl rfl ?_)) <;> (try (refine Run.p rfl rfl rfl (OpP.mvA rfl) ?_)) <;> (try (refine Run.p rfl rfl rfl (OpP.addA rfl rfl rfl) ?_)) <;> (try (refine Run.p rfl rfl rfl (OpP.indexAddrB rfl rfl rfl (by omega) (by omega) rfl) ?_)) <;> (try (refine Run.stF rfl rfl rfl rfl rfl ?_)) <;> (try refine Run.fin rfl ?_))))
    have hcl2 : (bsP c).length = c.length := by simp
    rw [← hcl, ← hcl2]
    refine AW.freezeA 0 1 (bsP c) (List.replicate dd [PV.v (.int .u8 0)]) rfl rfl (by simp) ?_
    have hcm : 0 ≤ cut % ((bsP c).length : Int) ∧ cut % ((bsP c).length : Int) < ((bsP c).length : Int) := ⟨Int.emod_nonneg _ (by omega), Int.emod_lt_of_pos _ (by omega)⟩
    have hjoin : ∀ x : List UInt8, x.length ≤ 20000 → ∃ L : List (List UInt8), L = [raw, eb, sealB raw, sealB x, x] ∧ L.length = 5 ∧ ∀ y ∈ L, y.length ≤ 30000 := by
      intro x hx
      refine ⟨_, rfl, rfl, fun y hy => ?_⟩
      simp only [List.mem_cons, List.not_mem_nil, or_false] at hy
      have := seal_len raw
      have := seal_len x
      rcases hy with rfl | rfl | rfl | rfl | rfl <;> omega
    by_cases h3 : cut % 3 = 0
    · have hXc : List.take (((bsP c).length : Int) - cut % ((bsP c).length : Int)).toNat (bsP c) = bsP (c.take (((bsP c).length : Int) - cut % ((bsP c).length : Int)).toNat) := by simp [List.map_take]
      have hxl : (c.take (((bsP c).length : Int) - cut % ((bsP c).length : Int)).toNat).length ≤ 20000 := by rw [List.length_take]; omega
      (repeat' (first | refine AW.seq_k (fun K hK => ?_) | (refine hK _ ?_; clear hK) | (refine AW.cond rfl (fun hc => ?_) (fun hc => ?_) <;> (try simp only [Bool.and_eq_true, Bool.or_eq_true, Bool.not_eq_true', Bool.not_eq_false', Bool.and_eq_false_iff, Bool.or_eq_false_iff, Bool.and_eq_false_imp, decide_eq_true_eq, decide_eq_false_iff_not, Decidable.not_not, Int.not_lt, Int.not_le, ne_eq, Bool.not_not] at hc) <;> try (first | (exfalso; omega) | (cases hc; done))) | (first | (refine AW.region (id := 8) ?_ <;> (try (refine Run.p rfl rfl rfl (OpP.mvA rfl) ?_)) <;> (try (refine Run.p rfl rfl rfl (OpP.remN rfl rfl rfl (by omega) (by omega) rfl) ?_)) <;> (try (refine Run.p rfl rfl rfl (OpP.decT (OpP.eq rfl rfl rfl) (by assumption)) ?_)) <;> (try refine Run.fin rfl ?_)) | (refine AW.region (id := 9) ?_ <;> (try (refine Run.p rfl rfl rfl (OpP.mvA rfl) ?_)) <;> (try (refine Run.p rfl rfl rfl (OpP.mvA rfl) ?_)) <;> (try (refine Run.ri rfl rfl rfl (OpRI.lenA rfl rfl) rfl ?_)) <;> (try (refine Run.p rfl rfl rfl (OpP.mvA rfl) ?_)) <;> (try (refine Run.p rfl rfl rfl (OpP.convA rfl rfl) ?_)) <;> (try (refine Run.p rfl rfl rfl (OpP.mvA rfl) ?_)) <;> (try (refine Run.ri rfl rfl rfl (OpRI.lenA rfl rfl) rfl ?_)) <;> (try (refine Run.p rfl rfl rfl (OpP.remN rfl rfl rfl (by omega) (by omega) rfl) ?_)) <;> (try (refine Run.p rfl rfl rfl (OpP.subA rfl rfl rfl) ?_)) <;> (try (refine Run.ri rfl rfl rfl (OpRI.sliceHA rfl rfl rfl) rfl ?_)) <;> (try (refine Run.p rfl rfl rfl (OpP.asA rfl) ?_)) <;> (try refine Run.fin rfl ?_)))))
      rw [hXc]
      generalize c.take (((bsP c).length : Int) - cut % ((bsP c).length : Int)).toNat = x at hxl
      obtain ⟨L, hL, hLl, hLb⟩ := hjoin x hxl
      have s1 := sealed_c raw fr (by omega)
      have s2 := sealed_c x false (by omega)
      (repeat' (first | (refine hK _ ?_; clear hK) | refine AW.block ?_ | (refine AW.region (id := 10) ?_ <;> (try (refine Run.p rfl rfl rfl (OpP.mvA rfl) ?_)) <;> (try (refine Run.p rfl rfl rfl (OpP.mvA rfl) ?_)) <;> (try (refine Run.p rfl rfl rfl (OpP.mvA rfl) ?_)) <;> (try (refine Run.c0 s1 rfl rfl rfl rfl rfl rfl rfl rfl ?_)) <;> (try (refine Run.p rfl rfl rfl (OpP.mvA rfl) ?_)) <;> (try (refine Run.c0 s2 rfl rfl rfl rfl rfl rfl rfl rfl ?_)) <;> (try (refine Run.p rfl rfl rfl (OpP.mvA rfl) ?_)) <;> (try (refine Run.bsA rfl rfl rfl rfl rfl rfl ?_)) <;> (try (refine Run.ri rfl rfl rfl (OpRI.lenA rfl rfl) rfl ?_)) <;> (try (refine Run.p rfl rfl rfl (OpP.mvA rfl) ?_)) <;> (try refine Run.fin rfl ?_))))
      refine AW.loopF (X := Nat) (fun y => ⟨[(68, .sl 1 (llP L) true), (69, .v (.int .i64 5)), (70, .v (.int .i64 (y : Int)))], []⟩)
        (fun y => y ≤ 5) (fun y => 5 - y) 0 ?_ ?_ ?_
      · refine Conv.mk [] rfl rfl rfl ?_ rfl ?_
        (repeat' (first | exact Cf.nil | exact Cv.refl | exact CvL.refl _ | exact Cv.rowf rfl rfl | exact Crs.nil | refine Cf.cons' (by (conv => lhs; whnf) <;> rfl) ?_ ?_ | refine Crs.cons ?_ rfl ?_ | exact Cr.no | refine Cr.row ?_ | refine Cr.box ?_ | exact Cv.nil | exact Cv.full | exact CvL.nil | refine CvL.cons ?_ ?_))
        (all_goals (try (first | refine CvL.eq ?_ | refine Cv.eq ?_)))
        all_goals first | rfl | (rw [hL]; first | rfl | simp [AV.ren])
      · simp
      · intro i hi
        rcases Nat.lt_or_ge i 5 with h | h
        · have hil : i < L.length := by omega
          have hA : At (llP L) (i : Int) [PV.sl 1 (bsP L[i])] := At.mk i rfl (by simp [hil])
          have hy := hLb L[i] (List.getElem_mem _)
          generalize L[i] = y at hA hy
          have r1 := dDecode_c y false (by omega)
          have r2 := rdDecode_c y false (by omega)
          have r3 := same_c (decP y).1 false false (dec_fit y)
          generalize decP y = Q at r1 r2 r3
          obtain ⟨Q1, Q2⟩ := Q
          simp only at r1 r2 r3
          have g1 : ¬ (Q2 ≠ Q2) := fun h => h rfl
          (repeat' (first | refine AW.seq_k (fun K hK => ?_) | (refine hK _ ?_; clear hK) | (refine AW.condD rfl (fun hc => ?_) (fun hc => ?_) <;> try (first | (exfalso; omega) | (cases hc; done))) | (refine AW.cond rfl (fun hc => ?_) (fun hc => ?_) <;> (try simp only [Bool.and_eq_true, Bool.or_eq_true, Bool.not_eq_true', Bool.not_eq_false', Bool.and_eq_false_iff, Bool.or_eq_false_iff, Bool.and_eq_false_imp, decide_eq_true_eq, decide_eq_false_iff_not, Decidable.not_not, Int.not_lt, Int.not_le, ne_eq, Bool.not_not] at hc) <;> try (first | (exfalso; omega) | (cases hc; done))) | refine AW.block ?_ | refine AW.skip ?_ | (first | (refine AW.region (id := 11) ?_ <;> (try (refine Run.p rfl rfl rfl (OpP.ltt rfl rfl rfl) ?_)) <;> (try refine Run.fin rfl ?_)) | (refine AW.region (id := 12) ?_ <;> (try (refine Run.ri rfl rfl rfl (OpRI.indexAddrA rfl rfl) rfl ?_)) <;> (try (refine Run.p rfl rfl rfl (OpP.loadE1 rfl rfl rfl rfl (by (conv => lhs; whnf) <;> rfl)) ?_)) <;> (try (refine Run.p rfl rfl rfl (OpP.asA rfl) ?_)) <;> (try refine Run.fin rfl ?_)) | (refine AW.region (id := 13) ?_ <;> (try (refine Run.p rfl rfl rfl (OpP.mvA rfl) ?_)) <;> (try (refine Run.c0 r1 rfl rfl rfl rfl rfl rfl rfl rfl ?_)) <;> (try (refine Run.p rfl rfl rfl (OpP.mvA rfl) ?_)) <;> (try (refine Run.p rfl rfl rfl (OpP.extract rfl rfl rfl) ?_)) <;> (try (refine Run.p rfl rfl rfl (OpP.extract rfl rfl rfl) ?_)) <;> (try (refine Run.alA rfl rfl rfl rfl ?_)) <;> (try (refine Run.stA rfl rfl rfl rfl rfl ?_)) <;> (try (refine Run.p rfl rfl rfl (OpP.asA rfl) ?_)) <;> (try refine Run.fin rfl ?_)) | (refine AW.region (id := 14) ?_ <;> (try (refine Run.p rfl rfl rfl (OpP.mvA rfl) ?_)) <;> (try (refine Run.c0 r2 rfl rfl rfl rfl rfl rfl rfl rfl ?_)) <;> (try (refine Run.p rfl rfl rfl (OpP.mvA rfl) ?_)) <;> (try (refine Run.p rfl rfl rfl (OpP.extract rfl rfl rfl) ?_)) <;> (try (refine Run.p rfl rfl rfl (OpP.extract rfl rfl rfl) ?_)) <;> (try (refine Run.alA rfl rfl rfl rfl ?_)) <;> (try (refine Run.stA rfl rfl rfl rfl rfl ?_)) <;> (try (refine Run.p rfl rfl rfl (OpP.asA rfl) ?_)) <;> (try refine Run.fin rfl ?_)) | (refine AW.region (id := 15) ?_ <;> (try (refine Run.p rfl rfl rfl (OpP.mvA rfl) ?_)) <;> (try (refine Run.p rfl rfl rfl (OpP.mvA rfl) ?_)) <;> (try (refine Run.p rfl rfl rfl (OpP.decF (OpP.ne rfl rfl rfl) (by assumption)) ?_)) <;> (try (refine Run.p rfl rfl rfl (OpP.mvA rfl) ?_)) <;> (try (refine Run.ldNA rfl rfl rfl rfl rfl rfl rfl ?_)) <;> (try (refine Run.ldNA rfl rfl rfl rfl rfl rfl rfl ?_)) <;> (try (refine Run.c0 r3 rfl rfl rfl rfl rfl rfl rfl rfl ?_)) <;> (try (refine Run.p rfl rfl rfl (OpP.not rfl rfl) ?_)) <;> (try (refine Run.p rfl rfl rfl (OpP.pickA rfl rfl) ?_)) <;> (try refine Run.fin rfl ?_)) | (refine AW.region (id := 17) ?_ <;> (try (refine Run.p rfl rfl rfl (OpP.addA rfl rfl rfl) ?_)) <;> (try (refine Run.p rfl rfl rfl (OpP.mvA rfl) ?_)) <;> (try refine Run.fin rfl ?_)))))
          ((repeat (with_reducible refine inB_n ?_)); refine thenA_n ?_)
          refine ⟨i + 1, by omega, by omega, ?_⟩
          refine Conv.mk [] rfl rfl rfl ?_ rfl ?_
          (repeat' (first | exact Cf.nil | exact Cv.refl | exact CvL.refl _ | exact Cv.rowf rfl rfl | exact Crs.nil | refine Cf.cons' (by (conv => lhs; whnf) <;> rfl) ?_ ?_ | refine Crs.cons ?_ rfl ?_ | exact Cr.no | refine Cr.row ?_ | refine Cr.box ?_ | exact Cv.nil | exact Cv.full | exact CvL.nil | refine CvL.cons ?_ ?_))
          (all_goals (try (first | refine CvL.eq ?_ | refine Cv.eq ?_)))
          all_goals simp [AV.ren]
        · (repeat' (first | refine AW.seq_k (fun K hK => ?_) | (refine hK _ ?_; clear hK) | (refine AW.condD rfl (fun hc => ?_) (fun hc => ?_) <;> try (first | (exfalso; omega) | (cases hc; done))) | refine AW.exit ?_ | refine AW.ret ?_ | (clear hK; refine hK _ ?_; clear hK) | (first | (refine AW.region (id := 11) ?_ <;> (try (refine Run.p rfl rfl rfl (OpP.ltt rfl rfl rfl) ?_)) <;> (try refine Run.fin rfl ?_)) | (refine AW.region (id := 18) ?_ <;> (try (refine Run.p rfl rfl rfl (OpP.asA rfl) ?_)) <;> (try refine Run.fin rfl ?_)))))
          ((first | refine RetOk.tup rfl rfl ?_ | refine RetOk.one rfl ?_) <;> (repeat' (first | exact Cv.nil | exact Cv.rowf rfl rfl | exact RetC.nil | exact CvL.refl _ | exact Cv.refl | refine RetC.tmp (by (conv => lhs; whnf) <;> rfl) ?_ ?_ | refine RetC.cell1 rfl rfl rfl rfl ?_ ?_ | refine RetC.cellN rfl rfl rfl (by repeat constructor) ?_ ?_ | refine Cv.rowE rfl rfl ?_ | exact Cv.full | exact CvL.nil | refine CvL.cons ?_ ?_)))
    · have hxl : c.length ≤ 20000 := by omega
      (repeat' (first | refine AW.seq_k (fun K hK => ?_) | (refine hK _ ?_; clear hK) | (refine AW.cond rfl (fun hc => ?_) (fun hc => ?_) <;> (try simp only [Bool.and_eq_true, Bool.or_eq_true, Bool.not_eq_true', Bool.not_eq_false', Bool.and_eq_false_iff, Bool.or_eq_false_iff, Bool.and_eq_false_imp, decide_eq_true_eq, decide_eq_false_iff_not, Decidable.not_not, Int.not_lt, Int.not_le, ne_eq, Bool.not_not] at hc) <;> try (first | (exfalso; omega) | (cases hc; done))) | refine AW.skip ?_ | (refine AW.region (id := 8) ?_ <;> (try (refine Run.p rfl rfl rfl (OpP.mvA rfl) ?_)) <;> (try (refine Run.p rfl rfl rfl (OpP.remN rfl rfl rfl (by omega) (by omega) rfl) ?_)) <;> (try (refine Run.p rfl rfl rfl (OpP.decF (OpP.eq rfl rfl rfl) (by assumption)) ?_)) <;> (try refine Run.fin rfl ?_))))
      obtain ⟨L, hL, hLl, hLb⟩ := hjoin c hxl
      have s1 := sealed_c raw fr (by omega)
      have s2 := sealed_c c false (by omega)
      (repeat' (first | (refine hK _ ?_; clear hK) | refine AW.block ?_ | (refine AW.region (id := 10) ?_ <;> (try (refine Run.p rfl rfl rfl (OpP.mvA rfl) ?_)) <;> (try (refine Run.p rfl rfl rfl (OpP.mvA rfl) ?_)) <;> (try (refine Run.p rfl rfl rfl (OpP.mvA rfl) ?_)) <;> (try (refine Run.c0 s1 rfl rfl rfl rfl rfl rfl rfl rfl ?_)) <;> (try (refine Run.p rfl rfl rfl (OpP.mvA rfl) ?_)) <;> (try (refine Run.c0 s2 rfl rfl rfl rfl rfl rfl rfl rfl ?_)) <;> (try (refine Run.p rfl rfl rfl (OpP.mvA rfl) ?_)) <;> (try (refine Run.bsA rfl rfl rfl rfl rfl rfl ?_)) <;> (try (refine Run.ri rfl rfl rfl (OpRI.lenA rfl rfl) rfl ?_)) <;> (try (refine Run.p rfl rfl rfl (OpP.mvA rfl) ?_)) <;> (try refine Run.fin rfl ?_))))
      refine AW.loopF (X := Nat) (fun y => ⟨[(68, .sl 1 (llP L) true), (69, .v (.int .i64 5)), (70, .v (.int .i64 (y : Int)))], []⟩)
        (fun y => y ≤ 5) (fun y => 5 - y) 0 ?_ ?_ ?_
      · refine Conv.mk [] rfl rfl rfl ?_ rfl ?_
        (repeat' (first | exact Cf.nil | exact Cv.refl | exact CvL.refl _ | exact Cv.rowf rfl rfl | exact Crs.nil | refine Cf.cons' (by (conv => lhs; whnf) <;> rfl) ?_ ?_ | refine Crs.cons ?_ rfl ?_ | exact Cr.no | refine Cr.row ?_ | refine Cr.box ?_ | exact Cv.nil | exact Cv.full | exact CvL.nil | refine CvL.cons ?_ ?_))
        (all_goals (try (first | refine CvL.eq ?_ | refine Cv.eq ?_)))
        all_goals first | rfl | (rw [hL]; first | rfl | simp [AV.ren])
      · simp
      · intro i hi
        rcases Nat.lt_or_ge i 5 with h | h
        · have hil : i < L.length := by omega
          have hA : At (llP L) (i : Int) [PV.sl 1 (bsP L[i])] := At.mk i rfl (by simp [hil])
          have hy := hLb L[i] (List.getElem_mem _)
          generalize L[i] = y at hA hy
          have r1 := dDecode_c y false (by omega)
          have r2 := rdDecode_c y false (by omega)
          have r3 := same_c (decP y).1 false false (dec_fit y)
          generalize decP y = Q at r1 r2 r3
          obtain ⟨Q1, Q2⟩ := Q
          simp only at r1 r2 r3
          have g1 : ¬ (Q2 ≠ Q2) := fun h => h rfl
          (repeat' (first | refine AW.seq_k (fun K hK => ?_) | (refine hK _ ?_; clear hK) | (refine AW.condD rfl (fun hc => ?_) (fun hc => ?_) <;> try (first | (exfalso; omega) | (cases hc; done))) | (refine AW.cond rfl (fun hc => ?_) (fun hc => ?_) <;> (try simp only [Bool.and_eq_true, Bool.or_eq_true, Bool.not_eq_true', Bool.not_eq_false', Bool.and_eq_false_iff, Bool.or_eq_false_iff, Bool.and_eq_false_imp, decide_eq_true_eq, decide_eq_false_iff_not, Decidable.not_not, Int.not_lt, Int.not_le, ne_eq, Bool.not_not] at hc) <;> try (first | (exfalso; omega) | (cases hc; done))) | refine AW.block ?_ | refine AW.skip ?_ | (first | (refine AW.region (id := 11) ?_ <;> (try (refine Run.p rfl rfl rfl (OpP.ltt rfl rfl rfl) ?_)) <;> (try refine Run.fin rfl ?_)) | (refine AW.region (id := 12) ?_ <;> (try (refine Run.ri rfl rfl rfl (OpRI.indexAddrA rfl rfl) rfl ?_)) <;> (try (refine Run.p rfl rfl rfl (OpP.loadE1 rfl rfl rfl rfl (by (conv => lhs; whnf) <;> rfl)) ?_)) <;> (try (refine Run.p rfl rfl rfl (OpP.asA rfl) ?_)) <;> (try refine Run.fin rfl ?_)) | (refine AW.region (id := 13) ?_ <;> (try (refine Run.p rfl rfl rfl (OpP.mvA rfl) ?_)) <;> (try (refine Run.c0 r1 rfl rfl rfl rfl rfl rfl rfl rfl ?_)) <;> (try (refine Run.p rfl rfl rfl (OpP.mvA rfl) ?_)) <;> (try (refine Run.p rfl rfl rfl (OpP.extract rfl rfl rfl) ?_)) <;> (try (refine Run.p rfl rfl rfl (OpP.extract rfl rfl rfl) ?_)) <;> (try (refine Run.alA rfl rfl rfl rfl ?_)) <;> (try (refine Run.stA rfl rfl rfl rfl rfl ?_)) <;> (try (refine Run.p rfl rfl rfl (OpP.asA rfl) ?_)) <;> (try refine Run.fin rfl ?_)) | (refine AW.region (id := 14) ?_ <;> (try (refine Run.p rfl rfl rfl (OpP.mvA rfl) ?_)) <;> (try (refine Run.c0 r2 rfl rfl rfl rfl rfl rfl rfl rfl ?_)) <;> (try (refine Run.p rfl rfl rfl (OpP.mvA rfl) ?_)) <;> (try (refine Run.p rfl rfl rfl (OpP.extract rfl rfl rfl) ?_)) <;> (try (refine Run.p rfl rfl rfl (OpP.extract rfl rfl rfl) ?_)) <;> (try (refine Run.alA rfl rfl rfl rfl ?_)) <;> (try (refine Run.stA rfl rfl rfl rfl rfl ?_)) <;> (try (refine Run.p rfl rfl rfl (OpP.asA rfl) ?_)) <;> (try refine Run.fin rfl ?_)) | (refine AW.region (id := 15) ?_ <;> (try (refine Run.p rfl rfl rfl (OpP.mvA rfl) ?_)) <;> (try (refine Run.p rfl rfl rfl (OpP.mvA rfl) ?_)) <;> (try (refine Run.p rfl rfl rfl (OpP.decF (OpP.ne rfl rfl rfl) (by assumption)) ?_)) <;> (try (refine Run.p rfl rfl rfl (OpP.mvA rfl) ?_)) <;> (try (refine Run.ldNA rfl rfl rfl rfl rfl rfl rfl ?_)) <;> (try (refine Run.ldNA rfl rfl rfl rfl rfl rfl rfl ?_)) <;> (try (refine Run.c0 r3 rfl rfl rfl rfl rfl rfl rfl rfl ?_)) <;> (try (refine Run.p rfl rfl rfl (OpP.not rfl rfl) ?_)) <;> (try (refine Run.p rfl rfl rfl (OpP.pickA rfl rfl) ?_)) <;> (try refine Run.fin rfl ?_)) | (refine AW.region (id := 17) ?_ <;> (try (refine Run.p rfl rfl rfl (OpP.addA rfl rfl rfl) ?_)) <;> (try (refine Run.p rfl rfl rfl (OpP.mvA rfl) ?_)) <;> (try refine Run.fin rfl ?_)))))
          ((repeat (with_reducible refine inB_n ?_)); refine thenA_n ?_)
          refine ⟨i + 1, by omega, by omega, ?_⟩
          refine Conv.mk [] rfl rfl rfl ?_ rfl ?_
          (repeat' (first | exact Cf.nil | exact Cv.refl | exact CvL.refl _ | exact Cv.rowf rfl rfl | exact Crs.nil | refine Cf.cons' (by (conv => lhs; whnf) <;> rfl) ?_ ?_ | refine Crs.cons ?_ rfl ?_ | exact Cr.no | refine Cr.row ?_ | refine Cr.box ?_ | exact Cv.nil | exact Cv.full | exact CvL.nil | refine CvL.cons ?_ ?_))
          (all_goals (try (first | refine CvL.eq ?_ | refine Cv.eq ?_)))
          all_goals simp [AV.ren]
        · (repeat' (first | refine AW.seq_k (fun K hK => ?_) | (refine hK _ ?_; clear hK) | (refine AW.condD rfl (fun hc => ?_) (fun hc => ?_) <;> try (first | (exfalso; omega) | (cases hc; done))) | refine AW.exit ?_ | refine AW.ret ?_ | (clear hK; refine hK _ ?_; clear hK) | (first | (refine AW.region (id := 11) ?_ <;> (try (refine Run.p rfl rfl rfl (OpP.ltt rfl rfl rfl) ?_)) <;> (try refine Run.fin rfl ?_)) | (refine AW.region (id := 18) ?_ <;> (try (refine Run.p rfl rfl rfl (OpP.asA rfl) ?_)) <;> (try refine Run.fin rfl ?_)))))
          ((first | refine RetOk.tup rfl rfl ?_ | refine RetOk.one rfl ?_) <;> (repeat' (first | exact Cv.nil | exact Cv.rowf rfl rfl | exact RetC.nil | exact CvL.refl _ | exact Cv.refl | refine RetC.tmp (by (conv => lhs; whnf) <;> rfl) ?_ ?_ | refine RetC.cell1 rfl rfl rfl rfl ?_ ?_ | refine RetC.cellN rfl rfl rfl (by repeat constructor) ?_ ?_ | refine Cv.rowE rfl rfl ?_ | exact Cv.full | exact CvL.nil | refine CvL.cons ?_ ?_)))
end Go.Proofs.Ytgnlohecllokhaa
