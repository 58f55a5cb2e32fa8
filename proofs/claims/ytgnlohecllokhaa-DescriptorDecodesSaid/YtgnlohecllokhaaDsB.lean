/-
  Walks of chapter 11: the bytes of descriptors.
-/
import Derived.Test.YtgnlohecllokhaaDsA
namespace Go.Proofs.Ytgnlohecllokhaa
set_option linter.unusedVariables false
set_option linter.unusedSimpArgs false
theorem setB_len (s : List (Int × Int)) : (setB s).length = 2 + 8 * s.length := by rw [setB, List.length_append, e16_len, spB_len]
theorem e16s_len (m : List Int) : (m.flatMap e16).length = 2 * m.length := by
  induction m with
  | nil => rfl
  | cons x m ih => rw [List.flatMap_cons, List.length_append, ih, e16_len, List.length_cons]; omega
theorem mapB_len (m : List Int) : (mapB m).length = 2 + 2 * m.length := by rw [mapB, List.length_append, e16_len, e16s_len]
theorem flat_le {α : Type} (enc : α → List UInt8) (c : Nat) : ∀ l : List α, (∀ x ∈ l, (enc x).length ≤ c) → (l.flatMap enc).length ≤ c * l.length
  | [], _ => by simp
  | x :: l, h => by
    have := flat_le enc c l fun y hy => h y (List.mem_cons_of_mem _ hy)
    have h1 := h x (by simp)
    rw [List.flatMap_cons, List.length_append, List.length_cons, Nat.mul_add]; omega
theorem boxB_len (b : Bx) (h : bxV b = true) : (boxB b).length ≤ 1400 := by
  simp only [bxV, withinV, spV, Bool.and_eq_true, decide_eq_true_eq] at h
  obtain ⟨⟨⟨⟨h1, h2⟩, h3⟩, h4⟩, h5⟩ := h
  have hm := flat_le mapB 18 b.maps fun m hm => by
    have := msGo_ok _ _ h4 m hm
    simp only [mapV, Bool.and_eq_true, decide_eq_true_eq] at this
    rw [mapB_len]; omega
  simp only [boxB, List.length_append, e16_len, setB_len]
  omega
theorem bodyB_len (d : Ds) (h : dsV d = true) : (bodyB d).length ≤ 20000 := by
  simp only [dsV, Bool.and_eq_true, decide_eq_true_eq, List.all_eq_true] at h
  obtain ⟨⟨h1, h2⟩, h3⟩ := h
  have h4 := (headV_ok d h1).1
  have h5 := flat_le boxB 1400 d.boxes fun b hb => boxB_len b (h3 b hb)
  simp only [bodyB, hdB, txB, List.length_append, List.length_cons, List.length_nil, e16_len, e32_len, e64_len]
  omega
def encQ (d : Ds) : List UInt8 × Int := if dsV d = true then (encB d, 0) else ([], 1)
theorem len_of {a t b : List UInt8} (h : a ++ t = b) : a.length + t.length = b.length := by rw [← h, List.length_append]
set_option maxHeartbeats 4000000 in
theorem dEncode_c (d : Ds) (f : Bool) (hd : FitD d) (hf : dsFit d) : ACalls Try.prog 12 [.agg (dsL d f)] [] (.tup [bsl (encQ d).1 false, .v (.int .i64 (encQ d).2)]) [] := by
  have qv := dValid_c d f hd
  generalize hR : encQ d = R
  rw [encQ] at hR
  by_cases hv : dsV d = true
  · rw [if_pos hv] at hR
    rw [hv] at qv
    have ho := dsV_ok d hf hv
    have hL := bodyB_len d hv
    obtain ⟨a1, a2, ⟨a3, a4⟩, ⟨a5, a6⟩, ⟨a7, a8⟩, ⟨a9, a10⟩, ⟨a11, a12⟩, a13, a14⟩ := ho
    have hll : (bxL d.boxes).length = d.boxes.length := by simp
    have q1 := fun f => P64_c [83, 78, 68, 49] f d.id ⟨a1.1, by omega⟩ (by simp)
    have q2 := PutText_c ([83, 78, 68, 49] ++ e64 d.id) false d.name a2 (by simp [e64_len])
    have hA0 : (putT ([83, 78, 68, 49] ++ e64 d.id) d.name).length ≤ 77 := by simp [putT, e64_len]; omega
    have hE : putT ([83, 78, 68, 49] ++ e64 d.id) d.name ++ e16 d.dir ++ e16 d.dom ++ e32 d.lat ++ e16 d.drift ++ e16 d.jit ++ e16 (d.boxes.length : Int) ++ d.boxes.flatMap boxB = bodyB d := by simp [bodyB, hdB, txB, putT]
    have hbd := d.boxes.length
    generalize putT ([83, 78, 68, 49] ++ e64 d.id) d.name = A0 at q2 hA0 hE
    have q3 := short_c A0 false d.dir ⟨a3, a4⟩ (by omega)
    have q4 := short_c (A0 ++ e16 d.dir) false d.dom ⟨a5, a6⟩ (by simp only [List.length_append, e16_len]; omega)
    have q5 := P32_c (A0 ++ e16 d.dir ++ e16 d.dom) false d.lat ⟨a7, a8⟩ (by simp only [List.length_append, e16_len]; omega)
    have q6 := short_c (A0 ++ e16 d.dir ++ e16 d.dom ++ e32 d.lat) false d.drift ⟨a9, a10⟩ (by simp only [List.length_append, e16_len, e32_len]; omega)
    have q7 := short_c (A0 ++ e16 d.dir ++ e16 d.dom ++ e32 d.lat ++ e16 d.drift) false d.jit ⟨a11, a12⟩ (by simp only [List.length_append, e16_len, e32_len]; omega)
    have q8 := short_c (A0 ++ e16 d.dir ++ e16 d.dom ++ e32 d.lat ++ e16 d.drift ++ e16 d.jit) false (d.boxes.length : Int) (by omega) (by simp only [List.length_append, e16_len, e32_len]; omega)
    rw [← hll] at q8
    refine (ACalls.of (fn := Try.f12) Try.func12 rfl rfl Try.ntmps12 (fun I M w own => ?_))
    (repeat' (first | refine AW.seq_k (fun K hK => ?_) | (refine hK _ ?_; clear hK) | (refine AW.cond rfl (fun hc => ?_) (fun hc => ?_) <;> (try simp only [Bool.and_eq_true, Bool.or_eq_true, Bool.not_eq_true', Bool.not_eq_false', Bool.and_eq_false_iff, Bool.or_eq_false_iff, Bool.and_eq_false_imp, decide_eq_true_eq, decide_eq_false_iff_not, Decidable.not_not, Int.not_lt, Int.not_le, ne_eq, Bool.not_not] at hc) <;> try (first | (exfalso; omega) | (cases hc; done))) | refine AW.block ?_ | refine AW.skip ?_ | (first | (refine AW.region (id := 0) ?_ <;> (try (refine Run.bxA rfl rfl rfl rfl ?_)) <;> (try (refine Run.p rfl rfl rfl (OpP.asA rfl) ?_)) <;> (try (refine Run.p rfl rfl rfl (OpP.asA rfl) ?_)) <;> (try refine Run.fin rfl ?_)) | (refine AW.region (id := 1) ?_ <;> (try (refine Run.ldNA rfl rfl rfl rfl rfl rfl rfl ?_)) <;> (try (refine Run.c0 qv rfl rfl rfl rfl rfl rfl rfl rfl ?_)) <;> (try (refine Run.p rfl rfl rfl (OpP.not rfl rfl) ?_)) <;> (try refine Run.fin rfl ?_)) | (refine AW.draw (id := 3) (by kernel_rfl) ?_ <;> (try (refine Run.bsBA rfl rfl rfl rfl rfl rfl ?_)) <;> (try (refine Run.cvM rfl rfl rfl rfl rfl rfl rfl (Nat.succ_pos _) (by simp) (by (repeat constructor); first | done | fail) ?_)) <;> (try (refine Run.p rfl rfl rfl (OpP.fieldAddrA rfl rfl) ?_)) <;> (try (refine Run.ld1 rfl rfl rfl rfl rfl rfl rfl rfl ?_)) <;> (try (refine Run.c0 (q1 _) rfl rfl rfl rfl rfl rfl rfl rfl ?_)) <;> (try (refine Run.p rfl rfl rfl (OpP.fieldAddrA rfl rfl) ?_)) <;> (try (refine Run.ld1 rfl rfl rfl rfl rfl rfl rfl rfl ?_)) <;> (try (refine Run.c0 q2 rfl rfl rfl rfl rfl rfl rfl rfl ?_)) <;> (try (refine Run.p rfl rfl rfl (OpP.mvA rfl) ?_)) <;> (try (refine Run.p rfl rfl rfl (OpP.extract rfl rfl rfl) ?_)) <;> (try (refine Run.p rfl rfl rfl (OpP.extract rfl rfl rfl) ?_)) <;> (try (refine Run.p rfl rfl rfl (OpP.asA rfl) ?_)) <;> (try (refine Run.p rfl rfl rfl (OpP.asA rfl) ?_)) <;> (try refine Run.fin (by kernel_rfl) ?_)) | (refine AW.draw (id := 4) (by kernel_rfl) ?_ <;> (try (refine Run.p rfl rfl rfl (OpP.mvA rfl) ?_)) <;> (try (refine Run.p rfl rfl rfl (OpP.fieldAddrA rfl rfl) ?_)) <;> (try (refine Run.ld1 rfl rfl rfl rfl rfl rfl rfl rfl ?_)) <;> (try (refine Run.c0 q3 rfl rfl rfl rfl rfl rfl rfl rfl ?_)) <;> (try (refine Run.p rfl rfl rfl (OpP.fieldAddrA rfl rfl) ?_)) <;> (try (refine Run.ld1 rfl rfl rfl rfl rfl rfl rfl rfl ?_)) <;> (try (refine Run.c0 q4 rfl rfl rfl rfl rfl rfl rfl rfl ?_)) <;> (try (refine Run.p rfl rfl rfl (OpP.fieldAddrA rfl rfl) ?_)) <;> (try (refine Run.ld1 rfl rfl rfl rfl rfl rfl rfl rfl ?_)) <;> (try (refine Run.p rfl rfl rfl (OpP.convA rfl rfl) ?_)) <;> (try (refine Run.c0 q5 rfl rfl rfl rfl rfl rfl rfl rfl ?_)) <;> (try (refine Run.p rfl rfl rfl (OpP.asA rfl) ?_)) <;> (try refine Run.fin (by kernel_rfl) ?_)) | (refine AW.draw (id := 5) (by kernel_rfl) ?_ <;> (try (refine Run.p rfl rfl rfl (OpP.mvA rfl) ?_)) <;> (try (refine Run.p rfl rfl rfl (OpP.fieldAddrA rfl rfl) ?_)) <;> (try (refine Run.ld1 rfl rfl rfl rfl rfl rfl rfl rfl ?_)) <;> (try (refine Run.c0 q6 rfl rfl rfl rfl rfl rfl rfl rfl ?_)) <;> (try (refine Run.p rfl rfl rfl (OpP.fieldAddrA rfl rfl) ?_)) <;> (try (refine Run.ld1 rfl rfl rfl rfl rfl rfl rfl rfl ?_)) <;> (try (refine Run.c0 q7 rfl rfl rfl rfl rfl rfl rfl rfl ?_)) <;> (try (refine Run.p rfl rfl rfl (OpP.fieldAddrA rfl rfl) ?_)) <;> (try (refine Run.ld1 rfl rfl rfl rfl rfl rfl rfl rfl ?_)) <;> (try (refine Run.ri rfl rfl rfl (OpRI.lenA rfl rfl) rfl ?_)) <;> (try (refine Run.c0 q8 rfl rfl rfl rfl rfl rfl rfl rfl ?_)) <;> (try (refine Run.p rfl rfl rfl (OpP.asA rfl) ?_)) <;> (try refine Run.fin (by kernel_rfl) ?_)) | (refine AW.region (id := 6) ?_ <;> (try (refine Run.p rfl rfl rfl (OpP.fieldAddrA rfl rfl) ?_)) <;> (try (refine Run.ld1 rfl rfl rfl rfl rfl rfl rfl rfl ?_)) <;> (try (refine Run.ri rfl rfl rfl (OpRI.lenA rfl rfl) rfl ?_)) <;> (try (refine Run.p rfl rfl rfl (OpP.mvA rfl) ?_)) <;> (try refine Run.fin rfl ?_)))))
    refine AW.loopF (X := Nat × List UInt8) (fun x => ⟨[(4, bsl x.2 false), (49, .sl 4 (bxL d.boxes) f), (50, .v (.int .i64 (d.boxes.length : Int))), (51, .v (.int .i64 (x.1 : Int)))], []⟩)
      (fun x => x.1 ≤ d.boxes.length ∧ x.2 ++ (d.boxes.drop x.1).flatMap boxB = bodyB d) (fun x => d.boxes.length - x.1) (0, A0 ++ e16 d.dir ++ e16 d.dom ++ e32 d.lat ++ e16 d.drift ++ e16 d.jit ++ e16 (d.boxes.length : Int)) ?_ ?_ ?_
    · refine Conv.mk [] rfl rfl rfl ?_ rfl ?_
      (repeat' (first | exact Cf.nil | exact Cv.refl | exact CvL.refl _ | exact Cv.rowf rfl rfl | exact Crs.nil | refine Cf.cons' (by (conv => lhs; whnf) <;> rfl) ?_ ?_ | refine Crs.cons ?_ rfl ?_ | exact Cr.no | refine Cr.row ?_ | refine Cr.box ?_ | exact Cv.nil | exact Cv.full | exact CvL.nil | refine CvL.cons ?_ ?_))
      (all_goals (try (first | refine CvL.eq ?_ | refine Cv.eq ?_)))
      all_goals (simp only [AV.ren]; first | done | rfl | (simp; done))
    · exact ⟨Nat.zero_le _, hE⟩
    · rintro ⟨i, a⟩ ⟨h1, h2⟩
      simp only at h1 h2 ⊢
      have hla := len_of h2
      rcases Nat.lt_or_ge i d.boxes.length with h | h
      · have hA : At (bxL d.boxes) (i : Int) (bxPV d.boxes[i]) := At.mk i rfl (by simp [h])
        have hb := a14 d.boxes[i] (List.getElem_mem _)
        rw [List.drop_eq_getElem_cons h, List.flatMap_cons] at h2
        generalize d.boxes[i] = b at hA hb h2
        generalize hT1 : (d.boxes.drop (i + 1)).flatMap boxB = T1 at h2
        obtain ⟨⟨b1, b2⟩, b3, ⟨b4, b5⟩, b6⟩ := hb
        have hml : (mpP b.maps).length = b.maps.length := by simp
        have g1 : a ++ e16 b.kinds ++ setB b.rates ++ e16 (b.maps.length : Int) ++ (b.maps.flatMap mapB ++ (setB b.sizes ++ T1)) = bodyB d := by rw [← h2]; simp [boxB]
        have gl := len_of g1
        simp only [List.length_append, e16_len] at gl
        have q9 := short_c a false b.kinds ⟨b1, b2⟩ (by omega)
        have q10 := set_c (a ++ e16 b.kinds) false false b.rates b3 (by simp only [List.length_append, e16_len]; omega)
        have q11 := short_c (a ++ e16 b.kinds ++ setB b.rates) false (b.maps.length : Int) (by omega) (by simp only [List.length_append, e16_len]; omega)
        rw [← hml] at q11
        (repeat' (first | refine AW.seq_k (fun K hK => ?_) | (refine hK _ ?_; clear hK) | (refine AW.condD rfl (fun hc => ?_) (fun hc => ?_) <;> try (first | (exfalso; omega) | (cases hc; done))) | refine AW.block ?_ | refine AW.skip ?_ | (first | (refine AW.region (id := 7) ?_ <;> (try (refine Run.p rfl rfl rfl (OpP.ltt rfl rfl rfl) ?_)) <;> (try refine Run.fin rfl ?_)) | (refine AW.region (id := 8) ?_ <;> (try (refine Run.ri rfl rfl rfl (OpRI.indexAddrA rfl rfl) rfl ?_)) <;> (try (refine Run.p rfl rfl rfl (OpP.loadES rfl rfl rfl (by repeat constructor)) ?_)) <;> (try (refine Run.alA rfl rfl rfl rfl ?_)) <;> (try (refine Run.stA rfl rfl rfl rfl rfl ?_)) <;> (try refine Run.fin rfl ?_)) | (refine AW.draw (id := 9) (by kernel_rfl) ?_ <;> (try (refine Run.p rfl rfl rfl (OpP.mvA rfl) ?_)) <;> (try (refine Run.p rfl rfl rfl (OpP.fieldAddrA rfl rfl) ?_)) <;> (try (refine Run.ld1 rfl rfl rfl rfl rfl rfl rfl rfl ?_)) <;> (try (refine Run.c0 q9 rfl rfl rfl rfl rfl rfl rfl rfl ?_)) <;> (try (refine Run.p rfl rfl rfl (OpP.fieldAddrA rfl rfl) ?_)) <;> (try (refine Run.ldNA rfl rfl rfl rfl rfl rfl rfl ?_)) <;> (try (refine Run.c0 q10 rfl rfl rfl rfl rfl rfl rfl rfl ?_)) <;> (try (refine Run.p rfl rfl rfl (OpP.fieldAddrA rfl rfl) ?_)) <;> (try (refine Run.ld1 rfl rfl rfl rfl rfl rfl rfl rfl ?_)) <;> (try (refine Run.ri rfl rfl rfl (OpRI.lenA rfl rfl) rfl ?_)) <;> (try (refine Run.c0 q11 rfl rfl rfl rfl rfl rfl rfl rfl ?_)) <;> (try (refine Run.p rfl rfl rfl (OpP.asA rfl) ?_)) <;> (try refine Run.fin (by kernel_rfl) ?_)) | (refine AW.region (id := 10) ?_ <;> (try (refine Run.p rfl rfl rfl (OpP.fieldAddrA rfl rfl) ?_)) <;> (try (refine Run.ld1 rfl rfl rfl rfl rfl rfl rfl rfl ?_)) <;> (try (refine Run.ri rfl rfl rfl (OpRI.lenA rfl rfl) rfl ?_)) <;> (try (refine Run.p rfl rfl rfl (OpP.mvA rfl) ?_)) <;> (try refine Run.fin rfl ?_)))))
        rw [hml]
        refine AW.loopF (X := Nat × List UInt8) (fun x => ⟨[(4, bsl x.2 false), (7, .ptr 0 0), (49, .sl 4 (bxL d.boxes) f), (50, .v (.int .i64 (d.boxes.length : Int))), (51, .v (.int .i64 (i : Int))), (67, .sl 1 (mpP b.maps) false), (68, .v (.int .i64 (b.maps.length : Int))), (69, .v (.int .i64 (x.1 : Int)))], [.box [.v (.int .i64 b.kinds), .sl 2 (spP b.rates) false, .sl 1 (mpP b.maps) false, .sl 2 (spP b.sizes) false]]⟩)
          (fun x => x.1 ≤ b.maps.length ∧ x.2 ++ ((b.maps.drop x.1).flatMap mapB ++ (setB b.sizes ++ T1)) = bodyB d) (fun x => b.maps.length - x.1) (0, a ++ e16 b.kinds ++ setB b.rates ++ e16 (b.maps.length : Int)) ?_ ?_ ?_
        · refine Conv.mk [0] rfl rfl rfl ?_ rfl ?_
          (repeat' (first | exact Cf.nil | exact Cv.refl | exact CvL.refl _ | exact Cv.rowf rfl rfl | exact Crs.nil | refine Cf.cons' (by (conv => lhs; whnf) <;> rfl) ?_ ?_ | refine Crs.cons ?_ rfl ?_ | exact Cr.no | refine Cr.row ?_ | refine Cr.box ?_ | exact Cv.nil | exact Cv.full | exact CvL.nil | refine CvL.cons ?_ ?_))
          (all_goals (try (first | refine CvL.eq ?_ | refine Cv.eq ?_)))
          all_goals (simp only [AV.ren, renL]; first | done | rfl | (simp; done))
        · exact ⟨Nat.zero_le _, g1⟩
        · rintro ⟨j, a'⟩ ⟨h3, h4⟩
          simp only at h3 h4 ⊢
          have hla' := len_of h4
          rcases Nat.lt_or_ge j b.maps.length with hj | hj
          · have hA2 : At (mpP b.maps) (j : Int) [PV.sl 1 (nvs b.maps[j])] := At.mk j rfl (by simp [hj])
            have hm := b5 b.maps[j] (List.getElem_mem _)
            rw [List.drop_eq_getElem_cons hj, List.flatMap_cons] at h4
            generalize b.maps[j] = m at hA2 hm h4
            generalize hT2 : (b.maps.drop (j + 1)).flatMap mapB ++ (setB b.sizes ++ T1) = T2
            have g2 : a' ++ e16 (m.length : Int) ++ (m.flatMap e16 ++ T2) = bodyB d := by rw [← h4, ← hT2]; simp [mapB]
            have hmm : (nvs m).length = m.length := by simp
            obtain ⟨m1, m2⟩ := hm
            have q12 := short_c a' false (m.length : Int) (by omega) (by omega)
            rw [← hmm] at q12
            (repeat' (first | refine AW.seq_k (fun K hK => ?_) | (refine hK _ ?_; clear hK) | (refine AW.condD rfl (fun hc => ?_) (fun hc => ?_) <;> try (first | (exfalso; omega) | (cases hc; done))) | refine AW.block ?_ | refine AW.skip ?_ | (first | (refine AW.region (id := 11) ?_ <;> (try (refine Run.p rfl rfl rfl (OpP.ltt rfl rfl rfl) ?_)) <;> (try refine Run.fin rfl ?_)) | (refine AW.region (id := 12) ?_ <;> (try (refine Run.ri rfl rfl rfl (OpRI.indexAddrA rfl rfl) rfl ?_)) <;> (try (refine Run.p rfl rfl rfl (OpP.loadE1 rfl rfl rfl rfl (by (conv => lhs; whnf) <;> rfl)) ?_)) <;> (try (refine Run.p rfl rfl rfl (OpP.asA rfl) ?_)) <;> (try refine Run.fin rfl ?_)) | (refine AW.region (id := 13) ?_ <;> (try (refine Run.p rfl rfl rfl (OpP.mvA rfl) ?_)) <;> (try (refine Run.p rfl rfl rfl (OpP.mvA rfl) ?_)) <;> (try (refine Run.ri rfl rfl rfl (OpRI.lenA rfl rfl) rfl ?_)) <;> (try (refine Run.c0 q12 rfl rfl rfl rfl rfl rfl rfl rfl ?_)) <;> (try (refine Run.p rfl rfl rfl (OpP.asA rfl) ?_)) <;> (try refine Run.fin rfl ?_)) | (refine AW.region (id := 14) ?_ <;> (try (refine Run.p rfl rfl rfl (OpP.mvA rfl) ?_)) <;> (try (refine Run.ri rfl rfl rfl (OpRI.lenA rfl rfl) rfl ?_)) <;> (try (refine Run.p rfl rfl rfl (OpP.mvA rfl) ?_)) <;> (try refine Run.fin rfl ?_)))))
            rw [hmm]
            refine AW.loopF (X := Nat × List UInt8) (fun x => ⟨[(4, bsl x.2 false), (7, .ptr 0 0), (49, .sl 4 (bxL d.boxes) f), (50, .v (.int .i64 (d.boxes.length : Int))), (51, .v (.int .i64 (i : Int))), (67, .sl 1 (mpP b.maps) false), (68, .v (.int .i64 (b.maps.length : Int))), (69, .v (.int .i64 (j : Int))), (77, .sl 1 (nvs m) false), (78, .v (.int .i64 (m.length : Int))), (79, .v (.int .i64 (x.1 : Int)))], [.box [.v (.int .i64 b.kinds), .sl 2 (spP b.rates) false, .sl 1 (mpP b.maps) false, .sl 2 (spP b.sizes) false]]⟩)
              (fun x => x.1 ≤ m.length ∧ x.2 ++ ((m.drop x.1).flatMap e16 ++ T2) = bodyB d) (fun x => m.length - x.1) (0, a' ++ e16 (m.length : Int)) ?_ ?_ ?_
            · refine Conv.mk [0] rfl rfl rfl ?_ rfl ?_
              (repeat' (first | exact Cf.nil | exact Cv.refl | exact CvL.refl _ | exact Cv.rowf rfl rfl | exact Crs.nil | refine Cf.cons' (by (conv => lhs; whnf) <;> rfl) ?_ ?_ | refine Crs.cons ?_ rfl ?_ | exact Cr.no | refine Cr.row ?_ | refine Cr.box ?_ | exact Cv.nil | exact Cv.full | exact CvL.nil | refine CvL.cons ?_ ?_))
              (all_goals (try (first | refine CvL.eq ?_ | refine Cv.eq ?_)))
              all_goals (simp only [AV.ren, renL]; first | done | rfl | (simp; done))
            · exact ⟨Nat.zero_le _, g2⟩
            · rintro ⟨k, a''⟩ ⟨h5, h6⟩
              simp only at h5 h6 ⊢
              have hla'' := len_of h6
              rcases Nat.lt_or_ge k m.length with hk | hk
              · have hA3 : At (nvs m) (k : Int) [PV.v (.int .i64 m[k])] := At.mk k rfl (by simp [hk])
                have hp := m2 m[k] (List.getElem_mem _)
                rw [List.drop_eq_getElem_cons hk, List.flatMap_cons] at h6
                generalize m[k] = p at hA3 hp h6
                have q13 := short_c a'' false p hp (by omega)
                (repeat' (first | refine AW.seq_k (fun K hK => ?_) | (refine hK _ ?_; clear hK) | (refine AW.condD rfl (fun hc => ?_) (fun hc => ?_) <;> try (first | (exfalso; omega) | (cases hc; done))) | refine AW.block ?_ | refine AW.skip ?_ | (first | (refine AW.region (id := 15) ?_ <;> (try (refine Run.p rfl rfl rfl (OpP.ltt rfl rfl rfl) ?_)) <;> (try refine Run.fin rfl ?_)) | (refine AW.region (id := 16) ?_ <;> (try (refine Run.ri rfl rfl rfl (OpRI.indexAddrA rfl rfl) rfl ?_)) <;> (try (refine Run.p rfl rfl rfl (OpP.loadE1 rfl rfl rfl rfl (by (conv => lhs; whnf) <;> rfl)) ?_)) <;> (try (refine Run.p rfl rfl rfl (OpP.asA rfl) ?_)) <;> (try refine Run.fin rfl ?_)) | (refine AW.region (id := 17) ?_ <;> (try (refine Run.p rfl rfl rfl (OpP.mvA rfl) ?_)) <;> (try (refine Run.p rfl rfl rfl (OpP.mvA rfl) ?_)) <;> (try (refine Run.c0 q13 rfl rfl rfl rfl rfl rfl rfl rfl ?_)) <;> (try (refine Run.p rfl rfl rfl (OpP.asA rfl) ?_)) <;> (try refine Run.fin rfl ?_)) | (refine AW.region (id := 18) ?_ <;> (try (refine Run.p rfl rfl rfl (OpP.addA rfl rfl rfl) ?_)) <;> (try (refine Run.p rfl rfl rfl (OpP.mvA rfl) ?_)) <;> (try refine Run.fin rfl ?_)))))
                ((repeat (with_reducible refine inB_n ?_)); refine thenA_n ?_)
                refine ⟨(k + 1, a'' ++ e16 p), ⟨hk, by rw [← h6]; simp⟩, by simp only; omega, ?_⟩
                refine Conv.mk [0] rfl rfl rfl ?_ rfl ?_
                (repeat' (first | exact Cf.nil | exact Cv.refl | exact CvL.refl _ | exact Cv.rowf rfl rfl | exact Crs.nil | refine Cf.cons' (by (conv => lhs; whnf) <;> rfl) ?_ ?_ | refine Crs.cons ?_ rfl ?_ | exact Cr.no | refine Cr.row ?_ | refine Cr.box ?_ | exact Cv.nil | exact Cv.full | exact CvL.nil | refine CvL.cons ?_ ?_))
                (all_goals (try (first | refine CvL.eq ?_ | refine Cv.eq ?_)))
                all_goals simp [AV.ren, renL]
              · rw [List.drop_eq_nil_of_le hk, List.flatMap_nil, List.nil_append] at h6
                (repeat' (first | refine AW.seq_k (fun K hK => ?_) | (refine hK _ ?_; clear hK) | (refine AW.condD rfl (fun hc => ?_) (fun hc => ?_) <;> try (first | (exfalso; omega) | (cases hc; done))) | refine AW.exit ?_ | (clear hK; refine hK _ ?_; clear hK) | (first | (refine AW.region (id := 15) ?_ <;> (try (refine Run.p rfl rfl rfl (OpP.ltt rfl rfl rfl) ?_)) <;> (try refine Run.fin rfl ?_)) | (refine AW.region (id := 19) ?_ <;> (try (refine Run.p rfl rfl rfl (OpP.addA rfl rfl rfl) ?_)) <;> (try (refine Run.p rfl rfl rfl (OpP.mvA rfl) ?_)) <;> (try refine Run.fin rfl ?_)))))
                ((repeat (with_reducible refine inB_n ?_)); refine thenA_n ?_)
                refine ⟨(j + 1, a''), ⟨hj, by rw [← h6, ← hT2]⟩, by simp only; omega, ?_⟩
                refine Conv.mk [0] rfl rfl rfl ?_ rfl ?_
                (repeat' (first | exact Cf.nil | exact Cv.refl | exact CvL.refl _ | exact Cv.rowf rfl rfl | exact Crs.nil | refine Cf.cons' (by (conv => lhs; whnf) <;> rfl) ?_ ?_ | refine Crs.cons ?_ rfl ?_ | exact Cr.no | refine Cr.row ?_ | refine Cr.box ?_ | exact Cv.nil | exact Cv.full | exact CvL.nil | refine CvL.cons ?_ ?_))
                (all_goals (try (first | refine CvL.eq ?_ | refine Cv.eq ?_)))
                all_goals simp [AV.ren, renL]
          · rw [List.drop_eq_nil_of_le hj, List.flatMap_nil, List.nil_append] at h4
            have q14 := set_c a' false false b.sizes b6 (by omega)
            (repeat' (first | refine AW.seq_k (fun K hK => ?_) | (refine hK _ ?_; clear hK) | (refine AW.condD rfl (fun hc => ?_) (fun hc => ?_) <;> try (first | (exfalso; omega) | (cases hc; done))) | refine AW.exit ?_ | (clear hK; refine hK _ ?_; clear hK) | (first | (refine AW.region (id := 11) ?_ <;> (try (refine Run.p rfl rfl rfl (OpP.ltt rfl rfl rfl) ?_)) <;> (try refine Run.fin rfl ?_)) | (refine AW.region (id := 20) ?_ <;> (try (refine Run.p rfl rfl rfl (OpP.mvA rfl) ?_)) <;> (try (refine Run.p rfl rfl rfl (OpP.fieldAddrA rfl rfl) ?_)) <;> (try (refine Run.ldNA rfl rfl rfl rfl rfl rfl rfl ?_)) <;> (try (refine Run.c0 q14 rfl rfl rfl rfl rfl rfl rfl rfl ?_)) <;> (try (refine Run.p rfl rfl rfl (OpP.asA rfl) ?_)) <;> (try refine Run.fin rfl ?_)) | (refine AW.region (id := 21) ?_ <;> (try (refine Run.p rfl rfl rfl (OpP.addA rfl rfl rfl) ?_)) <;> (try (refine Run.p rfl rfl rfl (OpP.mvA rfl) ?_)) <;> (try refine Run.fin rfl ?_)))))
            ((repeat (with_reducible refine inB_n ?_)); refine thenA_n ?_)
            refine ⟨(i + 1, a' ++ setB b.sizes), ⟨h, by rw [hT1, ← h4]; simp⟩, by simp only; omega, ?_⟩
            refine Conv.mk [] rfl rfl rfl ?_ rfl ?_
            (repeat' (first | exact Cf.nil | exact Cv.refl | exact CvL.refl _ | exact Cv.rowf rfl rfl | exact Crs.nil | refine Cf.cons' (by (conv => lhs; whnf) <;> rfl) ?_ ?_ | refine Crs.cons ?_ rfl ?_ | exact Cr.no | refine Cr.row ?_ | refine Cr.box ?_ | exact Cv.nil | exact Cv.full | exact CvL.nil | refine CvL.cons ?_ ?_))
            (all_goals (try (first | refine CvL.eq ?_ | refine Cv.eq ?_)))
            all_goals simp [AV.ren, renL]
      · rw [List.drop_eq_nil_of_le h, List.flatMap_nil, List.append_nil] at h2
        subst h2
        have q15 := Sum_c (bodyB d) false (by omega)
        have hcl := crc_lt (bodyB d)
        have q16 := P32_c (bodyB d) false (crc (bodyB d) : Int) ⟨by omega, by omega⟩ (by omega)
        (repeat' (first | refine AW.seq_k (fun K hK => ?_) | (refine hK _ ?_; clear hK) | (refine AW.condD rfl (fun hc => ?_) (fun hc => ?_) <;> try (first | (exfalso; omega) | (cases hc; done))) | refine AW.exit ?_ | refine AW.ret ?_ | (clear hK; refine hK _ ?_; clear hK) | (first | (refine AW.region (id := 7) ?_ <;> (try (refine Run.p rfl rfl rfl (OpP.ltt rfl rfl rfl) ?_)) <;> (try refine Run.fin rfl ?_)) | (refine AW.region (id := 22) ?_ <;> (try (refine Run.p rfl rfl rfl (OpP.mvA rfl) ?_)) <;> (try (refine Run.p rfl rfl rfl (OpP.mvA rfl) ?_)) <;> (try (refine Run.c0 q15 rfl rfl rfl rfl rfl rfl rfl rfl ?_)) <;> (try (refine Run.c0 q16 rfl rfl rfl rfl rfl rfl rfl rfl ?_)) <;> (try (refine Run.p rfl rfl rfl (OpP.asA rfl) ?_)) <;> (try (refine Run.p rfl rfl rfl (OpP.asA rfl) ?_)) <;> (try refine Run.fin rfl ?_)))))
        subst hR
        ((first | refine RetOk.tup rfl rfl ?_ | refine RetOk.one rfl ?_) <;> (repeat' (first | exact Cv.nil | exact Cv.rowf rfl rfl | exact RetC.nil | exact CvL.refl _ | exact Cv.refl | refine RetC.tmp (by (conv => lhs; whnf) <;> rfl) ?_ ?_ | refine RetC.cell1 rfl rfl rfl rfl ?_ ?_ | refine RetC.cellN rfl rfl rfl (by repeat constructor) ?_ ?_ | refine Cv.rowE rfl rfl ?_ | exact Cv.full | exact CvL.nil | refine CvL.cons ?_ ?_)))
  · rw [if_neg hv] at hR
    rw [Bool.not_eq_true] at hv
    rw [hv] at qv
    subst hR
    refine (ACalls.of (fn := Try.f12) Try.func12 rfl rfl Try.ntmps12 (fun I M w own => ?_))
    (repeat' (first | refine AW.seq_k (fun K hK => ?_) | (refine hK _ ?_; clear hK) | (refine AW.cond rfl (fun hc => ?_) (fun hc => ?_) <;> (try simp only [Bool.and_eq_true, Bool.or_eq_true, Bool.not_eq_true', Bool.not_eq_false', Bool.and_eq_false_iff, Bool.or_eq_false_iff, Bool.and_eq_false_imp, decide_eq_true_eq, decide_eq_false_iff_not, Decidable.not_not, Int.not_lt, Int.not_le, ne_eq, Bool.not_not] at hc) <;> try (first | (exfalso; omega) | (cases hc; done))) | refine AW.ret ?_ | (first | (refine AW.region (id := 0) ?_ <;> (try (refine Run.bxA rfl rfl rfl rfl ?_)) <;> (try (refine Run.p rfl rfl rfl (OpP.asA rfl) ?_)) <;> (try (refine Run.p rfl rfl rfl (OpP.asA rfl) ?_)) <;> (try refine Run.fin rfl ?_)) | (refine AW.region (id := 1) ?_ <;> (try (refine Run.ldNA rfl rfl rfl rfl rfl rfl rfl ?_)) <;> (try (refine Run.c0 qv rfl rfl rfl rfl rfl rfl rfl rfl ?_)) <;> (try (refine Run.p rfl rfl rfl (OpP.not rfl rfl) ?_)) <;> (try refine Run.fin rfl ?_)) | (refine AW.region (id := 2) ?_ <;> (try (refine Run.p rfl rfl rfl (OpP.asA rfl) ?_)) <;> (try (refine Run.p rfl rfl rfl (OpP.asA rfl) ?_)) <;> (try refine Run.fin rfl ?_)))))
    ((first | refine RetOk.tup rfl rfl ?_ | refine RetOk.one rfl ?_) <;> (repeat' (first | exact Cv.nil | exact Cv.rowf rfl rfl | exact RetC.nil | exact CvL.refl _ | exact Cv.refl | refine RetC.tmp (by (conv => lhs; whnf) <;> rfl) ?_ ?_ | refine RetC.cell1 rfl rfl rfl rfl ?_ ?_ | refine RetC.cellN rfl rfl rfl (by repeat constructor) ?_ ?_ | refine Cv.rowE rfl rfl ?_ | exact Cv.full | exact CvL.nil | refine CvL.cons ?_ ?_)))
end Go.Proofs.Ytgnlohecllokhaa
