/-
  The law DescriptorEncodes: the walk.
-/
import Derived.Test.YtgnlohecllokhaaMdN
namespace Go.Proofs.Ytgnlohecllokhaa
set_option linter.unusedVariables false
set_option linter.unusedSimpArgs false
theorem fitL_app (l : List Bx) (k : Nat) (x : Bx) (h : FitL l) (hl : l.length ≤ 8) (hk : k ≤ 9) (hx : x ∈ l) : FitL (l ++ List.replicate k x) := by
  refine ⟨by rw [List.length_append, List.length_replicate]; omega, fun b hb => ?_⟩
  rcases List.mem_append.1 hb with hb | hb
  · exact h.2 b hb
  · rw [List.eq_of_mem_replicate hb]; exact h.2 x hx
theorem spoil_fit (d : Ds) (w n : Int) (hd : FitD d) (hf : dsFit d) (hb : 1 ≤ d.boxes.length ∧ d.boxes.length ≤ 8) : FitD (spoilD d w n) ∧ dsFit (spoilD d w n) := by
  have hx : d.boxes.headD {} ∈ d.boxes := by
    cases hh : d.boxes with
    | nil => rw [hh] at hb; simp at hb
    | cons a t => simp
  have hn : (spT.getD (n % 4).toNat []).length ≤ 3 := by
    have : (n % 4).toNat = 0 ∨ (n % 4).toNat = 1 ∨ (n % 4).toNat = 2 ∨ (n % 4).toNat = 3 := by omega
    rcases this with h | h | h | h <;> rw [h] <;> decide
  unfold spoilD
  (repeat' split)
  all_goals first
    | exact ⟨⟨hd.1, hd.2⟩, ⟨hf.1, hf.2⟩⟩
    | exact ⟨⟨by simp only; omega, hd.2⟩, ⟨hf.1, hf.2⟩⟩
    | exact ⟨⟨hd.1, ⟨by simp, fun b hb => by cases hb⟩⟩, ⟨hf.1, fun b hb => by cases hb⟩⟩
    | exact ⟨⟨hd.1, fitL_app _ _ _ hd.2 hb.2 (by omega) hx⟩, ⟨hf.1, fun b hb => by
        rcases List.mem_append.1 hb with hb | hb
        · exact hf.2 b hb
        · rw [List.eq_of_mem_replicate hb]; exact hf.2 _ hx⟩⟩
abbrev dsPV (d : Ds) : List PV := [PV.v (.int .u64 d.id), PV.v (.string (bs d.name)), PV.v (.int .i64 d.dir), PV.v (.int .i64 d.dom), PV.v (.int .i64 d.lat), PV.v (.int .i64 d.drift), PV.v (.int .i64 d.jit), PV.sl 4 (bxL d.boxes)]
set_option maxHeartbeats 4000000 in
theorem DescriptorEncodes_c (raw : Ds) (fr : Bool) (hrF : FitD raw) (hrf : dsFit raw) (l : List UInt8) (f : Bool) (hl : l.length ≤ 9223372036854775807) (w : Int) (hw : 0 ≤ w ∧ w ≤ 255) (n : Int) (hn : 0 ≤ n ∧ n ≤ 255) :
    ACalls Try.prog 3 [.agg (dsL raw fr), .sl 1 (bsP l) f, .v (.int .u8 w), .v (.int .u8 n)] [] (.v (.bool true)) [] := by
  have qk := keepBoxes_c raw.boxes fr 10 hrF.2
  have hnl := hrF.1
  cases hkb : keepB raw.boxes 10 with
  | false =>
    rw [hkb] at qk
    refine (ACalls.of (fn := Try.f3) Try.func3 rfl rfl Try.ntmps3 (fun I M w own => ?_))
    (repeat' (first | refine AW.seq_k (fun K hK => ?_) | (refine hK _ ?_; clear hK) | (refine AW.cond rfl (fun hc => ?_) (fun hc => ?_) <;> (try simp only [Bool.and_eq_true, Bool.or_eq_true, Bool.not_eq_true', Bool.not_eq_false', Bool.and_eq_false_iff, Bool.or_eq_false_iff, Bool.and_eq_false_imp, decide_eq_true_eq, decide_eq_false_iff_not, Decidable.not_not, Int.not_lt, Int.not_le, ne_eq, Bool.not_not] at hc) <;> try (first | (exfalso; omega) | (cases hc; done))) | refine AW.ret ?_ | refine AW.skip ?_ | (first | (refine AW.region (id := 0) ?_ <;> (try (refine Run.bxA rfl rfl rfl rfl ?_)) <;> (try (refine Run.p rfl rfl rfl (OpP.asA rfl) ?_)) <;> (try refine Run.fin rfl ?_)) | (refine AW.region (id := 1) ?_ <;> (try (refine Run.c0 sane_c rfl rfl rfl rfl rfl rfl rfl rfl ?_)) <;> (try (refine Run.p rfl rfl rfl (OpP.not rfl rfl) ?_)) <;> (try refine Run.fin rfl ?_)) | (refine AW.region (id := 3) ?_ <;> (try (refine Run.p rfl rfl rfl (OpP.fieldAddrA rfl rfl) ?_)) <;> (try (refine Run.ld1 rfl rfl rfl rfl rfl rfl rfl rfl ?_)) <;> (try (refine Run.c0 qk rfl rfl rfl rfl rfl rfl rfl rfl ?_)) <;> (try (refine Run.p rfl rfl rfl (OpP.not rfl rfl) ?_)) <;> (try (refine Run.p rfl rfl rfl (OpP.mvA rfl) ?_)) <;> (try (refine Run.sk rfl rfl rfl ?_)) <;> (try (refine Run.sk rfl rfl rfl ?_)) <;> (try (refine Run.sk rfl rfl rfl ?_)) <;> (try (refine Run.sk rfl rfl rfl ?_)) <;> (try (refine Run.p rfl rfl rfl (OpP.pickA rfl rfl) ?_)) <;> (try refine Run.fin rfl ?_)) | (refine AW.region (id := 4) ?_ <;> (try (refine Run.p rfl rfl rfl (OpP.asA rfl) ?_)) <;> (try refine Run.fin rfl ?_)))))
    ((first | refine RetOk.tup rfl rfl ?_ | refine RetOk.one rfl ?_) <;> (repeat' (first | exact Cv.nil | exact Cv.rowf rfl rfl | exact RetC.nil | exact CvL.refl _ | exact Cv.refl | refine RetC.tmp (by (conv => lhs; whnf) <;> rfl) ?_ ?_ | refine RetC.cell1 rfl rfl rfl rfl ?_ ?_ | refine RetC.cellN rfl rfl rfl (by repeat constructor) ?_ ?_ | refine Cv.rowE rfl rfl ?_ | exact Cv.full | exact CvL.nil | refine CvL.cons ?_ ?_)))
  | true =>
  rw [hkb] at qk
  by_cases h200 : ((raw.name.length : Nat) : Int) > 200
  · refine (ACalls.of (fn := Try.f3) Try.func3 rfl rfl Try.ntmps3 (fun I M w own => ?_))
    (repeat' (first | refine AW.seq_k (fun K hK => ?_) | (refine hK _ ?_; clear hK) | (refine AW.cond rfl (fun hc => ?_) (fun hc => ?_) <;> (try simp only [Bool.and_eq_true, Bool.or_eq_true, Bool.not_eq_true', Bool.not_eq_false', Bool.and_eq_false_iff, Bool.or_eq_false_iff, Bool.and_eq_false_imp, decide_eq_true_eq, decide_eq_false_iff_not, Decidable.not_not, Int.not_lt, Int.not_le, ne_eq, Bool.not_not] at hc) <;> try (first | (exfalso; omega) | (cases hc; done))) | refine AW.ret ?_ | refine AW.skip ?_ | (first | (refine AW.region (id := 0) ?_ <;> (try (refine Run.bxA rfl rfl rfl rfl ?_)) <;> (try (refine Run.p rfl rfl rfl (OpP.asA rfl) ?_)) <;> (try refine Run.fin rfl ?_)) | (refine AW.region (id := 1) ?_ <;> (try (refine Run.c0 sane_c rfl rfl rfl rfl rfl rfl rfl rfl ?_)) <;> (try (refine Run.p rfl rfl rfl (OpP.not rfl rfl) ?_)) <;> (try refine Run.fin rfl ?_)) | (refine AW.region (id := 3) ?_ <;> (try (refine Run.p rfl rfl rfl (OpP.fieldAddrA rfl rfl) ?_)) <;> (try (refine Run.ld1 rfl rfl rfl rfl rfl rfl rfl rfl ?_)) <;> (try (refine Run.c0 qk rfl rfl rfl rfl rfl rfl rfl rfl ?_)) <;> (try (refine Run.p rfl rfl rfl (OpP.not rfl rfl) ?_)) <;> (try (refine Run.p rfl rfl rfl (OpP.mvA rfl) ?_)) <;> (try (refine Run.p rfl rfl rfl (OpP.fieldAddrA rfl rfl) ?_)) <;> (try (refine Run.ld1 rfl rfl rfl rfl rfl rfl rfl rfl ?_)) <;> (try (refine Run.p rfl rfl rfl (OpP.lenStr rfl rfl) ?_)) <;> (try (refine Run.p rfl rfl rfl (OpP.decT (OpP.gtt rfl rfl rfl) (by assumption)) ?_)) <;> (try (refine Run.p rfl rfl rfl (OpP.pickA rfl rfl) ?_)) <;> (try refine Run.fin rfl ?_)) | (refine AW.region (id := 4) ?_ <;> (try (refine Run.p rfl rfl rfl (OpP.asA rfl) ?_)) <;> (try refine Run.fin rfl ?_)))))
    ((first | refine RetOk.tup rfl rfl ?_ | refine RetOk.one rfl ?_) <;> (repeat' (first | exact Cv.nil | exact Cv.rowf rfl rfl | exact RetC.nil | exact CvL.refl _ | exact Cv.refl | refine RetC.tmp (by (conv => lhs; whnf) <;> rfl) ?_ ?_ | refine RetC.cell1 rfl rfl rfl rfl ?_ ?_ | refine RetC.cellN rfl rfl rfl (by repeat constructor) ?_ ?_ | refine Cv.rowE rfl rfl ?_ | exact Cv.full | exact CvL.nil | refine CvL.cons ?_ ?_)))
  · have q1 := made_r l f hl
    obtain ⟨hv, hf⟩ := made_ok l
    generalize (madeD l).1 = D at q1 hv hf
    have hbx : 1 ≤ D.boxes.length ∧ D.boxes.length ≤ 8 := by
      simp only [dsV, Bool.and_eq_true, decide_eq_true_eq] at hv
      exact hv.1.2
    have hsf := spoil_fit D w n (fit_of D hv hf) hf hbx
    obtain ⟨L, hL⟩ : ∃ L : List Ds, L = [raw, spoilD D w n] := ⟨_, rfl⟩
    have hLl : L.length = 2 := by rw [hL]; rfl
    have hLb : ∀ x ∈ L, FitD x ∧ dsFit x := by
      rw [hL]; intro x hx
      simp only [List.mem_cons, List.not_mem_nil, or_false] at hx
      rcases hx with rfl | rfl
      · exact ⟨hrF, hrf⟩
      · exact hsf
    by_cases h6 : w % 10 = 6
    · have q2 := spoil6_c D w n hw hn h6
      refine (ACalls.of (fn := Try.f3) Try.func3 rfl rfl Try.ntmps3 (fun I M w own => ?_))
      (repeat' (first | refine AW.seq_k (fun K hK => ?_) | (refine hK _ ?_; clear hK) | (refine AW.cond rfl (fun hc => ?_) (fun hc => ?_) <;> (try simp only [Bool.and_eq_true, Bool.or_eq_true, Bool.not_eq_true', Bool.not_eq_false', Bool.and_eq_false_iff, Bool.or_eq_false_iff, Bool.and_eq_false_imp, decide_eq_true_eq, decide_eq_false_iff_not, Decidable.not_not, Int.not_lt, Int.not_le, ne_eq, Bool.not_not] at hc) <;> try (first | (exfalso; omega) | (cases hc; done))) | refine AW.block ?_ | refine AW.skip ?_ | (first | (refine AW.region (id := 0) ?_ <;> (try (refine Run.bxA rfl rfl rfl rfl ?_)) <;> (try (refine Run.p rfl rfl rfl (OpP.asA rfl) ?_)) <;> (try refine Run.fin rfl ?_)) | (refine AW.region (id := 1) ?_ <;> (try (refine Run.c0 sane_c rfl rfl rfl rfl rfl rfl rfl rfl ?_)) <;> (try (refine Run.p rfl rfl rfl (OpP.not rfl rfl) ?_)) <;> (try refine Run.fin rfl ?_)) | (refine AW.region (id := 3) ?_ <;> (try (refine Run.p rfl rfl rfl (OpP.fieldAddrA rfl rfl) ?_)) <;> (try (refine Run.ld1 rfl rfl rfl rfl rfl rfl rfl rfl ?_)) <;> (try (refine Run.c0 qk rfl rfl rfl rfl rfl rfl rfl rfl ?_)) <;> (try (refine Run.p rfl rfl rfl (OpP.not rfl rfl) ?_)) <;> (try (refine Run.p rfl rfl rfl (OpP.mvA rfl) ?_)) <;> (try (refine Run.p rfl rfl rfl (OpP.fieldAddrA rfl rfl) ?_)) <;> (try (refine Run.ld1 rfl rfl rfl rfl rfl rfl rfl rfl ?_)) <;> (try (refine Run.p rfl rfl rfl (OpP.lenStr rfl rfl) ?_)) <;> (try (refine Run.p rfl rfl rfl (OpP.decF (OpP.gtt rfl rfl rfl) (by assumption)) ?_)) <;> (try (refine Run.p rfl rfl rfl (OpP.pickA rfl rfl) ?_)) <;> (try refine Run.fin rfl ?_)) | (refine AW.draw (id := 5) (by kernel_rfl) ?_ <;> (try (refine Run.ldNA rfl rfl rfl rfl rfl rfl rfl ?_)) <;> (try (refine Run.p rfl rfl rfl (OpP.mvA rfl) ?_)) <;> (try (refine Run.cSA [] q1 rfl rfl rfl rfl rfl rfl rfl rfl rfl rfl rfl rfl ?_)) <;> (try (refine Run.p rfl rfl rfl (OpP.mvA rfl) ?_)) <;> (try (refine Run.p rfl rfl rfl (OpP.mvA rfl) ?_)) <;> (try (refine Run.cSA [1] q2 rfl rfl rfl rfl rfl rfl rfl rfl rfl rfl rfl rfl ?_)) <;> (try (refine Run.bsA rfl rfl rfl rfl rfl rfl ?_)) <;> (try (refine Run.ri rfl rfl rfl (OpRI.lenA rfl rfl) rfl ?_)) <;> (try (refine Run.p rfl rfl rfl (OpP.mvA rfl) ?_)) <;> (try refine Run.fin (by kernel_rfl) ?_)))))
      refine AW.loopF (X := Nat) (fun y => ⟨[(33, .sl 8 (L.map dsPV) true), (34, .v (.int .i64 2)), (35, .v (.int .i64 (y : Int)))], []⟩)
        (fun y => y ≤ 2) (fun y => 2 - y) 0 ?_ ?_ ?_
      · refine Conv.mk [] rfl rfl rfl ?_ rfl ?_
        (repeat' (first | exact Cf.nil | exact Cv.refl | exact CvL.refl _ | exact Cv.rowf rfl rfl | exact Crs.nil | refine Cf.cons' (by (conv => lhs; whnf) <;> rfl) ?_ ?_ | refine Crs.cons ?_ rfl ?_ | exact Cr.no | refine Cr.row ?_ | refine Cr.box ?_ | exact Cv.nil | exact Cv.full | exact CvL.nil | refine CvL.cons ?_ ?_))
        (all_goals (try (first | refine CvL.eq ?_ | refine Cv.eq ?_)))
        all_goals first | rfl | (rw [hL]; first | rfl | simp [AV.ren])
      · simp
      · intro i hi
        rcases Nat.lt_or_ge i 2 with h | h
        · have hil : i < L.length := by omega
          have hA : At (L.map dsPV) (i : Int) [PV.v (.int .u64 L[i].id), PV.v (.string (bs L[i].name)), PV.v (.int .i64 L[i].dir), PV.v (.int .i64 L[i].dom), PV.v (.int .i64 L[i].lat), PV.v (.int .i64 L[i].drift), PV.v (.int .i64 L[i].jit), PV.sl 4 (bxL L[i].boxes)] := At.mk i rfl (by simp [hil])
          have hy := hLb L[i] (List.getElem_mem _)
          generalize L[i] = y at hA hy
          obtain ⟨y1, y2⟩ := hy
          have r1 := dEncode_c y false y1 y2
          have r2 := rdEncode_c y false y1 y2
          have r3 := dValid_c y false y1
          have r4 := rdValid_c y false y1
          generalize encQ y = Q at r1 r2
          obtain ⟨Q1, Q2⟩ := Q
          simp only at r1 r2
          generalize dsV y = vb at r3 r4
          have g1 : ¬ (Q2 ≠ Q2) := fun h => h rfl
          have g2 : ¬ (Q1 ≠ Q1) := fun h => h rfl
          cases vb
          all_goals (
            (repeat' (first | refine AW.seq_k (fun K hK => ?_) | (refine hK _ ?_; clear hK) | (refine AW.condD rfl (fun hc => ?_) (fun hc => ?_) <;> try (first | (exfalso; omega) | (cases hc; done))) | (refine AW.cond rfl (fun hc => ?_) (fun hc => ?_) <;> (try simp only [Bool.and_eq_true, Bool.or_eq_true, Bool.not_eq_true', Bool.not_eq_false', Bool.and_eq_false_iff, Bool.or_eq_false_iff, Bool.and_eq_false_imp, decide_eq_true_eq, decide_eq_false_iff_not, Decidable.not_not, Int.not_lt, Int.not_le, ne_eq, Bool.not_not] at hc) <;> try (first | (exfalso; omega) | (cases hc; done))) | refine AW.block ?_ | refine AW.skip ?_ | (first | (refine AW.region (id := 6) ?_ <;> (try (refine Run.p rfl rfl rfl (OpP.ltt rfl rfl rfl) ?_)) <;> (try refine Run.fin rfl ?_)) | (refine AW.region (id := 7) ?_ <;> (try (refine Run.ri rfl rfl rfl (OpRI.indexAddrA rfl rfl) rfl ?_)) <;> (try (refine Run.p rfl rfl rfl (OpP.loadES rfl rfl rfl (by repeat constructor)) ?_)) <;> (try (refine Run.alA rfl rfl rfl rfl ?_)) <;> (try (refine Run.stA rfl rfl rfl rfl rfl ?_)) <;> (try refine Run.fin rfl ?_)) | (refine AW.region (id := 8) ?_ <;> (try (refine Run.ldNA rfl rfl rfl rfl rfl rfl rfl ?_)) <;> (try (refine Run.c0 r1 rfl rfl rfl rfl rfl rfl rfl rfl ?_)) <;> (try (refine Run.p rfl rfl rfl (OpP.mvA rfl) ?_)) <;> (try (refine Run.p rfl rfl rfl (OpP.extract rfl rfl rfl) ?_)) <;> (try (refine Run.p rfl rfl rfl (OpP.extract rfl rfl rfl) ?_)) <;> (try (refine Run.p rfl rfl rfl (OpP.asA rfl) ?_)) <;> (try (refine Run.p rfl rfl rfl (OpP.asA rfl) ?_)) <;> (try refine Run.fin rfl ?_)) | (refine AW.region (id := 9) ?_ <;> (try (refine Run.ldNA rfl rfl rfl rfl rfl rfl rfl ?_)) <;> (try (refine Run.c0 r2 rfl rfl rfl rfl rfl rfl rfl rfl ?_)) <;> (try (refine Run.p rfl rfl rfl (OpP.mvA rfl) ?_)) <;> (try (refine Run.p rfl rfl rfl (OpP.extract rfl rfl rfl) ?_)) <;> (try (refine Run.p rfl rfl rfl (OpP.extract rfl rfl rfl) ?_)) <;> (try (refine Run.p rfl rfl rfl (OpP.asA rfl) ?_)) <;> (try (refine Run.p rfl rfl rfl (OpP.asA rfl) ?_)) <;> (try refine Run.fin rfl ?_)) | (refine AW.draw (id := 10) (by kernel_rfl) ?_ <;> (try (refine Run.ldNA rfl rfl rfl rfl rfl rfl rfl ?_)) <;> (try (refine Run.c0 r3 rfl rfl rfl rfl rfl rfl rfl rfl ?_)) <;> (try (refine Run.ldNA rfl rfl rfl rfl rfl rfl rfl ?_)) <;> (try (refine Run.c0 r4 rfl rfl rfl rfl rfl rfl rfl rfl ?_)) <;> (try (refine Run.p rfl rfl rfl (OpP.bne rfl rfl rfl) ?_)) <;> (try (refine Run.p rfl rfl rfl (OpP.mvA rfl) ?_)) <;> (try (refine Run.p rfl rfl rfl (OpP.mvA rfl) ?_)) <;> (try (refine Run.ri rfl rfl rfl (OpRI.toStrA rfl) rfl ?_)) <;> (try (refine Run.p rfl rfl rfl (OpP.mvA rfl) ?_)) <;> (try (refine Run.ri rfl rfl rfl (OpRI.toStrA rfl) rfl ?_)) <;> (try (refine Run.p rfl rfl rfl (OpP.decF (OpP.sne rfl rfl rfl) (by assumption)) ?_)) <;> (try (refine Run.p rfl rfl rfl (OpP.pickA rfl rfl) ?_)) <;> (try (refine Run.p rfl rfl rfl (OpP.mvA rfl) ?_)) <;> (try (refine Run.p rfl rfl rfl (OpP.mvA rfl) ?_)) <;> (try (refine Run.p rfl rfl rfl (OpP.mvA rfl) ?_)) <;> (try (refine Run.p rfl rfl rfl (OpP.decF (OpP.ne rfl rfl rfl) (by assumption)) ?_)) <;> (try (refine Run.p rfl rfl rfl (OpP.pickA rfl rfl) ?_)) <;> (try refine Run.fin (by kernel_rfl) ?_)) | (refine AW.region (id := 12) ?_ <;> (try (refine Run.p rfl rfl rfl (OpP.addA rfl rfl rfl) ?_)) <;> (try (refine Run.p rfl rfl rfl (OpP.mvA rfl) ?_)) <;> (try refine Run.fin rfl ?_)))))
            ((repeat (with_reducible refine inB_n ?_)); refine thenA_n ?_)
            refine ⟨i + 1, by omega, by omega, ?_⟩
            refine Conv.mk [] rfl rfl rfl ?_ rfl ?_
            (repeat' (first | exact Cf.nil | exact Cv.refl | exact CvL.refl _ | exact Cv.rowf rfl rfl | exact Crs.nil | refine Cf.cons' (by (conv => lhs; whnf) <;> rfl) ?_ ?_ | refine Crs.cons ?_ rfl ?_ | exact Cr.no | refine Cr.row ?_ | refine Cr.box ?_ | exact Cv.nil | exact Cv.full | exact CvL.nil | refine CvL.cons ?_ ?_))
            (all_goals (try (first | refine CvL.eq ?_ | refine Cv.eq ?_)))
            all_goals simp [AV.ren])
        · (repeat' (first | refine AW.seq_k (fun K hK => ?_) | (refine hK _ ?_; clear hK) | (refine AW.condD rfl (fun hc => ?_) (fun hc => ?_) <;> try (first | (exfalso; omega) | (cases hc; done))) | refine AW.exit ?_ | refine AW.ret ?_ | (clear hK; refine hK _ ?_; clear hK) | (first | (refine AW.region (id := 6) ?_ <;> (try (refine Run.p rfl rfl rfl (OpP.ltt rfl rfl rfl) ?_)) <;> (try refine Run.fin rfl ?_)) | (refine AW.region (id := 13) ?_ <;> (try (refine Run.p rfl rfl rfl (OpP.asA rfl) ?_)) <;> (try refine Run.fin rfl ?_)))))
          ((first | refine RetOk.tup rfl rfl ?_ | refine RetOk.one rfl ?_) <;> (repeat' (first | exact Cv.nil | exact Cv.rowf rfl rfl | exact RetC.nil | exact CvL.refl _ | exact Cv.refl | refine RetC.tmp (by (conv => lhs; whnf) <;> rfl) ?_ ?_ | refine RetC.cell1 rfl rfl rfl rfl ?_ ?_ | refine RetC.cellN rfl rfl rfl (by repeat constructor) ?_ ?_ | refine Cv.rowE rfl rfl ?_ | exact Cv.full | exact CvL.nil | refine CvL.cons ?_ ?_)))
    · have q2 : ACalls Try.prog 10 [.agg (dsR D 0), .v (.int .u8 w), .v (.int .u8 n)] [.row 4 (bxL D.boxes)] (.agg (dsR (spoilD D w n) 0)) [.row 4 (bxL (spoilD D w n).boxes)] := by
        by_cases h7 : w % 10 = 7
        · exact spoil7_c D w n hw hn hbx h7
        · exact spoil_c D w n hw hn hbx h6 h7
      refine (ACalls.of (fn := Try.f3) Try.func3 rfl rfl Try.ntmps3 (fun I M w own => ?_))
      (repeat' (first | refine AW.seq_k (fun K hK => ?_) | (refine hK _ ?_; clear hK) | (refine AW.cond rfl (fun hc => ?_) (fun hc => ?_) <;> (try simp only [Bool.and_eq_true, Bool.or_eq_true, Bool.not_eq_true', Bool.not_eq_false', Bool.and_eq_false_iff, Bool.or_eq_false_iff, Bool.and_eq_false_imp, decide_eq_true_eq, decide_eq_false_iff_not, Decidable.not_not, Int.not_lt, Int.not_le, ne_eq, Bool.not_not] at hc) <;> try (first | (exfalso; omega) | (cases hc; done))) | refine AW.block ?_ | refine AW.skip ?_ | (first | (refine AW.region (id := 0) ?_ <;> (try (refine Run.bxA rfl rfl rfl rfl ?_)) <;> (try (refine Run.p rfl rfl rfl (OpP.asA rfl) ?_)) <;> (try refine Run.fin rfl ?_)) | (refine AW.region (id := 1) ?_ <;> (try (refine Run.c0 sane_c rfl rfl rfl rfl rfl rfl rfl rfl ?_)) <;> (try (refine Run.p rfl rfl rfl (OpP.not rfl rfl) ?_)) <;> (try refine Run.fin rfl ?_)) | (refine AW.region (id := 3) ?_ <;> (try (refine Run.p rfl rfl rfl (OpP.fieldAddrA rfl rfl) ?_)) <;> (try (refine Run.ld1 rfl rfl rfl rfl rfl rfl rfl rfl ?_)) <;> (try (refine Run.c0 qk rfl rfl rfl rfl rfl rfl rfl rfl ?_)) <;> (try (refine Run.p rfl rfl rfl (OpP.not rfl rfl) ?_)) <;> (try (refine Run.p rfl rfl rfl (OpP.mvA rfl) ?_)) <;> (try (refine Run.p rfl rfl rfl (OpP.fieldAddrA rfl rfl) ?_)) <;> (try (refine Run.ld1 rfl rfl rfl rfl rfl rfl rfl rfl ?_)) <;> (try (refine Run.p rfl rfl rfl (OpP.lenStr rfl rfl) ?_)) <;> (try (refine Run.p rfl rfl rfl (OpP.decF (OpP.gtt rfl rfl rfl) (by assumption)) ?_)) <;> (try (refine Run.p rfl rfl rfl (OpP.pickA rfl rfl) ?_)) <;> (try refine Run.fin rfl ?_)) | (refine AW.draw (id := 5) (by kernel_rfl) ?_ <;> (try (refine Run.ldNA rfl rfl rfl rfl rfl rfl rfl ?_)) <;> (try (refine Run.p rfl rfl rfl (OpP.mvA rfl) ?_)) <;> (try (refine Run.cSA [] q1 rfl rfl rfl rfl rfl rfl rfl rfl rfl rfl rfl rfl ?_)) <;> (try (refine Run.p rfl rfl rfl (OpP.mvA rfl) ?_)) <;> (try (refine Run.p rfl rfl rfl (OpP.mvA rfl) ?_)) <;> (try (refine Run.cSA [1] q2 rfl rfl rfl rfl rfl rfl rfl rfl rfl rfl rfl rfl ?_)) <;> (try (refine Run.bsA rfl rfl rfl rfl rfl rfl ?_)) <;> (try (refine Run.ri rfl rfl rfl (OpRI.lenA rfl rfl) rfl ?_)) <;> (try (refine Run.p rfl rfl rfl (OpP.mvA rfl) ?_)) <;> (try refine Run.fin (by kernel_rfl) ?_)))))
      refine AW.loopF (X := Nat) (fun y => ⟨[(33, .sl 8 (L.map dsPV) true), (34, .v (.int .i64 2)), (35, .v (.int .i64 (y : Int)))], []⟩)
        (fun y => y ≤ 2) (fun y => 2 - y) 0 ?_ ?_ ?_
      · refine Conv.mk [] rfl rfl rfl ?_ rfl ?_
        (repeat' (first | exact Cf.nil | exact Cv.refl | exact CvL.refl _ | exact Cv.rowf rfl rfl | exact Crs.nil | refine Cf.cons' (by (conv => lhs; whnf) <;> rfl) ?_ ?_ | refine Crs.cons ?_ rfl ?_ | exact Cr.no | refine Cr.row ?_ | refine Cr.box ?_ | exact Cv.nil | exact Cv.full | exact CvL.nil | refine CvL.cons ?_ ?_))
        (all_goals (try (first | refine CvL.eq ?_ | refine Cv.eq ?_)))
        all_goals first | rfl | (rw [hL]; first | rfl | simp [AV.ren])
      · simp
      · intro i hi
        rcases Nat.lt_or_ge i 2 with h | h
        · have hil : i < L.length := by omega
          have hA : At (L.map dsPV) (i : Int) [PV.v (.int .u64 L[i].id), PV.v (.string (bs L[i].name)), PV.v (.int .i64 L[i].dir), PV.v (.int .i64 L[i].dom), PV.v (.int .i64 L[i].lat), PV.v (.int .i64 L[i].drift), PV.v (.int .i64 L[i].jit), PV.sl 4 (bxL L[i].boxes)] := At.mk i rfl (by simp [hil])
          have hy := hLb L[i] (List.getElem_mem _)
          generalize L[i] = y at hA hy
          obtain ⟨y1, y2⟩ := hy
          have r1 := dEncode_c y false y1 y2
          have r2 := rdEncode_c y false y1 y2
          have r3 := dValid_c y false y1
          have r4 := rdValid_c y false y1
          generalize encQ y = Q at r1 r2
          obtain ⟨Q1, Q2⟩ := Q
          simp only at r1 r2
          generalize dsV y = vb at r3 r4
          have g1 : ¬ (Q2 ≠ Q2) := fun h => h rfl
          have g2 : ¬ (Q1 ≠ Q1) := fun h => h rfl
          cases vb
          all_goals (
            (repeat' (first | refine AW.seq_k (fun K hK => ?_) | (refine hK _ ?_; clear hK) | (refine AW.condD rfl (fun hc => ?_) (fun hc => ?_) <;> try (first | (exfalso; omega) | (cases hc; done))) | (refine AW.cond rfl (fun hc => ?_) (fun hc => ?_) <;> (try simp only [Bool.and_eq_true, Bool.or_eq_true, Bool.not_eq_true', Bool.not_eq_false', Bool.and_eq_false_iff, Bool.or_eq_false_iff, Bool.and_eq_false_imp, decide_eq_true_eq, decide_eq_false_iff_not, Decidable.not_not, Int.not_lt, Int.not_le, ne_eq, Bool.not_not] at hc) <;> try (first | (exfalso; omega) | (cases hc; done))) | refine AW.block ?_ | refine AW.skip ?_ | (first | (refine AW.region (id := 6) ?_ <;> (try (refine Run.p rfl rfl rfl (OpP.ltt rfl rfl rfl) ?_)) <;> (try refine Run.fin rfl ?_)) | (refine AW.region (id := 7) ?_ <;> (try (refine Run.ri rfl rfl rfl (OpRI.indexAddrA rfl rfl) rfl ?_)) <;> (try (refine Run.p rfl rfl rfl (OpP.loadES rfl rfl rfl (by repeat constructor)) ?_)) <;> (try (refine Run.alA rfl rfl rfl rfl ?_)) <;> (try (refine Run.stA rfl rfl rfl rfl rfl ?_)) <;> (try refine Run.fin rfl ?_)) | (refine AW.region (id := 8) ?_ <;> (try (refine Run.ldNA rfl rfl rfl rfl rfl rfl rfl ?_)) <;> (try (refine Run.c0 r1 rfl rfl rfl rfl rfl rfl rfl rfl ?_)) <;> (try (refine Run.p rfl rfl rfl (OpP.mvA rfl) ?_)) <;> (try (refine Run.p rfl rfl rfl (OpP.extract rfl rfl rfl) ?_)) <;> (try (refine Run.p rfl rfl rfl (OpP.extract rfl rfl rfl) ?_)) <;> (try (refine Run.p rfl rfl rfl (OpP.asA rfl) ?_)) <;> (try (refine Run.p rfl rfl rfl (OpP.asA rfl) ?_)) <;> (try refine Run.fin rfl ?_)) | (refine AW.region (id := 9) ?_ <;> (try (refine Run.ldNA rfl rfl rfl rfl rfl rfl rfl ?_)) <;> (try (refine Run.c0 r2 rfl rfl rfl rfl rfl rfl rfl rfl ?_)) <;> (try (refine Run.p rfl rfl rfl (OpP.mvA rfl) ?_)) <;> (try (refine Run.p rfl rfl rfl (OpP.extract rfl rfl rfl) ?_)) <;> (try (refine Run.p rfl rfl rfl (OpP.extract rfl rfl rfl) ?_)) <;> (try (refine Run.p rfl rfl rfl (OpP.asA rfl) ?_)) <;> (try (refine Run.p rfl rfl rfl (OpP.asA rfl) ?_)) <;> (try refine Run.fin rfl ?_)) | (refine AW.draw (id := 10) (by kernel_rfl) ?_ <;> (try (refine Run.ldNA rfl rfl rfl rfl rfl rfl rfl ?_)) <;> (try (refine Run.c0 r3 rfl rfl rfl rfl rfl rfl rfl rfl ?_)) <;> (try (refine Run.ldNA rfl rfl rfl rfl rfl rfl rfl ?_)) <;> (try (refine Run.c0 r4 rfl rfl rfl rfl rfl rfl rfl rfl ?_)) <;> (try (refine Run.p rfl rfl rfl (OpP.bne rfl rfl rfl) ?_)) <;> (try (refine Run.p rfl rfl rfl (OpP.mvA rfl) ?_)) <;> (try (refine Run.p rfl rfl rfl (OpP.mvA rfl) ?_)) <;> (try (refine Run.ri rfl rfl rfl (OpRI.toStrA rfl) rfl ?_)) <;> (try (refine Run.p rfl rfl rfl (OpP.mvA rfl) ?_)) <;> (try (refine Run.ri rfl rfl rfl (OpRI.toStrA rfl) rfl ?_)) <;> (try (refine Run.p rfl rfl rfl (OpP.decF (OpP.sne rfl rfl rfl) (by assumption)) ?_)) <;> (try (refine Run.p rfl rfl rfl (OpP.pickA rfl rfl) ?_)) <;> (try (refine Run.p rfl rfl rfl (OpP.mvA rfl) ?_)) <;> (try (refine Run.p rfl rfl rfl (OpP.mvA rfl) ?_)) <;> (try (refine Run.p rfl rfl rfl (OpP.mvA rfl) ?_)) <;> (try (refine Run.p rfl rfl rfl (OpP.decF (OpP.ne rfl rfl rfl) (by assumption)) ?_)) <;> (try (refine Run.p rfl rfl rfl (OpP.pickA rfl rfl) ?_)) <;> (try refine Run.fin (by kernel_rfl) ?_)) | (refine AW.region (id := 12) ?_ <;> (try (refine Run.p rfl rfl rfl (OpP.addA rfl rfl rfl) ?_)) <;> (try (refine Run.p rfl rfl rfl (OpP.mvA rfl) ?_)) <;> (try refine Run.fin rfl ?_)))))
            ((repeat (with_reducible refine inB_n ?_)); refine thenA_n ?_)
            refine ⟨i + 1, by omega, by omega, ?_⟩
            refine Conv.mk [] rfl rfl rfl ?_ rfl ?_
            (repeat' (first | exact Cf.nil | exact Cv.refl | exact CvL.refl _ | exact Cv.rowf rfl rfl | exact Crs.nil | refine Cf.cons' (by (conv => lhs; whnf) <;> rfl) ?_ ?_ | refine Crs.cons ?_ rfl ?_ | exact Cr.no | refine Cr.row ?_ | refine Cr.box ?_ | exact Cv.nil | exact Cv.full | exact CvL.nil | refine CvL.cons ?_ ?_))
            (all_goals (try (first | refine CvL.eq ?_ | refine Cv.eq ?_)))
            all_goals simp [AV.ren])
        · (repeat' (first | refine AW.seq_k (fun K hK => ?_) | (refine hK _ ?_; clear hK) | (refine AW.condD rfl (fun hc => ?_) (fun hc => ?_) <;> try (first | (exfalso; omega) | (cases hc; done))) | refine AW.exit ?_ | refine AW.ret ?_ | (clear hK; refine hK _ ?_; clear hK) | (first | (refine AW.region (id := 6) ?_ <;> (try (refine Run.p rfl rfl rfl (OpP.ltt rfl rfl rfl) ?_)) <;> (try refine Run.fin rfl ?_)) | (refine AW.region (id := 13) ?_ <;> (try (refine Run.p rfl rfl rfl (OpP.asA rfl) ?_)) <;> (try refine Run.fin rfl ?_)))))
          ((first | refine RetOk.tup rfl rfl ?_ | refine RetOk.one rfl ?_) <;> (repeat' (first | exact Cv.nil | exact Cv.rowf rfl rfl | exact RetC.nil | exact CvL.refl _ | exact Cv.refl | refine RetC.tmp (by (conv => lhs; whnf) <;> rfl) ?_ ?_ | refine RetC.cell1 rfl rfl rfl rfl ?_ ?_ | refine RetC.cellN rfl rfl rfl (by repeat constructor) ?_ ?_ | refine Cv.rowE rfl rfl ?_ | exact Cv.full | exact CvL.nil | refine CvL.cons ?_ ?_)))
end Go.Proofs.Ytgnlohecllokhaa
