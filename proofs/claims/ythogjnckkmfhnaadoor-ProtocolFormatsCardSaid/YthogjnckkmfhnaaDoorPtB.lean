/-
  The law ProtocolFormats: the walk.
-/
import Derived.Test.YthogjnckkmfhnaaDoorPtA
namespace Go.Proofs.YthogjnckkmfhnaaDoor
set_option linter.unusedVariables false
set_option linter.unusedSimpArgs false
theorem badQ_fit (r : Rq) (m k : Int) (h : r.fit) : (badQ r m k).fit := by
  obtain ⟨h1, h2, h3, h4, h5, h6⟩ := h
  unfold badQ
  (repeat' split) <;> refine ⟨?_, ?_, ?_, ?_, ?_, ?_⟩ <;> (try dsimp only) <;> omega
theorem badQ_sz (r : Rq) (m k : Int) (h1 : r.role.length ≤ 1000) (h2 : r.data.length ≤ 1000) : (badQ r m k).ok := by
  unfold badQ
  (repeat' split) <;> refine ⟨?_, ?_⟩ <;> (try simp only [List.length_append, List.length_cons, List.length_nil]) <;> omega
theorem ProtocolFormats_c (ls : List Int) (fl : Bool) (hl : Fits ls) (raw : Rq) (fr : Bool) (hr : raw.ok) (hf : raw.fit) (what : Int) (hw : -9223372036854775808 ≤ what ∧ what ≤ 9223372036854775807) :
    ACalls Tryd.prog 4 [.sl 1 (ivs ls) fl, .agg (raw.cs fr), .v (.int .i64 what)] [] (.v (.bool true)) [] := by
  have hN := New_c ls fl
  have hQ := Request_c ls hl
  obtain ⟨o1, o2, o3, o4⟩ := reqQ_ok ls
  have o5 := reqQ_fit ls
  generalize (reqQ ls).1 = rq at hQ o1 o2 o3 o4 o5
  have hB := fun f => bad_c rq f what hw (by omega) (by omega)
  have b1 := badQ_fit rq (what % 9) (what % 15) o5
  have b2 := badQ_sz rq (what % 9) (what % 15) (by omega) (by omega)
  generalize badQ rq (what % 9) (what % 15) = bq at hB b1 b2
  obtain ⟨L, hL⟩ : ∃ L : List Rq, L = [rq, bq, raw] := ⟨_, rfl⟩
  have hLl : L.length = 3 := by rw [hL]; rfl
  have hLb : ∀ x ∈ L, x.ok ∧ x.fit := by
    rw [hL]; intro x hx
    simp only [List.mem_cons, List.not_mem_nil, or_false] at hx
    rcases hx with rfl | rfl | rfl
    · exact ⟨⟨by omega, by omega⟩, o5⟩
    · exact ⟨b2, b1⟩
    · exact ⟨hr, hf⟩
  by_cases hg : IntKind.i64.wrap (IntKind.i64.wrap (((bsP raw.data).length : Int) + (raw.text.length : Int)) + (raw.role.length : Int)) ≤ 400
  · refine (ACalls.of (fn := Tryd.f4) Tryd.func4 rfl rfl Tryd.ntmps4 (fun I M w own => ?_))
    (repeat' (first | refine AW.seq_k (fun K hK => ?_) | (refine hK _ ?_; clear hK) | (refine AW.condD rfl (fun hc => ?_) (fun hc => ?_) <;> try (first | (exfalso; omega) | (cases hc; done))) | (refine AW.cond rfl (fun hc => ?_) (fun hc => ?_) <;> (try simp only [Bool.and_eq_true, Bool.or_eq_true, Bool.not_eq_true', Bool.not_eq_false', Bool.and_eq_false_iff, Bool.or_eq_false_iff, Bool.and_eq_false_imp, decide_eq_true_eq, decide_eq_false_iff_not, Decidable.not_not, Int.not_lt, Int.not_le, ne_eq, Bool.not_not] at hc) <;> try (first | (exfalso; omega) | (cases hc; done))) | refine AW.skip ?_ | (first | (refine AW.region (id := 0) ?_ <;> (try (refine Run.bxA rfl rfl rfl rfl ?_)) <;> (try (refine Run.p rfl rfl rfl (OpP.asA rfl) ?_)) <;> (try refine Run.fin rfl ?_)) | (refine AW.region (id := 1) ?_ <;> (try (refine Run.c0 sane_c rfl rfl rfl rfl rfl rfl rfl rfl ?_)) <;> (try (refine Run.p rfl rfl rfl (OpP.not rfl rfl) ?_)) <;> (try refine Run.fin rfl ?_)) | (refine AW.region (id := 3) ?_ <;> (try (refine Run.p rfl rfl rfl (OpP.fieldAddrA rfl rfl) ?_)) <;> (try (refine Run.ld1 rfl rfl rfl rfl rfl rfl rfl rfl ?_)) <;> (try (refine Run.ri rfl rfl rfl (OpRI.lenA rfl rfl) rfl ?_)) <;> (try (refine Run.p rfl rfl rfl (OpP.fieldAddrA rfl rfl) ?_)) <;> (try (refine Run.ld1 rfl rfl rfl rfl rfl rfl rfl rfl ?_)) <;> (try (refine Run.p rfl rfl rfl (OpP.lenStr rfl rfl) ?_)) <;> (try (refine Run.p rfl rfl rfl (OpP.addA rfl rfl rfl) ?_)) <;> (try (refine Run.p rfl rfl rfl (OpP.fieldAddrA rfl rfl) ?_)) <;> (try (refine Run.ld1 rfl rfl rfl rfl rfl rfl rfl rfl ?_)) <;> (try (refine Run.p rfl rfl rfl (OpP.lenStr rfl rfl) ?_)) <;> (try (refine Run.p rfl rfl rfl (OpP.addA rfl rfl rfl) ?_)) <;> (try (refine Run.p rfl rfl rfl (OpP.gtt rfl rfl rfl) ?_)) <;> (try refine Run.fin rfl ?_)) | (refine AW.region (id := 5) ?_ <;> (try (refine Run.p rfl rfl rfl (OpP.mvA rfl) ?_)) <;> (try (refine Run.cSA [] hN rfl rfl rfl rfl rfl rfl rfl rfl rfl rfl rfl rfl ?_)) <;> (try (refine Run.cSA [1] hQ rfl rfl rfl rfl rfl rfl rfl rfl rfl rfl rfl rfl ?_)) <;> (try (refine Run.alA rfl rfl rfl rfl ?_)) <;> (try (refine Run.stA rfl rfl rfl rfl rfl ?_)) <;> (try refine Run.fin rfl ?_)) | (refine AW.draw (id := 6) (by kernel_rfl) ?_ <;> (try (refine Run.ldNA rfl rfl rfl rfl rfl rfl rfl ?_)) <;> (try (refine Run.ldNA rfl rfl rfl rfl rfl rfl rfl ?_)) <;> (try (refine Run.p rfl rfl rfl (OpP.mvA rfl) ?_)) <;> (try (refine Run.c0 (hB _) rfl rfl rfl rfl rfl rfl rfl rfl ?_)) <;> (try (refine Run.ldNA rfl rfl rfl rfl rfl rfl rfl ?_)) <;> (try (refine Run.bsA rfl rfl rfl rfl rfl rfl ?_)) <;> (try (refine Run.ri rfl rfl rfl (OpRI.lenA rfl rfl) rfl ?_)) <;> (try (refine Run.p rfl rfl rfl (OpP.mvA rfl) ?_)) <;> (try refine Run.fin (by kernel_rfl) ?_)))))
    refine AW.block ?_
    refine AW.loopF (X := Nat) (fun x => ⟨[(36, .sl 11 (rqP L) true), (37, .v (.int .i64 3)), (38, .v (.int .i64 (x : Int)))], []⟩)
      (fun x => x ≤ 3) (fun x => 3 - x) 0 ?_ ?_ ?_
    · refine Conv.mk [] rfl rfl rfl ?_ rfl ?_
      (repeat' (first | exact Cf.nil | exact Cv.refl | exact CvL.refl _ | exact Cv.rowf rfl rfl | exact Crs.nil | refine Cf.cons' (by (conv => lhs; whnf) <;> rfl) ?_ ?_ | refine Crs.cons ?_ rfl ?_ | exact Cr.no | refine Cr.row ?_ | refine Cr.box ?_ | exact Cv.nil | exact Cv.full | exact CvL.nil | refine CvL.cons ?_ ?_))
      (all_goals (try (first | refine CvL.eq ?_ | refine Cv.eq ?_)))
      all_goals first | rfl | (rw [hL]; first | rfl | simp [AV.ren])
    · simp
    · intro i hi
      rcases Nat.lt_or_ge i 3 with h | h
      · have hil : i < L.length := by omega
        have hA : At (rqP L) (i : Int) [PV.v (.int .i64 L[i].kind), PV.v (.int .i64 L[i].id), PV.v (.string (bs L[i].role)), PV.v (.int .i64 L[i].dir), PV.v (.int .i64 L[i].ch), PV.v (.int .i64 L[i].rate), PV.v (.int .i64 L[i].lat), PV.v (.int .i64 L[i].n), PV.v (.int .u64 L[i].dev), PV.sl 1 (bsP L[i].data), PV.v (.string (bs L[i].text))] := At.mk i rfl (by simp [hil])
        have hx := hLb L[i] (List.getElem_mem _)
        generalize L[i] = x at hA hx
        obtain ⟨x1, x2⟩ := hx
        have q1 := pFormat_c x false x1 (fun h => (rvalid_rng x x2 (by rw [← valid_eq]; exact h)).1)
        have q2 := rFormatR_c x false x1 (fun h => rvalid_rng x x2 h)
        have q3 := Valid_c x false x1
        have q4 := rValid_c x false x1
        rw [← format_eq] at q2
        rw [← valid_eq] at q4
        generalize pFormatP x = PQ at q1 q2
        generalize validQ x = vb at q3 q4
        obtain ⟨u, eu⟩ := PQ
        simp only at q1 q2
        have hd1 : ¬ (eu ≠ eu) := fun h => h rfl
        have hd2 : ¬ (u ≠ u) := fun h => h rfl
        cases vb
        all_goals (
          (repeat' (first | refine AW.seq_k (fun K hK => ?_) | (refine hK _ ?_; clear hK) | (refine AW.condD rfl (fun hc => ?_) (fun hc => ?_) <;> try (first | (exfalso; omega) | (cases hc; done))) | (refine AW.cond rfl (fun hc => ?_) (fun hc => ?_) <;> (try simp only [Bool.and_eq_true, Bool.or_eq_true, Bool.not_eq_true', Bool.not_eq_false', Bool.and_eq_false_iff, Bool.or_eq_false_iff, Bool.and_eq_false_imp, decide_eq_true_eq, decide_eq_false_iff_not, Decidable.not_not, Int.not_lt, Int.not_le, ne_eq, Bool.not_not] at hc) <;> try (first | (exfalso; omega) | (cases hc; done))) | refine AW.block ?_ | refine AW.skip ?_ | (first | (refine AW.region (id := 7) ?_ <;> (try (refine Run.p rfl rfl rfl (OpP.ltt rfl rfl rfl) ?_)) <;> (try refine Run.fin rfl ?_)) | (refine AW.region (id := 8) ?_ <;> (try (refine Run.ri rfl rfl rfl (OpRI.indexAddrA rfl rfl) rfl ?_)) <;> (try (refine Run.p rfl rfl rfl (OpP.loadES rfl rfl rfl (by repeat constructor)) ?_)) <;> (try (refine Run.alA rfl rfl rfl rfl ?_)) <;> (try (refine Run.stA rfl rfl rfl rfl rfl ?_)) <;> (try refine Run.fin rfl ?_)) | (refine AW.region (id := 9) ?_ <;> (try (refine Run.ldNA rfl rfl rfl rfl rfl rfl rfl ?_)) <;> (try (refine Run.c0 q1 rfl rfl rfl rfl rfl rfl rfl rfl ?_)) <;> (try (refine Run.p rfl rfl rfl (OpP.mvA rfl) ?_)) <;> (try (refine Run.p rfl rfl rfl (OpP.extract rfl rfl rfl) ?_)) <;> (try (refine Run.p rfl rfl rfl (OpP.extract rfl rfl rfl) ?_)) <;> (try (refine Run.p rfl rfl rfl (OpP.asA rfl) ?_)) <;> (try (refine Run.p rfl rfl rfl (OpP.asA rfl) ?_)) <;> (try refine Run.fin rfl ?_)) | (refine AW.region (id := 10) ?_ <;> (try (refine Run.ldNA rfl rfl rfl rfl rfl rfl rfl ?_)) <;> (try (refine Run.c0 q2 rfl rfl rfl rfl rfl rfl rfl rfl ?_)) <;> (try (refine Run.p rfl rfl rfl (OpP.mvA rfl) ?_)) <;> (try (refine Run.p rfl rfl rfl (OpP.extract rfl rfl rfl) ?_)) <;> (try (refine Run.p rfl rfl rfl (OpP.extract rfl rfl rfl) ?_)) <;> (try (refine Run.p rfl rfl rfl (OpP.asA rfl) ?_)) <;> (try (refine Run.p rfl rfl rfl (OpP.asA rfl) ?_)) <;> (try refine Run.fin rfl ?_)) | (refine AW.draw (id := 11) (by kernel_rfl) ?_ <;> (try (refine Run.p rfl rfl rfl (OpP.mvA rfl) ?_)) <;> (try (refine Run.p rfl rfl rfl (OpP.mvA rfl) ?_)) <;> (try (refine Run.p rfl rfl rfl (OpP.decF (OpP.sne rfl rfl rfl) (by assumption)) ?_)) <;> (try (refine Run.p rfl rfl rfl (OpP.mvA rfl) ?_)) <;> (try (refine Run.p rfl rfl rfl (OpP.mvA rfl) ?_)) <;> (try (refine Run.p rfl rfl rfl (OpP.mvA rfl) ?_)) <;> (try (refine Run.p rfl rfl rfl (OpP.decF (OpP.ne rfl rfl rfl) (by assumption)) ?_)) <;> (try (refine Run.p rfl rfl rfl (OpP.pickA rfl rfl) ?_)) <;> (try (refine Run.p rfl rfl rfl (OpP.mvA rfl) ?_)) <;> (try (refine Run.ldNA rfl rfl rfl rfl rfl rfl rfl ?_)) <;> (try (refine Run.c0 q3 rfl rfl rfl rfl rfl rfl rfl rfl ?_)) <;> (try (refine Run.ldNA rfl rfl rfl rfl rfl rfl rfl ?_)) <;> (try (refine Run.c0 q4 rfl rfl rfl rfl rfl rfl rfl rfl ?_)) <;> (try (refine Run.p rfl rfl rfl (OpP.bne rfl rfl rfl) ?_)) <;> (try (refine Run.p rfl rfl rfl (OpP.pickA rfl rfl) ?_)) <;> (try refine Run.fin (by kernel_rfl) ?_)) | (refine AW.region (id := 13) ?_ <;> (try (refine Run.p rfl rfl rfl (OpP.addA rfl rfl rfl) ?_)) <;> (try (refine Run.p rfl rfl rfl (OpP.mvA rfl) ?_)) <;> (try refine Run.fin rfl ?_)))))
          ((repeat (with_reducible refine inB_n ?_)); refine thenA_n ?_)
          refine ⟨i + 1, by omega, by omega, ?_⟩
          refine Conv.mk [] rfl rfl rfl ?_ rfl ?_
          (repeat' (first | exact Cf.nil | exact Cv.refl | exact CvL.refl _ | exact Cv.rowf rfl rfl | exact Crs.nil | refine Cf.cons' (by (conv => lhs; whnf) <;> rfl) ?_ ?_ | refine Crs.cons ?_ rfl ?_ | exact Cr.no | refine Cr.row ?_ | refine Cr.box ?_ | exact Cv.nil | exact Cv.full | exact CvL.nil | refine CvL.cons ?_ ?_))
          all_goals first | exact CvL.eq rfl | exact Cv.eq rfl | (refine Cv.eq ?_; simp [AV.ren]; done) | (refine CvL.eq ?_; simp [AV.ren]; done))
      · (repeat' (first | refine AW.seq_k (fun K hK => ?_) | (refine hK _ ?_; clear hK) | (refine AW.condD rfl (fun hc => ?_) (fun hc => ?_) <;> try (first | (exfalso; omega) | (cases hc; done))) | refine AW.exit ?_ | refine AW.ret ?_ | (clear hK; refine hK _ ?_; clear hK) | (first | (refine AW.region (id := 7) ?_ <;> (try (refine Run.p rfl rfl rfl (OpP.ltt rfl rfl rfl) ?_)) <;> (try refine Run.fin rfl ?_)) | (refine AW.region (id := 14) ?_ <;> (try (refine Run.p rfl rfl rfl (OpP.asA rfl) ?_)) <;> (try refine Run.fin rfl ?_)))))
        ((first | refine RetOk.tup rfl rfl ?_ | refine RetOk.one rfl ?_) <;> (repeat' (first | exact Cv.nil | exact Cv.rowf rfl rfl | exact RetC.nil | exact CvL.refl _ | exact Cv.refl | refine RetC.tmp (by (conv => lhs; whnf) <;> rfl) ?_ ?_ | refine RetC.cell1 rfl rfl rfl rfl ?_ ?_ | refine RetC.cellN rfl rfl rfl (by repeat constructor) ?_ ?_ | refine Cv.rowE rfl rfl ?_ | exact Cv.full | exact CvL.nil | refine CvL.cons ?_ ?_)))
  · refine (ACalls.of (fn := Tryd.f4) Tryd.func4 rfl rfl Tryd.ntmps4 (fun I M w own => ?_))
    (repeat' (first | refine AW.seq_k (fun K hK => ?_) | (refine hK _ ?_; clear hK) | (refine AW.condD rfl (fun hc => ?_) (fun hc => ?_) <;> try (first | (exfalso; omega) | (cases hc; done))) | (refine AW.cond rfl (fun hc => ?_) (fun hc => ?_) <;> (try simp only [Bool.and_eq_true, Bool.or_eq_true, Bool.not_eq_true', Bool.not_eq_false', Bool.and_eq_false_iff, Bool.or_eq_false_iff, Bool.and_eq_false_imp, decide_eq_true_eq, decide_eq_false_iff_not, Decidable.not_not, Int.not_lt, Int.not_le, ne_eq, Bool.not_not] at hc) <;> try (first | (exfalso; omega) | (cases hc; done))) | refine AW.ret ?_ | refine AW.skip ?_ | (first | (refine AW.region (id := 0) ?_ <;> (try (refine Run.bxA rfl rfl rfl rfl ?_)) <;> (try (refine Run.p rfl rfl rfl (OpP.asA rfl) ?_)) <;> (try refine Run.fin rfl ?_)) | (refine AW.region (id := 1) ?_ <;> (try (refine Run.c0 sane_c rfl rfl rfl rfl rfl rfl rfl rfl ?_)) <;> (try (refine Run.p rfl rfl rfl (OpP.not rfl rfl) ?_)) <;> (try refine Run.fin rfl ?_)) | (refine AW.region (id := 3) ?_ <;> (try (refine Run.p rfl rfl rfl (OpP.fieldAddrA rfl rfl) ?_)) <;> (try (refine Run.ld1 rfl rfl rfl rfl rfl rfl rfl rfl ?_)) <;> (try (refine Run.ri rfl rfl rfl (OpRI.lenA rfl rfl) rfl ?_)) <;> (try (refine Run.p rfl rfl rfl (OpP.fieldAddrA rfl rfl) ?_)) <;> (try (refine Run.ld1 rfl rfl rfl rfl rfl rfl rfl rfl ?_)) <;> (try (refine Run.p rfl rfl rfl (OpP.lenStr rfl rfl) ?_)) <;> (try (refine Run.p rfl rfl rfl (OpP.addA rfl rfl rfl) ?_)) <;> (try (refine Run.p rfl rfl rfl (OpP.fieldAddrA rfl rfl) ?_)) <;> (try (refine Run.ld1 rfl rfl rfl rfl rfl rfl rfl rfl ?_)) <;> (try (refine Run.p rfl rfl rfl (OpP.lenStr rfl rfl) ?_)) <;> (try (refine Run.p rfl rfl rfl (OpP.addA rfl rfl rfl) ?_)) <;> (try (refine Run.p rfl rfl rfl (OpP.gtt rfl rfl rfl) ?_)) <;> (try refine Run.fin rfl ?_)) | (refine AW.region (id := 4) ?_ <;> (try (refine Run.p rfl rfl rfl (OpP.asA rfl) ?_)) <;> (try refine Run.fin rfl ?_)))))
    ((first | refine RetOk.tup rfl rfl ?_ | refine RetOk.one rfl ?_) <;> (repeat' (first | exact Cv.nil | exact Cv.rowf rfl rfl | exact RetC.nil | exact CvL.refl _ | exact Cv.refl | refine RetC.tmp (by (conv => lhs; whnf) <;> rfl) ?_ ?_ | refine RetC.cell1 rfl rfl rfl rfl ?_ ?_ | refine RetC.cellN rfl rfl rfl (by repeat constructor) ?_ ?_ | refine Cv.rowE rfl rfl ?_ | exact Cv.full | exact CvL.nil | refine CvL.cons ?_ ?_)))
end Go.Proofs.YthogjnckkmfhnaaDoor
