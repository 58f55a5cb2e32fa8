/-
  Walks of chapter 11: reading descriptors, the reference's reader.
-/
import Derived.Test.YtgnlohecllokhaaDsE
namespace Go.Proofs.Ytgnlohecllokhaa
set_option linter.unusedVariables false
set_option linter.unusedSimpArgs false
theorem rnote0_c (b : List UInt8) (f : Bool) (s : RS) (k : Nat) : ACalls Try.prog 51 [.ptr 0 0, .v (.int .i64 (k : Int)), .v (.int .i64 0)] [rdR b f s] (.tup []) [rdR b f (k, s.2)] := by
  have hd : ¬ ((0 : Int) ≠ 0) := by decide
  refine (ACalls.of (fn := Try.f51) Try.func51 rfl rfl Try.ntmps51 (fun I M w own => ?_))
  (repeat' (first | refine AW.seq_k (fun K hK => ?_) | (refine hK _ ?_; clear hK) | (refine AW.cond rfl (fun hc => ?_) (fun hc => ?_) <;> (try simp only [Bool.and_eq_true, Bool.or_eq_true, Bool.not_eq_true', Bool.not_eq_false', Bool.and_eq_false_iff, Bool.or_eq_false_iff, Bool.and_eq_false_imp, decide_eq_true_eq, decide_eq_false_iff_not, Decidable.not_not, Int.not_lt, Int.not_le, ne_eq, Bool.not_not] at hc) <;> try (first | (exfalso; omega) | (cases hc; done))) | (first | (refine AW.region (id := 0) ?_ <;> (try (refine Run.p rfl rfl rfl (OpP.mvA rfl) ?_)) <;> (try (refine Run.p rfl rfl rfl (OpP.decF (OpP.ne rfl rfl rfl) (by assumption)) ?_)) <;> (try refine Run.fin rfl ?_)) | (refine AW.region (id := 2) ?_ <;> (try (refine Run.p rfl rfl rfl (OpP.mvA rfl) ?_)) <;> (try (refine Run.p rfl rfl rfl (OpP.mvA rfl) ?_)) <;> (try (refine Run.p rfl rfl rfl (OpP.nilCheck rfl (by (conv => lhs; whnf) <;> rfl) rfl) ?_)) <;> (try (refine Run.p rfl rfl rfl (OpP.fieldAddrA rfl rfl) ?_)) <;> (try (refine Run.stA rfl rfl rfl rfl rfl ?_)) <;> (try refine Run.fin rfl ?_)))))
  ((first | refine RetOk.tupS [0] rfl rfl rfl rfl rfl ?_ ?_ | refine RetOk.oneS [0] rfl rfl rfl rfl ?_ ?_) <;> (repeat' (first | exact Cv.nil | exact Cv.rowf rfl rfl | exact RetC.nil | exact CvL.refl _ | exact Cv.full | exact Cv.refl | exact Crs.nil | refine Crs.cons ?_ rfl ?_ | exact Cr.no | refine Cr.row ?_ | refine Cr.box ?_ | refine RetC.tmp (by (conv => lhs; whnf) <;> rfl) ?_ ?_ | refine RetC.cell1 rfl rfl rfl rfl ?_ ?_ | refine RetC.cellN rfl rfl rfl (by repeat constructor) ?_ ?_ | refine Cv.rowE rfl rfl ?_ | exact CvL.nil | refine CvL.cons ?_ ?_)))
theorem rnote1_c (b : List UInt8) (f : Bool) (s : RS) (a e : Int) (he : e ≠ 0) : ACalls Try.prog 51 [.ptr 0 0, .v (.int .i64 a), .v (.int .i64 e)] [rdR b f s] (.tup []) [rdR b f (s.1, true)] := by
  refine (ACalls.of (fn := Try.f51) Try.func51 rfl rfl Try.ntmps51 (fun I M w own => ?_))
  (repeat' (first | refine AW.seq_k (fun K hK => ?_) | (refine hK _ ?_; clear hK) | (refine AW.cond rfl (fun hc => ?_) (fun hc => ?_) <;> (try simp only [Bool.and_eq_true, Bool.or_eq_true, Bool.not_eq_true', Bool.not_eq_false', Bool.and_eq_false_iff, Bool.or_eq_false_iff, Bool.and_eq_false_imp, decide_eq_true_eq, decide_eq_false_iff_not, Decidable.not_not, Int.not_lt, Int.not_le, ne_eq, Bool.not_not] at hc) <;> try (first | (exfalso; omega) | (cases hc; done))) | (first | (refine AW.region (id := 0) ?_ <;> (try (refine Run.p rfl rfl rfl (OpP.mvA rfl) ?_)) <;> (try (refine Run.p rfl rfl rfl (OpP.decT (OpP.ne rfl rfl rfl) (by assumption)) ?_)) <;> (try refine Run.fin rfl ?_)) | (refine AW.region (id := 1) ?_ <;> (try (refine Run.p rfl rfl rfl (OpP.mvA rfl) ?_)) <;> (try (refine Run.p rfl rfl rfl (OpP.nilCheck rfl (by (conv => lhs; whnf) <;> rfl) rfl) ?_)) <;> (try (refine Run.p rfl rfl rfl (OpP.fieldAddrA rfl rfl) ?_)) <;> (try (refine Run.stA rfl rfl rfl rfl rfl ?_)) <;> (try refine Run.fin rfl ?_)))))
  ((first | refine RetOk.tupS [0] rfl rfl rfl rfl rfl ?_ ?_ | refine RetOk.oneS [0] rfl rfl rfl rfl ?_ ?_) <;> (repeat' (first | exact Cv.nil | exact Cv.rowf rfl rfl | exact RetC.nil | exact CvL.refl _ | exact Cv.full | exact Cv.refl | exact Crs.nil | refine Crs.cons ?_ rfl ?_ | exact Cr.no | refine Cr.row ?_ | refine Cr.box ?_ | refine RetC.tmp (by (conv => lhs; whnf) <;> rfl) ?_ ?_ | refine RetC.cell1 rfl rfl rfl rfl ?_ ?_ | refine RetC.cellN rfl rfl rfl (by repeat constructor) ?_ ?_ | refine Cv.rowE rfl rfl ?_ | exact CvL.nil | refine CvL.cons ?_ ?_)))
theorem rnoteM_c (b : List UInt8) (f : Bool) (s : RS) (m : Nat) (h : s.1 ≤ b.length) : ACalls Try.prog 51 [.ptr 0 0, .v (.int .i64 (getM b s.1 m).2.1), .v (.int .i64 (getM b s.1 m).2.2)] [rdR b f s] (.tup []) [rdR b f (rd b m s).2] := by
  obtain ⟨hg, _⟩ := rd_get b m s h
  generalize (getM b s.1 m).2.2 = e at hg ⊢
  generalize (getM b s.1 m).2.1 = a at hg ⊢
  rcases hg with ⟨rfl, rfl, h3⟩ | ⟨rfl, h3⟩
  · have q2 := rnote0_c b f s (rd b m s).2.1
    rw [← h3] at q2
    exact q2
  · rw [h3]
    exact rnote1_c b f s a 4 (by decide)
theorem rsmall_c (b : List UInt8) (f : Bool) (s : RS) (h : s.1 ≤ b.length) (hl : b.length ≤ 1000000000) : ACalls Try.prog 53 [.ptr 0 0] [rdR b f s] (.v (.int .i64 (rd b 2 s).1)) [rdR b f (rd b 2 s).2] := by
  have q1 := rGet16_c b f s.1 ⟨by omega, by omega⟩ hl
  obtain ⟨hg, he⟩ := rd_get b 2 s h
  have hbd := rd2_bd b s h
  rw [he] at q1
  generalize (getM b s.1 2).2.2 = e at q1 hg
  generalize (getM b s.1 2).2.1 = a at q1 hg
  rcases hg with ⟨rfl, rfl, h3⟩ | ⟨rfl, h3⟩
  · have q2 := rnote0_c b f s (rd b 2 s).2.1
    rw [← h3] at q2
    refine (ACalls.of (fn := Try.f53) Try.func53 rfl rfl Try.ntmps53 (fun I M w own => ?_))
    (repeat' (first | refine AW.seq_k (fun K hK => ?_) | (refine hK _ ?_; clear hK) | refine AW.ret ?_ | (first | (refine AW.region (id := 0) ?_ <;> (try (refine Run.p rfl rfl rfl (OpP.asA rfl) ?_)) <;> (try refine Run.fin rfl ?_)) | (refine AW.draw (id := 1) (by kernel_rfl) ?_ <;> (try (refine Run.p rfl rfl rfl (OpP.mvA rfl) ?_)) <;> (try (refine Run.p rfl rfl rfl (OpP.nilCheck rfl (by (conv => lhs; whnf) <;> rfl) rfl) ?_)) <;> (try (refine Run.p rfl rfl rfl (OpP.fieldAddrA rfl rfl) ?_)) <;> (try (refine Run.ld1 rfl rfl rfl rfl rfl rfl rfl rfl ?_)) <;> (try (refine Run.p rfl rfl rfl (OpP.mvA rfl) ?_)) <;> (try (refine Run.p rfl rfl rfl (OpP.nilCheck rfl (by (conv => lhs; whnf) <;> rfl) rfl) ?_)) <;> (try (refine Run.p rfl rfl rfl (OpP.fieldAddrA rfl rfl) ?_)) <;> (try (refine Run.ld1 rfl rfl rfl rfl rfl rfl rfl rfl ?_)) <;> (try (refine Run.c0 q1 rfl rfl rfl rfl rfl rfl rfl rfl ?_)) <;> (try (refine Run.p rfl rfl rfl (OpP.mvA rfl) ?_)) <;> (try (refine Run.p rfl rfl rfl (OpP.extract rfl rfl rfl) ?_)) <;> (try (refine Run.p rfl rfl rfl (OpP.extract rfl rfl rfl) ?_)) <;> (try (refine Run.p rfl rfl rfl (OpP.extract rfl rfl rfl) ?_)) <;> (try (refine Run.p rfl rfl rfl (OpP.asA rfl) ?_)) <;> (try (refine Run.p rfl rfl rfl (OpP.asA rfl) ?_)) <;> (try (refine Run.p rfl rfl rfl (OpP.asA rfl) ?_)) <;> (try refine Run.fin (by kernel_rfl) ?_)) | (refine AW.region (id := 2) ?_ <;> (try (refine Run.p rfl rfl rfl (OpP.mvA rfl) ?_)) <;> (try (refine Run.p rfl rfl rfl (OpP.mvA rfl) ?_)) <;> (try (refine Run.p rfl rfl rfl (OpP.mvA rfl) ?_)) <;> (try (refine Run.cSA [0] q2 rfl rfl rfl rfl rfl rfl rfl rfl rfl rfl rfl rfl ?_)) <;> (try refine Run.fin rfl ?_)) | (refine AW.region (id := 3) ?_ <;> (try (refine Run.p rfl rfl rfl (OpP.mvA rfl) ?_)) <;> (try (refine Run.p rfl rfl rfl (OpP.convA rfl rfl) ?_)) <;> (try (refine Run.p rfl rfl rfl (OpP.asA rfl) ?_)) <;> (try refine Run.fin rfl ?_)))))
    ((first | refine RetOk.tupS [0] rfl rfl rfl rfl rfl ?_ ?_ | refine RetOk.oneS [0] rfl rfl rfl rfl ?_ ?_) <;> (repeat' (first | exact Cv.nil | exact Cv.rowf rfl rfl | exact RetC.nil | exact CvL.refl _ | exact Cv.full | exact Cv.refl | exact Crs.nil | refine Crs.cons ?_ rfl ?_ | exact Cr.no | refine Cr.row ?_ | refine Cr.box ?_ | refine RetC.tmp (by (conv => lhs; whnf) <;> rfl) ?_ ?_ | refine RetC.cell1 rfl rfl rfl rfl ?_ ?_ | refine RetC.cellN rfl rfl rfl (by repeat constructor) ?_ ?_ | refine Cv.rowE rfl rfl ?_ | exact CvL.nil | refine CvL.cons ?_ ?_)))
  · have q2 := rnote1_c b f s a 4 (by decide)
    rw [h3]
    refine (ACalls.of (fn := Try.f53) Try.func53 rfl rfl Try.ntmps53 (fun I M w own => ?_))
    (repeat' (first | refine AW.seq_k (fun K hK => ?_) | (refine hK _ ?_; clear hK) | refine AW.ret ?_ | (first | (refine AW.region (id := 0) ?_ <;> (try (refine Run.p rfl rfl rfl (OpP.asA rfl) ?_)) <;> (try refine Run.fin rfl ?_)) | (refine AW.draw (id := 1) (by kernel_rfl) ?_ <;> (try (refine Run.p rfl rfl rfl (OpP.mvA rfl) ?_)) <;> (try (refine Run.p rfl rfl rfl (OpP.nilCheck rfl (by (conv => lhs; whnf) <;> rfl) rfl) ?_)) <;> (try (refine Run.p rfl rfl rfl (OpP.fieldAddrA rfl rfl) ?_)) <;> (try (refine Run.ld1 rfl rfl rfl rfl rfl rfl rfl rfl ?_)) <;> (try (refine Run.p rfl rfl rfl (OpP.mvA rfl) ?_)) <;> (try (refine Run.p rfl rfl rfl (OpP.nilCheck rfl (by (conv => lhs; whnf) <;> rfl) rfl) ?_)) <;> (try (refine Run.p rfl rfl rfl (OpP.fieldAddrA rfl rfl) ?_)) <;> (try (refine Run.ld1 rfl rfl rfl rfl rfl rfl rfl rfl ?_)) <;> (try (refine Run.c0 q1 rfl rfl rfl rfl rfl rfl rfl rfl ?_)) <;> (try (refine Run.p rfl rfl rfl (OpP.mvA rfl) ?_)) <;> (try (refine Run.p rfl rfl rfl (OpP.extract rfl rfl rfl) ?_)) <;> (try (refine Run.p rfl rfl rfl (OpP.extract rfl rfl rfl) ?_)) <;> (try (refine Run.p rfl rfl rfl (OpP.extract rfl rfl rfl) ?_)) <;> (try (refine Run.p rfl rfl rfl (OpP.asA rfl) ?_)) <;> (try (refine Run.p rfl rfl rfl (OpP.asA rfl) ?_)) <;> (try (refine Run.p rfl rfl rfl (OpP.asA rfl) ?_)) <;> (try refine Run.fin (by kernel_rfl) ?_)) | (refine AW.region (id := 2) ?_ <;> (try (refine Run.p rfl rfl rfl (OpP.mvA rfl) ?_)) <;> (try (refine Run.p rfl rfl rfl (OpP.mvA rfl) ?_)) <;> (try (refine Run.p rfl rfl rfl (OpP.mvA rfl) ?_)) <;> (try (refine Run.cSA [0] q2 rfl rfl rfl rfl rfl rfl rfl rfl rfl rfl rfl rfl ?_)) <;> (try refine Run.fin rfl ?_)) | (refine AW.region (id := 3) ?_ <;> (try (refine Run.p rfl rfl rfl (OpP.mvA rfl) ?_)) <;> (try (refine Run.p rfl rfl rfl (OpP.convA rfl rfl) ?_)) <;> (try (refine Run.p rfl rfl rfl (OpP.asA rfl) ?_)) <;> (try refine Run.fin rfl ?_)))))
    ((first | refine RetOk.tupS [0] rfl rfl rfl rfl rfl ?_ ?_ | refine RetOk.oneS [0] rfl rfl rfl rfl ?_ ?_) <;> (repeat' (first | exact Cv.nil | exact Cv.rowf rfl rfl | exact RetC.nil | exact CvL.refl _ | exact Cv.full | exact Cv.refl | exact Crs.nil | refine Crs.cons ?_ rfl ?_ | exact Cr.no | refine Cr.row ?_ | refine Cr.box ?_ | refine RetC.tmp (by (conv => lhs; whnf) <;> rfl) ?_ ?_ | refine RetC.cell1 rfl rfl rfl rfl ?_ ?_ | refine RetC.cellN rfl rfl rfl (by repeat constructor) ?_ ?_ | refine Cv.rowE rfl rfl ?_ | exact CvL.nil | refine CvL.cons ?_ ?_)))
theorem rlarge_c (b : List UInt8) (f : Bool) (s : RS) (h : s.1 ≤ b.length) (hl : b.length ≤ 1000000000) : ACalls Try.prog 54 [.ptr 0 0] [rdR b f s] (.v (.int .i64 (rd b 4 s).1)) [rdR b f (rd b 4 s).2] := by
  have q1 := rGet32_c b f s.1 ⟨by omega, by omega⟩ hl
  obtain ⟨hg, he⟩ := rd_get b 4 s h
  have hbd := rd4_bd b s h
  rw [he] at q1
  generalize (getM b s.1 4).2.2 = e at q1 hg
  generalize (getM b s.1 4).2.1 = a at q1 hg
  rcases hg with ⟨rfl, rfl, h3⟩ | ⟨rfl, h3⟩
  · have q2 := rnote0_c b f s (rd b 4 s).2.1
    rw [← h3] at q2
    refine (ACalls.of (fn := Try.f54) Try.func54 rfl rfl Try.ntmps54 (fun I M w own => ?_))
    (repeat' (first | refine AW.seq_k (fun K hK => ?_) | (refine hK _ ?_; clear hK) | refine AW.ret ?_ | (first | (refine AW.region (id := 0) ?_ <;> (try (refine Run.p rfl rfl rfl (OpP.asA rfl) ?_)) <;> (try refine Run.fin rfl ?_)) | (refine AW.draw (id := 1) (by kernel_rfl) ?_ <;> (try (refine Run.p rfl rfl rfl (OpP.mvA rfl) ?_)) <;> (try (refine Run.p rfl rfl rfl (OpP.nilCheck rfl (by (conv => lhs; whnf) <;> rfl) rfl) ?_)) <;> (try (refine Run.p rfl rfl rfl (OpP.fieldAddrA rfl rfl) ?_)) <;> (try (refine Run.ld1 rfl rfl rfl rfl rfl rfl rfl rfl ?_)) <;> (try (refine Run.p rfl rfl rfl (OpP.mvA rfl) ?_)) <;> (try (refine Run.p rfl rfl rfl (OpP.nilCheck rfl (by (conv => lhs; whnf) <;> rfl) rfl) ?_)) <;> (try (refine Run.p rfl rfl rfl (OpP.fieldAddrA rfl rfl) ?_)) <;> (try (refine Run.ld1 rfl rfl rfl rfl rfl rfl rfl rfl ?_)) <;> (try (refine Run.c0 q1 rfl rfl rfl rfl rfl rfl rfl rfl ?_)) <;> (try (refine Run.p rfl rfl rfl (OpP.mvA rfl) ?_)) <;> (try (refine Run.p rfl rfl rfl (OpP.extract rfl rfl rfl) ?_)) <;> (try (refine Run.p rfl rfl rfl (OpP.extract rfl rfl rfl) ?_)) <;> (try (refine Run.p rfl rfl rfl (OpP.extract rfl rfl rfl) ?_)) <;> (try (refine Run.p rfl rfl rfl (OpP.asA rfl) ?_)) <;> (try (refine Run.p rfl rfl rfl (OpP.asA rfl) ?_)) <;> (try (refine Run.p rfl rfl rfl (OpP.asA rfl) ?_)) <;> (try refine Run.fin (by kernel_rfl) ?_)) | (refine AW.region (id := 2) ?_ <;> (try (refine Run.p rfl rfl rfl (OpP.mvA rfl) ?_)) <;> (try (refine Run.p rfl rfl rfl (OpP.mvA rfl) ?_)) <;> (try (refine Run.p rfl rfl rfl (OpP.mvA rfl) ?_)) <;> (try (refine Run.cSA [0] q2 rfl rfl rfl rfl rfl rfl rfl rfl rfl rfl rfl rfl ?_)) <;> (try refine Run.fin rfl ?_)) | (refine AW.region (id := 3) ?_ <;> (try (refine Run.p rfl rfl rfl (OpP.mvA rfl) ?_)) <;> (try (refine Run.p rfl rfl rfl (OpP.convA rfl rfl) ?_)) <;> (try (refine Run.p rfl rfl rfl (OpP.asA rfl) ?_)) <;> (try refine Run.fin rfl ?_)))))
    ((first | refine RetOk.tupS [0] rfl rfl rfl rfl rfl ?_ ?_ | refine RetOk.oneS [0] rfl rfl rfl rfl ?_ ?_) <;> (repeat' (first | exact Cv.nil | exact Cv.rowf rfl rfl | exact RetC.nil | exact CvL.refl _ | exact Cv.full | exact Cv.refl | exact Crs.nil | refine Crs.cons ?_ rfl ?_ | exact Cr.no | refine Cr.row ?_ | refine Cr.box ?_ | refine RetC.tmp (by (conv => lhs; whnf) <;> rfl) ?_ ?_ | refine RetC.cell1 rfl rfl rfl rfl ?_ ?_ | refine RetC.cellN rfl rfl rfl (by repeat constructor) ?_ ?_ | refine Cv.rowE rfl rfl ?_ | exact CvL.nil | refine CvL.cons ?_ ?_)))
  · have q2 := rnote1_c b f s a 4 (by decide)
    rw [h3]
    refine (ACalls.of (fn := Try.f54) Try.func54 rfl rfl Try.ntmps54 (fun I M w own => ?_))
    (repeat' (first | refine AW.seq_k (fun K hK => ?_) | (refine hK _ ?_; clear hK) | refine AW.ret ?_ | (first | (refine AW.region (id := 0) ?_ <;> (try (refine Run.p rfl rfl rfl (OpP.asA rfl) ?_)) <;> (try refine Run.fin rfl ?_)) | (refine AW.draw (id := 1) (by kernel_rfl) ?_ <;> (try (refine Run.p rfl rfl rfl (OpP.mvA rfl) ?_)) <;> (try (refine Run.p rfl rfl rfl (OpP.nilCheck rfl (by (conv => lhs; whnf) <;> rfl) rfl) ?_)) <;> (try (refine Run.p rfl rfl rfl (OpP.fieldAddrA rfl rfl) ?_)) <;> (try (refine Run.ld1 rfl rfl rfl rfl rfl rfl rfl rfl ?_)) <;> (try (refine Run.p rfl rfl rfl (OpP.mvA rfl) ?_)) <;> (try (refine Run.p rfl rfl rfl (OpP.nilCheck rfl (by (conv => lhs; whnf) <;> rfl) rfl) ?_)) <;> (try (refine Run.p rfl rfl rfl (OpP.fieldAddrA rfl rfl) ?_)) <;> (try (refine Run.ld1 rfl rfl rfl rfl rfl rfl rfl rfl ?_)) <;> (try (refine Run.c0 q1 rfl rfl rfl rfl rfl rfl rfl rfl ?_)) <;> (try (refine Run.p rfl rfl rfl (OpP.mvA rfl) ?_)) <;> (try (refine Run.p rfl rfl rfl (OpP.extract rfl rfl rfl) ?_)) <;> (try (refine Run.p rfl rfl rfl (OpP.extract rfl rfl rfl) ?_)) <;> (try (refine Run.p rfl rfl rfl (OpP.extract rfl rfl rfl) ?_)) <;> (try (refine Run.p rfl rfl rfl (OpP.asA rfl) ?_)) <;> (try (refine Run.p rfl rfl rfl (OpP.asA rfl) ?_)) <;> (try (refine Run.p rfl rfl rfl (OpP.asA rfl) ?_)) <;> (try refine Run.fin (by kernel_rfl) ?_)) | (refine AW.region (id := 2) ?_ <;> (try (refine Run.p rfl rfl rfl (OpP.mvA rfl) ?_)) <;> (try (refine Run.p rfl rfl rfl (OpP.mvA rfl) ?_)) <;> (try (refine Run.p rfl rfl rfl (OpP.mvA rfl) ?_)) <;> (try (refine Run.cSA [0] q2 rfl rfl rfl rfl rfl rfl rfl rfl rfl rfl rfl rfl ?_)) <;> (try refine Run.fin rfl ?_)) | (refine AW.region (id := 3) ?_ <;> (try (refine Run.p rfl rfl rfl (OpP.mvA rfl) ?_)) <;> (try (refine Run.p rfl rfl rfl (OpP.convA rfl rfl) ?_)) <;> (try (refine Run.p rfl rfl rfl (OpP.asA rfl) ?_)) <;> (try refine Run.fin rfl ?_)))))
    ((first | refine RetOk.tupS [0] rfl rfl rfl rfl rfl ?_ ?_ | refine RetOk.oneS [0] rfl rfl rfl rfl ?_ ?_) <;> (repeat' (first | exact Cv.nil | exact Cv.rowf rfl rfl | exact RetC.nil | exact CvL.refl _ | exact Cv.full | exact Cv.refl | exact Crs.nil | refine Crs.cons ?_ rfl ?_ | exact Cr.no | refine Cr.row ?_ | refine Cr.box ?_ | refine RetC.tmp (by (conv => lhs; whnf) <;> rfl) ?_ ?_ | refine RetC.cell1 rfl rfl rfl rfl ?_ ?_ | refine RetC.cellN rfl rfl rfl (by repeat constructor) ?_ ?_ | refine Cv.rowE rfl rfl ?_ | exact CvL.nil | refine CvL.cons ?_ ?_)))
theorem rrset_c (b : List UInt8) (f : Bool) (s : RS) (h : s.1 ≤ b.length) (hl : b.length ≤ 1000000000) : ACalls Try.prog 73 [.ptr 0 0] [rdR b f s] (.agg [.sl 2 (spP (setR b s).1) false]) [rdR b f (setR b s).2] := by
  have q0 := rsmall_c b f s h hl
  have h2 := rd2_bd b s h
  generalize hR : setR b s = R
  rw [setR] at hR
  generalize rd b 2 s = A at q0 h2 hR
  obtain ⟨n0, s0⟩ := A
  simp only at q0 h2 hR
  refine (ACalls.of (fn := Try.f73) Try.func73 rfl rfl Try.ntmps73 (fun I M w own => ?_))
  (repeat' (first | refine AW.seq_k (fun K hK => ?_) | (refine hK _ ?_; clear hK) | refine AW.block ?_ | (first | (refine AW.region (id := 0) ?_ <;> (try (refine Run.alA rfl rfl rfl rfl ?_)) <;> (try refine Run.fin rfl ?_)) | (refine AW.region (id := 1) ?_ <;> (try (refine Run.alA rfl rfl rfl rfl ?_)) <;> (try refine Run.fin rfl ?_)) | (refine AW.region (id := 2) ?_ <;> (try (refine Run.p rfl rfl rfl (OpP.mvA rfl) ?_)) <;> (try (refine Run.cSA [0] q0 rfl rfl rfl rfl rfl rfl rfl rfl rfl rfl rfl rfl ?_)) <;> (try (refine Run.p rfl rfl rfl (OpP.asA rfl) ?_)) <;> (try refine Run.fin rfl ?_)))))
  refine AW.loopF (X := Nat × RS × List (Int × Int)) (fun x => ⟨[(0, .ptr 0 0), (2, .ptr 1 0), (3, .ptr 2 0), (4, .v (.int .i64 (x.1 : Int)))], [rdR b f x.2.1, .box [.v (.slice none 0 0)], .box [.row 3 (spP x.2.2).length], .row 2 (spP x.2.2)]⟩)
    (fun x => x.1 ≤ 65535 ∧ x.2.1.1 ≤ b.length ∧ x.2.2.length + x.1 ≤ 65535 ∧ rep (spR b) x.1 x.2.1 x.2.2 = R) (fun x => x.1) (n0.toNat, s0, []) ?_ ?_ ?_
  · (refine Conv.ownB 2 0 2 [] rfl rfl (Or.inr ⟨rfl, rfl⟩) (by repeat constructor) (by repeat constructor) ?_)
    refine Conv.mk [0, 1, 2, 3] rfl rfl rfl ?_ rfl ?_
    (repeat' (first | exact Cf.nil | exact Cv.refl | exact CvL.refl _ | exact Cv.rowf rfl rfl | exact Crs.nil | refine Cf.cons' (by (conv => lhs; whnf) <;> rfl) ?_ ?_ | refine Crs.cons ?_ rfl ?_ | exact Cr.no | refine Cr.row ?_ | refine Cr.box ?_ | exact Cv.nil | exact Cv.full | exact CvL.nil | refine CvL.cons ?_ ?_))
    (all_goals (try (first | refine CvL.eq ?_ | refine Cv.eq ?_)))
    · simp only [AV.ren]; congr 2; omega
    · rfl
  · exact ⟨by simp only; omega, h2.2.2, by simp only [List.length_nil]; omega, hR⟩
  · rintro ⟨n, s, acc⟩ ⟨g1, g2, g3, g4⟩
    simp only at g1 g2 g3 g4 ⊢
    rcases n with _ | n
    · have hd : ¬ (0 < ((0 : Nat) : Int)) := by omega
      rw [rep] at g4
      subst g4
      (repeat' (first | refine AW.seq_k (fun K hK => ?_) | (refine hK _ ?_; clear hK) | (refine AW.cond rfl (fun hc => ?_) (fun hc => ?_) <;> (try simp only [Bool.and_eq_true, Bool.or_eq_true, Bool.not_eq_true', Bool.not_eq_false', Bool.and_eq_false_iff, Bool.or_eq_false_iff, Bool.and_eq_false_imp, decide_eq_true_eq, decide_eq_false_iff_not, Decidable.not_not, Int.not_lt, Int.not_le, ne_eq, Bool.not_not] at hc) <;> try (first | (exfalso; omega) | (cases hc; done))) | refine AW.exit ?_ | refine AW.ret ?_ | (clear hK; refine hK _ ?_; clear hK) | (first | (refine AW.region (id := 3) ?_ <;> (try (refine Run.p rfl rfl rfl (OpP.mvA rfl) ?_)) <;> (try (refine Run.p rfl rfl rfl (OpP.decF (OpP.gtt rfl rfl rfl) (by assumption)) ?_)) <;> (try (refine Run.p rfl rfl rfl (OpP.mvA rfl) ?_)) <;> (try (refine Run.sk rfl rfl rfl ?_)) <;> (try (refine Run.sk rfl rfl rfl ?_)) <;> (try (refine Run.sk rfl rfl rfl ?_)) <;> (try (refine Run.sk rfl rfl rfl ?_)) <;> (try (refine Run.sk rfl rfl rfl ?_)) <;> (try (refine Run.p rfl rfl rfl (OpP.pickA rfl rfl) ?_)) <;> (try refine Run.fin rfl ?_)) | (refine AW.region (id := 7) ?_ <;> (try (refine Run.ldNA rfl rfl rfl rfl rfl rfl rfl ?_)) <;> (try (refine Run.stA rfl rfl rfl rfl rfl ?_)) <;> (try refine Run.fin rfl ?_)))))
      ((first | refine RetOk.tupS [0] rfl rfl rfl rfl rfl ?_ ?_ | refine RetOk.oneS [0] rfl rfl rfl rfl ?_ ?_) <;> (repeat' (first | exact Cv.nil | exact Cv.rowf rfl rfl | exact RetC.nil | exact CvL.refl _ | exact Cv.full | exact Cv.refl | exact Crs.nil | refine Crs.cons ?_ rfl ?_ | exact Cr.no | refine Cr.row ?_ | refine Cr.box ?_ | refine RetC.tmp (by (conv => lhs; whnf) <;> rfl) ?_ ?_ | refine RetC.cell1 rfl rfl rfl rfl ?_ ?_ | refine RetC.cellN rfl rfl rfl (by repeat constructor) ?_ ?_ | refine Cv.rowE rfl rfl ?_ | exact CvL.nil | refine CvL.cons ?_ ?_)))
    · have hd : 0 < ((n + 1 : Nat) : Int) := by omega
      obtain ⟨at_, bad⟩ := s
      rw [rep] at g4
      cases bad with
      | true =>
        rw [if_pos rfl] at g4
        subst g4
        (repeat' (first | refine AW.seq_k (fun K hK => ?_) | (refine hK _ ?_; clear hK) | (refine AW.cond rfl (fun hc => ?_) (fun hc => ?_) <;> (try simp only [Bool.and_eq_true, Bool.or_eq_true, Bool.not_eq_true', Bool.not_eq_false', Bool.and_eq_false_iff, Bool.or_eq_false_iff, Bool.and_eq_false_imp, decide_eq_true_eq, decide_eq_false_iff_not, Decidable.not_not, Int.not_lt, Int.not_le, ne_eq, Bool.not_not] at hc) <;> try (first | (exfalso; omega) | (cases hc; done))) | refine AW.exit ?_ | refine AW.ret ?_ | (clear hK; refine hK _ ?_; clear hK) | (first | (refine AW.region (id := 3) ?_ <;> (try (refine Run.p rfl rfl rfl (OpP.mvA rfl) ?_)) <;> (try (refine Run.p rfl rfl rfl (OpP.decT (OpP.gtt rfl rfl rfl) (by assumption)) ?_)) <;> (try (refine Run.p rfl rfl rfl (OpP.mvA rfl) ?_)) <;> (try (refine Run.p rfl rfl rfl (OpP.mvA rfl) ?_)) <;> (try (refine Run.p rfl rfl rfl (OpP.nilCheck rfl (by (conv => lhs; whnf) <;> rfl) rfl) ?_)) <;> (try (refine Run.p rfl rfl rfl (OpP.fieldAddrA rfl rfl) ?_)) <;> (try (refine Run.ld1 rfl rfl rfl rfl rfl rfl rfl rfl ?_)) <;> (try (refine Run.p rfl rfl rfl (OpP.not rfl rfl) ?_)) <;> (try (refine Run.p rfl rfl rfl (OpP.pickA rfl rfl) ?_)) <;> (try refine Run.fin rfl ?_)) | (refine AW.region (id := 7) ?_ <;> (try (refine Run.ldNA rfl rfl rfl rfl rfl rfl rfl ?_)) <;> (try (refine Run.stA rfl rfl rfl rfl rfl ?_)) <;> (try refine Run.fin rfl ?_)))))
        ((first | refine RetOk.tupS [0] rfl rfl rfl rfl rfl ?_ ?_ | refine RetOk.oneS [0] rfl rfl rfl rfl ?_ ?_) <;> (repeat' (first | exact Cv.nil | exact Cv.rowf rfl rfl | exact RetC.nil | exact CvL.refl _ | exact Cv.full | exact Cv.refl | exact Crs.nil | refine Crs.cons ?_ rfl ?_ | exact Cr.no | refine Cr.row ?_ | refine Cr.box ?_ | refine RetC.tmp (by (conv => lhs; whnf) <;> rfl) ?_ ?_ | refine RetC.cell1 rfl rfl rfl rfl ?_ ?_ | refine RetC.cellN rfl rfl rfl (by repeat constructor) ?_ ?_ | refine Cv.rowE rfl rfl ?_ | exact CvL.nil | refine CvL.cons ?_ ?_)))
      | false =>
        rw [if_neg (by simp)] at g4
        have q1 := rlarge_c b f (at_, false) g2 hl
        have h3 := rd4_bd b (at_, false) g2
        have q2 := rlarge_c b f (rd b 4 (at_, false)).2 h3.2.2 hl
        have h4 := rd4_bd b (rd b 4 (at_, false)).2 h3.2.2
        rw [spR] at g4
        simp only at g4
        generalize rd b 4 (at_, false) = A1 at q1 q2 h3 h4 g4
        generalize rd b 4 A1.2 = A2 at q2 h4 g4
        obtain ⟨v1, s1⟩ := A1
        obtain ⟨v2, s2⟩ := A2
        simp only at q1 q2 h3 h4 g4
        (repeat' (first | refine AW.seq_k (fun K hK => ?_) | (refine hK _ ?_; clear hK) | (refine AW.cond rfl (fun hc => ?_) (fun hc => ?_) <;> (try simp only [Bool.and_eq_true, Bool.or_eq_true, Bool.not_eq_true', Bool.not_eq_false', Bool.and_eq_false_iff, Bool.or_eq_false_iff, Bool.and_eq_false_imp, decide_eq_true_eq, decide_eq_false_iff_not, Decidable.not_not, Int.not_lt, Int.not_le, ne_eq, Bool.not_not] at hc) <;> try (first | (exfalso; omega) | (cases hc; done))) | refine AW.block ?_ | refine AW.skip ?_ | (first | (refine AW.region (id := 3) ?_ <;> (try (refine Run.p rfl rfl rfl (OpP.mvA rfl) ?_)) <;> (try (refine Run.p rfl rfl rfl (OpP.decT (OpP.gtt rfl rfl rfl) (by assumption)) ?_)) <;> (try (refine Run.p rfl rfl rfl (OpP.mvA rfl) ?_)) <;> (try (refine Run.p rfl rfl rfl (OpP.mvA rfl) ?_)) <;> (try (refine Run.p rfl rfl rfl (OpP.nilCheck rfl (by (conv => lhs; whnf) <;> rfl) rfl) ?_)) <;> (try (refine Run.p rfl rfl rfl (OpP.fieldAddrA rfl rfl) ?_)) <;> (try (refine Run.ld1 rfl rfl rfl rfl rfl rfl rfl rfl ?_)) <;> (try (refine Run.p rfl rfl rfl (OpP.not rfl rfl) ?_)) <;> (try (refine Run.p rfl rfl rfl (OpP.pickA rfl rfl) ?_)) <;> (try refine Run.fin rfl ?_)) | (refine AW.region (id := 5) ?_ <;> (try (refine Run.p rfl rfl rfl (OpP.mvA rfl) ?_)) <;> (try (refine Run.cSA [0] q1 rfl rfl rfl rfl rfl rfl rfl rfl rfl rfl rfl rfl ?_)) <;> (try (refine Run.p rfl rfl rfl (OpP.asA rfl) ?_)) <;> (try refine Run.fin rfl ?_)) | (refine AW.draw (id := 6) (by kernel_rfl) ?_ <;> (try (refine Run.p rfl rfl rfl (OpP.fieldAddrA rfl rfl) ?_)) <;> (try (refine Run.ld1 rfl rfl rfl rfl rfl rfl rfl rfl ?_)) <;> (try (refine Run.p rfl rfl rfl (OpP.mvA rfl) ?_)) <;> (try (refine Run.p rfl rfl rfl (OpP.mvA rfl) ?_)) <;> (try (refine Run.cSA [0] q2 rfl rfl rfl rfl rfl rfl rfl rfl rfl rfl rfl rfl ?_)) <;> (try (refine Run.p rfl rfl rfl (OpP.buildSA rfl) ?_)) <;> (try (refine Run.bsA rfl rfl rfl rfl rfl rfl ?_)) <;> (try (refine Run.apRA rfl rfl rfl rfl rfl rfl rfl rfl rfl ?_)) <;> (try (refine Run.p rfl rfl rfl (OpP.fieldAddrA rfl rfl) ?_)) <;> (try (refine Run.stA rfl rfl rfl rfl rfl ?_)) <;> (try refine Run.fin (by kernel_rfl) ?_)) | (refine AW.region (id := 4) ?_ <;> (try (refine Run.p rfl rfl rfl (OpP.mvA rfl) ?_)) <;> (try (refine Run.p rfl rfl rfl (OpP.subA rfl rfl rfl) ?_)) <;> (try (refine Run.p rfl rfl rfl (OpP.asA rfl) ?_)) <;> (try refine Run.fin rfl ?_)))))
        ((repeat (with_reducible refine inB_n ?_)); refine thenA_n ?_)
        refine ⟨(n, s2, acc ++ [(v1, v2)]), ⟨by simp only; omega, h4.2.2, by simp only [List.length_append, List.length_singleton]; omega, g4⟩, by simp only; omega, ?_⟩
        refine Conv.mk [0, 1, 2, 3] rfl rfl rfl ?_ rfl ?_
        (repeat' (first | exact Cf.nil | exact Cv.refl | exact CvL.refl _ | exact Cv.rowf rfl rfl | exact Crs.nil | refine Cf.cons' (by (conv => lhs; whnf) <;> rfl) ?_ ?_ | refine Crs.cons ?_ rfl ?_ | exact Cr.no | refine Cr.row ?_ | refine Cr.box ?_ | exact Cv.nil | exact Cv.full | exact CvL.nil | refine CvL.cons ?_ ?_))
        (all_goals (try (first | refine CvL.eq ?_ | refine Cv.eq ?_)))
        all_goals first | (simp [AV.ren, renL]; done) | (simp only [AV.ren]; congr 2; omega)
theorem rrbox_c (b : List UInt8) (f : Bool) (s : RS) (h : s.1 ≤ b.length) (hl : b.length ≤ 1000000000) : ACalls Try.prog 55 [.ptr 0 0] [rdR b f s] (bxA (boxR b s).1 false false false) [rdR b f (boxR b s).2] := by
  have p1 := rsmall_c b f s h hl
  have p1b := rd2_bd b s h
  generalize hRR : boxR b s = RR
  rw [boxR] at hRR
  generalize rd b 2 s = K0 at p1 p1b hRR
  have p2 := rrset_c b f K0.2 p1b.2.2 hl
  have p2b := set_bd b K0.2 p1b.2.2
  generalize setR b K0.2 = K1 at p2 p2b hRR
  have q0 := rsmall_c b f K1.2 p2b.1 hl
  have h2 := rd2_bd b K1.2 p2b.1
  rw [mapsR] at hRR
  generalize rd b 2 K1.2 = A at q0 h2 hRR
  obtain ⟨n0, s0⟩ := A
  simp only at q0 h2 hRR
  generalize hR : rep (mapR b) n0.toNat s0 [] = R at hRR
  refine (ACalls.of (fn := Try.f55) Try.func55 rfl rfl Try.ntmps55 (fun I M w own => ?_))
  (repeat' (first | refine AW.seq_k (fun K hK => ?_) | (refine hK _ ?_; clear hK) | refine AW.block ?_ | (first | (refine AW.region (id := 0) ?_ <;> (try (refine Run.alA rfl rfl rfl rfl ?_)) <;> (try refine Run.fin rfl ?_)) | (refine AW.region (id := 1) ?_ <;> (try (refine Run.p rfl rfl rfl (OpP.mvA rfl) ?_)) <;> (try (refine Run.cSA [0] p1 rfl rfl rfl rfl rfl rfl rfl rfl rfl rfl rfl rfl ?_)) <;> (try (refine Run.p rfl rfl rfl (OpP.buildSA rfl) ?_)) <;> (try (refine Run.alA rfl rfl rfl rfl ?_)) <;> (try (refine Run.stA rfl rfl rfl rfl rfl ?_)) <;> (try refine Run.fin rfl ?_)) | (refine AW.region (id := 2) ?_ <;> (try (refine Run.p rfl rfl rfl (OpP.mvA rfl) ?_)) <;> (try (refine Run.cSA [0] p2 rfl rfl rfl rfl rfl rfl rfl rfl rfl rfl rfl rfl ?_)) <;> (try (refine Run.p rfl rfl rfl (OpP.fieldAddrA rfl rfl) ?_)) <;> (try (refine Run.stA rfl rfl rfl rfl rfl ?_)) <;> (try refine Run.fin rfl ?_)) | (refine AW.region (id := 3) ?_ <;> (try (refine Run.p rfl rfl rfl (OpP.mvA rfl) ?_)) <;> (try (refine Run.cSA [0] q0 rfl rfl rfl rfl rfl rfl rfl rfl rfl rfl rfl rfl ?_)) <;> (try (refine Run.p rfl rfl rfl (OpP.asA rfl) ?_)) <;> (try refine Run.fin rfl ?_)))))
  refine AW.loopF (X := Nat × RS × List (List Int)) (fun x => ⟨[(0, .ptr 0 0), (2, .ptr 1 0), (3, .ptr 2 0), (4, .v (.int .i64 (x.1 : Int)))], [rdR b f x.2.1, .box [.v (.int .i64 0), .v (.slice none 0 0), .v (.slice none 0 0), .v (.slice none 0 0)], .box [.v (.int .i64 K0.1), .sl 2 (spP K1.1) false, .row 3 (mpP x.2.2).length, .v (.slice none 0 0)], .row 1 (mpP x.2.2)]⟩)
    (fun x => x.1 ≤ 65535 ∧ x.2.1.1 ≤ b.length ∧ x.2.2.length + x.1 ≤ 65535 ∧ rep (mapR b) x.1 x.2.1 x.2.2 = R) (fun x => x.1) (n0.toNat, s0, []) ?_ ?_ ?_
  · (refine Conv.ownB 2 2 1 [] rfl rfl (Or.inr ⟨rfl, rfl⟩) (by repeat constructor) (by repeat constructor) ?_)
    refine Conv.mk [0, 1, 2, 3] rfl rfl rfl ?_ rfl ?_
    (repeat' (first | exact Cf.nil | exact Cv.refl | exact CvL.refl _ | exact Cv.rowf rfl rfl | exact Crs.nil | refine Cf.cons' (by (conv => lhs; whnf) <;> rfl) ?_ ?_ | refine Crs.cons ?_ rfl ?_ | exact Cr.no | refine Cr.row ?_ | refine Cr.box ?_ | exact Cv.nil | exact Cv.full | exact CvL.nil | refine CvL.cons ?_ ?_))
    (all_goals (try (first | refine CvL.eq ?_ | refine Cv.eq ?_)))
    all_goals first | rfl | (simp only [AV.ren]; congr 2; omega) | (simp [AV.ren, renL]; done)
  · exact ⟨by simp only; omega, h2.2.2, by simp only [List.length_nil]; omega, hR⟩
  · rintro ⟨n, s, acc⟩ ⟨g1, g2, g3, g4⟩
    simp only at g1 g2 g3 g4 ⊢
    have hac : (mpP acc).length = acc.length := by simp
    rcases n with _ | n
    · have hd : ¬ (0 < ((0 : Nat) : Int)) := by omega
      rw [rep] at g4
      subst g4
      (repeat' (first | refine AW.seq_k (fun K hK => ?_) | (refine hK _ ?_; clear hK) | (refine AW.cond rfl (fun hc => ?_) (fun hc => ?_) <;> (try simp only [Bool.and_eq_true, Bool.or_eq_true, Bool.not_eq_true', Bool.not_eq_false', Bool.and_eq_false_iff, Bool.or_eq_false_iff, Bool.and_eq_false_imp, decide_eq_true_eq, decide_eq_false_iff_not, Decidable.not_not, Int.not_lt, Int.not_le, ne_eq, Bool.not_not] at hc) <;> try (first | (exfalso; omega) | (cases hc; done))) | refine AW.exit ?_ | (clear hK; refine hK _ ?_; clear hK) | (refine AW.region (id := 4) ?_ <;> (try (refine Run.p rfl rfl rfl (OpP.mvA rfl) ?_)) <;> (try (refine Run.p rfl rfl rfl (OpP.decF (OpP.gtt rfl rfl rfl) (by assumption)) ?_)) <;> (try (refine Run.p rfl rfl rfl (OpP.mvA rfl) ?_)) <;> (try (refine Run.sk rfl rfl rfl ?_)) <;> (try (refine Run.sk rfl rfl rfl ?_)) <;> (try (refine Run.sk rfl rfl rfl ?_)) <;> (try (refine Run.sk rfl rfl rfl ?_)) <;> (try (refine Run.sk rfl rfl rfl ?_)) <;> (try (refine Run.p rfl rfl rfl (OpP.pickA rfl rfl) ?_)) <;> (try refine Run.fin rfl ?_))))
      simp only at hRR
      have p3 := rrset_c b f s g2 hl
      have p3b := set_bd b s g2
      generalize setR b s = K3 at p3 p3b hRR
      subst hRR
      (repeat' (first | refine AW.seq_k (fun K hK => ?_) | (refine hK _ ?_; clear hK) | refine AW.ret ?_ | (first | (refine AW.region (id := 12) ?_ <;> (try (refine Run.p rfl rfl rfl (OpP.mvA rfl) ?_)) <;> (try (refine Run.cSA [0] p3 rfl rfl rfl rfl rfl rfl rfl rfl rfl rfl rfl rfl ?_)) <;> (try (refine Run.p rfl rfl rfl (OpP.fieldAddrA rfl rfl) ?_)) <;> (try (refine Run.stA rfl rfl rfl rfl rfl ?_)) <;> (try refine Run.fin rfl ?_)) | (refine AW.region (id := 13) ?_ <;> (try (refine Run.ldNA rfl rfl rfl rfl rfl rfl rfl ?_)) <;> (try (refine Run.stA rfl rfl rfl rfl rfl ?_)) <;> (try refine Run.fin rfl ?_)))))
      ((first | refine RetOk.tupS [0] rfl rfl rfl rfl rfl ?_ ?_ | refine RetOk.oneS [0] rfl rfl rfl rfl ?_ ?_) <;> (repeat' (first | exact Cv.nil | exact Cv.rowf rfl rfl | exact RetC.nil | exact CvL.refl _ | exact Cv.full | exact Cv.refl | exact Crs.nil | refine Crs.cons ?_ rfl ?_ | exact Cr.no | refine Cr.row ?_ | refine Cr.box ?_ | refine RetC.tmp (by (conv => lhs; whnf) <;> rfl) ?_ ?_ | refine RetC.cell1 rfl rfl rfl rfl ?_ ?_ | refine RetC.cellN rfl rfl rfl (by repeat constructor) ?_ ?_ | refine Cv.rowE rfl rfl ?_ | exact CvL.nil | refine CvL.cons ?_ ?_)))
      all_goals skip
    · have hd : 0 < ((n + 1 : Nat) : Int) := by omega
      obtain ⟨at_, bad⟩ := s
      rw [rep] at g4
      cases bad with
      | true =>
        rw [if_pos rfl] at g4
        subst g4
        (repeat' (first | refine AW.seq_k (fun K hK => ?_) | (refine hK _ ?_; clear hK) | (refine AW.cond rfl (fun hc => ?_) (fun hc => ?_) <;> (try simp only [Bool.and_eq_true, Bool.or_eq_true, Bool.not_eq_true', Bool.not_eq_false', Bool.and_eq_false_iff, Bool.or_eq_false_iff, Bool.and_eq_false_imp, decide_eq_true_eq, decide_eq_false_iff_not, Decidable.not_not, Int.not_lt, Int.not_le, ne_eq, Bool.not_not] at hc) <;> try (first | (exfalso; omega) | (cases hc; done))) | refine AW.exit ?_ | (clear hK; refine hK _ ?_; clear hK) | (refine AW.region (id := 4) ?_ <;> (try (refine Run.p rfl rfl rfl (OpP.mvA rfl) ?_)) <;> (try (refine Run.p rfl rfl rfl (OpP.decT (OpP.gtt rfl rfl rfl) (by assumption)) ?_)) <;> (try (refine Run.p rfl rfl rfl (OpP.mvA rfl) ?_)) <;> (try (refine Run.p rfl rfl rfl (OpP.mvA rfl) ?_)) <;> (try (refine Run.p rfl rfl rfl (OpP.nilCheck rfl (by (conv => lhs; whnf) <;> rfl) rfl) ?_)) <;> (try (refine Run.p rfl rfl rfl (OpP.fieldAddrA rfl rfl) ?_)) <;> (try (refine Run.ld1 rfl rfl rfl rfl rfl rfl rfl rfl ?_)) <;> (try (refine Run.p rfl rfl rfl (OpP.not rfl rfl) ?_)) <;> (try (refine Run.p rfl rfl rfl (OpP.pickA rfl rfl) ?_)) <;> (try refine Run.fin rfl ?_))))
        simp only at hRR
        have p3 := rrset_c b f (at_, true) g2 hl
        have p3b := set_bd b (at_, true) g2
        generalize setR b (at_, true) = K3 at p3 p3b hRR
        subst hRR
        (repeat' (first | refine AW.seq_k (fun K hK => ?_) | (refine hK _ ?_; clear hK) | refine AW.ret ?_ | (first | (refine AW.region (id := 12) ?_ <;> (try (refine Run.p rfl rfl rfl (OpP.mvA rfl) ?_)) <;> (try (refine Run.cSA [0] p3 rfl rfl rfl rfl rfl rfl rfl rfl rfl rfl rfl rfl ?_)) <;> (try (refine Run.p rfl rfl rfl (OpP.fieldAddrA rfl rfl) ?_)) <;> (try (refine Run.stA rfl rfl rfl rfl rfl ?_)) <;> (try refine Run.fin rfl ?_)) | (refine AW.region (id := 13) ?_ <;> (try (refine Run.ldNA rfl rfl rfl rfl rfl rfl rfl ?_)) <;> (try (refine Run.stA rfl rfl rfl rfl rfl ?_)) <;> (try refine Run.fin rfl ?_)))))
        ((first | refine RetOk.tupS [0] rfl rfl rfl rfl rfl ?_ ?_ | refine RetOk.oneS [0] rfl rfl rfl rfl ?_ ?_) <;> (repeat' (first | exact Cv.nil | exact Cv.rowf rfl rfl | exact RetC.nil | exact CvL.refl _ | exact Cv.full | exact Cv.refl | exact Crs.nil | refine Crs.cons ?_ rfl ?_ | exact Cr.no | refine Cr.row ?_ | refine Cr.box ?_ | refine RetC.tmp (by (conv => lhs; whnf) <;> rfl) ?_ ?_ | refine RetC.cell1 rfl rfl rfl rfl ?_ ?_ | refine RetC.cellN rfl rfl rfl (by repeat constructor) ?_ ?_ | refine Cv.rowE rfl rfl ?_ | exact CvL.nil | refine CvL.cons ?_ ?_)))
        all_goals skip
      | false =>
        rw [if_neg (by simp)] at g4
        have q1 := rsmall_c b f (at_, false) g2 hl
        have h3 := rd2_bd b (at_, false) g2
        rw [mapR] at g4
        generalize rd b 2 (at_, false) = A1 at q1 h3 g4
        obtain ⟨k0, s1⟩ := A1
        simp only at q1 h3 g4
        (repeat' (first | refine AW.seq_k (fun K hK => ?_) | (refine hK _ ?_; clear hK) | (refine AW.cond rfl (fun hc => ?_) (fun hc => ?_) <;> (try simp only [Bool.and_eq_true, Bool.or_eq_true, Bool.not_eq_true', Bool.not_eq_false', Bool.and_eq_false_iff, Bool.or_eq_false_iff, Bool.and_eq_false_imp, decide_eq_true_eq, decide_eq_false_iff_not, Decidable.not_not, Int.not_lt, Int.not_le, ne_eq, Bool.not_not] at hc) <;> try (first | (exfalso; omega) | (cases hc; done))) | refine AW.block ?_ | refine AW.skip ?_ | (first | (refine AW.region (id := 4) ?_ <;> (try (refine Run.p rfl rfl rfl (OpP.mvA rfl) ?_)) <;> (try (refine Run.p rfl rfl rfl (OpP.decT (OpP.gtt rfl rfl rfl) (by assumption)) ?_)) <;> (try (refine Run.p rfl rfl rfl (OpP.mvA rfl) ?_)) <;> (try (refine Run.p rfl rfl rfl (OpP.mvA rfl) ?_)) <;> (try (refine Run.p rfl rfl rfl (OpP.nilCheck rfl (by (conv => lhs; whnf) <;> rfl) rfl) ?_)) <;> (try (refine Run.p rfl rfl rfl (OpP.fieldAddrA rfl rfl) ?_)) <;> (try (refine Run.ld1 rfl rfl rfl rfl rfl rfl rfl rfl ?_)) <;> (try (refine Run.p rfl rfl rfl (OpP.not rfl rfl) ?_)) <;> (try (refine Run.p rfl rfl rfl (OpP.pickA rfl rfl) ?_)) <;> (try refine Run.fin rfl ?_)) | (refine AW.region (id := 6) ?_ <;> (try (refine Run.p rfl rfl rfl (OpP.asA rfl) ?_)) <;> (try refine Run.fin rfl ?_)) | (refine AW.region (id := 7) ?_ <;> (try (refine Run.p rfl rfl rfl (OpP.mvA rfl) ?_)) <;> (try (refine Run.cSA [0] q1 rfl rfl rfl rfl rfl rfl rfl rfl rfl rfl rfl rfl ?_)) <;> (try (refine Run.p rfl rfl rfl (OpP.asA rfl) ?_)) <;> (try refine Run.fin rfl ?_)))))
        generalize hR2 : rep (rd b 2) k0.toNat s1 [] = R2 at g4
        refine AW.loopF (X := Nat × RS × List Int) (fun x => ⟨[(0, .ptr 0 0), (2, .ptr 1 0), (3, .ptr 2 0), (4, .v (.int .i64 ((n + 1 : Nat) : Int))), (5, .row 4 (nvs x.2.2).length), (6, .v (.int .i64 (x.1 : Int)))], [rdR b f x.2.1, .box [.v (.int .i64 0), .v (.slice none 0 0), .v (.slice none 0 0), .v (.slice none 0 0)], .box [.v (.int .i64 K0.1), .sl 2 (spP K1.1) false, .row 3 (mpP acc).length, .v (.slice none 0 0)], .row 1 (mpP acc), .row 1 (nvs x.2.2)]⟩)
          (fun x => x.1 ≤ 65535 ∧ x.2.1.1 ≤ b.length ∧ x.2.2.length + x.1 ≤ 65535 ∧ rep (rd b 2) x.1 x.2.1 x.2.2 = R2) (fun x => x.1) (k0.toNat, s1, []) ?_ ?_ ?_
        · refine Conv.own 5 1 [] (Or.inr ⟨rfl, rfl⟩) ?_
          refine Conv.mk [0, 1, 2, 3, 4] rfl rfl rfl ?_ rfl ?_
          (repeat' (first | exact Cf.nil | exact Cv.refl | exact CvL.refl _ | exact Cv.rowf rfl rfl | exact Crs.nil | refine Cf.cons' (by (conv => lhs; whnf) <;> rfl) ?_ ?_ | refine Crs.cons ?_ rfl ?_ | exact Cr.no | refine Cr.row ?_ | refine Cr.box ?_ | exact Cv.nil | exact Cv.full | exact CvL.nil | refine CvL.cons ?_ ?_))
          (all_goals (try (first | refine CvL.eq ?_ | refine Cv.eq ?_)))
          all_goals first | rfl | (simp only [AV.ren]; congr 2; omega) | (simp [AV.ren, renL]; done)
        · exact ⟨by simp only; omega, h3.2.2, by simp only [List.length_nil]; omega, hR2⟩
        · rintro ⟨k, s, m⟩ ⟨f1, f2, f3, f4⟩
          simp only at f1 f2 f3 f4 ⊢
          have hmc : (nvs m).length = m.length := by simp
          have hrest : ∀ s', (m, s') = R2 → s'.1 ≤ b.length → rep (mapR b) n s' (acc ++ [m]) = R := by
            intro s' e _
            rw [← g4, ← e]
          rcases k with _ | k
          · have hd2 : ¬ (0 < ((0 : Nat) : Int)) := by omega
            rw [rep] at f4
            (repeat' (first | refine AW.seq_k (fun K hK => ?_) | (refine hK _ ?_; clear hK) | (refine AW.cond rfl (fun hc => ?_) (fun hc => ?_) <;> (try simp only [Bool.and_eq_true, Bool.or_eq_true, Bool.not_eq_true', Bool.not_eq_false', Bool.and_eq_false_iff, Bool.or_eq_false_iff, Bool.and_eq_false_imp, decide_eq_true_eq, decide_eq_false_iff_not, Decidable.not_not, Int.not_lt, Int.not_le, ne_eq, Bool.not_not] at hc) <;> try (first | (exfalso; omega) | (cases hc; done))) | refine AW.exit ?_ | (clear hK; refine hK _ ?_; clear hK) | (first | (refine AW.region (id := 8) ?_ <;> (try (refine Run.p rfl rfl rfl (OpP.mvA rfl) ?_)) <;> (try (refine Run.p rfl rfl rfl (OpP.decF (OpP.gtt rfl rfl rfl) (by assumption)) ?_)) <;> (try (refine Run.p rfl rfl rfl (OpP.mvA rfl) ?_)) <;> (try (refine Run.sk rfl rfl rfl ?_)) <;> (try (refine Run.sk rfl rfl rfl ?_)) <;> (try (refine Run.sk rfl rfl rfl ?_)) <;> (try (refine Run.sk rfl rfl rfl ?_)) <;> (try (refine Run.sk rfl rfl rfl ?_)) <;> (try (refine Run.p rfl rfl rfl (OpP.pickA rfl rfl) ?_)) <;> (try refine Run.fin rfl ?_)) | (refine AW.region (id := 11) ?_ <;> (try (refine Run.p rfl rfl rfl (OpP.fieldAddrA rfl rfl) ?_)) <;> (try (refine Run.ld1 rfl rfl rfl rfl rfl rfl rfl rfl ?_)) <;> (try (refine Run.p rfl rfl rfl (OpP.mvA rfl) ?_)) <;> (try (refine Run.bsA rfl rfl rfl rfl rfl rfl ?_)) <;> (try (refine Run.apRA rfl rfl rfl rfl rfl rfl rfl rfl rfl ?_)) <;> (try (refine Run.p rfl rfl rfl (OpP.fieldAddrA rfl rfl) ?_)) <;> (try (refine Run.stA rfl rfl rfl rfl rfl ?_)) <;> (try refine Run.fin rfl ?_)) | (refine AW.region (id := 5) ?_ <;> (try (refine Run.p rfl rfl rfl (OpP.mvA rfl) ?_)) <;> (try (refine Run.p rfl rfl rfl (OpP.subA rfl rfl rfl) ?_)) <;> (try (refine Run.p rfl rfl rfl (OpP.asA rfl) ?_)) <;> (try refine Run.fin rfl ?_)))))
            ((repeat (with_reducible refine inB_n ?_)); refine thenA_n ?_)
            refine ⟨(n, s, acc ++ [m]), ⟨by simp only; omega, f2, by simp only [List.length_append, List.length_singleton]; omega, hrest s f4 f2⟩, by simp only; omega, ?_⟩
            refine Conv.mk [0, 1, 2, 3] rfl rfl rfl ?_ rfl ?_
            (repeat' (first | exact Cf.nil | exact Cv.refl | exact CvL.refl _ | exact Cv.rowf rfl rfl | exact Crs.nil | refine Cf.cons' (by (conv => lhs; whnf) <;> rfl) ?_ ?_ | refine Crs.cons ?_ rfl ?_ | exact Cr.no | refine Cr.row ?_ | refine Cr.box ?_ | exact Cv.nil | exact Cv.full | exact CvL.nil | refine CvL.cons ?_ ?_))
            (all_goals (try (first | refine CvL.eq ?_ | refine Cv.eq ?_)))
            all_goals first | (simp [AV.ren, renL]; done) | (simp only [AV.ren]; congr 2; omega)
          · have hd2 : 0 < ((k + 1 : Nat) : Int) := by omega
            obtain ⟨at2, bad2⟩ := s
            rw [rep] at f4
            cases bad2 with
            | true =>
              rw [if_pos rfl] at f4
              (repeat' (first | refine AW.seq_k (fun K hK => ?_) | (refine hK _ ?_; clear hK) | (refine AW.cond rfl (fun hc => ?_) (fun hc => ?_) <;> (try simp only [Bool.and_eq_true, Bool.or_eq_true, Bool.not_eq_true', Bool.not_eq_false', Bool.and_eq_false_iff, Bool.or_eq_false_iff, Bool.and_eq_false_imp, decide_eq_true_eq, decide_eq_false_iff_not, Decidable.not_not, Int.not_lt, Int.not_le, ne_eq, Bool.not_not] at hc) <;> try (first | (exfalso; omega) | (cases hc; done))) | refine AW.exit ?_ | (clear hK; refine hK _ ?_; clear hK) | (first | (refine AW.region (id := 8) ?_ <;> (try (refine Run.p rfl rfl rfl (OpP.mvA rfl) ?_)) <;> (try (refine Run.p rfl rfl rfl (OpP.decT (OpP.gtt rfl rfl rfl) (by assumption)) ?_)) <;> (try (refine Run.p rfl rfl rfl (OpP.mvA rfl) ?_)) <;> (try (refine Run.p rfl rfl rfl (OpP.mvA rfl) ?_)) <;> (try (refine Run.p rfl rfl rfl (OpP.nilCheck rfl (by (conv => lhs; whnf) <;> rfl) rfl) ?_)) <;> (try (refine Run.p rfl rfl rfl (OpP.fieldAddrA rfl rfl) ?_)) <;> (try (refine Run.ld1 rfl rfl rfl rfl rfl rfl rfl rfl ?_)) <;> (try (refine Run.p rfl rfl rfl (OpP.not rfl rfl) ?_)) <;> (try (refine Run.p rfl rfl rfl (OpP.pickA rfl rfl) ?_)) <;> (try refine Run.fin rfl ?_)) | (refine AW.region (id := 11) ?_ <;> (try (refine Run.p rfl rfl rfl (OpP.fieldAddrA rfl rfl) ?_)) <;> (try (refine Run.ld1 rfl rfl rfl rfl rfl rfl rfl rfl ?_)) <;> (try (refine Run.p rfl rfl rfl (OpP.mvA rfl) ?_)) <;> (try (refine Run.bsA rfl rfl rfl rfl rfl rfl ?_)) <;> (try (refine Run.apRA rfl rfl rfl rfl rfl rfl rfl rfl rfl ?_)) <;> (try (refine Run.p rfl rfl rfl (OpP.fieldAddrA rfl rfl) ?_)) <;> (try (refine Run.stA rfl rfl rfl rfl rfl ?_)) <;> (try refine Run.fin rfl ?_)) | (refine AW.region (id := 5) ?_ <;> (try (refine Run.p rfl rfl rfl (OpP.mvA rfl) ?_)) <;> (try (refine Run.p rfl rfl rfl (OpP.subA rfl rfl rfl) ?_)) <;> (try (refine Run.p rfl rfl rfl (OpP.asA rfl) ?_)) <;> (try refine Run.fin rfl ?_)))))
              ((repeat (with_reducible refine inB_n ?_)); refine thenA_n ?_)
              refine ⟨(n, (at2, true), acc ++ [m]), ⟨by simp only; omega, f2, by simp only [List.length_append, List.length_singleton]; omega, hrest _ f4 f2⟩, by simp only; omega, ?_⟩
              refine Conv.mk [0, 1, 2, 3] rfl rfl rfl ?_ rfl ?_
              (repeat' (first | exact Cf.nil | exact Cv.refl | exact CvL.refl _ | exact Cv.rowf rfl rfl | exact Crs.nil | refine Cf.cons' (by (conv => lhs; whnf) <;> rfl) ?_ ?_ | refine Crs.cons ?_ rfl ?_ | exact Cr.no | refine Cr.row ?_ | refine Cr.box ?_ | exact Cv.nil | exact Cv.full | exact CvL.nil | refine CvL.cons ?_ ?_))
              (all_goals (try (first | refine CvL.eq ?_ | refine Cv.eq ?_)))
              all_goals first | (simp [AV.ren, renL]; done) | (simp only [AV.ren]; congr 2; omega)
            | false =>
              rw [if_neg (by simp)] at f4
              have q2 := rsmall_c b f (at2, false) f2 hl
              have h4 := rd2_bd b (at2, false) f2
              generalize rd b 2 (at2, false) = A2 at q2 h4 f4
              obtain ⟨v, s2⟩ := A2
              simp only at q2 h4 f4
              (repeat' (first | refine AW.seq_k (fun K hK => ?_) | (refine hK _ ?_; clear hK) | (refine AW.cond rfl (fun hc => ?_) (fun hc => ?_) <;> (try simp only [Bool.and_eq_true, Bool.or_eq_true, Bool.not_eq_true', Bool.not_eq_false', Bool.and_eq_false_iff, Bool.or_eq_false_iff, Bool.and_eq_false_imp, decide_eq_true_eq, decide_eq_false_iff_not, Decidable.not_not, Int.not_lt, Int.not_le, ne_eq, Bool.not_not] at hc) <;> try (first | (exfalso; omega) | (cases hc; done))) | refine AW.block ?_ | refine AW.skip ?_ | (first | (refine AW.region (id := 8) ?_ <;> (try (refine Run.p rfl rfl rfl (OpP.mvA rfl) ?_)) <;> (try (refine Run.p rfl rfl rfl (OpP.decT (OpP.gtt rfl rfl rfl) (by assumption)) ?_)) <;> (try (refine Run.p rfl rfl rfl (OpP.mvA rfl) ?_)) <;> (try (refine Run.p rfl rfl rfl (OpP.mvA rfl) ?_)) <;> (try (refine Run.p rfl rfl rfl (OpP.nilCheck rfl (by (conv => lhs; whnf) <;> rfl) rfl) ?_)) <;> (try (refine Run.p rfl rfl rfl (OpP.fieldAddrA rfl rfl) ?_)) <;> (try (refine Run.ld1 rfl rfl rfl rfl rfl rfl rfl rfl ?_)) <;> (try (refine Run.p rfl rfl rfl (OpP.not rfl rfl) ?_)) <;> (try (refine Run.p rfl rfl rfl (OpP.pickA rfl rfl) ?_)) <;> (try refine Run.fin rfl ?_)) | (refine AW.region (id := 10) ?_ <;> (try (refine Run.p rfl rfl rfl (OpP.mvA rfl) ?_)) <;> (try (refine Run.p rfl rfl rfl (OpP.mvA rfl) ?_)) <;> (try (refine Run.cSA [0] q2 rfl rfl rfl rfl rfl rfl rfl rfl rfl rfl rfl rfl ?_)) <;> (try (refine Run.bsA rfl rfl rfl rfl rfl rfl ?_)) <;> (try (refine Run.apRA rfl rfl rfl rfl rfl rfl rfl rfl rfl ?_)) <;> (try (refine Run.p rfl rfl rfl (OpP.asA rfl) ?_)) <;> (try refine Run.fin rfl ?_)) | (refine AW.region (id := 9) ?_ <;> (try (refine Run.p rfl rfl rfl (OpP.mvA rfl) ?_)) <;> (try (refine Run.p rfl rfl rfl (OpP.subA rfl rfl rfl) ?_)) <;> (try (refine Run.p rfl rfl rfl (OpP.asA rfl) ?_)) <;> (try refine Run.fin rfl ?_)))))
              ((repeat (with_reducible refine inB_n ?_)); refine thenA_n ?_)
              refine ⟨(k, s2, m ++ [v]), ⟨by simp only; omega, h4.2.2, by simp only [List.length_append, List.length_singleton]; omega, f4⟩, by simp only; omega, ?_⟩
              refine Conv.mk [0, 1, 2, 3, 4] rfl rfl rfl ?_ rfl ?_
              (repeat' (first | exact Cf.nil | exact Cv.refl | exact CvL.refl _ | exact Cv.rowf rfl rfl | exact Crs.nil | refine Cf.cons' (by (conv => lhs; whnf) <;> rfl) ?_ ?_ | refine Crs.cons ?_ rfl ?_ | exact Cr.no | refine Cr.row ?_ | refine Cr.box ?_ | exact Cv.nil | exact Cv.full | exact CvL.nil | refine CvL.cons ?_ ?_))
              (all_goals (try (first | refine CvL.eq ?_ | refine Cv.eq ?_)))
              all_goals first | (simp [AV.ren, renL]; done) | (simp only [AV.ren]; congr 2; omega)
end Go.Proofs.Ytgnlohecllokhaa
