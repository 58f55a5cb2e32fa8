/-
  Walks of Clone, Insert, Delete of the library at slices of streams that are kept: the clone is an array of the call's own, its capacity open.
-/
import Derived.Test.YtbbcokckealagaaTy
import Derived.Test.YtbbcokckealagaaAAv
import Derived.Test.YtbbcokckealagaaACn
import Derived.Test.YtbbcokckealagaaAip
namespace Go.Proofs.Ytbbcokckealagaa
set_option linter.unusedVariables false
set_option linter.unusedSimpArgs false
abbrev z9 : List PV := [PV.v (.int .i64 0), PV.v (.string (bs [])), PV.v (.int .i64 0), PV.v (.int .i64 0), PV.v (.int .i64 0), PV.v (.int .i64 0), PV.v (.int .i64 0), PV.v (.bool false), PV.v (.int .u64 0)]
theorem clone_e (f : Bool) : ACalls Try.prog 36 [.sl 9 [] f] [] (.sl 9 [] true) [] := by
  refine (ACalls.of (fn := Try.f36) Try.func36 rfl rfl Try.ntmps36 (fun I M w own => ?_))
  (repeat' (first | refine AW.seq_k (fun K hK => ?_) | (refine hK _ ?_; clear hK) | (refine AW.cond rfl (fun hc => ?_) (fun hc => ?_) <;> (try simp only [Bool.and_eq_true, Bool.or_eq_true, Bool.not_eq_true', Bool.not_eq_false', Bool.and_eq_false_iff, Bool.or_eq_false_iff, Bool.and_eq_false_imp, decide_eq_true_eq, decide_eq_false_iff_not, Decidable.not_not, Int.not_lt, Int.not_le, ne_eq, Bool.not_not] at hc) <;> try (first | (exfalso; omega) | (cases hc; done))) | refine AW.ret ?_ | refine AW.skip ?_ | (first | (refine AW.region (id := 0) ?_ <;> (try (refine Run.p rfl rfl rfl (OpP.asA rfl) ?_)) <;> (try refine Run.fin rfl ?_)) | (refine AW.region (id := 1) ?_ <;> (try (refine Run.p rfl rfl rfl (OpP.mvA rfl) ?_)) <;> (try (refine Run.eqN rfl rfl (fun _ => rfl) rfl rfl (by first | exact Dat.sl | exact Dat.nil | exact Dat.rowf rfl rfl | exact Dat.row rfl) rfl (fun b hb => ?_))) <;> (try refine Run.fin rfl ?_)) | (refine AW.region (id := 2) ?_ <;> (try (refine Run.p rfl rfl rfl (OpP.asA rfl) ?_)) <;> (try refine Run.fin rfl ?_)) | (refine AW.region (id := 3) ?_ <;> (try (refine Run.bsA rfl rfl rfl rfl rfl rfl ?_)) <;> (try (refine Run.p rfl rfl rfl (OpP.mvA rfl) ?_)) <;> (try (refine Run.ap0 rfl rfl rfl rfl (Or.inl ⟨_, rfl⟩) rfl rfl (SrcNI.dat Dat.sl) (by simp) (by simp) rfl ?_)) <;> (try (refine Run.p rfl rfl rfl (OpP.asA rfl) ?_)) <;> (try refine Run.fin rfl ?_)))))
  all_goals ((first | refine RetOk.tup rfl rfl ?_ | refine RetOk.one rfl ?_) <;> (repeat' (first | exact Cv.nil | exact Cv.rowf rfl rfl | exact RetC.nil | exact CvL.refl _ | exact Cv.refl | refine RetC.tmp (by (conv => lhs; whnf) <;> rfl) ?_ ?_ | refine RetC.cell1 rfl rfl rfl rfl ?_ ?_ | refine RetC.cellN rfl rfl rfl (by repeat constructor) ?_ ?_ | refine Cv.rowE rfl rfl ?_ | exact Cv.full | exact CvL.nil | refine CvL.cons ?_ ?_)))
theorem clone_n (xs : List (List PV)) (f : Bool) (hz : ∀ y ∈ xs, y.length = 9) (h0 : 0 < xs.length) (hl : xs.length ≤ 1000000) : ACallsN Try.prog 36 [.sl 9 xs f] [] (fun d : Nat => .bsl 0 9 0 xs.length (xs.length + d)) (fun d => [.box (bxs (xs ++ List.replicate d z9))]) := by
  refine ACallsN.of (fn := Try.f36) Try.func36 rfl rfl Try.ntmps36 (fun I M w own => ?_)
  (repeat' (first | refine AW.seq_k (fun K hK => ?_) | (refine hK _ ?_; clear hK) | (refine AW.cond rfl (fun hc => ?_) (fun hc => ?_) <;> (try simp only [Bool.and_eq_true, Bool.or_eq_true, Bool.not_eq_true', Bool.not_eq_false', Bool.and_eq_false_iff, Bool.or_eq_false_iff, Bool.and_eq_false_imp, decide_eq_true_eq, decide_eq_false_iff_not, Decidable.not_not, Int.not_lt, Int.not_le, ne_eq, Bool.not_not] at hc) <;> try (first | (exfalso; omega) | (cases hc; done))) | refine AW.ret ?_ | refine AW.skip ?_ | (first | (refine AW.region (id := 0) ?_ <;> (try (refine Run.p rfl rfl rfl (OpP.asA rfl) ?_)) <;> (try refine Run.fin rfl ?_)) | (refine AW.region (id := 1) ?_ <;> (try (refine Run.p rfl rfl rfl (OpP.mvA rfl) ?_)) <;> (try (refine Run.eqN rfl rfl (fun _ => rfl) rfl rfl (by first | exact Dat.sl | exact Dat.nil | exact Dat.rowf rfl rfl | exact Dat.row rfl) rfl (fun b hb => ?_))) <;> (try refine Run.fin rfl ?_)) | (refine AW.region (id := 2) ?_ <;> (try (refine Run.p rfl rfl rfl (OpP.asA rfl) ?_)) <;> (try refine Run.fin rfl ?_)) | (refine AW.region (id := 3) ?_ <;> (try (refine Run.bsA rfl rfl rfl rfl rfl rfl ?_)) <;> (try (refine Run.p rfl rfl rfl (OpP.mvA rfl) ?_)) <;> (try (refine Run.apBS (fun _ => rfl) rfl rfl rfl rfl (Or.inl ⟨_, rfl⟩) rfl rfl (Or.inl rfl) (SrcNI.dat Dat.sl) (m := xs.length) (by simp) h0 (by omega) (by simp [maxLen]; omega) rfl (by simp [keys]) (fun dd => ?_))) <;> (try (refine Run.p rfl rfl rfl (OpP.asA rfl) ?_)) <;> (try refine Run.fin rfl ?_)))))
  · have := hb hc
    subst this
    simp at h0
  · refine RetOkN.mk dd ?_
    refine RetOk.oneS [0] rfl rfl rfl rfl ?_ ?_
    · refine Crs.cons (Cr.bxs ?_) (bxs_lt' _ _) Crs.nil
      rfl
    · (repeat' (first | exact Cv.nil | exact Cv.rowf rfl rfl | exact RetC.nil | exact CvL.refl _ | exact Cv.full | exact Cv.refl | exact Crs.nil | refine Crs.cons ?_ rfl ?_ | exact Cr.no | refine Cr.row ?_ | refine Cr.box ?_ | refine RetC.tmp (by (conv => lhs; whnf) <;> rfl) ?_ ?_ | refine RetC.cell1 rfl rfl rfl rfl ?_ ?_ | refine RetC.cellN rfl rfl rfl (by repeat constructor) ?_ ?_ | refine Cv.rowE rfl rfl ?_ | exact CvL.nil | refine CvL.cons ?_ ?_))
theorem putL {α : Type} {Y a m c new : List α} {k : Nat} (hY : Y = a ++ (m ++ c)) (hk : k = a.length) (hl : new.length = m.length) : Y.take k ++ (new ++ Y.drop (k + new.length)) = a ++ (new ++ c) := by
  subst hY hk
  rw [List.take_left, hl, ← List.append_assoc a m c, ← List.length_append, List.drop_left]
abbrev insL (xs : List (List PV)) (i : Nat) (r : List PV) : List (List PV) := xs.take i ++ r :: xs.drop i
theorem insert_e (r : List PV) (hr : r.length = 9) : ACalls Try.prog 17 [.sl 9 [] true, .v (.int .i64 0), .sl 9 [r] true] [] (.sl 9 [r] false) [] := by
  refine (ACalls.of (fn := Try.f17) Try.func17 rfl rfl Try.ntmps17 (fun I M w own => ?_))
  (repeat' (first | refine AW.seq_k (fun K hK => ?_) | (refine hK _ ?_; clear hK) | (refine AW.condD rfl (fun hc => ?_) (fun hc => ?_) <;> try (first | (exfalso; omega) | (cases hc; done))) | refine AW.ret ?_ | refine AW.skip ?_ | (first | (refine AW.region (id := 0) ?_ <;> (try (refine Run.p rfl rfl rfl (OpP.asA rfl) ?_)) <;> (try refine Run.fin rfl ?_)) | (refine AW.region (id := 1) ?_ <;> (try (refine Run.p rfl rfl rfl (OpP.mvA rfl) ?_)) <;> (try (refine Run.p rfl rfl rfl (OpP.mvA rfl) ?_)) <;> (try (refine Run.ri rfl rfl rfl (OpRI.sliceLA rfl rfl rfl) rfl ?_)) <;> (try refine Run.fin rfl ?_)) | (refine AW.region (id := 2) ?_ <;> (try (refine Run.p rfl rfl rfl (OpP.mvA rfl) ?_)) <;> (try (refine Run.ri rfl rfl rfl (OpRI.lenA rfl rfl) rfl ?_)) <;> (try (refine Run.p rfl rfl rfl (OpP.asA rfl) ?_)) <;> (try refine Run.fin rfl ?_)) | (refine AW.region (id := 3) ?_ <;> (try (refine Run.p rfl rfl rfl (OpP.mvA rfl) ?_)) <;> (try (refine Run.p rfl rfl rfl (OpP.eq rfl rfl rfl) ?_)) <;> (try refine Run.fin rfl ?_)) | (refine AW.region (id := 5) ?_ <;> (try (refine Run.p rfl rfl rfl (OpP.mvA rfl) ?_)) <;> (try (refine Run.ri rfl rfl rfl (OpRI.lenA rfl rfl) rfl ?_)) <;> (try (refine Run.p rfl rfl rfl (OpP.asA rfl) ?_)) <;> (try refine Run.fin rfl ?_)) | (refine AW.region (id := 6) ?_ <;> (try (refine Run.p rfl rfl rfl (OpP.mvA rfl) ?_)) <;> (try (refine Run.p rfl rfl rfl (OpP.mvA rfl) ?_)) <;> (try (refine Run.p rfl rfl rfl (OpP.eq rfl rfl rfl) ?_)) <;> (try refine Run.fin rfl ?_)) | (refine AW.region (id := 7) ?_ <;> (try (refine Run.p rfl rfl rfl (OpP.mvA rfl) ?_)) <;> (try (refine Run.p rfl rfl rfl (OpP.mvA rfl) ?_)) <;> (try (refine Run.apFA rfl rfl rfl rfl rfl rfl ?_)) <;> (try (refine Run.p rfl rfl rfl (OpP.asA rfl) ?_)) <;> (try refine Run.fin rfl ?_)) | (refine AW.region (id := 8) ?_ <;> (try (refine Run.p rfl rfl rfl (OpP.mvA rfl) ?_)) <;> (try (refine Run.p rfl rfl rfl (OpP.mvA rfl) ?_)) <;> (try (refine Run.p rfl rfl rfl (OpP.addA rfl rfl rfl) ?_)) <;> (try (refine Run.p rfl rfl rfl (OpP.mvA rfl) ?_))))))
  all_goals first | (exfalso; simp at hc; done) | skip
  ((first | refine RetOk.tup rfl rfl ?_ | refine RetOk.one rfl ?_) <;> (repeat' (first | exact Cv.nil | exact Cv.rowf rfl rfl | exact RetC.nil | exact CvL.refl _ | exact Cv.refl | refine RetC.tmp (by (conv => lhs; whnf) <;> rfl) ?_ ?_ | refine RetC.cell1 rfl rfl rfl rfl ?_ ?_ | refine RetC.cellN rfl rfl rfl (by repeat constructor) ?_ ?_ | refine Cv.rowE rfl rfl ?_ | exact Cv.full | exact CvL.nil | refine CvL.cons ?_ ?_)))
theorem insert_b (xs : List (List PV)) (r : List PV) (d i : Nat) (hz : ∀ y ∈ xs, y.length = 9) (hr : r.length = 9) (h0 : 0 < xs.length) (hl : xs.length ≤ 1000000) (hi : i ≤ xs.length) :
    ACalls Try.prog 17 [.bsl 0 9 0 xs.length (xs.length + d), .v (.int .i64 (i : Int)), .sl 9 [r] true] [.box (bxs (xs ++ List.replicate d z9))] (.sl 9 (insL xs i r) false) [.no] := by
  have hr1 : [r].length = 1 := rfl
  have hzz : ∀ y ∈ xs ++ List.replicate d z9, y.length = 9 := by
    intro y hy
    rcases List.mem_append.1 hy with h | h
    · exact hz y h
    · rw [(List.mem_replicate.1 h).2]; rfl
  have hzl : (xs ++ List.replicate d z9).length = xs.length + d := by simp
  refine (ACalls.of (fn := Try.f17) Try.func17 rfl rfl Try.ntmps17 (fun I M w own => ?_))
  (repeat' (first | refine AW.seq_k (fun K hK => ?_) | (refine hK _ ?_; clear hK) | (refine AW.condD rfl (fun hc => ?_) (fun hc => ?_) <;> try (first | (exfalso; omega) | (cases hc; done))) | refine AW.skip ?_ | (first | (refine AW.region (id := 0) ?_ <;> (try (refine Run.p rfl rfl rfl (OpP.asA rfl) ?_)) <;> (try refine Run.fin rfl ?_)) | (refine AW.region (id := 1) ?_ <;> (try (refine Run.p rfl rfl rfl (OpP.mvA rfl) ?_)) <;> (try (refine Run.p rfl rfl rfl (OpP.mvA rfl) ?_)) <;> (try (refine Run.p rfl rfl rfl (OpP.sliceBL rfl rfl rfl) ?_)) <;> (try refine Run.fin rfl ?_)) | (refine AW.region (id := 2) ?_ <;> (try (refine Run.p rfl rfl rfl (OpP.mvA rfl) ?_)) <;> (try (refine Run.ri rfl rfl rfl (OpRI.lenA rfl rfl) rfl ?_)) <;> (try (refine Run.p rfl rfl rfl (OpP.asA rfl) ?_)) <;> (try refine Run.fin rfl ?_)) | (refine AW.region (id := 3) ?_ <;> (try (refine Run.p rfl rfl rfl (OpP.mvA rfl) ?_)) <;> (try (refine Run.p rfl rfl rfl (OpP.eq rfl rfl rfl) ?_)) <;> (try refine Run.fin rfl ?_)) | (refine AW.region (id := 5) ?_ <;> (try (refine Run.p rfl rfl rfl (OpP.mvA rfl) ?_)) <;> (try (refine Run.p rfl rfl rfl (OpP.lenB rfl rfl) ?_)) <;> (try (refine Run.p rfl rfl rfl (OpP.asA rfl) ?_)) <;> (try refine Run.fin rfl ?_)) | (refine AW.region (id := 6) ?_ <;> (try (refine Run.p rfl rfl rfl (OpP.mvA rfl) ?_)) <;> (try (refine Run.p rfl rfl rfl (OpP.mvA rfl) ?_)) <;> (try (refine Run.p rfl rfl rfl (OpP.eq rfl rfl rfl) ?_)) <;> (try refine Run.fin rfl ?_)) | (refine AW.region (id := 8) ?_ <;> (try (refine Run.p rfl rfl rfl (OpP.mvA rfl) ?_)) <;> (try (refine Run.p rfl rfl rfl (OpP.mvA rfl) ?_)) <;> (try (refine Run.p rfl rfl rfl (OpP.addA rfl rfl rfl) ?_)) <;> (try (refine Run.p rfl rfl rfl (OpP.mvA rfl) ?_)) <;> (try (refine Run.p rfl rfl rfl (OpP.capB rfl rfl) ?_)) <;> (try (refine Run.p rfl rfl rfl (OpP.gtt rfl rfl rfl) ?_)) <;> (try refine Run.fin rfl ?_)))))
  · have hin : i = xs.length := by omega
    subst hin
    refine AW.conv (s' := ⟨[(0, .bsl 0 9 0 xs.length (xs.length + d)), (2, .sl 9 [r] true)], [.box (bxs (xs ++ List.replicate d z9))]⟩) (Conv.mk [0] rfl rfl rfl ?_ rfl ?_) ?_
    · (repeat' (first | exact Cf.nil | exact Cv.refl | exact CvL.refl _ | exact Cv.rowf rfl rfl | exact Crs.nil | refine Cf.cons' (by (conv => lhs; whnf) <;> rfl) ?_ ?_ | refine Crs.cons ?_ rfl ?_ | exact Cr.no | refine Cr.row ?_ | refine Cr.box ?_ | exact Cv.nil | exact Cv.full | exact CvL.nil | refine CvL.cons ?_ ?_))
    · refine Crs.cons (Cr.bxs ?_) (bxs_lt' _ _) Crs.nil
      rfl
    refine AW.freezeW 0 9 xs (List.replicate d z9) (xs.length + d) rfl rfl hzz hzl (by omega) ?_
    (repeat' (first | (refine hK _ ?_; clear hK) | refine AW.ret ?_ | (refine AW.region (id := 7) ?_ <;> (try (refine Run.p rfl rfl rfl (OpP.mvA rfl) ?_)) <;> (try (refine Run.p rfl rfl rfl (OpP.mvA rfl) ?_)) <;> (try (refine Run.apRA rfl rfl rfl rfl rfl rfl rfl rfl rfl ?_)) <;> (try (refine Run.p rfl rfl rfl (OpP.asA rfl) ?_)) <;> (try refine Run.fin rfl ?_))))
    refine RetOk.oneS [0] rfl rfl rfl rfl ?_ ?_
    all_goals (repeat' (first | exact Cv.nil | exact Cv.rowf rfl rfl | exact RetC.nil | exact CvL.refl _ | exact Cv.full | exact Cv.refl | exact Crs.nil | refine Crs.cons ?_ rfl ?_ | exact Cr.no | refine Cr.row ?_ | refine Cr.box ?_ | refine RetC.tmp (by (conv => lhs; whnf) <;> rfl) ?_ ?_ | refine RetC.cell1 rfl rfl rfl rfl ?_ ?_ | refine RetC.cellN rfl rfl rfl (by repeat constructor) ?_ ?_ | refine Cv.rowE rfl rfl ?_ | exact CvL.nil | refine CvL.cons ?_ ?_))
    all_goals simp [insL]
  · simp only [Nat.sub_zero] at hc
    (repeat' (first | refine AW.seq_k (fun K hK => ?_) | (refine hK _ ?_; clear hK) | (refine AW.region (id := 9) ?_ <;> (try (refine Run.p rfl rfl rfl (OpP.mvA rfl) ?_)) <;> (try (refine Run.p rfl rfl rfl (OpP.mvA rfl) ?_)) <;> (try (refine Run.p rfl rfl rfl (OpP.sliceBH rfl rfl rfl) ?_)) <;> (try (refine Run.p rfl rfl rfl (OpP.mvA rfl) ?_)) <;> (try (refine Run.p rfl rfl rfl (OpP.mvA rfl) ?_)) <;> (try (refine Run.p rfl rfl rfl (OpP.addA rfl rfl rfl) ?_)) <;> (try (refine Run.p rfl rfl rfl (OpP.mvA rfl) ?_)) <;> (try (refine Run.p rfl rfl rfl (OpP.subA rfl rfl rfl) ?_)) <;> (try (refine Run.apBB (fun _ => rfl) rfl rfl rfl rfl rfl rfl rfl rfl (q := xs.length + 1 - i) (by omega) rfl hzz hzl (mm := xs.length + 1) (by omega) (by omega) rfl Nat.zero_lt_one (by omega) (by simp [maxLen]; omega) (fun dd => ?_))) <;> (try (refine Run.p rfl rfl rfl (OpP.asA rfl) ?_)) <;> (try refine Run.fin rfl ?_))))
    obtain ⟨Y, hY⟩ : ∃ Y, Y = xs.take i ++ List.replicate (xs.length + 1 - i) z9 ++ List.replicate dd z9 := ⟨_, rfl⟩
    obtain ⟨X, hX⟩ : ∃ X, X = xs ++ List.replicate d z9 := ⟨_, rfl⟩
    have hYl : Y.length = xs.length + 1 + dd := by rw [hY]; simp; omega
    have hYz : ∀ y ∈ Y, y.length = 9 := by
      rw [hY]; intro y hy
      simp only [List.mem_append, List.mem_replicate] at hy
      rcases hy with (h | h) | h
      · exact hz y (List.mem_of_mem_take h)
      · rw [h.2]; rfl
      · rw [h.2]; rfl
    rw [← hX] at hzz hzl ⊢
    refine AW.conv (s' := ⟨[(0, .bsl 0 9 0 xs.length (xs.length + d)), (1, .v (.int .i64 (i : Int))), (2, .sl 9 [r] true), (7, .v (.int .i64 1)), (9, .bsl 1 9 0 (xs.length + 1) (xs.length + 1 + dd))], [.box (bxs X), .box (bxs Y)]⟩) (Conv.mk [0, 1] rfl rfl rfl ?_ rfl ?_) ?_
    · (repeat' (first | exact Cf.nil | exact Cv.refl | exact CvL.refl _ | exact Cv.rowf rfl rfl | exact Crs.nil | refine Cf.cons' (by (conv => lhs; whnf) <;> rfl) ?_ ?_ | refine Crs.cons ?_ rfl ?_ | exact Cr.no | refine Cr.row ?_ | refine Cr.box ?_ | exact Cv.nil | exact Cv.full | exact CvL.nil | refine CvL.cons ?_ ?_))
    · refine Crs.cons (Cr.bxs ?_) (bxs_lt' _ _) (Crs.cons (Cr.bxs ?_) (bxs_lt' _ _) Crs.nil)
      · rfl
      · rw [hX, hY, List.take_append_of_le_length (by omega)]
        rfl
    (repeat' (first | refine AW.seq_k (fun K hK => ?_) | (refine hK _ ?_; clear hK) | (refine AW.region (id := 10) ?_ <;> (try (refine Run.p rfl rfl rfl (OpP.mvA rfl) ?_)) <;> (try (refine Run.p rfl rfl rfl (OpP.mvA rfl) ?_)) <;> (try (refine Run.p rfl rfl rfl (OpP.sliceBL rfl rfl rfl) ?_)) <;> (try (refine Run.p rfl rfl rfl (OpP.mvA rfl) ?_)) <;> (try (refine Run.cpB rfl rfl rfl rfl rfl rfl (by first | exact SrcNI.dat (by first | exact Dat.sl | exact Dat.nil | exact Dat.rowf rfl rfl | exact Dat.row rfl) | exact SrcNI.bsl rfl rfl (by first | assumption | (simp; done) | (simp; intros; rfl)) (by omega) rfl) (by first | assumption | (simp; done) | (simp; intros; rfl)) (by first | omega | (simp; omega) | simp) (by first | assumption | rfl) (by (repeat constructor); first | done | fail) rfl rfl ?_)) <;> (try refine Run.fin rfl ?_))))
    obtain ⟨Y2, hY2⟩ : ∃ Y2, Y2 = xs.take i ++ r :: (List.replicate (xs.length - i) z9 ++ List.replicate dd z9) := ⟨_, rfl⟩
    have hY2l : Y2.length = xs.length + 1 + dd := by rw [hY2]; simp; omega
    have hY2z : ∀ y ∈ Y2, y.length = 9 := by
      rw [hY2]; intro y hy
      simp only [List.mem_append, List.mem_cons, List.mem_replicate] at hy
      rcases hy with h | h | h | h
      · exact hz y (List.mem_of_mem_take h)
      · rw [h]; exact hr
      · rw [h.2]; rfl
      · rw [h.2]; rfl
    refine AW.conv (s' := ⟨[(0, .bsl 0 9 0 xs.length (xs.length + d)), (1, .v (.int .i64 (i : Int))), (7, .v (.int .i64 1)), (9, .bsl 1 9 0 (xs.length + 1) (xs.length + 1 + dd))], [.box (bxs X), .box (bxs Y2)]⟩) (Conv.mk [0, 1] rfl rfl rfl ?_ rfl ?_) ?_
    · (repeat' (first | exact Cf.nil | exact Cv.refl | exact CvL.refl _ | exact Cv.rowf rfl rfl | exact Crs.nil | refine Cf.cons' (by (conv => lhs; whnf) <;> rfl) ?_ ?_ | refine Crs.cons ?_ rfl ?_ | exact Cr.no | refine Cr.row ?_ | refine Cr.box ?_ | exact Cv.nil | exact Cv.full | exact CvL.nil | refine CvL.cons ?_ ?_))
    · refine Crs.cons (Cr.bxs ?_) (bxs_lt' _ _) (Crs.cons (Cr.bxs ?_) (bxs_lt' _ _) Crs.nil)
      · rfl
      · refine Eq.trans (putL (a := xs.take i) (m := [z9]) (c := List.replicate (xs.length - i) z9 ++ List.replicate dd z9) ?_ ?_ ?_) ?_
        · rw [hY, show xs.length + 1 - i = (xs.length - i) + 1 by omega, List.replicate_succ]; simp
        · simp; omega
        · simp; omega
        · rw [hY2, List.take_of_length_le (show [r].length ≤ _ by rw [hr1]; omega)]; simp
    (repeat' (first | refine AW.seq_k (fun K hK => ?_) | (refine hK _ ?_; clear hK) | (refine AW.draw (id := 11) (by kernel_rfl) ?_ <;> (try (refine Run.p rfl rfl rfl (OpP.mvA rfl) ?_)) <;> (try (refine Run.p rfl rfl rfl (OpP.mvA rfl) ?_)) <;> (try (refine Run.p rfl rfl rfl (OpP.mvA rfl) ?_)) <;> (try (refine Run.p rfl rfl rfl (OpP.addA rfl rfl rfl) ?_)) <;> (try (refine Run.p rfl rfl rfl (OpP.sliceBL rfl rfl rfl) ?_)) <;> (try (refine Run.p rfl rfl rfl (OpP.mvA rfl) ?_)) <;> (try (refine Run.p rfl rfl rfl (OpP.mvA rfl) ?_)) <;> (try (refine Run.p rfl rfl rfl (OpP.sliceBL rfl rfl rfl) ?_)) <;> (try (refine Run.cpB rfl rfl rfl rfl rfl rfl (by first | exact SrcNI.dat (by first | exact Dat.sl | exact Dat.nil | exact Dat.rowf rfl rfl | exact Dat.row rfl) | exact SrcNI.bsl rfl rfl (by first | assumption | (simp; done) | (simp; intros; rfl)) (by omega) rfl) (by first | assumption | (simp; done) | (simp; intros; rfl)) (by first | omega | (simp; omega) | simp) (by first | assumption | rfl) (by (repeat constructor); first | done | fail) rfl rfl ?_)) <;> (try refine Run.fin (by kernel_rfl) ?_))))
    have hin : xs.length + 1 = (insL xs i r).length := by simp [insL]; omega
    refine AW.conv (s' := ⟨[(9, .bsl 1 9 0 (xs.length + 1) (xs.length + 1 + dd))], [.no, .box (bxs (insL xs i r ++ List.replicate dd z9))]⟩) (Conv.mk [0, 1] rfl rfl rfl ?_ rfl ?_) ?_
    · (repeat' (first | exact Cf.nil | exact Cv.refl | exact CvL.refl _ | exact Cv.rowf rfl rfl | exact Crs.nil | refine Cf.cons' (by (conv => lhs; whnf) <;> rfl) ?_ ?_ | refine Crs.cons ?_ rfl ?_ | exact Cr.no | refine Cr.row ?_ | refine Cr.box ?_ | exact Cv.nil | exact Cv.full | exact CvL.nil | refine CvL.cons ?_ ?_))
    · refine Crs.cons Cr.no rfl (Crs.cons (Cr.bxs ?_) (bxs_lt' _ _) Crs.nil)
      refine Eq.trans (putL (a := xs.take i ++ [r]) (m := List.replicate (xs.length - i) z9) (c := List.replicate dd z9) ?_ ?_ ?_) ?_
      · rw [hY2]; simp
      · simp; omega
      · rw [hX]; simp; omega
      · rw [hX, insL, Int.toNat_natCast, List.drop_append_of_le_length hi, List.take_append_of_le_length (by simp), List.take_of_length_le (l := xs.drop i) (i := xs.length - i) (by simp)]
        simp only [List.append_assoc, List.cons_append, List.nil_append, List.append_cancel_left_eq]
        simp [List.take_of_length_le]
    refine AW.freezeA 1 9 (insL xs i r) (List.replicate dd z9) rfl rfl ?_ ?_
    · intro y hy
      simp only [insL, List.mem_append, List.mem_cons] at hy
      rcases hy with h | h | h
      · exact hz y (List.mem_of_mem_take h)
      · rw [h]; exact hr
      · exact hz y (List.mem_of_mem_drop h)
    (repeat' (first | (refine hK _ ?_; clear hK) | refine AW.ret ?_ | (refine AW.region (id := 12) ?_ <;> (try (refine Run.p rfl rfl rfl (OpP.mvA rfl) ?_)) <;> (try (refine Run.p rfl rfl rfl (OpP.asA rfl) ?_)) <;> (try refine Run.fin rfl ?_))))
    refine RetOk.oneS [0] rfl rfl rfl rfl ?_ ?_
    all_goals (repeat' (first | exact Cv.nil | exact Cv.rowf rfl rfl | exact RetC.nil | exact CvL.refl _ | exact Cv.full | exact Cv.refl | exact Crs.nil | refine Crs.cons ?_ rfl ?_ | exact Cr.no | refine Cr.row ?_ | refine Cr.box ?_ | refine RetC.tmp (by (conv => lhs; whnf) <;> rfl) ?_ ?_ | refine RetC.cell1 rfl rfl rfl rfl ?_ ?_ | refine RetC.cellN rfl rfl rfl (by repeat constructor) ?_ ?_ | refine Cv.rowE rfl rfl ?_ | exact CvL.nil | refine CvL.cons ?_ ?_))
  · simp only [Nat.sub_zero] at hc
    refine AW.conv (s' := ⟨[(0, .bsl 0 9 0 xs.length (xs.length + d)), (1, .v (.int .i64 (i : Int))), (2, .sl 9 [r] true), (7, .v (.int .i64 1)), (8, .v (.int .i64 (xs.length : Int)))], [.box (bxs (xs ++ List.replicate d z9))]⟩) (Conv.mk [0] rfl rfl rfl ?_ rfl ?_) ?_
    · (repeat' (first | exact Cf.nil | exact Cv.refl | exact CvL.refl _ | exact Cv.rowf rfl rfl | exact Crs.nil | refine Cf.cons' (by (conv => lhs; whnf) <;> rfl) ?_ ?_ | refine Crs.cons ?_ rfl ?_ | exact Cr.no | refine Cr.row ?_ | refine Cr.box ?_ | exact Cv.nil | exact Cv.full | exact CvL.nil | refine CvL.cons ?_ ?_))
    · exact Crs.cons (Cr.bxs rfl) (bxs_lt' _ _) Crs.nil
    obtain ⟨X, hX⟩ : ∃ X, X = xs ++ List.replicate d z9 := ⟨_, rfl⟩
    obtain ⟨D, rfl⟩ : ∃ D, d = D + 1 := ⟨d - 1, by omega⟩
    have hXe : X = xs.take (i + 1) ++ ((xs.drop (i + 1) ++ [z9]) ++ List.replicate D z9) := by
      rw [hX, List.replicate_succ, ← List.append_assoc, ← List.append_assoc, List.take_append_drop, List.append_assoc]; rfl
    rw [← hX] at hzz hzl ⊢
    (repeat' (first | refine AW.seq_k (fun K hK => ?_) | (refine hK _ ?_; clear hK) | (refine AW.cond rfl (fun hc => ?_) (fun hc => ?_) <;> (try simp only [Bool.and_eq_true, Bool.or_eq_true, Bool.not_eq_true', Bool.not_eq_false', Bool.and_eq_false_iff, Bool.or_eq_false_iff, Bool.and_eq_false_imp, decide_eq_true_eq, decide_eq_false_iff_not, Decidable.not_not, Int.not_lt, Int.not_le, ne_eq, Bool.not_not] at hc) <;> try (first | (exfalso; omega) | (cases hc; done))) | (first | (refine AW.region (id := 13) ?_ <;> (try (refine Run.p rfl rfl rfl (OpP.mvA rfl) ?_)) <;> (try (refine Run.p rfl rfl rfl (OpP.mvA rfl) ?_)) <;> (try (refine Run.p rfl rfl rfl (OpP.mvA rfl) ?_)) <;> (try (refine Run.p rfl rfl rfl (OpP.addA rfl rfl rfl) ?_)) <;> (try (refine Run.p rfl rfl rfl (OpP.sliceBH rfl rfl rfl) ?_)) <;> (try (refine Run.p rfl rfl rfl (OpP.asA rfl) ?_)) <;> (try refine Run.fin rfl ?_)) | (refine AW.region (id := 14) ?_ <;> (try (refine Run.p rfl rfl rfl (OpP.mvA rfl) ?_)) <;> (try (refine Run.p rfl rfl rfl (OpP.mvA rfl) ?_)) <;> (try (refine Run.p rfl rfl rfl (OpP.mvA rfl) ?_)) <;> (try (refine Run.p rfl rfl rfl (OpP.mvA rfl) ?_)) <;> (try (refine Run.p rfl rfl rfl (OpP.addA rfl rfl rfl) ?_)) <;> (try (refine Run.p rfl rfl rfl (OpP.sliceBL rfl rfl rfl) ?_)) <;> (try (refine Run.ovl (ps := Try.f41.params) (rs := Try.f41.resultTypes) rfl rfl rfl rfl Try.func41 (by kernel_rfl) (by kernel_rfl) (by kernel_rfl) (by kernel_rfl) (by kernel_rfl) rfl rfl rfl (by decide) (by omega) rfl ?_)) <;> (try (refine Run.p rfl rfl rfl (OpP.not rfl rfl) ?_)) <;> (try refine Run.fin rfl ?_)))))
    refine AW.conv (s' := ⟨[(0, .bsl 0 9 0 (xs.length + 1) (xs.length + (D + 1))), (1, .v (.int .i64 (i : Int))), (2, .sl 9 [r] true), (7, .v (.int .i64 1))], [.box (bxs X)]⟩) (Conv.mk [0] rfl rfl rfl ?_ rfl ?_) ?_
    · (repeat' (first | exact Cf.nil | exact Cv.refl | exact CvL.refl _ | exact Cv.rowf rfl rfl | exact Crs.nil | refine Cf.cons' (by (conv => lhs; whnf) <;> rfl) ?_ ?_ | refine Crs.cons ?_ rfl ?_ | exact Cr.no | refine Cr.row ?_ | refine Cr.box ?_ | exact Cv.nil | exact Cv.full | exact CvL.nil | refine CvL.cons ?_ ?_))
    · exact Crs.cons (Cr.bxs rfl) (bxs_lt' _ _) Crs.nil
    (repeat' (first | refine AW.seq_k (fun K hK => ?_) | (refine hK _ ?_; clear hK) | (refine AW.draw (id := 15) (by kernel_rfl) ?_ <;> (try (refine Run.p rfl rfl rfl (OpP.mvA rfl) ?_)) <;> (try (refine Run.p rfl rfl rfl (OpP.mvA rfl) ?_)) <;> (try (refine Run.p rfl rfl rfl (OpP.mvA rfl) ?_)) <;> (try (refine Run.p rfl rfl rfl (OpP.addA rfl rfl rfl) ?_)) <;> (try (refine Run.p rfl rfl rfl (OpP.sliceBL rfl rfl rfl) ?_)) <;> (try (refine Run.p rfl rfl rfl (OpP.mvA rfl) ?_)) <;> (try (refine Run.p rfl rfl rfl (OpP.mvA rfl) ?_)) <;> (try (refine Run.p rfl rfl rfl (OpP.sliceBL rfl rfl rfl) ?_)) <;> (try (refine Run.cpB rfl rfl rfl rfl rfl rfl (by first | exact SrcNI.dat (by first | exact Dat.sl | exact Dat.nil | exact Dat.rowf rfl rfl | exact Dat.row rfl) | exact SrcNI.bsl rfl rfl (by first | assumption | (simp; done) | (simp; intros; rfl)) (by omega) rfl) (by first | assumption | (simp; done) | (simp; intros; rfl)) (by first | omega | (simp; omega) | simp) (by first | assumption | rfl) (by (repeat constructor); first | done | fail) rfl rfl ?_)) <;> (try refine Run.fin (by kernel_rfl) ?_))))
    obtain ⟨Y, hY⟩ : ∃ Y, Y = xs.take (i + 1) ++ (xs.drop i ++ List.replicate D z9) := ⟨_, rfl⟩
    have hYl : Y.length = xs.length + (D + 1) := by rw [hY]; simp; omega
    have hYz : ∀ y ∈ Y, y.length = 9 := by
      rw [hY]; intro y hy
      simp only [List.mem_append, List.mem_replicate] at hy
      rcases hy with h | h | h
      · exact hz y (List.mem_of_mem_take h)
      · exact hz y (List.mem_of_mem_drop h)
      · rw [h.2]; rfl
    refine AW.conv (s' := ⟨[(0, .bsl 0 9 0 (xs.length + 1) (xs.length + (D + 1))), (1, .v (.int .i64 (i : Int))), (2, .sl 9 [r] true), (7, .v (.int .i64 1))], [.box (bxs Y)]⟩) (Conv.mk [0] rfl rfl rfl ?_ rfl ?_) ?_
    · (repeat' (first | exact Cf.nil | exact Cv.refl | exact CvL.refl _ | exact Cv.rowf rfl rfl | exact Crs.nil | refine Cf.cons' (by (conv => lhs; whnf) <;> rfl) ?_ ?_ | refine Crs.cons ?_ rfl ?_ | exact Cr.no | refine Cr.row ?_ | refine Cr.box ?_ | exact Cv.nil | exact Cv.full | exact CvL.nil | refine CvL.cons ?_ ?_))
    · refine Crs.cons (Cr.bxs ?_) (bxs_lt' _ _) Crs.nil
      refine Eq.trans (putL (a := xs.take (i + 1)) (m := xs.drop (i + 1) ++ [z9]) (c := List.replicate D z9) hXe ?_ ?_) ?_
      · simp; omega
      · simp; omega
      · have e1 : (Int.toNat ((i : Int) + 1)) = i + 1 := by omega
        rw [hY, e1, hX, Int.toNat_natCast, List.take_take, show min (xs.length + 1 - (i + 1)) (xs.length + 1 - i) = xs.length - i by omega, List.drop_append_of_le_length hi, List.take_append_of_le_length (by simp), List.take_of_length_le (l := xs.drop i) (i := xs.length - i) (by simp)]
    (repeat' (first | refine AW.seq_k (fun K hK => ?_) | (refine hK _ ?_; clear hK) | (refine AW.region (id := 16) ?_ <;> (try (refine Run.p rfl rfl rfl (OpP.mvA rfl) ?_)) <;> (try (refine Run.p rfl rfl rfl (OpP.mvA rfl) ?_)) <;> (try (refine Run.p rfl rfl rfl (OpP.sliceBL rfl rfl rfl) ?_)) <;> (try (refine Run.p rfl rfl rfl (OpP.mvA rfl) ?_)) <;> (try (refine Run.cpB rfl rfl rfl rfl rfl rfl (by first | exact SrcNI.dat (by first | exact Dat.sl | exact Dat.nil | exact Dat.rowf rfl rfl | exact Dat.row rfl) | exact SrcNI.bsl rfl rfl (by first | assumption | (simp; done) | (simp; intros; rfl)) (by omega) rfl) (by first | assumption | (simp; done) | (simp; intros; rfl)) (by first | omega | (simp; omega) | simp) (by first | assumption | rfl) (by (repeat constructor); first | done | fail) rfl rfl ?_)) <;> (try refine Run.fin rfl ?_))))
    have hil : i < xs.length := by omega
    have hin : xs.length + 1 = (insL xs i r).length := by simp [insL]; omega
    refine AW.conv (s' := ⟨[(0, .bsl 0 9 0 (xs.length + 1) (xs.length + (D + 1)))], [.box (bxs (insL xs i r ++ List.replicate D z9))]⟩) (Conv.mk [0] rfl rfl rfl ?_ rfl ?_) ?_
    · (repeat' (first | exact Cf.nil | exact Cv.refl | exact CvL.refl _ | exact Cv.rowf rfl rfl | exact Crs.nil | refine Cf.cons' (by (conv => lhs; whnf) <;> rfl) ?_ ?_ | refine Crs.cons ?_ rfl ?_ | exact Cr.no | refine Cr.row ?_ | refine Cr.box ?_ | exact Cv.nil | exact Cv.full | exact CvL.nil | refine CvL.cons ?_ ?_))
    · refine Crs.cons (Cr.bxs ?_) (bxs_lt' _ _) Crs.nil
      refine Eq.trans (putL (a := xs.take i) (m := [xs[i]]) (c := xs.drop i ++ List.replicate D z9) ?_ ?_ ?_) ?_
      · rw [hY, List.take_add_one, List.getElem?_eq_getElem hil, List.append_assoc]; rfl
      · simp; omega
      · simp; omega
      · rw [List.take_of_length_le (show [r].length ≤ _ by rw [hr1]; omega)]; simp [insL]
    refine AW.freezeA 0 9 (insL xs i r) (List.replicate D z9) rfl rfl ?_ ?_
    · intro y hy
      simp only [insL, List.mem_append, List.mem_cons] at hy
      rcases hy with h | h | h
      · exact hz y (List.mem_of_mem_take h)
      · rw [h]; exact hr
      · exact hz y (List.mem_of_mem_drop h)
    (repeat' (first | (refine hK _ ?_; clear hK) | refine AW.ret ?_ | (refine AW.region (id := 17) ?_ <;> (try (refine Run.p rfl rfl rfl (OpP.mvA rfl) ?_)) <;> (try (refine Run.p rfl rfl rfl (OpP.asA rfl) ?_)) <;> (try refine Run.fin rfl ?_))))
    refine RetOk.oneS [0] rfl rfl rfl rfl ?_ ?_
    all_goals (repeat' (first | exact Cv.nil | exact Cv.rowf rfl rfl | exact RetC.nil | exact CvL.refl _ | exact Cv.full | exact Cv.refl | exact Crs.nil | refine Crs.cons ?_ rfl ?_ | exact Cr.no | refine Cr.row ?_ | refine Cr.box ?_ | refine RetC.tmp (by (conv => lhs; whnf) <;> rfl) ?_ ?_ | refine RetC.cell1 rfl rfl rfl rfl ?_ ?_ | refine RetC.cellN rfl rfl rfl (by repeat constructor) ?_ ?_ | refine Cv.rowE rfl rfl ?_ | exact CvL.nil | refine CvL.cons ?_ ?_))
abbrev delL (xs : List (List PV)) (i : Nat) : List (List PV) := xs.take i ++ xs.drop (i + 1)
theorem delete_b (xs : List (List PV)) (d i : Nat) (hz : ∀ y ∈ xs, y.length = 9) (hl : xs.length ≤ 1000000) (hi : i < xs.length) :
    ACalls Try.prog 19 [.bsl 0 9 0 xs.length (xs.length + d), .v (.int .i64 (i : Int)), .v (.int .i64 ((i : Int) + 1))] [.box (bxs (xs ++ List.replicate d z9))] (.sl 9 (delL xs i) false) [.no] := by
  obtain ⟨X, hX⟩ : ∃ X, X = xs ++ List.replicate d z9 := ⟨_, rfl⟩
  have hzz : ∀ y ∈ X, y.length = 9 := by
    rw [hX]
    intro y hy
    rcases List.mem_append.1 hy with h | h
    · exact hz y h
    · rw [(List.mem_replicate.1 h).2]; rfl
  have hzl : X.length = xs.length + d := by rw [hX]; simp
  obtain ⟨Y, hY⟩ : ∃ Y, Y = delL xs i ++ List.replicate (d + 1) z9 := ⟨_, rfl⟩
  obtain ⟨Z, hZ⟩ : ∃ Z, Z = delL xs i ++ (X.drop (xs.length - 1)) := ⟨_, rfl⟩
  rw [← hX]
  refine (ACalls.of (fn := Try.f19) Try.func19 rfl rfl Try.ntmps19 (fun I M w own => ?_))
  (repeat' (first | refine AW.seq_k (fun K hK => ?_) | (refine hK _ ?_; clear hK) | (refine AW.condD rfl (fun hc => ?_) (fun hc => ?_) <;> try (first | (exfalso; omega) | (cases hc; done))) | refine AW.skip ?_ | (first | (refine AW.region (id := 0) ?_ <;> (try (refine Run.p rfl rfl rfl (OpP.asA rfl) ?_)) <;> (try refine Run.fin rfl ?_)) | (refine AW.region (id := 1) ?_ <;> (try (refine Run.p rfl rfl rfl (OpP.mvA rfl) ?_)) <;> (try (refine Run.p rfl rfl rfl (OpP.mvA rfl) ?_)) <;> (try (refine Run.p rfl rfl rfl (OpP.mvA rfl) ?_)) <;> (try (refine Run.p rfl rfl rfl (OpP.mvA rfl) ?_)) <;> (try (refine Run.p rfl rfl rfl (OpP.lenB rfl rfl) ?_)) <;> (try (refine Run.p rfl rfl rfl (OpP.sliceB3 rfl rfl rfl rfl rfl) ?_)) <;> (try refine Run.fin rfl ?_)) | (refine AW.region (id := 2) ?_ <;> (try (refine Run.p rfl rfl rfl (OpP.mvA rfl) ?_)) <;> (try (refine Run.p rfl rfl rfl (OpP.mvA rfl) ?_)) <;> (try (refine Run.p rfl rfl rfl (OpP.eq rfl rfl rfl) ?_)) <;> (try refine Run.fin rfl ?_)) | (refine AW.region (id := 4) ?_ <;> (try (refine Run.p rfl rfl rfl (OpP.mvA rfl) ?_)) <;> (try (refine Run.p rfl rfl rfl (OpP.lenB rfl rfl) ?_)) <;> (try (refine Run.p rfl rfl rfl (OpP.asA rfl) ?_)) <;> (try refine Run.fin rfl ?_)))))
  refine AW.conv (s' := ⟨[(0, .bsl 0 9 0 xs.length (xs.length + d)), (1, .v (.int .i64 (i : Int))), (2, .v (.int .i64 ((i : Int) + 1))), (7, .v (.int .i64 (xs.length : Int)))], [.box (bxs X)]⟩) (Conv.mk [0] rfl rfl rfl ?_ rfl ?_) ?_
  · (repeat' (first | exact Cf.nil | exact Cv.refl | exact CvL.refl _ | exact Cv.rowf rfl rfl | exact Crs.nil | refine Cf.cons' (by (conv => lhs; whnf) <;> rfl) ?_ ?_ | refine Crs.cons ?_ rfl ?_ | exact Cr.no | refine Cr.row ?_ | refine Cr.box ?_ | exact Cv.nil | exact Cv.full | exact CvL.nil | refine CvL.cons ?_ ?_))
  · exact Crs.cons (Cr.bxs rfl) (bxs_lt' _ _) Crs.nil
  (repeat' (first | refine AW.seq_k (fun K hK => ?_) | (refine hK _ ?_; clear hK) | (refine AW.draw (id := 5) (by kernel_rfl) ?_ <;> (try (refine Run.p rfl rfl rfl (OpP.mvA rfl) ?_)) <;> (try (refine Run.p rfl rfl rfl (OpP.mvA rfl) ?_)) <;> (try (refine Run.p rfl rfl rfl (OpP.sliceBH rfl rfl rfl) ?_)) <;> (try (refine Run.p rfl rfl rfl (OpP.mvA rfl) ?_)) <;> (try (refine Run.p rfl rfl rfl (OpP.mvA rfl) ?_)) <;> (try (refine Run.p rfl rfl rfl (OpP.sliceBL rfl rfl rfl) ?_)) <;> (try (refine Run.apB rfl rfl rfl rfl (Or.inl ⟨_, rfl⟩) rfl rfl rfl (SrcNI.bsl rfl rfl hzz (by omega) rfl) hzz hzl (mm := xs.length - 1) (by rw [List.length_take, List.length_drop, hzl]; omega) (by omega) rfl (by omega) (by simp [maxLen]; omega) (by (repeat constructor); first | done | fail) rfl ?_)) <;> (try (refine Run.p rfl rfl rfl (OpP.asA rfl) ?_)) <;> (try refine Run.fin (by kernel_rfl) ?_))))
  refine AW.conv (s' := ⟨[(0, .bsl 0 9 0 (xs.length - 1) (xs.length + d)), (7, .v (.int .i64 (xs.length : Int)))], [.box (bxs Z)]⟩) (Conv.mk [0] rfl rfl rfl ?_ rfl ?_) ?_
  · (repeat' (first | exact Cf.nil | exact Cv.refl | exact CvL.refl _ | exact Cv.rowf rfl rfl | exact Crs.nil | refine Cf.cons' (by (conv => lhs; whnf) <;> rfl) ?_ ?_ | refine Crs.cons ?_ rfl ?_ | exact Cr.no | refine Cr.row ?_ | refine Cr.box ?_ | exact Cv.nil | exact Cv.full | exact CvL.nil | refine CvL.cons ?_ ?_))
  · refine Crs.cons (Cr.bxs ?_) (bxs_lt' _ _) Crs.nil
    rw [hZ, hX, delL, Int.toNat_natCast, show ((i : Int) + 1).toNat = i + 1 by omega, List.take_append_of_le_length (by omega), List.drop_append_of_le_length (by omega), List.take_append_of_le_length (by simp), List.take_of_length_le (l := xs.drop (i + 1)) (by simp), List.append_assoc]
  have hin : xs.length - 1 = (delL xs i).length := by simp [delL]; omega
  have hZl : Z.length = xs.length + d := by rw [hZ, List.length_append, ← hin, List.length_drop, hzl]; omega
  have hZz : ∀ y ∈ Z, y.length = 9 := by
    rw [hZ]; intro y hy
    simp only [delL, List.mem_append] at hy
    rcases hy with (h | h) | h
    · exact hz y (List.mem_of_mem_take h)
    · exact hz y (List.mem_of_mem_drop h)
    · exact hzz y (List.mem_of_mem_drop h)
  have hZt : Z.take (xs.length - 1) = delL xs i := by rw [hZ, hin, List.take_left]
  (repeat' (first | refine AW.seq_k (fun K hK => ?_) | (refine hK _ ?_; clear hK) | (refine AW.region (id := 6) ?_ <;> (try (refine Run.p rfl rfl rfl (OpP.mvA rfl) ?_)) <;> (try (refine Run.p rfl rfl rfl (OpP.mvA rfl) ?_)) <;> (try (refine Run.p rfl rfl rfl (OpP.lenB rfl rfl) ?_)) <;> (try (refine Run.p rfl rfl rfl (OpP.mvA rfl) ?_)) <;> (try (refine Run.p rfl rfl rfl (OpP.sliceBLH rfl rfl rfl rfl) ?_)) <;> (try (refine Run.clB rfl rfl rfl rfl rfl rfl rfl hZz (by omega) rfl (by (repeat constructor); first | done | fail) ?_)) <;> (try refine Run.fin rfl ?_))))
  refine AW.conv (s' := ⟨[(0, .bsl 0 9 0 (xs.length - 1) (xs.length + d))], [.box (bxs (delL xs i ++ (List.replicate 1 z9 ++ Z.drop xs.length)))]⟩) (Conv.mk [0] rfl rfl rfl ?_ rfl ?_) ?_
  · (repeat' (first | exact Cf.nil | exact Cv.refl | exact CvL.refl _ | exact Cv.rowf rfl rfl | exact Crs.nil | refine Cf.cons' (by (conv => lhs; whnf) <;> rfl) ?_ ?_ | refine Crs.cons ?_ rfl ?_ | exact Cr.no | refine Cr.row ?_ | refine Cr.box ?_ | exact Cv.nil | exact Cv.full | exact CvL.nil | refine CvL.cons ?_ ?_))
  · refine Crs.cons (Cr.bxs ?_) (bxs_lt' _ _) Crs.nil
    rw [Int.toNat_natCast, Int.toNat_natCast, hZt, show xs.length - (xs.length - 1) = 1 by omega, show xs.length - 1 + 1 = xs.length by omega]
    rfl
  refine AW.freezeA 0 9 (delL xs i) _ rfl rfl ?_ ?_
  · intro y hy
    simp only [delL, List.mem_append] at hy
    rcases hy with h | h
    · exact hz y (List.mem_of_mem_take h)
    · exact hz y (List.mem_of_mem_drop h)
  (repeat' (first | (refine hK _ ?_; clear hK) | refine AW.ret ?_ | (refine AW.region (id := 7) ?_ <;> (try (refine Run.p rfl rfl rfl (OpP.mvA rfl) ?_)) <;> (try (refine Run.p rfl rfl rfl (OpP.asA rfl) ?_)) <;> (try refine Run.fin rfl ?_))))
  refine RetOk.oneS [0] rfl rfl rfl rfl ?_ ?_
  all_goals (repeat' (first | exact Cv.nil | exact Cv.rowf rfl rfl | exact RetC.nil | exact CvL.refl _ | exact Cv.full | exact Cv.refl | exact Crs.nil | refine Crs.cons ?_ rfl ?_ | exact Cr.no | refine Cr.row ?_ | refine Cr.box ?_ | refine RetC.tmp (by (conv => lhs; whnf) <;> rfl) ?_ ?_ | refine RetC.cell1 rfl rfl rfl rfl ?_ ?_ | refine RetC.cellN rfl rfl rfl (by repeat constructor) ?_ ?_ | refine Cv.rowE rfl rfl ?_ | exact CvL.nil | refine CvL.cons ?_ ?_))
end Go.Proofs.Ytbbcokckealagaa
