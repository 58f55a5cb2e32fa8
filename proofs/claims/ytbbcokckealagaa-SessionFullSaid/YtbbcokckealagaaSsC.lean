/-
  Walks of chapter 41: the copy of a session.
-/
import Derived.Test.YtbbcokckealagaaSsB
namespace Go.Proofs.Ytbbcokckealagaa
set_option linter.unusedVariables false
set_option linter.unusedSimpArgs false
theorem copied_n (st : List Kp) (mem : List Ch) (tx : List UInt8) (h0 : 0 < st.length) (hl : st.length ≤ 1000000) (hm : mem.length ≤ 1000000) (hs : ∀ c ∈ mem, c.set.length ≤ 1099511627776) :
    ACallsN Try.prog 15 [.agg (Se.mk st mem tx).cells] [] (fun d : Nat => .agg [.bsl 0 9 0 st.length (st.length + d), .sl 3 (chs mem) false, .v (.string (bs tx))]) (fun d => [.box (bxs (kps st ++ List.replicate d z9))]) := by
  have hkl : (kps st).length = st.length := by simp
  have hcl : (chs mem).length = mem.length := by simp
  refine ACallsN.of (fn := Try.f15) Try.func15 rfl rfl Try.ntmps15 (fun I M w own => ?_)
  (repeat' (first | refine AW.seq_k (fun K hK => ?_) | (refine hK _ ?_; clear hK) | (first | (refine AW.region (id := 0) ?_ <;> (try (refine Run.bxA rfl rfl rfl rfl ?_)) <;> (try (refine Run.alA rfl rfl rfl rfl ?_)) <;> (try refine Run.fin rfl ?_)) | (refine AW.region (id := 1) ?_ <;> (try (refine Run.p rfl rfl rfl (OpP.fieldAddrA rfl rfl) ?_)) <;> (try (refine Run.ld1 rfl rfl rfl rfl rfl rfl rfl rfl ?_)) <;> (try (refine Run.cN [] (clone_n (kps st) false (kps_len9 st) (by omega) (by omega)) (fun _ => rfl) rfl rfl rfl rfl rfl rfl rfl (fun _ => rfl) (fun _ => bxs_all _ _) (fun _ => rfl) rfl rfl (by repeat constructor) (RenLs.cons RenR.sl RenLs.nil) InsI.nil rfl (r := fun q => .bsl 2 9 0 (kps st).length ((kps st).length + q)) (fun q => RenR.bsl rfl) (outs := fun q => [(2, .box (bxs (kps st ++ List.replicate q z9)))]) (fun q => OutI.box rfl (RenLs.bxs _) OutI.nil) (fun q => rfl) (fun q => Puts.cons (PutAt.there (PutAt.there (PutAt.new))) Puts.nil) (fun q => rfl) (k2 := [2]) rfl (fun dd2 => ?_))) <;> (try (refine Run.p rfl rfl rfl (OpP.fieldAddrA rfl rfl) ?_)) <;> (try (refine Run.stA rfl rfl rfl rfl rfl ?_)) <;> (try refine Run.fin rfl ?_)))))
  cases mem with
  | nil =>
    (repeat' (first | refine AW.seq_k (fun K hK => ?_) | (refine hK _ ?_; clear hK) | refine AW.block ?_ | (first | (refine AW.region (id := 2) ?_ <;> (try (refine Run.p rfl rfl rfl (OpP.fieldAddrA rfl rfl) ?_)) <;> (try (refine Run.p rfl rfl rfl (OpP.fieldAddrA rfl rfl) ?_)) <;> (try (refine Run.ld1 rfl rfl rfl rfl rfl rfl rfl rfl ?_)) <;> (try (refine Run.c0 (cloneC_e false) rfl rfl rfl rfl rfl rfl rfl rfl ?_)) <;> (try (refine Run.p rfl rfl rfl (OpP.fieldAddrA rfl rfl) ?_)) <;> (try (refine Run.p rfl rfl rfl (OpP.fieldAddrA rfl rfl) ?_)) <;> (try (refine Run.stA rfl rfl rfl rfl rfl ?_)) <;> (try refine Run.fin rfl ?_)) | (refine AW.region (id := 3) ?_ <;> (try (refine Run.p rfl rfl rfl (OpP.fieldAddrA rfl rfl) ?_)) <;> (try (refine Run.p rfl rfl rfl (OpP.fieldAddrA rfl rfl) ?_)) <;> (try (refine Run.ld1 rfl rfl rfl rfl rfl rfl rfl rfl ?_)) <;> (try (refine Run.ri rfl rfl rfl (OpRI.lenA rfl rfl) rfl ?_)) <;> (try (refine Run.p rfl rfl rfl (OpP.mvA rfl) ?_)) <;> (try refine Run.fin rfl ?_)))))
    refine AW.loopF (X := Unit) (fun _ => ⟨[(1, .ptr 0 0), (2, .ptr 1 0), (18, .v (.int .i64 0)), (19, .v (.int .i64 0))], [.box [.bsl 2 9 0 st.length (st.length + dd2), .sl 3 [] true, .v (.string (bs tx))], .box [.v (.slice none 0 0), .v (.slice none 0 0), .v (.string (bs []))], .box (bxs (kps st ++ List.replicate dd2 z9))]⟩) (fun _ => True) (fun _ => 0) () ?_ trivial ?_
    · refine Conv.mk [0, 1, 2] rfl rfl rfl ?_ rfl ?_
      · (repeat' (first | exact Cf.nil | exact Cv.refl | exact CvL.refl _ | exact Cv.rowf rfl rfl | exact Crs.nil | refine Cf.cons' (by (conv => lhs; whnf) <;> rfl) ?_ ?_ | refine Crs.cons ?_ rfl ?_ | exact Cr.no | refine Cr.row ?_ | refine Cr.box ?_ | exact Cv.nil | exact Cv.full | exact CvL.nil | refine CvL.cons ?_ ?_))
        (all_goals (try (first | refine CvL.eq ?_ | refine Cv.eq ?_)))
        all_goals simp [AV.ren, renL]
      · refine Crs.cons (Cr.box ?_) rfl (Crs.cons (Cr.box ?_) rfl (Crs.cons (Cr.bxs rfl) (bxs_lt' _ _) Crs.nil))
        all_goals (repeat' (first | exact Cf.nil | exact Cv.refl | exact CvL.refl _ | exact Cv.rowf rfl rfl | exact Crs.nil | refine Cf.cons' (by (conv => lhs; whnf) <;> rfl) ?_ ?_ | refine Crs.cons ?_ rfl ?_ | exact Cr.no | refine Cr.row ?_ | refine Cr.box ?_ | exact Cv.nil | exact Cv.full | exact CvL.nil | refine CvL.cons ?_ ?_))
        (all_goals (try (first | refine CvL.eq ?_ | refine Cv.eq ?_)))
        all_goals simp [AV.ren, renL]
    · rintro _ _
      (repeat' (first | refine AW.seq_k (fun K hK => ?_) | (refine hK _ ?_; clear hK) | (refine AW.condD rfl (fun hc => ?_) (fun hc => ?_) <;> try (first | (exfalso; omega) | (cases hc; done))) | refine AW.exit ?_ | (clear hK; refine hK _ ?_; clear hK) | (refine AW.region (id := 4) ?_ <;> (try (refine Run.p rfl rfl rfl (OpP.ltt rfl rfl rfl) ?_)) <;> (try refine Run.fin rfl ?_))))
      (repeat' (first | (refine hK _ ?_; clear hK) | refine AW.ret ?_ | (refine AW.region (id := 9) ?_ <;> (try (refine Run.ldNA rfl rfl rfl rfl rfl rfl rfl ?_)) <;> (try (refine Run.stA rfl rfl rfl rfl rfl ?_)) <;> (try refine Run.fin rfl ?_))))
      refine RetOkN.mk dd2 ?_
      refine RetOk.oneS [2] rfl rfl rfl rfl ?_ ?_
      · exact Crs.cons (Cr.bxs rfl) (bxs_lt' _ _) Crs.nil
      · (repeat' (first | exact Cv.nil | exact Cv.rowf rfl rfl | exact RetC.nil | exact CvL.refl _ | exact Cv.full | exact Cv.refl | exact Crs.nil | refine Crs.cons ?_ rfl ?_ | exact Cr.no | refine Cr.row ?_ | refine Cr.box ?_ | refine RetC.tmp (by (conv => lhs; whnf) <;> rfl) ?_ ?_ | refine RetC.cell1 rfl rfl rfl rfl ?_ ?_ | refine RetC.cellN rfl rfl rfl (by repeat constructor) ?_ ?_ | refine Cv.rowE rfl rfl ?_ | exact CvL.nil | refine CvL.cons ?_ ?_))
  | cons c0 mr =>
    (repeat' (first | refine AW.seq_k (fun K hK => ?_) | (refine hK _ ?_; clear hK) | refine AW.block ?_ | (first | (refine AW.region (id := 2) ?_ <;> (try (refine Run.p rfl rfl rfl (OpP.fieldAddrA rfl rfl) ?_)) <;> (try (refine Run.p rfl rfl rfl (OpP.fieldAddrA rfl rfl) ?_)) <;> (try (refine Run.ld1 rfl rfl rfl rfl rfl rfl rfl rfl ?_)) <;> (try (refine Run.cN [] (cloneC_n (chs (c0 :: mr)) false (chs_len3 _) (by simp) (by omega)) (fun _ => rfl) rfl rfl rfl rfl rfl rfl rfl (fun _ => rfl) (fun _ => bxs_all _ _) (fun _ => rfl) rfl rfl (by repeat constructor) (RenLs.cons RenR.sl RenLs.nil) InsI.nil rfl (r := fun q => .bsl 3 3 0 (chs (c0 :: mr)).length ((chs (c0 :: mr)).length + q)) (fun q => RenR.bsl rfl) (outs := fun q => [(3, .box (bxs (chs (c0 :: mr) ++ List.replicate q z3)))]) (fun q => OutI.box rfl (RenLs.bxs _) OutI.nil) (fun q => rfl) (fun q => Puts.cons (PutAt.there (PutAt.there (PutAt.there (PutAt.new)))) Puts.nil) (fun q => rfl) (k2 := [3]) rfl (fun dd3 => ?_))) <;> (try (refine Run.p rfl rfl rfl (OpP.fieldAddrA rfl rfl) ?_)) <;> (try (refine Run.p rfl rfl rfl (OpP.fieldAddrA rfl rfl) ?_)) <;> (try (refine Run.stA rfl rfl rfl rfl rfl ?_)) <;> (try refine Run.fin rfl ?_)) | (refine AW.region (id := 3) ?_ <;> (try (refine Run.p rfl rfl rfl (OpP.fieldAddrA rfl rfl) ?_)) <;> (try (refine Run.p rfl rfl rfl (OpP.fieldAddrA rfl rfl) ?_)) <;> (try (refine Run.ld1 rfl rfl rfl rfl rfl rfl rfl rfl ?_)) <;> (try (refine Run.p rfl rfl rfl (OpP.lenB rfl rfl) ?_)) <;> (try (refine Run.p rfl rfl rfl (OpP.mvA rfl) ?_)) <;> (try refine Run.fin rfl ?_)))))
    have h3 : ∀ y ∈ (chs (c0 :: mr) ++ List.replicate dd3 z3), y.length = 3 := by
      intro y hy
      rcases List.mem_append.1 hy with h | h
      · exact chs_len3 _ y h
      · rw [(List.mem_replicate.1 h).2]; rfl
    refine AW.loopF (X := Nat) (fun i => ⟨[(1, .ptr 0 0), (2, .ptr 1 0), (18, .v (.int .i64 ((c0 :: mr).length : Int))), (19, .v (.int .i64 (i : Int)))], [.box [.bsl 2 9 0 st.length (st.length + dd2), .bsl 3 3 0 (c0 :: mr).length ((c0 :: mr).length + dd3), .v (.string (bs tx))], .box [.v (.slice none 0 0), .v (.slice none 0 0), .v (.string (bs []))], .box (bxs (kps st ++ List.replicate dd2 z9)), .box (bxs (chs (c0 :: mr) ++ List.replicate dd3 z3))]⟩) (fun i => i ≤ (c0 :: mr).length) (fun i => (c0 :: mr).length - i) 0 ?_ (Nat.zero_le _) ?_
    · refine Conv.mk [0, 1, 2, 3] rfl rfl rfl ?_ rfl ?_
      · (repeat' (first | exact Cf.nil | exact Cv.refl | exact CvL.refl _ | exact Cv.rowf rfl rfl | exact Crs.nil | refine Cf.cons' (by (conv => lhs; whnf) <;> rfl) ?_ ?_ | refine Crs.cons ?_ rfl ?_ | exact Cr.no | refine Cr.row ?_ | refine Cr.box ?_ | exact Cv.nil | exact Cv.full | exact CvL.nil | refine CvL.cons ?_ ?_))
        (all_goals (try (first | refine CvL.eq ?_ | refine Cv.eq ?_)))
        all_goals simp [AV.ren, renL]
      · refine Crs.cons (Cr.box ?_) rfl (Crs.cons (Cr.box ?_) rfl (Crs.cons (Cr.bxs rfl) (bxs_lt' _ _) (Crs.cons (Cr.bxs rfl) (bxs_lt' _ _) Crs.nil)))
        all_goals (repeat' (first | exact Cf.nil | exact Cv.refl | exact CvL.refl _ | exact Cv.rowf rfl rfl | exact Crs.nil | refine Cf.cons' (by (conv => lhs; whnf) <;> rfl) ?_ ?_ | refine Crs.cons ?_ rfl ?_ | exact Cr.no | refine Cr.row ?_ | refine Cr.box ?_ | exact Cv.nil | exact Cv.full | exact CvL.nil | refine CvL.cons ?_ ?_))
        (all_goals (try (first | refine CvL.eq ?_ | refine Cv.eq ?_)))
        all_goals simp [AV.ren, renL]
    · rintro i hi
      rcases Nat.lt_or_ge i (c0 :: mr).length with h | h
      · have hg : (chs (c0 :: mr) ++ List.replicate dd3 z3)[i]? = some (c0 :: mr)[i].pv := by
          rw [List.getElem?_append_left (by rw [hcl]; exact h), List.getElem?_map, List.getElem?_eq_getElem h]; rfl
        have hq : 0 * 3 + ((i : Int)).toNat * 3 + 1 = i * 3 + 1 := by simp
        have hL : (bxs (chs (c0 :: mr) ++ List.replicate dd3 z3))[0 * 3 + ((i : Int)).toNat * 3 + 1]? = some (AV.sl 1 (ids (c0 :: mr)[i].set) false) := by rw [hq]; exact bxN_at (f := 1) (p := PV.sl 1 (ids (c0 :: mr)[i].set)) h3 hg rfl
        have hO : Over (bxs (chs (c0 :: mr) ++ List.replicate dd3 z3)) (0 * 3 + ((i : Int)).toNat * 3 + 1) [AV.sl 1 (ids (c0 :: mr)[i].set) false] (bxs (chs (c0 :: mr) ++ List.replicate dd3 z3)) := by
          have q := bxN_put (f := 1) (PV.sl 1 (ids (c0 :: mr)[i].set)) h3 hg (by simp)
          rw [show ((chs (c0 :: mr) ++ List.replicate dd3 z3)).set i ((c0 :: mr)[i].pv.set 1 (PV.sl 1 (ids (c0 :: mr)[i].set))) = (chs (c0 :: mr) ++ List.replicate dd3 z3) from set_same hg] at q
          rw [hq]; exact q
        have hcc := Clone_c (c0 :: mr)[i].set false (hs _ (List.getElem_mem h))
        (repeat' (first | refine AW.seq_k (fun K hK => ?_) | (refine hK _ ?_; clear hK) | (refine AW.condD rfl (fun hc => ?_) (fun hc => ?_) <;> try (first | (exfalso; omega) | (cases hc; done))) | refine AW.block ?_ | refine AW.skip ?_ | (first | (refine AW.region (id := 4) ?_ <;> (try (refine Run.p rfl rfl rfl (OpP.ltt rfl rfl rfl) ?_)) <;> (try refine Run.fin rfl ?_)) | (refine AW.region (id := 5) ?_ <;> (try (refine Run.p rfl rfl rfl (OpP.mvA rfl) ?_)) <;> (try (refine Run.p rfl rfl rfl (OpP.asA rfl) ?_)) <;> (try refine Run.fin rfl ?_)) | (refine AW.region (id := 6) ?_ <;> (try (refine Run.p rfl rfl rfl (OpP.fieldAddrA rfl rfl) ?_)) <;> (try (refine Run.p rfl rfl rfl (OpP.fieldAddrA rfl rfl) ?_)) <;> (try (refine Run.ld1 rfl rfl rfl rfl rfl rfl rfl rfl ?_)) <;> (try (refine Run.p rfl rfl rfl (OpP.mvA rfl) ?_)) <;> (try (refine Run.p rfl rfl rfl (OpP.indexAddrB rfl rfl rfl (by omega) (by omega) rfl) ?_)) <;> (try (refine Run.p rfl rfl rfl (OpP.asA rfl) ?_)) <;> (try refine Run.fin rfl ?_)) | (refine AW.region (id := 7) ?_ <;> (try (refine Run.p rfl rfl rfl (OpP.mvA rfl) ?_)) <;> (try (refine Run.p rfl rfl rfl (OpP.mvA rfl) ?_)) <;> (try (refine Run.p rfl rfl rfl (OpP.nilCheck rfl (by (conv => lhs; whnf) <;> rfl) rfl) ?_)) <;> (try (refine Run.p rfl rfl rfl (OpP.fieldAddrA rfl rfl) ?_)) <;> (try (refine Run.ld1F rfl rfl rfl rfl rfl rfl rfl ?_)) <;> (try (refine Run.c0 hcc rfl rfl rfl rfl rfl rfl rfl rfl ?_)) <;> (try (refine Run.p rfl rfl rfl (OpP.nilCheck rfl (by (conv => lhs; whnf) <;> rfl) rfl) ?_)) <;> (try (refine Run.p rfl rfl rfl (OpP.fieldAddrA rfl rfl) ?_)) <;> (try (refine Run.stF rfl rfl rfl rfl rfl ?_)) <;> (try refine Run.fin rfl ?_)) | (refine AW.region (id := 8) ?_ <;> (try (refine Run.p rfl rfl rfl (OpP.addA rfl rfl rfl) ?_)) <;> (try (refine Run.p rfl rfl rfl (OpP.mvA rfl) ?_)) <;> (try refine Run.fin rfl ?_)))))
        ((repeat (with_reducible refine inB_n ?_)); refine thenA_n ?_)
        refine ⟨i + 1, h, by omega, ?_⟩
        refine Conv.mk [0, 1, 2, 3] rfl rfl rfl ?_ rfl ?_
        · (repeat' (first | exact Cf.nil | exact Cv.refl | exact CvL.refl _ | exact Cv.rowf rfl rfl | exact Crs.nil | refine Cf.cons' (by (conv => lhs; whnf) <;> rfl) ?_ ?_ | refine Crs.cons ?_ rfl ?_ | exact Cr.no | refine Cr.row ?_ | refine Cr.box ?_ | exact Cv.nil | exact Cv.full | exact CvL.nil | refine CvL.cons ?_ ?_))
          (all_goals (try (first | refine CvL.eq ?_ | refine Cv.eq ?_)))
          all_goals simp [AV.ren, renL]
        · refine Crs.cons (Cr.box ?_) rfl (Crs.cons (Cr.box ?_) rfl (Crs.cons (Cr.bxs rfl) (bxs_lt' _ _) (Crs.cons (Cr.bxs rfl) (bxs_lt' _ _) Crs.nil)))
          all_goals (repeat' (first | exact Cf.nil | exact Cv.refl | exact CvL.refl _ | exact Cv.rowf rfl rfl | exact Crs.nil | refine Cf.cons' (by (conv => lhs; whnf) <;> rfl) ?_ ?_ | refine Crs.cons ?_ rfl ?_ | exact Cr.no | refine Cr.row ?_ | refine Cr.box ?_ | exact Cv.nil | exact Cv.full | exact CvL.nil | refine CvL.cons ?_ ?_))
          (all_goals (try (first | refine CvL.eq ?_ | refine Cv.eq ?_)))
          all_goals simp [AV.ren, renL]
      · (repeat' (first | refine AW.seq_k (fun K hK => ?_) | (refine hK _ ?_; clear hK) | (refine AW.condD rfl (fun hc => ?_) (fun hc => ?_) <;> try (first | (exfalso; omega) | (cases hc; done))) | refine AW.exit ?_ | (clear hK; refine hK _ ?_; clear hK) | (refine AW.region (id := 4) ?_ <;> (try (refine Run.p rfl rfl rfl (OpP.ltt rfl rfl rfl) ?_)) <;> (try refine Run.fin rfl ?_))))
        refine AW.freezeA 3 3 (chs (c0 :: mr)) (List.replicate dd3 z3) rfl rfl (chs_len3 _) ?_
        (repeat' (first | (refine hK _ ?_; clear hK) | refine AW.ret ?_ | (refine AW.region (id := 9) ?_ <;> (try (refine Run.ldNA rfl rfl rfl rfl rfl rfl rfl ?_)) <;> (try (refine Run.stA rfl rfl rfl rfl rfl ?_)) <;> (try refine Run.fin rfl ?_))))
        refine RetOkN.mk dd2 ?_
        refine RetOk.oneS [2] rfl rfl rfl rfl ?_ ?_
        · exact Crs.cons (Cr.bxs rfl) (bxs_lt' _ _) Crs.nil
        · (repeat' (first | exact Cv.nil | exact Cv.rowf rfl rfl | exact RetC.nil | exact CvL.refl _ | exact Cv.full | exact Cv.refl | exact Crs.nil | refine Crs.cons ?_ rfl ?_ | exact Cr.no | refine Cr.row ?_ | refine Cr.box ?_ | refine RetC.tmp (by (conv => lhs; whnf) <;> rfl) ?_ ?_ | refine RetC.cell1 rfl rfl rfl rfl ?_ ?_ | refine RetC.cellN rfl rfl rfl (by repeat constructor) ?_ ?_ | refine Cv.rowE rfl rfl ?_ | exact CvL.nil | refine CvL.cons ?_ ?_))
theorem copied_e (mem : List Ch) (tx : List UInt8) (hm : mem.length ≤ 1000000) (hs : ∀ c ∈ mem, c.set.length ≤ 1099511627776) :
    ACalls Try.prog 15 [.agg (Se.mk [] mem tx).cells] [] (.agg [.sl 9 [] true, .sl 3 (chs mem) false, .v (.string (bs tx))]) [] := by
  have hcl : (chs mem).length = mem.length := by simp
  refine (ACalls.of (fn := Try.f15) Try.func15 rfl rfl Try.ntmps15 (fun I M w own => ?_))
  (repeat' (first | refine AW.seq_k (fun K hK => ?_) | (refine hK _ ?_; clear hK) | (first | (refine AW.region (id := 0) ?_ <;> (try (refine Run.bxA rfl rfl rfl rfl ?_)) <;> (try (refine Run.alA rfl rfl rfl rfl ?_)) <;> (try refine Run.fin rfl ?_)) | (refine AW.region (id := 1) ?_ <;> (try (refine Run.p rfl rfl rfl (OpP.fieldAddrA rfl rfl) ?_)) <;> (try (refine Run.ld1 rfl rfl rfl rfl rfl rfl rfl rfl ?_)) <;> (try (refine Run.c0 (clone_e false) rfl rfl rfl rfl rfl rfl rfl rfl ?_)) <;> (try (refine Run.p rfl rfl rfl (OpP.fieldAddrA rfl rfl) ?_)) <;> (try (refine Run.stA rfl rfl rfl rfl rfl ?_)) <;> (try refine Run.fin rfl ?_)))))
  cases mem with
  | nil =>
    (repeat' (first | refine AW.seq_k (fun K hK => ?_) | (refine hK _ ?_; clear hK) | refine AW.block ?_ | (first | (refine AW.region (id := 2) ?_ <;> (try (refine Run.p rfl rfl rfl (OpP.fieldAddrA rfl rfl) ?_)) <;> (try (refine Run.p rfl rfl rfl (OpP.fieldAddrA rfl rfl) ?_)) <;> (try (refine Run.ld1 rfl rfl rfl rfl rfl rfl rfl rfl ?_)) <;> (try (refine Run.c0 (cloneC_e false) rfl rfl rfl rfl rfl rfl rfl rfl ?_)) <;> (try (refine Run.p rfl rfl rfl (OpP.fieldAddrA rfl rfl) ?_)) <;> (try (refine Run.p rfl rfl rfl (OpP.fieldAddrA rfl rfl) ?_)) <;> (try (refine Run.stA rfl rfl rfl rfl rfl ?_)) <;> (try refine Run.fin rfl ?_)) | (refine AW.region (id := 3) ?_ <;> (try (refine Run.p rfl rfl rfl (OpP.fieldAddrA rfl rfl) ?_)) <;> (try (refine Run.p rfl rfl rfl (OpP.fieldAddrA rfl rfl) ?_)) <;> (try (refine Run.ld1 rfl rfl rfl rfl rfl rfl rfl rfl ?_)) <;> (try (refine Run.ri rfl rfl rfl (OpRI.lenA rfl rfl) rfl ?_)) <;> (try (refine Run.p rfl rfl rfl (OpP.mvA rfl) ?_)) <;> (try refine Run.fin rfl ?_)))))
    refine AW.loopF (X := Unit) (fun _ => ⟨[(1, .ptr 0 0), (2, .ptr 1 0), (18, .v (.int .i64 0)), (19, .v (.int .i64 0))], [.box [.sl 9 [] true, .sl 3 [] true, .v (.string (bs tx))], .box [.v (.slice none 0 0), .v (.slice none 0 0), .v (.string (bs []))]]⟩) (fun _ => True) (fun _ => 0) () ?_ trivial ?_
    · refine Conv.mk [0, 1] rfl rfl rfl ?_ rfl ?_
      · (repeat' (first | exact Cf.nil | exact Cv.refl | exact CvL.refl _ | exact Cv.rowf rfl rfl | exact Crs.nil | refine Cf.cons' (by (conv => lhs; whnf) <;> rfl) ?_ ?_ | refine Crs.cons ?_ rfl ?_ | exact Cr.no | refine Cr.row ?_ | refine Cr.box ?_ | exact Cv.nil | exact Cv.full | exact CvL.nil | refine CvL.cons ?_ ?_))
        (all_goals (try (first | refine CvL.eq ?_ | refine Cv.eq ?_)))
        all_goals simp [AV.ren, renL]
      · refine Crs.cons (Cr.box ?_) rfl (Crs.cons (Cr.box ?_) rfl Crs.nil)
        all_goals (repeat' (first | exact Cf.nil | exact Cv.refl | exact CvL.refl _ | exact Cv.rowf rfl rfl | exact Crs.nil | refine Cf.cons' (by (conv => lhs; whnf) <;> rfl) ?_ ?_ | refine Crs.cons ?_ rfl ?_ | exact Cr.no | refine Cr.row ?_ | refine Cr.box ?_ | exact Cv.nil | exact Cv.full | exact CvL.nil | refine CvL.cons ?_ ?_))
        (all_goals (try (first | refine CvL.eq ?_ | refine Cv.eq ?_)))
        all_goals simp [AV.ren, renL]
    · rintro _ _
      (repeat' (first | refine AW.seq_k (fun K hK => ?_) | (refine hK _ ?_; clear hK) | (refine AW.condD rfl (fun hc => ?_) (fun hc => ?_) <;> try (first | (exfalso; omega) | (cases hc; done))) | refine AW.exit ?_ | (clear hK; refine hK _ ?_; clear hK) | (refine AW.region (id := 4) ?_ <;> (try (refine Run.p rfl rfl rfl (OpP.ltt rfl rfl rfl) ?_)) <;> (try refine Run.fin rfl ?_))))
      (repeat' (first | (refine hK _ ?_; clear hK) | refine AW.ret ?_ | (refine AW.region (id := 9) ?_ <;> (try (refine Run.ldNA rfl rfl rfl rfl rfl rfl rfl ?_)) <;> (try (refine Run.stA rfl rfl rfl rfl rfl ?_)) <;> (try refine Run.fin rfl ?_))))
      ((first | refine RetOk.tup rfl rfl ?_ | refine RetOk.one rfl ?_) <;> (repeat' (first | exact Cv.nil | exact Cv.rowf rfl rfl | exact RetC.nil | exact CvL.refl _ | exact Cv.refl | refine RetC.tmp (by (conv => lhs; whnf) <;> rfl) ?_ ?_ | refine RetC.cell1 rfl rfl rfl rfl ?_ ?_ | refine RetC.cellN rfl rfl rfl (by repeat constructor) ?_ ?_ | refine Cv.rowE rfl rfl ?_ | exact Cv.full | exact CvL.nil | refine CvL.cons ?_ ?_)))
  | cons c0 mr =>
    (repeat' (first | refine AW.seq_k (fun K hK => ?_) | (refine hK _ ?_; clear hK) | refine AW.block ?_ | (first | (refine AW.region (id := 2) ?_ <;> (try (refine Run.p rfl rfl rfl (OpP.fieldAddrA rfl rfl) ?_)) <;> (try (refine Run.p rfl rfl rfl (OpP.fieldAddrA rfl rfl) ?_)) <;> (try (refine Run.ld1 rfl rfl rfl rfl rfl rfl rfl rfl ?_)) <;> (try (refine Run.cN [] (cloneC_n (chs (c0 :: mr)) false (chs_len3 _) (by simp) (by omega)) (fun _ => rfl) rfl rfl rfl rfl rfl rfl rfl (fun _ => rfl) (fun _ => bxs_all _ _) (fun _ => rfl) rfl rfl (by repeat constructor) (RenLs.cons RenR.sl RenLs.nil) InsI.nil rfl (r := fun q => .bsl 2 3 0 (chs (c0 :: mr)).length ((chs (c0 :: mr)).length + q)) (fun q => RenR.bsl rfl) (outs := fun q => [(2, .box (bxs (chs (c0 :: mr) ++ List.replicate q z3)))]) (fun q => OutI.box rfl (RenLs.bxs _) OutI.nil) (fun q => rfl) (fun q => Puts.cons (PutAt.there (PutAt.there (PutAt.new))) Puts.nil) (fun q => rfl) (k2 := [2]) rfl (fun dd2 => ?_))) <;> (try (refine Run.p rfl rfl rfl (OpP.fieldAddrA rfl rfl) ?_)) <;> (try (refine Run.p rfl rfl rfl (OpP.fieldAddrA rfl rfl) ?_)) <;> (try (refine Run.stA rfl rfl rfl rfl rfl ?_)) <;> (try refine Run.fin rfl ?_)) | (refine AW.region (id := 3) ?_ <;> (try (refine Run.p rfl rfl rfl (OpP.fieldAddrA rfl rfl) ?_)) <;> (try (refine Run.p rfl rfl rfl (OpP.fieldAddrA rfl rfl) ?_)) <;> (try (refine Run.ld1 rfl rfl rfl rfl rfl rfl rfl rfl ?_)) <;> (try (refine Run.p rfl rfl rfl (OpP.lenB rfl rfl) ?_)) <;> (try (refine Run.p rfl rfl rfl (OpP.mvA rfl) ?_)) <;> (try refine Run.fin rfl ?_)))))
    have h3 : ∀ y ∈ (chs (c0 :: mr) ++ List.replicate dd2 z3), y.length = 3 := by
      intro y hy
      rcases List.mem_append.1 hy with h | h
      · exact chs_len3 _ y h
      · rw [(List.mem_replicate.1 h).2]; rfl
    refine AW.loopF (X := Nat) (fun i => ⟨[(1, .ptr 0 0), (2, .ptr 1 0), (18, .v (.int .i64 ((c0 :: mr).length : Int))), (19, .v (.int .i64 (i : Int)))], [.box [.sl 9 [] true, .bsl 2 3 0 (c0 :: mr).length ((c0 :: mr).length + dd2), .v (.string (bs tx))], .box [.v (.slice none 0 0), .v (.slice none 0 0), .v (.string (bs []))], .box (bxs (chs (c0 :: mr) ++ List.replicate dd2 z3))]⟩) (fun i => i ≤ (c0 :: mr).length) (fun i => (c0 :: mr).length - i) 0 ?_ (Nat.zero_le _) ?_
    · refine Conv.mk [0, 1, 2] rfl rfl rfl ?_ rfl ?_
      · (repeat' (first | exact Cf.nil | exact Cv.refl | exact CvL.refl _ | exact Cv.rowf rfl rfl | exact Crs.nil | refine Cf.cons' (by (conv => lhs; whnf) <;> rfl) ?_ ?_ | refine Crs.cons ?_ rfl ?_ | exact Cr.no | refine Cr.row ?_ | refine Cr.box ?_ | exact Cv.nil | exact Cv.full | exact CvL.nil | refine CvL.cons ?_ ?_))
        (all_goals (try (first | refine CvL.eq ?_ | refine Cv.eq ?_)))
        all_goals simp [AV.ren, renL]
      · refine Crs.cons (Cr.box ?_) rfl (Crs.cons (Cr.box ?_) rfl (Crs.cons (Cr.bxs rfl) (bxs_lt' _ _) Crs.nil))
        all_goals (repeat' (first | exact Cf.nil | exact Cv.refl | exact CvL.refl _ | exact Cv.rowf rfl rfl | exact Crs.nil | refine Cf.cons' (by (conv => lhs; whnf) <;> rfl) ?_ ?_ | refine Crs.cons ?_ rfl ?_ | exact Cr.no | refine Cr.row ?_ | refine Cr.box ?_ | exact Cv.nil | exact Cv.full | exact CvL.nil | refine CvL.cons ?_ ?_))
        (all_goals (try (first | refine CvL.eq ?_ | refine Cv.eq ?_)))
        all_goals simp [AV.ren, renL]
    · rintro i hi
      rcases Nat.lt_or_ge i (c0 :: mr).length with h | h
      · have hg : (chs (c0 :: mr) ++ List.replicate dd2 z3)[i]? = some (c0 :: mr)[i].pv := by
          rw [List.getElem?_append_left (by rw [hcl]; exact h), List.getElem?_map, List.getElem?_eq_getElem h]; rfl
        have hq : 0 * 3 + ((i : Int)).toNat * 3 + 1 = i * 3 + 1 := by simp
        have hL : (bxs (chs (c0 :: mr) ++ List.replicate dd2 z3))[0 * 3 + ((i : Int)).toNat * 3 + 1]? = some (AV.sl 1 (ids (c0 :: mr)[i].set) false) := by rw [hq]; exact bxN_at (f := 1) (p := PV.sl 1 (ids (c0 :: mr)[i].set)) h3 hg rfl
        have hO : Over (bxs (chs (c0 :: mr) ++ List.replicate dd2 z3)) (0 * 3 + ((i : Int)).toNat * 3 + 1) [AV.sl 1 (ids (c0 :: mr)[i].set) false] (bxs (chs (c0 :: mr) ++ List.replicate dd2 z3)) := by
          have q := bxN_put (f := 1) (PV.sl 1 (ids (c0 :: mr)[i].set)) h3 hg (by simp)
          rw [show ((chs (c0 :: mr) ++ List.replicate dd2 z3)).set i ((c0 :: mr)[i].pv.set 1 (PV.sl 1 (ids (c0 :: mr)[i].set))) = (chs (c0 :: mr) ++ List.replicate dd2 z3) from set_same hg] at q
          rw [hq]; exact q
        have hcc := Clone_c (c0 :: mr)[i].set false (hs _ (List.getElem_mem h))
        (repeat' (first | refine AW.seq_k (fun K hK => ?_) | (refine hK _ ?_; clear hK) | (refine AW.condD rfl (fun hc => ?_) (fun hc => ?_) <;> try (first | (exfalso; omega) | (cases hc; done))) | refine AW.block ?_ | refine AW.skip ?_ | (first | (refine AW.region (id := 4) ?_ <;> (try (refine Run.p rfl rfl rfl (OpP.ltt rfl rfl rfl) ?_)) <;> (try refine Run.fin rfl ?_)) | (refine AW.region (id := 5) ?_ <;> (try (refine Run.p rfl rfl rfl (OpP.mvA rfl) ?_)) <;> (try (refine Run.p rfl rfl rfl (OpP.asA rfl) ?_)) <;> (try refine Run.fin rfl ?_)) | (refine AW.region (id := 6) ?_ <;> (try (refine Run.p rfl rfl rfl (OpP.fieldAddrA rfl rfl) ?_)) <;> (try (refine Run.p rfl rfl rfl (OpP.fieldAddrA rfl rfl) ?_)) <;> (try (refine Run.ld1 rfl rfl rfl rfl rfl rfl rfl rfl ?_)) <;> (try (refine Run.p rfl rfl rfl (OpP.mvA rfl) ?_)) <;> (try (refine Run.p rfl rfl rfl (OpP.indexAddrB rfl rfl rfl (by omega) (by omega) rfl) ?_)) <;> (try (refine Run.p rfl rfl rfl (OpP.asA rfl) ?_)) <;> (try refine Run.fin rfl ?_)) | (refine AW.region (id := 7) ?_ <;> (try (refine Run.p rfl rfl rfl (OpP.mvA rfl) ?_)) <;> (try (refine Run.p rfl rfl rfl (OpP.mvA rfl) ?_)) <;> (try (refine Run.p rfl rfl rfl (OpP.nilCheck rfl (by (conv => lhs; whnf) <;> rfl) rfl) ?_)) <;> (try (refine Run.p rfl rfl rfl (OpP.fieldAddrA rfl rfl) ?_)) <;> (try (refine Run.ld1F rfl rfl rfl rfl rfl rfl rfl ?_)) <;> (try (refine Run.c0 hcc rfl rfl rfl rfl rfl rfl rfl rfl ?_)) <;> (try (refine Run.p rfl rfl rfl (OpP.nilCheck rfl (by (conv => lhs; whnf) <;> rfl) rfl) ?_)) <;> (try (refine Run.p rfl rfl rfl (OpP.fieldAddrA rfl rfl) ?_)) <;> (try (refine Run.stF rfl rfl rfl rfl rfl ?_)) <;> (try refine Run.fin rfl ?_)) | (refine AW.region (id := 8) ?_ <;> (try (refine Run.p rfl rfl rfl (OpP.addA rfl rfl rfl) ?_)) <;> (try (refine Run.p rfl rfl rfl (OpP.mvA rfl) ?_)) <;> (try refine Run.fin rfl ?_)))))
        ((repeat (with_reducible refine inB_n ?_)); refine thenA_n ?_)
        refine ⟨i + 1, h, by omega, ?_⟩
        refine Conv.mk [0, 1, 2] rfl rfl rfl ?_ rfl ?_
        · (repeat' (first | exact Cf.nil | exact Cv.refl | exact CvL.refl _ | exact Cv.rowf rfl rfl | exact Crs.nil | refine Cf.cons' (by (conv => lhs; whnf) <;> rfl) ?_ ?_ | refine Crs.cons ?_ rfl ?_ | exact Cr.no | refine Cr.row ?_ | refine Cr.box ?_ | exact Cv.nil | exact Cv.full | exact CvL.nil | refine CvL.cons ?_ ?_))
          (all_goals (try (first | refine CvL.eq ?_ | refine Cv.eq ?_)))
          all_goals simp [AV.ren, renL]
        · refine Crs.cons (Cr.box ?_) rfl (Crs.cons (Cr.box ?_) rfl (Crs.cons (Cr.bxs rfl) (bxs_lt' _ _) Crs.nil))
          all_goals (repeat' (first | exact Cf.nil | exact Cv.refl | exact CvL.refl _ | exact Cv.rowf rfl rfl | exact Crs.nil | refine Cf.cons' (by (conv => lhs; whnf) <;> rfl) ?_ ?_ | refine Crs.cons ?_ rfl ?_ | exact Cr.no | refine Cr.row ?_ | refine Cr.box ?_ | exact Cv.nil | exact Cv.full | exact CvL.nil | refine CvL.cons ?_ ?_))
          (all_goals (try (first | refine CvL.eq ?_ | refine Cv.eq ?_)))
          all_goals simp [AV.ren, renL]
      · (repeat' (first | refine AW.seq_k (fun K hK => ?_) | (refine hK _ ?_; clear hK) | (refine AW.condD rfl (fun hc => ?_) (fun hc => ?_) <;> try (first | (exfalso; omega) | (cases hc; done))) | refine AW.exit ?_ | (clear hK; refine hK _ ?_; clear hK) | (refine AW.region (id := 4) ?_ <;> (try (refine Run.p rfl rfl rfl (OpP.ltt rfl rfl rfl) ?_)) <;> (try refine Run.fin rfl ?_))))
        refine AW.freezeA 2 3 (chs (c0 :: mr)) (List.replicate dd2 z3) rfl rfl (chs_len3 _) ?_
        (repeat' (first | (refine hK _ ?_; clear hK) | refine AW.ret ?_ | (refine AW.region (id := 9) ?_ <;> (try (refine Run.ldNA rfl rfl rfl rfl rfl rfl rfl ?_)) <;> (try (refine Run.stA rfl rfl rfl rfl rfl ?_)) <;> (try refine Run.fin rfl ?_))))
        ((first | refine RetOk.tup rfl rfl ?_ | refine RetOk.one rfl ?_) <;> (repeat' (first | exact Cv.nil | exact Cv.rowf rfl rfl | exact RetC.nil | exact CvL.refl _ | exact Cv.refl | refine RetC.tmp (by (conv => lhs; whnf) <;> rfl) ?_ ?_ | refine RetC.cell1 rfl rfl rfl rfl ?_ ?_ | refine RetC.cellN rfl rfl rfl (by repeat constructor) ?_ ?_ | refine Cv.rowE rfl rfl ?_ | exact Cv.full | exact CvL.nil | refine CvL.cons ?_ ?_)))
end Go.Proofs.Ytbbcokckealagaa
