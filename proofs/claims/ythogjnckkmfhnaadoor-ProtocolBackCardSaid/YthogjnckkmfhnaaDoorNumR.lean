/-
  Walks of the reference's Number and Format.
-/
import Derived.Test.YthogjnckkmfhnaaDoorIto
import Derived.Test.YthogjnckkmfhnaaDoorWrd
namespace Go.Proofs.YthogjnckkmfhnaaDoor
set_option linter.unusedVariables false
set_option linter.unusedSimpArgs false
theorem wrapP (n : Int) (h : 0 ≤ n) (h1 : n ≤ 9223372036854775807) : IntKind.u64.wrap n = n := IntWalk.u64_in _ (by omega)
theorem wrapN (n : Int) (h : n < 0) (h1 : -9223372036854775808 ≤ n) : IntKind.u64.wrap (-(IntKind.u64.wrap n)) = -n := by
  have e : IntKind.u64.wrap n = n + 18446744073709551616 := by
    have : IntKind.u64.wrap n = IntKind.u64.wrap (n + 18446744073709551616) := by
      simp [IntKind.wrap, IntKind.signed, IntKind.bits]
    rw [this]; exact IntWalk.u64_in _ (by omega)
  rw [e]
  have : IntKind.u64.wrap (-(n + 18446744073709551616)) = IntKind.u64.wrap (-n) := by
    simp [IntKind.wrap, IntKind.signed, IntKind.bits]
    omega
  rw [this]; exact IntWalk.u64_in _ (by omega)
theorem rFormat_c (n : Int) (h0 : -9223372036854775808 ≤ n) (h1 : n ≤ 9223372036854775807) : ACalls Tryd.prog 50 [.v (.int .i64 n)] [] (.v (.string (bs (Lib.itoa n)))) [] := by
  obtain ⟨sg, hsg⟩ : ∃ sg : List UInt8, sg = if n < 0 then [45] else [] := ⟨_, rfl⟩
  have hl : sg.length ≤ 1 := by rw [hsg]; split <;> simp
  have hr : Lib.itoa n = sg ++ Lib.decDigits n.natAbs := by
    rw [hsg, Lib.itoa]
    split
    · rfl
    · rw [show n.toNat = n.natAbs by omega]; rfl
  have hL : (Lib.decDigits n.natAbs).length ≤ 20 := by rw [Lib.decDigits_length]; exact Lib.nDigits_le20 _ (by omega)
  generalize Lib.itoa n = r at hr
  refine (ACalls.of (fn := Tryd.f50) Tryd.func50 rfl rfl Tryd.ntmps50 (fun I M w own => ?_))
  (repeat' (first | refine AW.seq_k (fun K hK => ?_) | (refine hK _ ?_; clear hK) | (refine AW.condD rfl (fun hc => ?_) (fun hc => ?_) <;> try (first | (exfalso; omega) | (cases hc; done))) | refine AW.block ?_ | refine AW.skip ?_ | (first | (refine AW.region (id := 0) ?_ <;> (try (refine Run.p rfl rfl rfl (OpP.asA rfl) ?_)) <;> (try refine Run.fin rfl ?_)) | (refine AW.region (id := 1) ?_ <;> (try (refine Run.p rfl rfl rfl (OpP.mvA rfl) ?_)) <;> (try (refine Run.p rfl rfl rfl (OpP.convA rfl rfl) ?_)) <;> (try (refine Run.p rfl rfl rfl (OpP.asA rfl) ?_)) <;> (try (refine Run.p rfl rfl rfl (OpP.asA rfl) ?_)) <;> (try refine Run.fin rfl ?_)) | (refine AW.region (id := 2) ?_ <;> (try (refine Run.p rfl rfl rfl (OpP.mvA rfl) ?_)) <;> (try (refine Run.p rfl rfl rfl (OpP.ltt rfl rfl rfl) ?_)) <;> (try refine Run.fin rfl ?_)) | (refine AW.region (id := 3) ?_ <;> (try (refine Run.p rfl rfl rfl (OpP.mvA rfl) ?_)) <;> (try (refine Run.p rfl rfl rfl (OpP.convA rfl rfl) ?_)) <;> (try (refine Run.p rfl rfl rfl (OpP.negA rfl rfl) ?_)) <;> (try (refine Run.p rfl rfl rfl (OpP.asA rfl) ?_)) <;> (try (refine Run.p rfl rfl rfl (OpP.asA rfl) ?_)) <;> (try refine Run.fin rfl ?_)) | (refine AW.region (id := 4) ?_ <;> (try (refine Run.p rfl rfl rfl (OpP.asA rfl) ?_)) <;> (try refine Run.fin rfl ?_)))))
  all_goals
    refine AW.loopF (X := Nat × List UInt8) (fun x => ⟨[(3, .v (.int .u64 (x.1 : Int))), (4, .v (.string (bs sg))), (5, .v (.string (bs x.2)))], []⟩)
      (fun x => x.1 < 18446744073709551616 ∧ Lib.decDigits n.natAbs = Lib.decDigits x.1 ++ x.2) (fun x => x.1) (n.natAbs, []) ?_ ?_ ?_
  · refine Conv.mk [] rfl rfl rfl ?_ rfl ?_
    (repeat' (first | exact Cf.nil | exact Cv.refl | exact CvL.refl _ | exact Cv.rowf rfl rfl | exact Crs.nil | refine Cf.cons' (by (conv => lhs; whnf) <;> rfl) ?_ ?_ | refine Crs.cons ?_ rfl ?_ | exact Cr.no | refine Cr.row ?_ | refine Cr.box ?_ | exact Cv.nil | exact Cv.full | exact CvL.nil | refine CvL.cons ?_ ?_))
    (all_goals (try (first | refine CvL.eq ?_ | refine Cv.eq ?_)))
    · simp only [AV.ren, AV.v.injEq, Value.int.injEq, true_and]; rw [wrapN n (by assumption) h0]; omega
    · rw [hsg, if_pos (by assumption)]; rfl
  · exact ⟨by simp only; omega, by simp⟩
  · rintro ⟨u, s⟩ ⟨q1, q2⟩
    simp only at q1 q2 ⊢
    have hB : [[PV.v (.int .u8 (48 + (u : Int) % 10))]] = bsP [UInt8.ofNat (48 + u % 10)] := by
      have : (UInt8.ofNat (48 + u % 10)).toNat = 48 + u % 10 := by
        rw [UInt8.toNat_ofNat']; omega
      simp only [bsP, List.map_cons, List.map_nil, this]
      congr 4
    have hw : IntKind.u64.wrap ((u : Int) / 10) = ((u / 10 : Nat) : Int) := by rw [IntWalk.u64_in _ (by omega)]; omega
    have hS : s.length ≤ 20 := by rw [q2, List.length_append] at hL; omega
    (repeat' (first | refine AW.seq_k (fun K hK => ?_) | (refine hK _ ?_; clear hK) | (refine AW.condD rfl (fun hc => ?_) (fun hc => ?_) <;> try (first | (exfalso; omega) | (cases hc; done))) | refine AW.block ?_ | refine AW.ret ?_ | refine AW.skip ?_ | (first | (refine AW.region (id := 5) ?_ <;> (try (refine Run.p rfl rfl rfl (OpP.mvA rfl) ?_)) <;> (try (refine Run.p rfl rfl rfl (OpP.remN rfl rfl rfl (by omega) (by omega) rfl) ?_)) <;> (try (refine Run.p rfl rfl rfl (OpP.addA rfl rfl rfl) ?_)) <;> (try (refine Run.p rfl rfl rfl (OpP.convA rfl rfl) ?_)) <;> (try (refine Run.bsA rfl rfl rfl rfl rfl rfl ?_)) <;> (try (refine Run.ri rfl rfl rfl (OpRI.toStrA rfl) rfl ?_)) <;> (try (refine Run.p rfl rfl rfl (OpP.mvA rfl) ?_)) <;> (try (refine Run.p rfl rfl rfl (OpP.cat rfl rfl rfl (by first | omega | (simp only [List.length_append, List.length_cons, List.length_nil, List.length_map, maxLen]; omega) | (simp [maxLen]; omega) | simp [maxLen])) ?_)) <;> (try (refine Run.p rfl rfl rfl (OpP.asA rfl) ?_)) <;> (try refine Run.fin rfl ?_)) | (refine AW.region (id := 6) ?_ <;> (try (refine Run.p rfl rfl rfl (OpP.mvA rfl) ?_)) <;> (try (refine Run.p rfl rfl rfl (OpP.quoN rfl rfl rfl (by omega) (by omega) rfl) ?_)) <;> (try (refine Run.p rfl rfl rfl (OpP.asA rfl) ?_)) <;> (try refine Run.fin rfl ?_)) | (refine AW.region (id := 7) ?_ <;> (try (refine Run.p rfl rfl rfl (OpP.mvA rfl) ?_)) <;> (try (refine Run.p rfl rfl rfl (OpP.eq rfl rfl rfl) ?_)) <;> (try refine Run.fin rfl ?_)) | (refine AW.region (id := 8) ?_ <;> (try (refine Run.p rfl rfl rfl (OpP.mvA rfl) ?_)) <;> (try (refine Run.p rfl rfl rfl (OpP.mvA rfl) ?_)) <;> (try (refine Run.p rfl rfl rfl (OpP.cat rfl rfl rfl (by first | omega | (simp only [List.length_append, List.length_cons, List.length_nil, List.length_map, maxLen]; omega) | (simp [maxLen]; omega) | simp [maxLen])) ?_)) <;> (try (refine Run.p rfl rfl rfl (OpP.asA rfl) ?_)) <;> (try refine Run.fin rfl ?_)))))
    · rw [hw] at hc
      have hd : Lib.decDigits u = [UInt8.ofNat (48 + u % 10)] := by rw [Lib.decDigits, dif_pos (by omega), Nat.mod_eq_of_lt (by omega)]
      rw [hd] at q2
      obtain rfl : r = sg ++ ([UInt8.ofNat (48 + u % 10)] ++ s) := by rw [hr, q2]
      ((first | refine RetOk.tup rfl rfl ?_ | refine RetOk.one rfl ?_) <;> (repeat' (first | exact Cv.nil | exact Cv.rowf rfl rfl | exact RetC.nil | exact CvL.refl _ | exact Cv.refl | refine RetC.tmp (by (conv => lhs; whnf) <;> rfl) ?_ ?_ | refine RetC.cell1 rfl rfl rfl rfl ?_ ?_ | refine RetC.cellN rfl rfl rfl (by repeat constructor) ?_ ?_ | refine Cv.rowE rfl rfl ?_ | exact Cv.full | exact CvL.nil | refine CvL.cons ?_ ?_)))
    · rw [hw] at hc
      have hd : Lib.decDigits u = Lib.decDigits (u / 10) ++ [UInt8.ofNat (48 + u % 10)] := by rw [Lib.decDigits, dif_neg (by omega)]
      rw [hd, List.append_assoc] at q2
      ((repeat (with_reducible refine inB_n ?_)); refine thenA_n ?_)
      refine ⟨(u / 10, [UInt8.ofNat (48 + u % 10)] ++ s), ⟨by simp only; omega, q2⟩, by simp only; omega, ?_⟩
      refine Conv.mk [] rfl rfl rfl ?_ rfl ?_
      (repeat' (first | exact Cf.nil | exact Cv.refl | exact CvL.refl _ | exact Cv.rowf rfl rfl | exact Crs.nil | refine Cf.cons' (by (conv => lhs; whnf) <;> rfl) ?_ ?_ | refine Crs.cons ?_ rfl ?_ | exact Cr.no | refine Cr.row ?_ | refine Cr.box ?_ | exact Cv.nil | exact Cv.full | exact CvL.nil | refine CvL.cons ?_ ?_))
      (all_goals (try (first | refine CvL.eq ?_ | refine Cv.eq ?_)))
      all_goals (simp only [AV.ren, AV.v.injEq, Value.int.injEq, true_and]; rw [hw])
  · refine Conv.mk [] rfl rfl rfl ?_ rfl ?_
    (repeat' (first | exact Cf.nil | exact Cv.refl | exact CvL.refl _ | exact Cv.rowf rfl rfl | exact Crs.nil | refine Cf.cons' (by (conv => lhs; whnf) <;> rfl) ?_ ?_ | refine Crs.cons ?_ rfl ?_ | exact Cr.no | refine Cr.row ?_ | refine Cr.box ?_ | exact Cv.nil | exact Cv.full | exact CvL.nil | refine CvL.cons ?_ ?_))
    (all_goals (try (first | refine CvL.eq ?_ | refine Cv.eq ?_)))
    · simp only [AV.ren, AV.v.injEq, Value.int.injEq, true_and]; rw [wrapP n (by omega) h1]; omega
    · rw [hsg, if_neg (by assumption)]; rfl
  · exact ⟨by simp only; omega, by simp⟩
  · rintro ⟨u, s⟩ ⟨q1, q2⟩
    simp only at q1 q2 ⊢
    have hB : [[PV.v (.int .u8 (48 + (u : Int) % 10))]] = bsP [UInt8.ofNat (48 + u % 10)] := by
      have : (UInt8.ofNat (48 + u % 10)).toNat = 48 + u % 10 := by
        rw [UInt8.toNat_ofNat']; omega
      simp only [bsP, List.map_cons, List.map_nil, this]
      congr 4
    have hw : IntKind.u64.wrap ((u : Int) / 10) = ((u / 10 : Nat) : Int) := by rw [IntWalk.u64_in _ (by omega)]; omega
    have hS : s.length ≤ 20 := by rw [q2, List.length_append] at hL; omega
    (repeat' (first | refine AW.seq_k (fun K hK => ?_) | (refine hK _ ?_; clear hK) | (refine AW.condD rfl (fun hc => ?_) (fun hc => ?_) <;> try (first | (exfalso; omega) | (cases hc; done))) | refine AW.block ?_ | refine AW.ret ?_ | refine AW.skip ?_ | (first | (refine AW.region (id := 5) ?_ <;> (try (refine Run.p rfl rfl rfl (OpP.mvA rfl) ?_)) <;> (try (refine Run.p rfl rfl rfl (OpP.remN rfl rfl rfl (by omega) (by omega) rfl) ?_)) <;> (try (refine Run.p rfl rfl rfl (OpP.addA rfl rfl rfl) ?_)) <;> (try (refine Run.p rfl rfl rfl (OpP.convA rfl rfl) ?_)) <;> (try (refine Run.bsA rfl rfl rfl rfl rfl rfl ?_)) <;> (try (refine Run.ri rfl rfl rfl (OpRI.toStrA rfl) rfl ?_)) <;> (try (refine Run.p rfl rfl rfl (OpP.mvA rfl) ?_)) <;> (try (refine Run.p rfl rfl rfl (OpP.cat rfl rfl rfl (by first | omega | (simp only [List.length_append, List.length_cons, List.length_nil, List.length_map, maxLen]; omega) | (simp [maxLen]; omega) | simp [maxLen])) ?_)) <;> (try (refine Run.p rfl rfl rfl (OpP.asA rfl) ?_)) <;> (try refine Run.fin rfl ?_)) | (refine AW.region (id := 6) ?_ <;> (try (refine Run.p rfl rfl rfl (OpP.mvA rfl) ?_)) <;> (try (refine Run.p rfl rfl rfl (OpP.quoN rfl rfl rfl (by omega) (by omega) rfl) ?_)) <;> (try (refine Run.p rfl rfl rfl (OpP.asA rfl) ?_)) <;> (try refine Run.fin rfl ?_)) | (refine AW.region (id := 7) ?_ <;> (try (refine Run.p rfl rfl rfl (OpP.mvA rfl) ?_)) <;> (try (refine Run.p rfl rfl rfl (OpP.eq rfl rfl rfl) ?_)) <;> (try refine Run.fin rfl ?_)) | (refine AW.region (id := 8) ?_ <;> (try (refine Run.p rfl rfl rfl (OpP.mvA rfl) ?_)) <;> (try (refine Run.p rfl rfl rfl (OpP.mvA rfl) ?_)) <;> (try (refine Run.p rfl rfl rfl (OpP.cat rfl rfl rfl (by first | omega | (simp only [List.length_append, List.length_cons, List.length_nil, List.length_map, maxLen]; omega) | (simp [maxLen]; omega) | simp [maxLen])) ?_)) <;> (try (refine Run.p rfl rfl rfl (OpP.asA rfl) ?_)) <;> (try refine Run.fin rfl ?_)))))
    · rw [hw] at hc
      have hd : Lib.decDigits u = [UInt8.ofNat (48 + u % 10)] := by rw [Lib.decDigits, dif_pos (by omega), Nat.mod_eq_of_lt (by omega)]
      rw [hd] at q2
      obtain rfl : r = sg ++ ([UInt8.ofNat (48 + u % 10)] ++ s) := by rw [hr, q2]
      ((first | refine RetOk.tup rfl rfl ?_ | refine RetOk.one rfl ?_) <;> (repeat' (first | exact Cv.nil | exact Cv.rowf rfl rfl | exact RetC.nil | exact CvL.refl _ | exact Cv.refl | refine RetC.tmp (by (conv => lhs; whnf) <;> rfl) ?_ ?_ | refine RetC.cell1 rfl rfl rfl rfl ?_ ?_ | refine RetC.cellN rfl rfl rfl (by repeat constructor) ?_ ?_ | refine Cv.rowE rfl rfl ?_ | exact Cv.full | exact CvL.nil | refine CvL.cons ?_ ?_)))
    · rw [hw] at hc
      have hd : Lib.decDigits u = Lib.decDigits (u / 10) ++ [UInt8.ofNat (48 + u % 10)] := by rw [Lib.decDigits, dif_neg (by omega)]
      rw [hd, List.append_assoc] at q2
      ((repeat (with_reducible refine inB_n ?_)); refine thenA_n ?_)
      refine ⟨(u / 10, [UInt8.ofNat (48 + u % 10)] ++ s), ⟨by simp only; omega, q2⟩, by simp only; omega, ?_⟩
      refine Conv.mk [] rfl rfl rfl ?_ rfl ?_
      (repeat' (first | exact Cf.nil | exact Cv.refl | exact CvL.refl _ | exact Cv.rowf rfl rfl | exact Crs.nil | refine Cf.cons' (by (conv => lhs; whnf) <;> rfl) ?_ ?_ | refine Crs.cons ?_ rfl ?_ | exact Cr.no | refine Cr.row ?_ | refine Cr.box ?_ | exact Cv.nil | exact Cv.full | exact CvL.nil | refine CvL.cons ?_ ?_))
      (all_goals (try (first | refine CvL.eq ?_ | refine Cv.eq ?_)))
      all_goals (simp only [AV.ren, AV.v.injEq, Value.int.injEq, true_and]; rw [hw])
end Go.Proofs.YthogjnckkmfhnaaDoor
