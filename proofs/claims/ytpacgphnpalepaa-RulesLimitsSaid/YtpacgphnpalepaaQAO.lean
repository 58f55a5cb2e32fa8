/-
  Walk of the rules: the fold of a condition, by nothing: whether it is proper.
-/
import Derived.Test.YtpacgphnpalepaaQAN
import Derived.Test.YtpacgphnpalepaaTy
import Derived.Test.YtpacgphnpalepaaQAD
namespace Go.Proofs.Ytpacgphnpalepaa
set_option linter.unusedVariables false
set_option linter.unusedSimpArgs false
theorem proper1_c (k : Int) (nm : Wd) (xs : List (List PV)) (f : Bool) : ACalls Try.prog 59 [.agg [.v (.int .i64 k), .v (.string (bs nm))], .sl 0 xs f] [] (.agg []) [] := by
  refine (ACalls.of (fn := Try.f59) Try.func59 rfl rfl Try.ntmps59 (fun I M w own => ?_))
  (repeat' (first | refine AW.seq_k (fun K hK => ?_) | (refine hK _ ?_; clear hK) | refine AW.ret ?_ | (first | (refine AW.region (id := 0) ?_ <;> (try (refine Run.bxA rfl rfl rfl rfl ?_)) <;> (try (refine Run.alA rfl rfl rfl rfl ?_)) <;> (try refine Run.fin rfl ?_)) | (refine AW.region (id := 1) ?_ <;> (try (refine Run.p rfl rfl rfl (OpP.buildSA rfl) ?_)) <;> (try (refine Run.stA rfl rfl rfl rfl rfl ?_)) <;> (try refine Run.fin rfl ?_)))))
  ((first | refine RetOk.tupS [] rfl rfl rfl rfl rfl ?_ ?_ | refine RetOk.oneS [] rfl rfl rfl rfl ?_ ?_) <;> (repeat' (first | exact RetC.nil | exact CvL.refl _ | exact Crs.nil | refine RetC.cellN rfl rfl rfl (by repeat constructor) ?_ ?_)))
abbrev unP (n : Nat) : List (List PV) := List.replicate n []
def foldN : Nat → List Tm → Option Nat
  | n, [] => some n
  | n, t :: r => if badT n t = true then none else foldN (n - (arityF t.1).toNat + 1) r
def foldNE (c : List Tm) : Bool := if 16 < c.length then false else decide (foldN 0 c = some 1)
theorem foldN_c (f : Bool) (c : List Tm) (hc : c.length ≤ 1000000) (hn : ∀ t ∈ c, t.2.length ≤ 9223372036854775807) :
    ACalls Try.prog 58 [.sl 2 (tmP c) f, .fn 59 []] [] (.tup [.agg [], .v (.bool (foldNE c))]) [] := by
  generalize hR : foldNE c = R
  rw [foldNE] at hR
  have hcl : (tmP c).length = c.length := by simp
  refine (ACalls.of (fn := Try.f58) Try.func58 rfl rfl Try.ntmps58 (fun I M w own => ?_))
  by_cases hb : 16 < c.length
  · rw [if_pos hb] at hR
    subst hR
    (repeat' (first | refine AW.seq_k (fun K hK => ?_) | (refine hK _ ?_; clear hK) | (refine AW.condD rfl (fun hc => ?_) (fun hc => ?_) <;> try (first | (exfalso; omega) | (cases hc; done))) | refine AW.ret ?_ | (first | (refine AW.region (id := 0) ?_ <;> (try (refine Run.alA rfl rfl rfl rfl ?_)) <;> (try (refine Run.p rfl rfl rfl (OpP.asA rfl) ?_)) <;> (try refine Run.fin rfl ?_)) | (refine AW.region (id := 1) ?_ <;> (try (refine Run.alA rfl rfl rfl rfl ?_)) <;> (try refine Run.fin rfl ?_)) | (refine AW.region (id := 2) ?_ <;> (try (refine Run.p rfl rfl rfl (OpP.asA rfl) ?_)) <;> (try refine Run.fin rfl ?_)) | (refine AW.region (id := 3) ?_ <;> (try (refine Run.p rfl rfl rfl (OpP.mvA rfl) ?_)) <;> (try (refine Run.ri rfl rfl rfl (OpRI.lenA rfl rfl) rfl ?_)) <;> (try (refine Run.p rfl rfl rfl (OpP.gtt rfl rfl rfl) ?_)) <;> (try refine Run.fin rfl ?_)) | (refine AW.region (id := 4) ?_ <;> (try (refine Run.ldNA rfl rfl rfl rfl rfl rfl rfl ?_)) <;> (try (refine Run.stA rfl rfl rfl rfl rfl ?_)) <;> (try (refine Run.p rfl rfl rfl (OpP.asA rfl) ?_)) <;> (try refine Run.fin rfl ?_)))))
    all_goals first | (exfalso; simp only [List.length_map] at *; omega) | skip
    ((first | refine RetOk.tupS [] rfl rfl rfl rfl rfl ?_ ?_ | refine RetOk.oneS [] rfl rfl rfl rfl ?_ ?_) <;> (repeat' (first | exact RetC.nil | exact CvL.refl _ | exact Cv.refl | exact Crs.nil | refine RetC.tmp (by (conv => lhs; whnf) <;> rfl) ?_ ?_ | refine RetC.cellN rfl rfl rfl (by repeat constructor) ?_ ?_)))
  rw [if_neg hb] at hR
  (repeat' (first | refine AW.seq_k (fun K hK => ?_) | (refine hK _ ?_; clear hK) | (refine AW.condD rfl (fun hc => ?_) (fun hc => ?_) <;> try (first | (exfalso; omega) | (cases hc; done))) | refine AW.block ?_ | refine AW.skip ?_ | (first | (refine AW.region (id := 0) ?_ <;> (try (refine Run.alA rfl rfl rfl rfl ?_)) <;> (try (refine Run.p rfl rfl rfl (OpP.asA rfl) ?_)) <;> (try refine Run.fin rfl ?_)) | (refine AW.region (id := 1) ?_ <;> (try (refine Run.alA rfl rfl rfl rfl ?_)) <;> (try refine Run.fin rfl ?_)) | (refine AW.region (id := 2) ?_ <;> (try (refine Run.p rfl rfl rfl (OpP.asA rfl) ?_)) <;> (try refine Run.fin rfl ?_)) | (refine AW.region (id := 3) ?_ <;> (try (refine Run.p rfl rfl rfl (OpP.mvA rfl) ?_)) <;> (try (refine Run.ri rfl rfl rfl (OpRI.lenA rfl rfl) rfl ?_)) <;> (try (refine Run.p rfl rfl rfl (OpP.gtt rfl rfl rfl) ?_)) <;> (try refine Run.fin rfl ?_)) | (refine AW.region (id := 5) ?_ <;> (try (refine Run.p rfl rfl rfl (OpP.mvA rfl) ?_)) <;> (try (refine Run.ri rfl rfl rfl (OpRI.lenA rfl rfl) rfl ?_)) <;> (try (refine Run.p rfl rfl rfl (OpP.mvA rfl) ?_)) <;> (try refine Run.fin rfl ?_)))))
  all_goals first | (exfalso; simp only [List.length_map] at *; omega) | skip
  refine AW.loopF (X := Nat × Nat) (fun x => ⟨[(0, .sl 2 (tmP c) f), (1, .fn 59 []), (4, .ptr 0 0), (6, .ptr 1 0), (7, .sl 0 (unP x.2) false), (16, .sl 2 (tmP c) f), (17, .v (.int .i64 ((tmP c).length : Int))), (18, .v (.int .i64 (x.1 : Int)))], [.box [], .box []]⟩)
    (fun x => x.1 ≤ c.length ∧ x.2 ≤ x.1 ∧ foldN 0 c = foldN x.2 (c.drop x.1)) (fun x => c.length - x.1) (0, 0) ?_ ?_ ?_
  · refine Conv.mk [0, 1] rfl rfl rfl ?_ rfl ?_
    · (repeat' (first | exact Cf.nil | exact Cv.refl | refine Cf.cons' (by (conv => lhs; whnf) <;> rfl) ?_ ?_ | exact Cv.nil))
      all_goals first | rfl | exact Cv.slN _ | skip
    · (repeat' (first | exact CvL.refl _ | exact Crs.nil | refine Crs.cons ?_ rfl ?_ | refine Cr.box ?_))
  · exact ⟨Nat.zero_le _, Nat.le_refl _, rfl⟩
  rintro ⟨j, st⟩ ⟨h1, h2, h3⟩
  simp only at h1 h2 h3 ⊢
  rcases Nat.lt_or_ge j c.length with h | h
  · obtain ⟨t, ht⟩ : ∃ t, c[j]? = some t := ⟨c[j], by simp [h]⟩
    have hdr : c.drop j = t :: c.drop (j + 1) := by
      rw [List.drop_eq_getElem_cons h]
      congr 1
      simpa [h] using ht
    rw [hdr, foldN] at h3
    have htm : t ∈ c := List.mem_of_getElem? ht
    have hnl := hn t htm
    have hA : At (tmP c) (j : Int) [PV.v (.int .i64 t.1), PV.v (.string (bs t.2))] := At.mk j rfl (by simp [ht])
    have har := arity_c t.1
    have hna := Name_c t.2 hnl
    have hsl : (unP st).length = st := by simp
    obtain ⟨k, nm⟩ := t
    simp only at h3 hnl hA har hna
    generalize hak : arityF k = ar at har h3
    by_cases hneg : ar < 0
    · have hbad : badT st (k, nm) = true := by simp [badT, hak, hneg]
      rw [if_pos hbad] at h3
      (repeat' (first | refine AW.seq_k (fun K hK => ?_) | (refine hK _ ?_; clear hK) | (refine AW.condD rfl (fun hc => ?_) (fun hc => ?_) <;> try (first | (exfalso; omega) | (cases hc; done))) | refine AW.block ?_ | refine AW.skip ?_ | (first | (refine AW.region (id := 6) ?_ <;> (try (refine Run.p rfl rfl rfl (OpP.ltt rfl rfl rfl) ?_)) <;> (try refine Run.fin rfl ?_)) | (refine AW.region (id := 7) ?_ <;> (try (refine Run.ri rfl rfl rfl (OpRI.indexAddrA rfl rfl) rfl ?_)) <;> (try (refine Run.p rfl rfl rfl (OpP.loadES rfl rfl rfl (by repeat constructor)) ?_)) <;> (try (refine Run.alA rfl rfl rfl rfl ?_)) <;> (try (refine Run.stA rfl rfl rfl rfl rfl ?_)) <;> (try refine Run.fin rfl ?_)) | (refine AW.region (id := 8) ?_ <;> (try (refine Run.p rfl rfl rfl (OpP.fieldAddrA rfl rfl) ?_)) <;> (try (refine Run.ld1 rfl rfl rfl rfl rfl rfl rfl rfl ?_)) <;> (try (refine Run.c0 har rfl rfl rfl rfl rfl rfl rfl rfl ?_)) <;> (try (refine Run.p rfl rfl rfl (OpP.asA rfl) ?_)) <;> (try refine Run.fin rfl ?_)))))
      have e1 : decide (ar < 0) = true := by simp [hneg]
      refine AW.region (id := 9) ?_
      (skip <;> (try (refine Run.p rfl rfl rfl (OpP.mvA rfl) ?_)) <;> (try (refine Run.p rfl rfl rfl (OpP.ltt rfl rfl rfl) ?_)) <;> (try (refine Run.p rfl rfl rfl (OpP.mvA rfl) ?_)))
      rw [e1]
      (skip <;> (try (refine Run.sk rfl rfl rfl ?_)) <;> (try (refine Run.sk rfl rfl rfl ?_)) <;> (try (refine Run.sk rfl rfl rfl ?_)) <;> (try (refine Run.sk rfl rfl rfl ?_)) <;> (try (refine Run.p rfl rfl rfl (OpP.pickA rfl rfl) ?_)) <;> (try (refine Run.p rfl rfl rfl (OpP.mvA rfl) ?_)) <;> (try (refine Run.sk rfl rfl rfl ?_)) <;> (try (refine Run.sk rfl rfl rfl ?_)) <;> (try (refine Run.sk rfl rfl rfl ?_)) <;> (try (refine Run.sk rfl rfl rfl ?_)) <;> (try (refine Run.sk rfl rfl rfl ?_)) <;> (try (refine Run.sk rfl rfl rfl ?_)) <;> (try (refine Run.sk rfl rfl rfl ?_)) <;> (try (refine Run.sk rfl rfl rfl ?_)) <;> (try (refine Run.p rfl rfl rfl (OpP.pickA rfl rfl) ?_)) <;> (try (refine Run.p rfl rfl rfl (OpP.mvA rfl) ?_)) <;> (try (refine Run.sk rfl rfl rfl ?_)) <;> (try (refine Run.sk rfl rfl rfl ?_)) <;> (try (refine Run.sk rfl rfl rfl ?_)) <;> (try (refine Run.sk rfl rfl rfl ?_)) <;> (try (refine Run.sk rfl rfl rfl ?_)) <;> (try (refine Run.sk rfl rfl rfl ?_)) <;> (try (refine Run.sk rfl rfl rfl ?_)) <;> (try (refine Run.p rfl rfl rfl (OpP.pickA rfl rfl) ?_)))
      refine Run.fin rfl ?_
      refine hK _ ?_
      clear hK
      (repeat' (first | refine AW.seq_k (fun K hK => ?_) | (refine hK _ ?_; clear hK) | (refine AW.cond rfl (fun hc => ?_) (fun hc => ?_) <;> (try simp only [Bool.and_eq_true, Bool.or_eq_true, Bool.not_eq_true', Bool.not_eq_false', Bool.and_eq_false_iff, Bool.or_eq_false_iff, Bool.and_eq_false_imp, decide_eq_true_eq, decide_eq_false_iff_not, Decidable.not_not, Int.not_lt, Int.not_le, ne_eq, Bool.not_not] at hc) <;> try (first | (exfalso; omega) | (cases hc; done))) | refine AW.ret ?_ | (refine AW.region (id := 10) ?_ <;> (try (refine Run.ldNA rfl rfl rfl rfl rfl rfl rfl ?_)) <;> (try (refine Run.stA rfl rfl rfl rfl rfl ?_)) <;> (try (refine Run.p rfl rfl rfl (OpP.asA rfl) ?_)) <;> (try refine Run.fin rfl ?_))))
      rw [h3] at hR
      obtain rfl : false = R := by rw [← hR]; rfl
      ((first | refine RetOk.tupS [] rfl rfl rfl rfl rfl ?_ ?_ | refine RetOk.oneS [] rfl rfl rfl rfl ?_ ?_) <;> (repeat' (first | exact RetC.nil | exact CvL.refl _ | exact Cv.refl | exact Crs.nil | refine RetC.tmp (by (conv => lhs; whnf) <;> rfl) ?_ ?_ | refine RetC.cellN rfl rfl rfl (by repeat constructor) ?_ ?_)))
    have e1 : decide (ar < 0) = false := by simp; omega
    by_cases hlt : (st : Int) < ar
    · have hbad : badT st (k, nm) = true := by simp [badT, hak, hlt]
      rw [if_pos hbad] at h3
      have e2 : decide (((unP st).length : Int) < ar) = true := by simp [hlt]
      (repeat' (first | refine AW.seq_k (fun K hK => ?_) | (refine hK _ ?_; clear hK) | (refine AW.condD rfl (fun hc => ?_) (fun hc => ?_) <;> try (first | (exfalso; omega) | (cases hc; done))) | refine AW.block ?_ | refine AW.skip ?_ | (first | (refine AW.region (id := 6) ?_ <;> (try (refine Run.p rfl rfl rfl (OpP.ltt rfl rfl rfl) ?_)) <;> (try refine Run.fin rfl ?_)) | (refine AW.region (id := 7) ?_ <;> (try (refine Run.ri rfl rfl rfl (OpRI.indexAddrA rfl rfl) rfl ?_)) <;> (try (refine Run.p rfl rfl rfl (OpP.loadES rfl rfl rfl (by repeat constructor)) ?_)) <;> (try (refine Run.alA rfl rfl rfl rfl ?_)) <;> (try (refine Run.stA rfl rfl rfl rfl rfl ?_)) <;> (try refine Run.fin rfl ?_)) | (refine AW.region (id := 8) ?_ <;> (try (refine Run.p rfl rfl rfl (OpP.fieldAddrA rfl rfl) ?_)) <;> (try (refine Run.ld1 rfl rfl rfl rfl rfl rfl rfl rfl ?_)) <;> (try (refine Run.c0 har rfl rfl rfl rfl rfl rfl rfl rfl ?_)) <;> (try (refine Run.p rfl rfl rfl (OpP.asA rfl) ?_)) <;> (try refine Run.fin rfl ?_)))))
      refine AW.region (id := 9) ?_
      (skip <;> (try (refine Run.p rfl rfl rfl (OpP.mvA rfl) ?_)) <;> (try (refine Run.p rfl rfl rfl (OpP.ltt rfl rfl rfl) ?_)) <;> (try (refine Run.p rfl rfl rfl (OpP.mvA rfl) ?_)))
      rw [e1]
      (skip <;> (try (refine Run.p rfl rfl rfl (OpP.mvA rfl) ?_)) <;> (try (refine Run.ri rfl rfl rfl (OpRI.lenA rfl rfl) rfl ?_)) <;> (try (refine Run.p rfl rfl rfl (OpP.mvA rfl) ?_)) <;> (try (refine Run.p rfl rfl rfl (OpP.ltt rfl rfl rfl) ?_)) <;> (try (refine Run.p rfl rfl rfl (OpP.pickA rfl rfl) ?_)) <;> (try (refine Run.p rfl rfl rfl (OpP.mvA rfl) ?_)))
      rw [e2]
      (skip <;> (try (refine Run.sk rfl rfl rfl ?_)) <;> (try (refine Run.sk rfl rfl rfl ?_)) <;> (try (refine Run.sk rfl rfl rfl ?_)) <;> (try (refine Run.sk rfl rfl rfl ?_)) <;> (try (refine Run.sk rfl rfl rfl ?_)) <;> (try (refine Run.sk rfl rfl rfl ?_)) <;> (try (refine Run.sk rfl rfl rfl ?_)) <;> (try (refine Run.sk rfl rfl rfl ?_)) <;> (try (refine Run.p rfl rfl rfl (OpP.pickA rfl rfl) ?_)) <;> (try (refine Run.p rfl rfl rfl (OpP.mvA rfl) ?_)) <;> (try (refine Run.sk rfl rfl rfl ?_)) <;> (try (refine Run.sk rfl rfl rfl ?_)) <;> (try (refine Run.sk rfl rfl rfl ?_)) <;> (try (refine Run.sk rfl rfl rfl ?_)) <;> (try (refine Run.sk rfl rfl rfl ?_)) <;> (try (refine Run.sk rfl rfl rfl ?_)) <;> (try (refine Run.sk rfl rfl rfl ?_)) <;> (try (refine Run.p rfl rfl rfl (OpP.pickA rfl rfl) ?_)))
      refine Run.fin rfl ?_
      refine hK _ ?_
      clear hK
      (repeat' (first | refine AW.seq_k (fun K hK => ?_) | (refine hK _ ?_; clear hK) | (refine AW.cond rfl (fun hc => ?_) (fun hc => ?_) <;> (try simp only [Bool.and_eq_true, Bool.or_eq_true, Bool.not_eq_true', Bool.not_eq_false', Bool.and_eq_false_iff, Bool.or_eq_false_iff, Bool.and_eq_false_imp, decide_eq_true_eq, decide_eq_false_iff_not, Decidable.not_not, Int.not_lt, Int.not_le, ne_eq, Bool.not_not] at hc) <;> try (first | (exfalso; omega) | (cases hc; done))) | refine AW.ret ?_ | (refine AW.region (id := 10) ?_ <;> (try (refine Run.ldNA rfl rfl rfl rfl rfl rfl rfl ?_)) <;> (try (refine Run.stA rfl rfl rfl rfl rfl ?_)) <;> (try (refine Run.p rfl rfl rfl (OpP.asA rfl) ?_)) <;> (try refine Run.fin rfl ?_))))
      rw [h3] at hR
      obtain rfl : false = R := by rw [← hR]; rfl
      ((first | refine RetOk.tupS [] rfl rfl rfl rfl rfl ?_ ?_ | refine RetOk.oneS [] rfl rfl rfl rfl ?_ ?_) <;> (repeat' (first | exact RetC.nil | exact CvL.refl _ | exact Cv.refl | exact Crs.nil | refine RetC.tmp (by (conv => lhs; whnf) <;> rfl) ?_ ?_ | refine RetC.cellN rfl rfl rfl (by repeat constructor) ?_ ?_)))
    have e2 : decide (((unP st).length : Int) < ar) = false := by simp; omega
    have h0r : 0 ≤ ar := by omega
    have hlr : ar ≤ st := by omega
    have e5 : ((((unP st).length : Nat) : Int) - ar).toNat = st - ar.toNat := by rw [hsl]; omega
    have hcall : ACalls Try.prog 59 [.agg [.v (.int .i64 k), .v (.string (bs nm))], .sl 0 ((unP st).drop ((((unP st).length : Nat) : Int) - ar).toNat) false] [] (.agg []) [] := proper1_c k nm _ false
    have hbl : (unP st).take ((((unP st).length : Nat) : Int) - ar).toNat ++ [[]] = unP (st - ar.toNat + 1) := by
      rw [e5, List.take_replicate, show min (st - ar.toNat) st = st - ar.toNat by omega]
      exact List.replicate_succ'.symm
    have hnl2 : st - ar.toNat + 1 ≤ j + 1 := by omega
    by_cases hz : ar = 0
    · have e3 : decide (ar = 0) = true := by simp [hz]
      cases hnb : nameB nm with
      | false =>
        have hbad : badT st (k, nm) = true := by simp [badT, hak, hz, hnb]
        rw [if_pos hbad] at h3
        rw [hnb] at hna
        (repeat' (first | refine AW.seq_k (fun K hK => ?_) | (refine hK _ ?_; clear hK) | (refine AW.condD rfl (fun hc => ?_) (fun hc => ?_) <;> try (first | (exfalso; omega) | (cases hc; done))) | refine AW.block ?_ | refine AW.skip ?_ | (first | (refine AW.region (id := 6) ?_ <;> (try (refine Run.p rfl rfl rfl (OpP.ltt rfl rfl rfl) ?_)) <;> (try refine Run.fin rfl ?_)) | (refine AW.region (id := 7) ?_ <;> (try (refine Run.ri rfl rfl rfl (OpRI.indexAddrA rfl rfl) rfl ?_)) <;> (try (refine Run.p rfl rfl rfl (OpP.loadES rfl rfl rfl (by repeat constructor)) ?_)) <;> (try (refine Run.alA rfl rfl rfl rfl ?_)) <;> (try (refine Run.stA rfl rfl rfl rfl rfl ?_)) <;> (try refine Run.fin rfl ?_)) | (refine AW.region (id := 8) ?_ <;> (try (refine Run.p rfl rfl rfl (OpP.fieldAddrA rfl rfl) ?_)) <;> (try (refine Run.ld1 rfl rfl rfl rfl rfl rfl rfl rfl ?_)) <;> (try (refine Run.c0 har rfl rfl rfl rfl rfl rfl rfl rfl ?_)) <;> (try (refine Run.p rfl rfl rfl (OpP.asA rfl) ?_)) <;> (try refine Run.fin rfl ?_)))))
        refine AW.region (id := 9) ?_
        (skip <;> (try (refine Run.p rfl rfl rfl (OpP.mvA rfl) ?_)) <;> (try (refine Run.p rfl rfl rfl (OpP.ltt rfl rfl rfl) ?_)) <;> (try (refine Run.p rfl rfl rfl (OpP.mvA rfl) ?_)))
        rw [e1]
        (skip <;> (try (refine Run.p rfl rfl rfl (OpP.mvA rfl) ?_)) <;> (try (refine Run.ri rfl rfl rfl (OpRI.lenA rfl rfl) rfl ?_)) <;> (try (refine Run.p rfl rfl rfl (OpP.mvA rfl) ?_)) <;> (try (refine Run.p rfl rfl rfl (OpP.ltt rfl rfl rfl) ?_)) <;> (try (refine Run.p rfl rfl rfl (OpP.pickA rfl rfl) ?_)) <;> (try (refine Run.p rfl rfl rfl (OpP.mvA rfl) ?_)))
        rw [e2]
        (skip <;> (try (refine Run.p rfl rfl rfl (OpP.mvA rfl) ?_)) <;> (try (refine Run.p rfl rfl rfl (OpP.eq rfl rfl rfl) ?_)) <;> (try (refine Run.p rfl rfl rfl (OpP.mvA rfl) ?_)) <;> (try (refine Run.gpc (by first | exact Gd.t rfl rfl rfl rfl | exact Gd.t2 rfl rfl rfl rfl) rfl rfl (fun hg => ⟨OpP.fieldAddrA rfl rfl, (by repeat (first | exact trivial | assumption | refine ⟨?_, ?_⟩))⟩) ?_)))
        rw [e3]
        (skip <;> (try (refine Run.glcA (by first | exact Gd.t rfl rfl rfl rfl | exact Gd.t2 rfl rfl rfl rfl) rfl rfl rfl rfl rfl rfl rfl ?_)) <;> (try (refine Run.gccA (fun hg => hna) (by first | exact Gd.t rfl rfl rfl rfl | exact Gd.t2 rfl rfl rfl rfl) rfl rfl rfl rfl rfl rfl rfl ?_)) <;> (try (refine Run.gpc (by first | exact Gd.t rfl rfl rfl rfl | exact Gd.t2 rfl rfl rfl rfl) rfl rfl (fun hg => ⟨OpP.not rfl rfl, (by repeat (first | exact trivial | assumption | refine ⟨?_, ?_⟩))⟩) ?_)) <;> (try (refine Run.p rfl rfl rfl (OpP.pickAnd rfl rfl rfl rfl) ?_)) <;> (try (refine Run.p rfl rfl rfl (OpP.pickA rfl rfl) ?_)) <;> (try (refine Run.p rfl rfl rfl (OpP.mvA rfl) ?_)) <;> (try (refine Run.sk rfl rfl rfl ?_)) <;> (try (refine Run.sk rfl rfl rfl ?_)) <;> (try (refine Run.sk rfl rfl rfl ?_)) <;> (try (refine Run.sk rfl rfl rfl ?_)) <;> (try (refine Run.sk rfl rfl rfl ?_)) <;> (try (refine Run.sk rfl rfl rfl ?_)) <;> (try (refine Run.sk rfl rfl rfl ?_)) <;> (try (refine Run.p rfl rfl rfl (OpP.pickA rfl rfl) ?_)))
        refine Run.fin rfl ?_
        refine hK _ ?_
        clear hK
        (repeat' (first | refine AW.seq_k (fun K hK => ?_) | (refine hK _ ?_; clear hK) | (refine AW.cond rfl (fun hc => ?_) (fun hc => ?_) <;> (try simp only [Bool.and_eq_true, Bool.or_eq_true, Bool.not_eq_true', Bool.not_eq_false', Bool.and_eq_false_iff, Bool.or_eq_false_iff, Bool.and_eq_false_imp, decide_eq_true_eq, decide_eq_false_iff_not, Decidable.not_not, Int.not_lt, Int.not_le, ne_eq, Bool.not_not] at hc) <;> try (first | (exfalso; omega) | (cases hc; done))) | refine AW.ret ?_ | (refine AW.region (id := 10) ?_ <;> (try (refine Run.ldNA rfl rfl rfl rfl rfl rfl rfl ?_)) <;> (try (refine Run.stA rfl rfl rfl rfl rfl ?_)) <;> (try (refine Run.p rfl rfl rfl (OpP.asA rfl) ?_)) <;> (try refine Run.fin rfl ?_))))
        rw [h3] at hR
        obtain rfl : false = R := by rw [← hR]; rfl
        ((first | refine RetOk.tupS [] rfl rfl rfl rfl rfl ?_ ?_ | refine RetOk.oneS [] rfl rfl rfl rfl ?_ ?_) <;> (repeat' (first | exact RetC.nil | exact CvL.refl _ | exact Cv.refl | exact Crs.nil | refine RetC.tmp (by (conv => lhs; whnf) <;> rfl) ?_ ?_ | refine RetC.cellN rfl rfl rfl (by repeat constructor) ?_ ?_)))
      | true =>
        have hbad : ¬ badT st (k, nm) = true := by simp [badT, hak, hz, hnb]
        rw [if_neg hbad] at h3
        rw [hnb] at hna
        have e4 : decide (0 < ar) = false := by simp [hz]
        (repeat' (first | refine AW.seq_k (fun K hK => ?_) | (refine hK _ ?_; clear hK) | (refine AW.condD rfl (fun hc => ?_) (fun hc => ?_) <;> try (first | (exfalso; omega) | (cases hc; done))) | refine AW.block ?_ | refine AW.skip ?_ | (first | (refine AW.region (id := 6) ?_ <;> (try (refine Run.p rfl rfl rfl (OpP.ltt rfl rfl rfl) ?_)) <;> (try refine Run.fin rfl ?_)) | (refine AW.region (id := 7) ?_ <;> (try (refine Run.ri rfl rfl rfl (OpRI.indexAddrA rfl rfl) rfl ?_)) <;> (try (refine Run.p rfl rfl rfl (OpP.loadES rfl rfl rfl (by repeat constructor)) ?_)) <;> (try (refine Run.alA rfl rfl rfl rfl ?_)) <;> (try (refine Run.stA rfl rfl rfl rfl rfl ?_)) <;> (try refine Run.fin rfl ?_)) | (refine AW.region (id := 8) ?_ <;> (try (refine Run.p rfl rfl rfl (OpP.fieldAddrA rfl rfl) ?_)) <;> (try (refine Run.ld1 rfl rfl rfl rfl rfl rfl rfl rfl ?_)) <;> (try (refine Run.c0 har rfl rfl rfl rfl rfl rfl rfl rfl ?_)) <;> (try (refine Run.p rfl rfl rfl (OpP.asA rfl) ?_)) <;> (try refine Run.fin rfl ?_)))))
        refine AW.region (id := 9) ?_
        (skip <;> (try (refine Run.p rfl rfl rfl (OpP.mvA rfl) ?_)) <;> (try (refine Run.p rfl rfl rfl (OpP.ltt rfl rfl rfl) ?_)) <;> (try (refine Run.p rfl rfl rfl (OpP.mvA rfl) ?_)))
        rw [e1]
        (skip <;> (try (refine Run.p rfl rfl rfl (OpP.mvA rfl) ?_)) <;> (try (refine Run.ri rfl rfl rfl (OpRI.lenA rfl rfl) rfl ?_)) <;> (try (refine Run.p rfl rfl rfl (OpP.mvA rfl) ?_)) <;> (try (refine Run.p rfl rfl rfl (OpP.ltt rfl rfl rfl) ?_)) <;> (try (refine Run.p rfl rfl rfl (OpP.pickA rfl rfl) ?_)) <;> (try (refine Run.p rfl rfl rfl (OpP.mvA rfl) ?_)))
        rw [e2]
        (skip <;> (try (refine Run.p rfl rfl rfl (OpP.mvA rfl) ?_)) <;> (try (refine Run.p rfl rfl rfl (OpP.eq rfl rfl rfl) ?_)) <;> (try (refine Run.p rfl rfl rfl (OpP.mvA rfl) ?_)) <;> (try (refine Run.gpc (by first | exact Gd.t rfl rfl rfl rfl | exact Gd.t2 rfl rfl rfl rfl) rfl rfl (fun hg => ⟨OpP.fieldAddrA rfl rfl, (by repeat (first | exact trivial | assumption | refine ⟨?_, ?_⟩))⟩) ?_)))
        rw [e3]
        (skip <;> (try (refine Run.glcA (by first | exact Gd.t rfl rfl rfl rfl | exact Gd.t2 rfl rfl rfl rfl) rfl rfl rfl rfl rfl rfl rfl ?_)) <;> (try (refine Run.gccA (fun hg => hna) (by first | exact Gd.t rfl rfl rfl rfl | exact Gd.t2 rfl rfl rfl rfl) rfl rfl rfl rfl rfl rfl rfl ?_)) <;> (try (refine Run.gpc (by first | exact Gd.t rfl rfl rfl rfl | exact Gd.t2 rfl rfl rfl rfl) rfl rfl (fun hg => ⟨OpP.not rfl rfl, (by repeat (first | exact trivial | assumption | refine ⟨?_, ?_⟩))⟩) ?_)) <;> (try (refine Run.p rfl rfl rfl (OpP.pickAnd rfl rfl rfl rfl) ?_)) <;> (try (refine Run.p rfl rfl rfl (OpP.pickA rfl rfl) ?_)) <;> (try (refine Run.p rfl rfl rfl (OpP.mvA rfl) ?_)) <;> (try (refine Run.p rfl rfl rfl (OpP.mvA rfl) ?_)) <;> (try (refine Run.p rfl rfl rfl (OpP.gtt rfl rfl rfl) ?_)))
        rw [e4]
        (skip <;> (try (refine Run.p rfl rfl rfl (OpP.mvA rfl) ?_)) <;> (try (refine Run.sk rfl rfl rfl ?_)) <;> (try (refine Run.sk rfl rfl rfl ?_)) <;> (try (refine Run.sk rfl rfl rfl ?_)) <;> (try (refine Run.p rfl rfl rfl (OpP.pickA rfl rfl) ?_)) <;> (try (refine Run.p rfl rfl rfl (OpP.pickA rfl rfl) ?_)))
        refine Run.fin rfl ?_
        refine hK _ ?_
        clear hK
        (repeat' (first | refine AW.seq_k (fun K hK => ?_) | (refine hK _ ?_; clear hK) | (refine AW.cond rfl (fun hc => ?_) (fun hc => ?_) <;> (try simp only [Bool.and_eq_true, Bool.or_eq_true, Bool.not_eq_true', Bool.not_eq_false', Bool.and_eq_false_iff, Bool.or_eq_false_iff, Bool.and_eq_false_imp, decide_eq_true_eq, decide_eq_false_iff_not, Decidable.not_not, Int.not_lt, Int.not_le, ne_eq, Bool.not_not] at hc) <;> try (first | (exfalso; omega) | (cases hc; done))) | refine AW.skip ?_ | (first | (refine AW.region (id := 11) ?_ <;> (try (refine Run.p rfl rfl rfl (OpP.mvA rfl) ?_)) <;> (try (refine Run.ri rfl rfl rfl (OpRI.lenA rfl rfl) rfl ?_)) <;> (try (refine Run.p rfl rfl rfl (OpP.mvA rfl) ?_)) <;> (try (refine Run.p rfl rfl rfl (OpP.subA rfl rfl rfl) ?_)) <;> (try (refine Run.p rfl rfl rfl (OpP.asA rfl) ?_)) <;> (try refine Run.fin rfl ?_)) | (refine AW.draw (id := 12) (by kernel_rfl) ?_ <;> (try (refine Run.p rfl rfl rfl (OpP.mvA rfl) ?_)) <;> (try (refine Run.p rfl rfl rfl (OpP.mvA rfl) ?_)) <;> (try (refine Run.p rfl rfl rfl (OpP.mvA rfl) ?_)) <;> (try (refine Run.ri rfl rfl rfl (OpRI.slice3hA rfl rfl rfl rfl) rfl ?_)) <;> (try (refine Run.p rfl rfl rfl (OpP.mvA rfl) ?_)) <;> (try (refine Run.ldNA rfl rfl rfl rfl rfl rfl rfl ?_)) <;> (try (refine Run.p rfl rfl rfl (OpP.mvA rfl) ?_)) <;> (try (refine Run.p rfl rfl rfl (OpP.mvA rfl) ?_)) <;> (try (refine Run.ri rfl rfl rfl (OpRI.sliceLA rfl rfl rfl) rfl ?_)) <;> (try (refine Run.c0 hcall rfl rfl rfl rfl rfl rfl rfl rfl ?_)) <;> (try (refine Run.bsA rfl rfl rfl rfl rfl rfl ?_)) <;> (try (refine Run.apFA rfl rfl rfl rfl rfl rfl ?_)) <;> (try (refine Run.p rfl rfl rfl (OpP.asA rfl) ?_)) <;> (try refine Run.fin (by kernel_rfl) ?_)) | (refine AW.region (id := 13) ?_ <;> (try (refine Run.p rfl rfl rfl (OpP.addA rfl rfl rfl) ?_)) <;> (try (refine Run.p rfl rfl rfl (OpP.mvA rfl) ?_)) <;> (try refine Run.fin rfl ?_)))))
        rw [hbl]
        ((repeat (with_reducible refine inB_n ?_)); refine thenA_n ?_)
        refine ⟨(j + 1, st - ar.toNat + 1), ⟨h, hnl2, h3⟩, by omega, ?_⟩
        refine Conv.mk [0, 1] rfl rfl rfl ?_ rfl ?_
        · (repeat' (first | exact Cf.nil | exact Cv.refl | exact Cv.rowf rfl rfl | refine Cf.cons' (by (conv => lhs; whnf) <;> rfl) ?_ ?_))
        · (repeat' (first | exact CvL.refl _ | exact Crs.nil | refine Crs.cons ?_ rfl ?_ | refine Cr.box ?_))
    · have e3 : decide (ar = 0) = false := by simp [hz]
      have e4 : decide (0 < ar) = true := by simp; omega
      by_cases hnn : nm = []
      · have hbad : ¬ badT st (k, nm) = true := by simp [badT, hak, hz, hnn]; omega
        rw [if_neg hbad] at h3
        subst hnn
        have e6 : decide (([] : List UInt8) ≠ []) = false := by simp
        (repeat' (first | refine AW.seq_k (fun K hK => ?_) | (refine hK _ ?_; clear hK) | (refine AW.condD rfl (fun hc => ?_) (fun hc => ?_) <;> try (first | (exfalso; omega) | (cases hc; done))) | refine AW.block ?_ | refine AW.skip ?_ | (first | (refine AW.region (id := 6) ?_ <;> (try (refine Run.p rfl rfl rfl (OpP.ltt rfl rfl rfl) ?_)) <;> (try refine Run.fin rfl ?_)) | (refine AW.region (id := 7) ?_ <;> (try (refine Run.ri rfl rfl rfl (OpRI.indexAddrA rfl rfl) rfl ?_)) <;> (try (refine Run.p rfl rfl rfl (OpP.loadES rfl rfl rfl (by repeat constructor)) ?_)) <;> (try (refine Run.alA rfl rfl rfl rfl ?_)) <;> (try (refine Run.stA rfl rfl rfl rfl rfl ?_)) <;> (try refine Run.fin rfl ?_)) | (refine AW.region (id := 8) ?_ <;> (try (refine Run.p rfl rfl rfl (OpP.fieldAddrA rfl rfl) ?_)) <;> (try (refine Run.ld1 rfl rfl rfl rfl rfl rfl rfl rfl ?_)) <;> (try (refine Run.c0 har rfl rfl rfl rfl rfl rfl rfl rfl ?_)) <;> (try (refine Run.p rfl rfl rfl (OpP.asA rfl) ?_)) <;> (try refine Run.fin rfl ?_)))))
        refine AW.region (id := 9) ?_
        (skip <;> (try (refine Run.p rfl rfl rfl (OpP.mvA rfl) ?_)) <;> (try (refine Run.p rfl rfl rfl (OpP.ltt rfl rfl rfl) ?_)) <;> (try (refine Run.p rfl rfl rfl (OpP.mvA rfl) ?_)))
        rw [e1]
        (skip <;> (try (refine Run.p rfl rfl rfl (OpP.mvA rfl) ?_)) <;> (try (refine Run.ri rfl rfl rfl (OpRI.lenA rfl rfl) rfl ?_)) <;> (try (refine Run.p rfl rfl rfl (OpP.mvA rfl) ?_)) <;> (try (refine Run.p rfl rfl rfl (OpP.ltt rfl rfl rfl) ?_)) <;> (try (refine Run.p rfl rfl rfl (OpP.pickA rfl rfl) ?_)) <;> (try (refine Run.p rfl rfl rfl (OpP.mvA rfl) ?_)))
        rw [e2]
        (skip <;> (try (refine Run.p rfl rfl rfl (OpP.mvA rfl) ?_)) <;> (try (refine Run.p rfl rfl rfl (OpP.eq rfl rfl rfl) ?_)) <;> (try (refine Run.p rfl rfl rfl (OpP.mvA rfl) ?_)) <;> (try (refine Run.gpc (by first | exact Gd.t rfl rfl rfl rfl | exact Gd.t2 rfl rfl rfl rfl) rfl rfl (fun hg => ⟨OpP.fieldAddrA rfl rfl, (by repeat (first | exact trivial | assumption | refine ⟨?_, ?_⟩))⟩) ?_)))
        rw [e3]
        (skip <;> (try (refine Run.sk rfl rfl rfl ?_)) <;> (try (refine Run.sk rfl rfl rfl ?_)) <;> (try (refine Run.sk rfl rfl rfl ?_)) <;> (try (refine Run.p rfl rfl rfl (OpP.pickA rfl rfl) ?_)) <;> (try (refine Run.p rfl rfl rfl (OpP.pickA rfl rfl) ?_)) <;> (try (refine Run.p rfl rfl rfl (OpP.mvA rfl) ?_)) <;> (try (refine Run.p rfl rfl rfl (OpP.mvA rfl) ?_)) <;> (try (refine Run.p rfl rfl rfl (OpP.gtt rfl rfl rfl) ?_)))
        rw [e4]
        (skip <;> (try (refine Run.p rfl rfl rfl (OpP.mvA rfl) ?_)) <;> (try (refine Run.p rfl rfl rfl (OpP.fieldAddrA rfl rfl) ?_)) <;> (try (refine Run.ld1 rfl rfl rfl rfl rfl rfl rfl rfl ?_)) <;> (try (refine Run.p rfl rfl rfl (OpP.sne rfl rfl rfl) ?_)))
        rw [e6]
        (skip <;> (try (refine Run.p rfl rfl rfl (OpP.pickA rfl rfl) ?_)) <;> (try (refine Run.p rfl rfl rfl (OpP.pickA rfl rfl) ?_)))
        refine Run.fin rfl ?_
        refine hK _ ?_
        clear hK
        (repeat' (first | refine AW.seq_k (fun K hK => ?_) | (refine hK _ ?_; clear hK) | (refine AW.cond rfl (fun hc => ?_) (fun hc => ?_) <;> (try simp only [Bool.and_eq_true, Bool.or_eq_true, Bool.not_eq_true', Bool.not_eq_false', Bool.and_eq_false_iff, Bool.or_eq_false_iff, Bool.and_eq_false_imp, decide_eq_true_eq, decide_eq_false_iff_not, Decidable.not_not, Int.not_lt, Int.not_le, ne_eq, Bool.not_not] at hc) <;> try (first | (exfalso; omega) | (cases hc; done))) | refine AW.skip ?_ | (first | (refine AW.region (id := 11) ?_ <;> (try (refine Run.p rfl rfl rfl (OpP.mvA rfl) ?_)) <;> (try (refine Run.ri rfl rfl rfl (OpRI.lenA rfl rfl) rfl ?_)) <;> (try (refine Run.p rfl rfl rfl (OpP.mvA rfl) ?_)) <;> (try (refine Run.p rfl rfl rfl (OpP.subA rfl rfl rfl) ?_)) <;> (try (refine Run.p rfl rfl rfl (OpP.asA rfl) ?_)) <;> (try refine Run.fin rfl ?_)) | (refine AW.draw (id := 12) (by kernel_rfl) ?_ <;> (try (refine Run.p rfl rfl rfl (OpP.mvA rfl) ?_)) <;> (try (refine Run.p rfl rfl rfl (OpP.mvA rfl) ?_)) <;> (try (refine Run.p rfl rfl rfl (OpP.mvA rfl) ?_)) <;> (try (refine Run.ri rfl rfl rfl (OpRI.slice3hA rfl rfl rfl rfl) rfl ?_)) <;> (try (refine Run.p rfl rfl rfl (OpP.mvA rfl) ?_)) <;> (try (refine Run.ldNA rfl rfl rfl rfl rfl rfl rfl ?_)) <;> (try (refine Run.p rfl rfl rfl (OpP.mvA rfl) ?_)) <;> (try (refine Run.p rfl rfl rfl (OpP.mvA rfl) ?_)) <;> (try (refine Run.ri rfl rfl rfl (OpRI.sliceLA rfl rfl rfl) rfl ?_)) <;> (try (refine Run.c0 hcall rfl rfl rfl rfl rfl rfl rfl rfl ?_)) <;> (try (refine Run.bsA rfl rfl rfl rfl rfl rfl ?_)) <;> (try (refine Run.apFA rfl rfl rfl rfl rfl rfl ?_)) <;> (try (refine Run.p rfl rfl rfl (OpP.asA rfl) ?_)) <;> (try refine Run.fin (by kernel_rfl) ?_)) | (refine AW.region (id := 13) ?_ <;> (try (refine Run.p rfl rfl rfl (OpP.addA rfl rfl rfl) ?_)) <;> (try (refine Run.p rfl rfl rfl (OpP.mvA rfl) ?_)) <;> (try refine Run.fin rfl ?_)))))
        rw [hbl]
        ((repeat (with_reducible refine inB_n ?_)); refine thenA_n ?_)
        refine ⟨(j + 1, st - ar.toNat + 1), ⟨h, hnl2, h3⟩, by omega, ?_⟩
        refine Conv.mk [0, 1] rfl rfl rfl ?_ rfl ?_
        · (repeat' (first | exact Cf.nil | exact Cv.refl | exact Cv.rowf rfl rfl | refine Cf.cons' (by (conv => lhs; whnf) <;> rfl) ?_ ?_))
        · (repeat' (first | exact CvL.refl _ | exact Crs.nil | refine Crs.cons ?_ rfl ?_ | refine Cr.box ?_))
      · have hbad : badT st (k, nm) = true := by simp [badT, hak, hnn]; omega
        rw [if_pos hbad] at h3
        have e6 : decide (nm ≠ []) = true := by simp [hnn]
        (repeat' (first | refine AW.seq_k (fun K hK => ?_) | (refine hK _ ?_; clear hK) | (refine AW.condD rfl (fun hc => ?_) (fun hc => ?_) <;> try (first | (exfalso; omega) | (cases hc; done))) | refine AW.block ?_ | refine AW.skip ?_ | (first | (refine AW.region (id := 6) ?_ <;> (try (refine Run.p rfl rfl rfl (OpP.ltt rfl rfl rfl) ?_)) <;> (try refine Run.fin rfl ?_)) | (refine AW.region (id := 7) ?_ <;> (try (refine Run.ri rfl rfl rfl (OpRI.indexAddrA rfl rfl) rfl ?_)) <;> (try (refine Run.p rfl rfl rfl (OpP.loadES rfl rfl rfl (by repeat constructor)) ?_)) <;> (try (refine Run.alA rfl rfl rfl rfl ?_)) <;> (try (refine Run.stA rfl rfl rfl rfl rfl ?_)) <;> (try refine Run.fin rfl ?_)) | (refine AW.region (id := 8) ?_ <;> (try (refine Run.p rfl rfl rfl (OpP.fieldAddrA rfl rfl) ?_)) <;> (try (refine Run.ld1 rfl rfl rfl rfl rfl rfl rfl rfl ?_)) <;> (try (refine Run.c0 har rfl rfl rfl rfl rfl rfl rfl rfl ?_)) <;> (try (refine Run.p rfl rfl rfl (OpP.asA rfl) ?_)) <;> (try refine Run.fin rfl ?_)))))
        refine AW.region (id := 9) ?_
        (skip <;> (try (refine Run.p rfl rfl rfl (OpP.mvA rfl) ?_)) <;> (try (refine Run.p rfl rfl rfl (OpP.ltt rfl rfl rfl) ?_)) <;> (try (refine Run.p rfl rfl rfl (OpP.mvA rfl) ?_)))
        rw [e1]
        (skip <;> (try (refine Run.p rfl rfl rfl (OpP.mvA rfl) ?_)) <;> (try (refine Run.ri rfl rfl rfl (OpRI.lenA rfl rfl) rfl ?_)) <;> (try (refine Run.p rfl rfl rfl (OpP.mvA rfl) ?_)) <;> (try (refine Run.p rfl rfl rfl (OpP.ltt rfl rfl rfl) ?_)) <;> (try (refine Run.p rfl rfl rfl (OpP.pickA rfl rfl) ?_)) <;> (try (refine Run.p rfl rfl rfl (OpP.mvA rfl) ?_)))
        rw [e2]
        (skip <;> (try (refine Run.p rfl rfl rfl (OpP.mvA rfl) ?_)) <;> (try (refine Run.p rfl rfl rfl (OpP.eq rfl rfl rfl) ?_)) <;> (try (refine Run.p rfl rfl rfl (OpP.mvA rfl) ?_)) <;> (try (refine Run.gpc (by first | exact Gd.t rfl rfl rfl rfl | exact Gd.t2 rfl rfl rfl rfl) rfl rfl (fun hg => ⟨OpP.fieldAddrA rfl rfl, (by repeat (first | exact trivial | assumption | refine ⟨?_, ?_⟩))⟩) ?_)))
        rw [e3]
        (skip <;> (try (refine Run.sk rfl rfl rfl ?_)) <;> (try (refine Run.sk rfl rfl rfl ?_)) <;> (try (refine Run.sk rfl rfl rfl ?_)) <;> (try (refine Run.p rfl rfl rfl (OpP.pickA rfl rfl) ?_)) <;> (try (refine Run.p rfl rfl rfl (OpP.pickA rfl rfl) ?_)) <;> (try (refine Run.p rfl rfl rfl (OpP.mvA rfl) ?_)) <;> (try (refine Run.p rfl rfl rfl (OpP.mvA rfl) ?_)) <;> (try (refine Run.p rfl rfl rfl (OpP.gtt rfl rfl rfl) ?_)))
        rw [e4]
        (skip <;> (try (refine Run.p rfl rfl rfl (OpP.mvA rfl) ?_)) <;> (try (refine Run.p rfl rfl rfl (OpP.fieldAddrA rfl rfl) ?_)) <;> (try (refine Run.ld1 rfl rfl rfl rfl rfl rfl rfl rfl ?_)) <;> (try (refine Run.p rfl rfl rfl (OpP.sne rfl rfl rfl) ?_)))
        rw [e6]
        (skip <;> (try (refine Run.p rfl rfl rfl (OpP.pickA rfl rfl) ?_)) <;> (try (refine Run.p rfl rfl rfl (OpP.pickA rfl rfl) ?_)))
        refine Run.fin rfl ?_
        refine hK _ ?_
        clear hK
        (repeat' (first | refine AW.seq_k (fun K hK => ?_) | (refine hK _ ?_; clear hK) | (refine AW.cond rfl (fun hc => ?_) (fun hc => ?_) <;> (try simp only [Bool.and_eq_true, Bool.or_eq_true, Bool.not_eq_true', Bool.not_eq_false', Bool.and_eq_false_iff, Bool.or_eq_false_iff, Bool.and_eq_false_imp, decide_eq_true_eq, decide_eq_false_iff_not, Decidable.not_not, Int.not_lt, Int.not_le, ne_eq, Bool.not_not] at hc) <;> try (first | (exfalso; omega) | (cases hc; done))) | refine AW.ret ?_ | (refine AW.region (id := 10) ?_ <;> (try (refine Run.ldNA rfl rfl rfl rfl rfl rfl rfl ?_)) <;> (try (refine Run.stA rfl rfl rfl rfl rfl ?_)) <;> (try (refine Run.p rfl rfl rfl (OpP.asA rfl) ?_)) <;> (try refine Run.fin rfl ?_))))
        rw [h3] at hR
        obtain rfl : false = R := by rw [← hR]; rfl
        ((first | refine RetOk.tupS [] rfl rfl rfl rfl rfl ?_ ?_ | refine RetOk.oneS [] rfl rfl rfl rfl ?_ ?_) <;> (repeat' (first | exact RetC.nil | exact CvL.refl _ | exact Cv.refl | exact Crs.nil | refine RetC.tmp (by (conv => lhs; whnf) <;> rfl) ?_ ?_ | refine RetC.cellN rfl rfl rfl (by repeat constructor) ?_ ?_)))
  · have hj : c.drop j = [] := List.drop_eq_nil_of_le h
    rw [hj, foldN] at h3
    rw [h3] at hR
    by_cases hone : st = 1
    · subst hone
      obtain rfl : true = R := by rw [← hR]; rfl
      have hA : At (unP 1) (0 : Int) [] := At.mk 0 rfl rfl
      have hone2 : ¬ (((unP 1).length : Int) ≠ 1) := fun h => h rfl
      (repeat' (first | refine AW.seq_k (fun K hK => ?_) | (refine hK _ ?_; clear hK) | (refine AW.condD rfl (fun hc => ?_) (fun hc => ?_) <;> try (first | (exfalso; omega) | (cases hc; done))) | (refine AW.cond rfl (fun hc => ?_) (fun hc => ?_) <;> (try simp only [Bool.and_eq_true, Bool.or_eq_true, Bool.not_eq_true', Bool.not_eq_false', Bool.and_eq_false_iff, Bool.or_eq_false_iff, Bool.and_eq_false_imp, decide_eq_true_eq, decide_eq_false_iff_not, Decidable.not_not, Int.not_lt, Int.not_le, ne_eq, Bool.not_not] at hc) <;> try (first | (exfalso; omega) | (cases hc; done))) | refine AW.exit ?_ | refine AW.ret ?_ | refine AW.skip ?_ | (clear hK; refine hK _ ?_; clear hK) | (first | (refine AW.region (id := 6) ?_ <;> (try (refine Run.p rfl rfl rfl (OpP.ltt rfl rfl rfl) ?_)) <;> (try refine Run.fin rfl ?_)) | (refine AW.region (id := 14) ?_ <;> (try (refine Run.p rfl rfl rfl (OpP.mvA rfl) ?_)) <;> (try (refine Run.ri rfl rfl rfl (OpRI.lenA rfl rfl) rfl ?_)) <;> (try (refine Run.p rfl rfl rfl (OpP.decF (OpP.ne rfl rfl rfl) (by assumption)) ?_)) <;> (try refine Run.fin rfl ?_)) | (refine AW.region (id := 16) ?_ <;> (try (refine Run.p rfl rfl rfl (OpP.mvA rfl) ?_)) <;> (try (refine Run.ri rfl rfl rfl (OpRI.indexAddrA rfl rfl) rfl ?_)) <;> (try (refine Run.p rfl rfl rfl (OpP.loadES rfl rfl rfl (by repeat constructor)) ?_)) <;> (try (refine Run.stA rfl rfl rfl rfl rfl ?_)) <;> (try (refine Run.p rfl rfl rfl (OpP.asA rfl) ?_)) <;> (try refine Run.fin rfl ?_)))))
      all_goals first | (exfalso; exact hone2 (by assumption)) | skip
      ((first | refine RetOk.tupS [] rfl rfl rfl rfl rfl ?_ ?_ | refine RetOk.oneS [] rfl rfl rfl rfl ?_ ?_) <;> (repeat' (first | exact RetC.nil | exact CvL.refl _ | exact Cv.refl | exact Crs.nil | refine RetC.tmp (by (conv => lhs; whnf) <;> rfl) ?_ ?_ | refine RetC.cellN rfl rfl rfl (by repeat constructor) ?_ ?_)))
    · obtain rfl : false = R := by rw [← hR]; symm; simpa using hone
      have hone' : ((unP st).length : Int) ≠ 1 := by rw [List.length_replicate]; omega
      (repeat' (first | refine AW.seq_k (fun K hK => ?_) | (refine hK _ ?_; clear hK) | (refine AW.condD rfl (fun hc => ?_) (fun hc => ?_) <;> try (first | (exfalso; omega) | (cases hc; done))) | (refine AW.cond rfl (fun hc => ?_) (fun hc => ?_) <;> (try simp only [Bool.and_eq_true, Bool.or_eq_true, Bool.not_eq_true', Bool.not_eq_false', Bool.and_eq_false_iff, Bool.or_eq_false_iff, Bool.and_eq_false_imp, decide_eq_true_eq, decide_eq_false_iff_not, Decidable.not_not, Int.not_lt, Int.not_le, ne_eq, Bool.not_not] at hc) <;> try (first | (exfalso; omega) | (cases hc; done))) | refine AW.exit ?_ | refine AW.ret ?_ | (clear hK; refine hK _ ?_; clear hK) | (first | (refine AW.region (id := 6) ?_ <;> (try (refine Run.p rfl rfl rfl (OpP.ltt rfl rfl rfl) ?_)) <;> (try refine Run.fin rfl ?_)) | (refine AW.region (id := 14) ?_ <;> (try (refine Run.p rfl rfl rfl (OpP.mvA rfl) ?_)) <;> (try (refine Run.ri rfl rfl rfl (OpRI.lenA rfl rfl) rfl ?_)) <;> (try (refine Run.p rfl rfl rfl (OpP.decT (OpP.ne rfl rfl rfl) (by assumption)) ?_)) <;> (try refine Run.fin rfl ?_)) | (refine AW.region (id := 15) ?_ <;> (try (refine Run.ldNA rfl rfl rfl rfl rfl rfl rfl ?_)) <;> (try (refine Run.stA rfl rfl rfl rfl rfl ?_)) <;> (try (refine Run.p rfl rfl rfl (OpP.asA rfl) ?_)) <;> (try refine Run.fin rfl ?_)))))
      all_goals first | (exfalso; rename_i hx; exact hx hone') | skip
      ((first | refine RetOk.tupS [] rfl rfl rfl rfl rfl ?_ ?_ | refine RetOk.oneS [] rfl rfl rfl rfl ?_ ?_) <;> (repeat' (first | exact RetC.nil | exact CvL.refl _ | exact Cv.refl | exact Crs.nil | refine RetC.tmp (by (conv => lhs; whnf) <;> rfl) ?_ ?_ | refine RetC.cellN rfl rfl rfl (by repeat constructor) ?_ ?_)))
end Go.Proofs.Ytpacgphnpalepaa
/-
  Walks of the rules: proper conditions, valid rules.
-/
namespace Go.Proofs.Ytpacgphnpalepaa
set_option linter.unusedVariables false
set_option linter.unusedSimpArgs false
def properF (c : List Tm) : Bool := foldNE c || decide (c = [])
theorem proper_c (f : Bool) (c : List Tm) (hc : c.length ≤ 1000000) (hn : ∀ t ∈ c, t.2.length ≤ 9223372036854775807) : ACalls Try.prog 38 [.sl 2 (tmP c) f] [] (.v (.bool (properF c))) [] := by
  have hf := foldN_c f c hc hn
  have hcl : (tmP c).length = c.length := by simp
  have hz : properF c = (foldNE c || decide (((tmP c).length : Int) = 0)) := by
    rw [properF]
    congr 1
    rw [decide_eq_decide, hcl]
    constructor
    · rintro rfl; rfl
    · intro h; exact List.length_eq_zero_iff.1 (by omega)
  rw [hz]
  cases hq : foldNE c with
  | true =>
    rw [hq] at hf
    refine (ACalls.of (fn := Try.f38) Try.func38 rfl rfl Try.ntmps38 (fun I M w own => ?_))
    (repeat' (first | refine AW.seq_k (fun K hK => ?_) | (refine hK _ ?_; clear hK) | refine AW.ret ?_ | refine AW.region (id := 0) ?_ | refine AW.region (id := 1) ?_ | refine AW.region (id := 2) ?_ | refine Run.p rfl rfl rfl (OpP.asA rfl) ?_ | refine Run.p rfl rfl rfl (OpP.mvA rfl) ?_ | refine Run.c0 hf rfl rfl rfl rfl rfl rfl rfl rfl ?_ | refine Run.p rfl rfl rfl (OpP.extract rfl rfl rfl) ?_ | refine Run.alA rfl rfl rfl rfl ?_ | refine Run.stA rfl rfl rfl rfl rfl ?_ | refine Run.p rfl rfl rfl (OpP.pickA rfl rfl) ?_ | refine Run.sk rfl rfl rfl ?_ | refine Run.fin rfl ?_))
    ((first | refine RetOk.tupS [] rfl rfl rfl rfl rfl ?_ ?_ | refine RetOk.oneS [] rfl rfl rfl rfl ?_ ?_) <;> (repeat' (first | exact RetC.nil | exact Cv.refl | exact Crs.nil | refine RetC.tmp (by (conv => lhs; whnf) <;> rfl) ?_ ?_)))
  | false =>
    rw [hq] at hf
    refine (ACalls.of (fn := Try.f38) Try.func38 rfl rfl Try.ntmps38 (fun I M w own => ?_))
    (repeat' (first | refine AW.seq_k (fun K hK => ?_) | (refine hK _ ?_; clear hK) | refine AW.ret ?_ | refine AW.region (id := 0) ?_ | refine AW.region (id := 1) ?_ | refine AW.region (id := 2) ?_ | refine Run.p rfl rfl rfl (OpP.asA rfl) ?_ | refine Run.p rfl rfl rfl (OpP.mvA rfl) ?_ | refine Run.c0 hf rfl rfl rfl rfl rfl rfl rfl rfl ?_ | refine Run.p rfl rfl rfl (OpP.extract rfl rfl rfl) ?_ | refine Run.alA rfl rfl rfl rfl ?_ | refine Run.stA rfl rfl rfl rfl rfl ?_ | refine Run.ri rfl rfl rfl (OpRI.lenA rfl rfl) rfl ?_ | refine Run.p rfl rfl rfl (OpP.eq rfl rfl rfl) ?_ | refine Run.p rfl rfl rfl (OpP.pickA rfl rfl) ?_ | refine Run.fin rfl ?_))
    ((first | refine RetOk.tupS [] rfl rfl rfl rfl rfl ?_ ?_ | refine RetOk.oneS [] rfl rfl rfl rfl ?_ ?_) <;> (repeat' (first | exact RetC.nil | exact Cv.refl | exact Crs.nil | refine RetC.tmp (by (conv => lhs; whnf) <;> rfl) ?_ ?_)))
abbrev ruC (r : Ru) (f : Bool) : List AV := r.hd.cells ++ [.sl 2 (tmP r.cond) f]
def validF (r : Ru) : Bool :=
  if properF r.cond = true ∧ nameB r.hd.role = true then
    (if r.hd.kind = 1 then nameB r.hd.cls && decide (r.hd.pct = 0)
     else if r.hd.kind = 2 then (decide (r.hd.cls = []) && decide (0 ≤ r.hd.pct)) && decide (r.hd.pct ≤ 100)
     else if r.hd.kind = 3 then decide (r.hd.cls = []) && decide (r.hd.pct = 0) else false)
  else false
theorem Valid_c (f : Bool) (r : Ru) (hc : r.cond.length ≤ 1000000) (hn : ∀ t ∈ r.cond, t.2.length ≤ 9223372036854775807) (h1 : r.hd.role.length ≤ 9223372036854775807) (h2 : r.hd.cls.length ≤ 9223372036854775807) :
    ACalls Try.prog 21 [.agg (ruC r f)] [] (.v (.bool (validF r))) [] := by
  generalize hR : validF r = R
  rw [validF] at hR
  have hp := proper_c f r.cond hc hn
  have hna := Name_c r.hd.role h1
  have hnc := Name_c r.hd.cls h2
  obtain ⟨⟨kind, role, cls, pct⟩, cond⟩ := r
  simp only at hR hp hna hnc
  show ACalls Try.prog 21 [.agg [.v (.int .i64 kind), .v (.string (bs role)), .v (.string (bs cls)), .v (.int .i64 pct), .sl 2 (tmP cond) f]] [] (.v (.bool R)) []
  refine (ACalls.of (fn := Try.f21) Try.func21 rfl rfl Try.ntmps21 (fun I M w own => ?_))
  cases hq : properF cond with
  | false =>
    rw [hq] at hp hR
    rw [if_neg (by simp)] at hR
    subst hR
    (repeat' (first | refine AW.seq_k (fun K hK => ?_) | (refine hK _ ?_; clear hK) | (refine AW.cond rfl (fun hc => ?_) (fun hc => ?_) <;> (try simp only [Bool.and_eq_true, Bool.or_eq_true, Bool.not_eq_true', Bool.not_eq_false', Bool.and_eq_false_iff, Bool.or_eq_false_iff, Bool.and_eq_false_imp, decide_eq_true_eq, decide_eq_false_iff_not, Decidable.not_not, Int.not_lt, Int.not_le, ne_eq, Bool.not_not] at hc) <;> try (first | (exfalso; omega) | (cases hc; done))) | refine AW.ret ?_ | refine AW.region (id := 0) ?_ | refine AW.region (id := 1) ?_ | refine AW.region (id := 2) ?_ | refine Run.bxA rfl rfl rfl rfl ?_ | refine Run.p rfl rfl rfl (OpP.asA rfl) ?_ | refine Run.p rfl rfl rfl (OpP.fieldAddrA rfl rfl) ?_ | refine Run.ld1 rfl rfl rfl rfl rfl rfl rfl rfl ?_ | refine Run.c0 hp rfl rfl rfl rfl rfl rfl rfl rfl ?_ | refine Run.p rfl rfl rfl (OpP.not rfl rfl) ?_ | refine Run.p rfl rfl rfl (OpP.mvA rfl) ?_ | refine Run.p rfl rfl rfl (OpP.pickA rfl rfl) ?_ | refine Run.sk rfl rfl rfl ?_ | refine Run.fin rfl ?_))
    ((first | refine RetOk.tupS [] rfl rfl rfl rfl rfl ?_ ?_ | refine RetOk.oneS [] rfl rfl rfl rfl ?_ ?_) <;> (repeat' (first | exact RetC.nil | exact Cv.refl | exact Crs.nil | refine RetC.tmp (by (conv => lhs; whnf) <;> rfl) ?_ ?_)))
  | true =>
    rw [hq] at hp hR
    cases hq2 : nameB role with
    | false =>
      rw [hq2] at hna hR
      rw [if_neg (by simp)] at hR
      subst hR
      (repeat' (first | refine AW.seq_k (fun K hK => ?_) | (refine hK _ ?_; clear hK) | (refine AW.cond rfl (fun hc => ?_) (fun hc => ?_) <;> (try simp only [Bool.and_eq_true, Bool.or_eq_true, Bool.not_eq_true', Bool.not_eq_false', Bool.and_eq_false_iff, Bool.or_eq_false_iff, Bool.and_eq_false_imp, decide_eq_true_eq, decide_eq_false_iff_not, Decidable.not_not, Int.not_lt, Int.not_le, ne_eq, Bool.not_not] at hc) <;> try (first | (exfalso; omega) | (cases hc; done))) | refine AW.ret ?_ | refine AW.region (id := 0) ?_ | refine AW.region (id := 1) ?_ | refine AW.region (id := 2) ?_ | refine Run.bxA rfl rfl rfl rfl ?_ | refine Run.p rfl rfl rfl (OpP.asA rfl) ?_ | refine Run.p rfl rfl rfl (OpP.fieldAddrA rfl rfl) ?_ | refine Run.ld1 rfl rfl rfl rfl rfl rfl rfl rfl ?_ | refine Run.c0 hp rfl rfl rfl rfl rfl rfl rfl rfl ?_ | refine Run.p rfl rfl rfl (OpP.not rfl rfl) ?_ | refine Run.p rfl rfl rfl (OpP.mvA rfl) ?_ | refine Run.c0 hna rfl rfl rfl rfl rfl rfl rfl rfl ?_ | refine Run.p rfl rfl rfl (OpP.pickA rfl rfl) ?_ | refine Run.fin rfl ?_))
      ((first | refine RetOk.tupS [] rfl rfl rfl rfl rfl ?_ ?_ | refine RetOk.oneS [] rfl rfl rfl rfl ?_ ?_) <;> (repeat' (first | exact RetC.nil | exact Cv.refl | exact Crs.nil | refine RetC.tmp (by (conv => lhs; whnf) <;> rfl) ?_ ?_)))
    | true =>
      rw [hq2] at hna hR
      rw [if_pos (by simp)] at hR
      by_cases k1 : kind = 1
      · rw [if_pos k1] at hR
        subst k1
        cases hq3 : nameB cls with
        | false =>
          rw [hq3] at hnc hR
          subst hR
          (repeat' (first | refine AW.seq_k (fun K hK => ?_) | (refine hK _ ?_; clear hK) | (refine AW.cond rfl (fun hc => ?_) (fun hc => ?_) <;> (try simp only [Bool.and_eq_true, Bool.or_eq_true, Bool.not_eq_true', Bool.not_eq_false', Bool.and_eq_false_iff, Bool.or_eq_false_iff, Bool.and_eq_false_imp, decide_eq_true_eq, decide_eq_false_iff_not, Decidable.not_not, Int.not_lt, Int.not_le, ne_eq, Bool.not_not] at hc) <;> try (first | (exfalso; omega) | (cases hc; done))) | refine AW.skip ?_ | refine AW.region (id := 0) ?_ | refine AW.region (id := 1) ?_ | refine Run.bxA rfl rfl rfl rfl ?_ | refine Run.p rfl rfl rfl (OpP.asA rfl) ?_ | refine Run.p rfl rfl rfl (OpP.fieldAddrA rfl rfl) ?_ | refine Run.ld1 rfl rfl rfl rfl rfl rfl rfl rfl ?_ | refine Run.c0 hp rfl rfl rfl rfl rfl rfl rfl rfl ?_ | refine Run.p rfl rfl rfl (OpP.not rfl rfl) ?_ | refine Run.p rfl rfl rfl (OpP.mvA rfl) ?_ | refine Run.c0 hna rfl rfl rfl rfl rfl rfl rfl rfl ?_ | refine Run.p rfl rfl rfl (OpP.pickA rfl rfl) ?_ | refine Run.fin rfl ?_))
          (repeat' (first | refine AW.seq_k (fun K hK => ?_) | (refine hK _ ?_; clear hK) | (refine AW.condD rfl (fun hc => ?_) (fun hc => ?_) <;> try (first | (exfalso; omega) | (cases hc; done))) | refine AW.block ?_ | refine AW.ret ?_ | refine AW.region (id := 3) ?_ | refine AW.region (id := 4) ?_ | refine AW.region (id := 5) ?_ | refine Run.p rfl rfl rfl (OpP.fieldAddrA rfl rfl) ?_ | refine Run.ld1 rfl rfl rfl rfl rfl rfl rfl rfl ?_ | refine Run.p rfl rfl rfl (OpP.asA rfl) ?_ | refine Run.c0 hnc rfl rfl rfl rfl rfl rfl rfl rfl ?_ | refine Run.p rfl rfl rfl (OpP.mvA rfl) ?_ | refine Run.p rfl rfl rfl (OpP.eq rfl rfl rfl) ?_ | refine Run.p rfl rfl rfl (OpP.pickA rfl rfl) ?_ | refine Run.sk rfl rfl rfl ?_ | refine Run.fin rfl ?_))
          ((first | refine RetOk.tupS [] rfl rfl rfl rfl rfl ?_ ?_ | refine RetOk.oneS [] rfl rfl rfl rfl ?_ ?_) <;> (repeat' (first | exact RetC.nil | exact Cv.refl | exact Crs.nil | refine RetC.tmp (by (conv => lhs; whnf) <;> rfl) ?_ ?_)))
        | true =>
          rw [hq3] at hnc hR
          subst hR
          (repeat' (first | refine AW.seq_k (fun K hK => ?_) | (refine hK _ ?_; clear hK) | (refine AW.cond rfl (fun hc => ?_) (fun hc => ?_) <;> (try simp only [Bool.and_eq_true, Bool.or_eq_true, Bool.not_eq_true', Bool.not_eq_false', Bool.and_eq_false_iff, Bool.or_eq_false_iff, Bool.and_eq_false_imp, decide_eq_true_eq, decide_eq_false_iff_not, Decidable.not_not, Int.not_lt, Int.not_le, ne_eq, Bool.not_not] at hc) <;> try (first | (exfalso; omega) | (cases hc; done))) | refine AW.skip ?_ | refine AW.region (id := 0) ?_ | refine AW.region (id := 1) ?_ | refine Run.bxA rfl rfl rfl rfl ?_ | refine Run.p rfl rfl rfl (OpP.asA rfl) ?_ | refine Run.p rfl rfl rfl (OpP.fieldAddrA rfl rfl) ?_ | refine Run.ld1 rfl rfl rfl rfl rfl rfl rfl rfl ?_ | refine Run.c0 hp rfl rfl rfl rfl rfl rfl rfl rfl ?_ | refine Run.p rfl rfl rfl (OpP.not rfl rfl) ?_ | refine Run.p rfl rfl rfl (OpP.mvA rfl) ?_ | refine Run.c0 hna rfl rfl rfl rfl rfl rfl rfl rfl ?_ | refine Run.p rfl rfl rfl (OpP.pickA rfl rfl) ?_ | refine Run.fin rfl ?_))
          (repeat' (first | refine AW.seq_k (fun K hK => ?_) | (refine hK _ ?_; clear hK) | (refine AW.condD rfl (fun hc => ?_) (fun hc => ?_) <;> try (first | (exfalso; omega) | (cases hc; done))) | refine AW.block ?_ | refine AW.ret ?_ | refine AW.region (id := 3) ?_ | refine AW.region (id := 4) ?_ | refine AW.region (id := 5) ?_ | refine Run.p rfl rfl rfl (OpP.fieldAddrA rfl rfl) ?_ | refine Run.ld1 rfl rfl rfl rfl rfl rfl rfl rfl ?_ | refine Run.p rfl rfl rfl (OpP.asA rfl) ?_ | refine Run.c0 hnc rfl rfl rfl rfl rfl rfl rfl rfl ?_ | refine Run.p rfl rfl rfl (OpP.mvA rfl) ?_ | refine Run.p rfl rfl rfl (OpP.eq rfl rfl rfl) ?_ | refine Run.p rfl rfl rfl (OpP.pickA rfl rfl) ?_ | refine Run.fin rfl ?_))
          ((first | refine RetOk.tupS [] rfl rfl rfl rfl rfl ?_ ?_ | refine RetOk.oneS [] rfl rfl rfl rfl ?_ ?_) <;> (repeat' (first | exact RetC.nil | exact Cv.refl | exact Crs.nil | refine RetC.tmp (by (conv => lhs; whnf) <;> rfl) ?_ ?_)))
      rw [if_neg k1] at hR
      by_cases k2 : kind = 2
      · rw [if_pos k2] at hR
        subst k2 hR
        (repeat' (first | refine AW.seq_k (fun K hK => ?_) | (refine hK _ ?_; clear hK) | (refine AW.cond rfl (fun hc => ?_) (fun hc => ?_) <;> (try simp only [Bool.and_eq_true, Bool.or_eq_true, Bool.not_eq_true', Bool.not_eq_false', Bool.and_eq_false_iff, Bool.or_eq_false_iff, Bool.and_eq_false_imp, decide_eq_true_eq, decide_eq_false_iff_not, Decidable.not_not, Int.not_lt, Int.not_le, ne_eq, Bool.not_not] at hc) <;> try (first | (exfalso; omega) | (cases hc; done))) | refine AW.skip ?_ | refine AW.region (id := 0) ?_ | refine AW.region (id := 1) ?_ | refine Run.bxA rfl rfl rfl rfl ?_ | refine Run.p rfl rfl rfl (OpP.asA rfl) ?_ | refine Run.p rfl rfl rfl (OpP.fieldAddrA rfl rfl) ?_ | refine Run.ld1 rfl rfl rfl rfl rfl rfl rfl rfl ?_ | refine Run.c0 hp rfl rfl rfl rfl rfl rfl rfl rfl ?_ | refine Run.p rfl rfl rfl (OpP.not rfl rfl) ?_ | refine Run.p rfl rfl rfl (OpP.mvA rfl) ?_ | refine Run.c0 hna rfl rfl rfl rfl rfl rfl rfl rfl ?_ | refine Run.p rfl rfl rfl (OpP.pickA rfl rfl) ?_ | refine Run.fin rfl ?_))
        (repeat' (first | refine AW.seq_k (fun K hK => ?_) | (refine hK _ ?_; clear hK) | (refine AW.condD rfl (fun hc => ?_) (fun hc => ?_) <;> try (first | (exfalso; omega) | (cases hc; done))) | (refine AW.cond rfl (fun hc => ?_) (fun hc => ?_) <;> (try simp only [Bool.and_eq_true, Bool.or_eq_true, Bool.not_eq_true', Bool.not_eq_false', Bool.and_eq_false_iff, Bool.or_eq_false_iff, Bool.and_eq_false_imp, decide_eq_true_eq, decide_eq_false_iff_not, Decidable.not_not, Int.not_lt, Int.not_le, ne_eq, Bool.not_not] at hc) <;> try (first | (exfalso; omega) | (cases hc; done))) | refine AW.block ?_ | refine AW.ret ?_ | refine AW.region (id := 3) ?_ | refine AW.region (id := 4) ?_ | refine AW.region (id := 6) ?_ | refine AW.region (id := 7) ?_ | refine Run.p rfl rfl rfl (OpP.fieldAddrA rfl rfl) ?_ | refine Run.ld1 rfl rfl rfl rfl rfl rfl rfl rfl ?_ | refine Run.p rfl rfl rfl (OpP.asA rfl) ?_ | refine Run.p rfl rfl rfl (OpP.mvA rfl) ?_ | refine Run.p rfl rfl rfl (OpP.pickAnd rfl rfl rfl rfl) ?_ | refine Run.p rfl rfl rfl (OpP.decF (OpP.eq rfl rfl rfl) (by assumption)) ?_ | refine Run.p rfl rfl rfl (OpP.eq rfl rfl rfl) ?_ | refine Run.p rfl rfl rfl (OpP.seq rfl rfl rfl) ?_ | refine Run.gpc (by first | exact Gd.t rfl rfl rfl rfl | exact Gd.t2 rfl rfl rfl rfl) rfl rfl (fun hg => ⟨OpP.fieldAddrA rfl rfl, (by repeat (first | exact trivial | assumption | refine ⟨?_, ?_⟩))⟩) ?_ | refine Run.glcA (by first | exact Gd.t rfl rfl rfl rfl | exact Gd.t2 rfl rfl rfl rfl) rfl rfl rfl rfl rfl rfl rfl ?_ | refine Run.gpc (by first | exact Gd.t rfl rfl rfl rfl | exact Gd.t2 rfl rfl rfl rfl) rfl rfl (fun hg => ⟨OpP.gee rfl rfl rfl, (by repeat (first | exact trivial | assumption | refine ⟨?_, ?_⟩))⟩) ?_ | refine Run.gpc (by first | exact Gd.t rfl rfl rfl rfl | exact Gd.t2 rfl rfl rfl rfl) rfl rfl (fun hg => ⟨OpP.lee rfl rfl rfl, (by repeat (first | exact trivial | assumption | refine ⟨?_, ?_⟩))⟩) ?_ | refine Run.fin rfl ?_))
        ((first | refine RetOk.tupS [] rfl rfl rfl rfl rfl ?_ ?_ | refine RetOk.oneS [] rfl rfl rfl rfl ?_ ?_) <;> (repeat' (first | exact RetC.nil | exact Cv.refl | exact Crs.nil | refine RetC.tmp (by (conv => lhs; whnf) <;> rfl) ?_ ?_)))
      rw [if_neg k2] at hR
      by_cases k3 : kind = 3
      · rw [if_pos k3] at hR
        subst k3 hR
        (repeat' (first | refine AW.seq_k (fun K hK => ?_) | (refine hK _ ?_; clear hK) | (refine AW.cond rfl (fun hc => ?_) (fun hc => ?_) <;> (try simp only [Bool.and_eq_true, Bool.or_eq_true, Bool.not_eq_true', Bool.not_eq_false', Bool.and_eq_false_iff, Bool.or_eq_false_iff, Bool.and_eq_false_imp, decide_eq_true_eq, decide_eq_false_iff_not, Decidable.not_not, Int.not_lt, Int.not_le, ne_eq, Bool.not_not] at hc) <;> try (first | (exfalso; omega) | (cases hc; done))) | refine AW.skip ?_ | refine AW.region (id := 0) ?_ | refine AW.region (id := 1) ?_ | refine Run.bxA rfl rfl rfl rfl ?_ | refine Run.p rfl rfl rfl (OpP.asA rfl) ?_ | refine Run.p rfl rfl rfl (OpP.fieldAddrA rfl rfl) ?_ | refine Run.ld1 rfl rfl rfl rfl rfl rfl rfl rfl ?_ | refine Run.c0 hp rfl rfl rfl rfl rfl rfl rfl rfl ?_ | refine Run.p rfl rfl rfl (OpP.not rfl rfl) ?_ | refine Run.p rfl rfl rfl (OpP.mvA rfl) ?_ | refine Run.c0 hna rfl rfl rfl rfl rfl rfl rfl rfl ?_ | refine Run.p rfl rfl rfl (OpP.pickA rfl rfl) ?_ | refine Run.fin rfl ?_))
        (repeat' (first | refine AW.seq_k (fun K hK => ?_) | (refine hK _ ?_; clear hK) | (refine AW.condD rfl (fun hc => ?_) (fun hc => ?_) <;> try (first | (exfalso; omega) | (cases hc; done))) | (refine AW.cond rfl (fun hc => ?_) (fun hc => ?_) <;> (try simp only [Bool.and_eq_true, Bool.or_eq_true, Bool.not_eq_true', Bool.not_eq_false', Bool.and_eq_false_iff, Bool.or_eq_false_iff, Bool.and_eq_false_imp, decide_eq_true_eq, decide_eq_false_iff_not, Decidable.not_not, Int.not_lt, Int.not_le, ne_eq, Bool.not_not] at hc) <;> try (first | (exfalso; omega) | (cases hc; done))) | refine AW.block ?_ | refine AW.ret ?_ | refine AW.region (id := 3) ?_ | refine AW.region (id := 4) ?_ | refine AW.region (id := 6) ?_ | refine AW.region (id := 8) ?_ | refine AW.region (id := 9) ?_ | refine Run.p rfl rfl rfl (OpP.fieldAddrA rfl rfl) ?_ | refine Run.ld1 rfl rfl rfl rfl rfl rfl rfl rfl ?_ | refine Run.p rfl rfl rfl (OpP.asA rfl) ?_ | refine Run.p rfl rfl rfl (OpP.mvA rfl) ?_ | refine Run.p rfl rfl rfl (OpP.pickAnd rfl rfl rfl rfl) ?_ | refine Run.p rfl rfl rfl (OpP.decF (OpP.eq rfl rfl rfl) (by assumption)) ?_ | refine Run.p rfl rfl rfl (OpP.eq rfl rfl rfl) ?_ | refine Run.p rfl rfl rfl (OpP.seq rfl rfl rfl) ?_ | refine Run.gpc (by first | exact Gd.t rfl rfl rfl rfl | exact Gd.t2 rfl rfl rfl rfl) rfl rfl (fun hg => ⟨OpP.fieldAddrA rfl rfl, (by repeat (first | exact trivial | assumption | refine ⟨?_, ?_⟩))⟩) ?_ | refine Run.glcA (by first | exact Gd.t rfl rfl rfl rfl | exact Gd.t2 rfl rfl rfl rfl) rfl rfl rfl rfl rfl rfl rfl ?_ | refine Run.gpc (by first | exact Gd.t rfl rfl rfl rfl | exact Gd.t2 rfl rfl rfl rfl) rfl rfl (fun hg => ⟨OpP.eq rfl rfl rfl, (by repeat (first | exact trivial | assumption | refine ⟨?_, ?_⟩))⟩) ?_ | refine Run.fin rfl ?_))
        ((first | refine RetOk.tupS [] rfl rfl rfl rfl rfl ?_ ?_ | refine RetOk.oneS [] rfl rfl rfl rfl ?_ ?_) <;> (repeat' (first | exact RetC.nil | exact Cv.refl | exact Crs.nil | refine RetC.tmp (by (conv => lhs; whnf) <;> rfl) ?_ ?_)))
      rw [if_neg k3] at hR
      subst hR
      (repeat' (first | refine AW.seq_k (fun K hK => ?_) | (refine hK _ ?_; clear hK) | (refine AW.cond rfl (fun hc => ?_) (fun hc => ?_) <;> (try simp only [Bool.and_eq_true, Bool.or_eq_true, Bool.not_eq_true', Bool.not_eq_false', Bool.and_eq_false_iff, Bool.or_eq_false_iff, Bool.and_eq_false_imp, decide_eq_true_eq, decide_eq_false_iff_not, Decidable.not_not, Int.not_lt, Int.not_le, ne_eq, Bool.not_not] at hc) <;> try (first | (exfalso; omega) | (cases hc; done))) | refine AW.skip ?_ | refine AW.region (id := 0) ?_ | refine AW.region (id := 1) ?_ | refine Run.bxA rfl rfl rfl rfl ?_ | refine Run.p rfl rfl rfl (OpP.asA rfl) ?_ | refine Run.p rfl rfl rfl (OpP.fieldAddrA rfl rfl) ?_ | refine Run.ld1 rfl rfl rfl rfl rfl rfl rfl rfl ?_ | refine Run.c0 hp rfl rfl rfl rfl rfl rfl rfl rfl ?_ | refine Run.p rfl rfl rfl (OpP.not rfl rfl) ?_ | refine Run.p rfl rfl rfl (OpP.mvA rfl) ?_ | refine Run.c0 hna rfl rfl rfl rfl rfl rfl rfl rfl ?_ | refine Run.p rfl rfl rfl (OpP.pickA rfl rfl) ?_ | refine Run.fin rfl ?_))
      (repeat' (first | refine AW.seq_k (fun K hK => ?_) | (refine hK _ ?_; clear hK) | (refine AW.cond rfl (fun hc => ?_) (fun hc => ?_) <;> (try simp only [Bool.and_eq_true, Bool.or_eq_true, Bool.not_eq_true', Bool.not_eq_false', Bool.and_eq_false_iff, Bool.or_eq_false_iff, Bool.and_eq_false_imp, decide_eq_true_eq, decide_eq_false_iff_not, Decidable.not_not, Int.not_lt, Int.not_le, ne_eq, Bool.not_not] at hc) <;> try (first | (exfalso; omega) | (cases hc; done))) | refine AW.block ?_ | refine AW.ret ?_ | refine AW.skip ?_ | refine AW.region (id := 3) ?_ | refine AW.region (id := 4) ?_ | refine AW.region (id := 6) ?_ | refine AW.region (id := 8) ?_ | refine AW.region (id := 10) ?_ | refine Run.p rfl rfl rfl (OpP.fieldAddrA rfl rfl) ?_ | refine Run.ld1 rfl rfl rfl rfl rfl rfl rfl rfl ?_ | refine Run.p rfl rfl rfl (OpP.asA rfl) ?_ | refine Run.p rfl rfl rfl (OpP.decF (OpP.eq rfl rfl rfl) (by assumption)) ?_ | refine Run.fin rfl ?_))
      ((first | refine RetOk.tupS [] rfl rfl rfl rfl rfl ?_ ?_ | refine RetOk.oneS [] rfl rfl rfl rfl ?_ ?_) <;> (repeat' (first | exact RetC.nil | exact Cv.refl | exact Crs.nil | refine RetC.tmp (by (conv => lhs; whnf) <;> rfl) ?_ ?_)))
end Go.Proofs.Ytpacgphnpalepaa
/-
  Walk of the rules: the example of the chapter.
-/
namespace Go.Proofs.Ytpacgphnpalepaa
set_option linter.unusedVariables false
set_option linter.unusedSimpArgs false
set_option maxRecDepth 20000
abbrev saneT : List UInt8 := [100, 117, 99, 107, 32, 109, 117, 115, 105, 99, 32, 50, 48, 32, 119, 104, 101, 110, 32, 97, 99, 116, 105, 118, 101, 32, 118, 111, 105, 99, 101, 32, 97, 110, 100, 32, 110, 111, 116, 32, 112, 114, 101, 115, 101, 110, 116, 32, 104, 101, 97, 100, 115, 101, 116]
abbrev wVoice : Wd := [118, 111, 105, 99, 101]
abbrev wMusic : Wd := [109, 117, 115, 105, 99]
abbrev wHeadset : Wd := [104, 101, 97, 100, 115, 101, 116]
abbrev saneC : List Tm := [(1, wVoice), (2, wHeadset), (3, []), (4, [])]
abbrev saneR : Ru := ⟨⟨2, wMusic, [], 20⟩, saneC⟩
theorem sane_parse : parseF saneT = .inl (1, [saneR]) := by kernel_rfl
theorem sane_valid : validF saneR = true := by kernel_rfl
theorem sane_h1 : holdsF [wVoice] [] saneC = true := by kernel_rfl
theorem sane_h2 : holdsF [] [] saneC = false := by kernel_rfl
theorem sane_c : ACalls Try.prog 7 [] [] (.v (.bool true)) [] := by
  have hp := Parse_c saneT (by decide)
  rw [sane_parse] at hp
  have hv := Valid_c false saneR (by decide) (by decide) (by decide) (by decide)
  rw [sane_valid] at hv
  have hh1 := (Holds_c [wVoice] [] true false false saneC (by decide) (by decide) (by decide) (by decide))
  rw [sane_h1] at hh1
  have hh2 := (Holds_c [] [] false false false saneC (by decide) (by decide) (by decide) (by decide))
  rw [sane_h2] at hh2
  have hA : At (ruP [saneR]) (0 : Int) [PV.v (.int .i64 2), PV.v (.string (bs wMusic)), PV.v (.string (bs [])), PV.v (.int .i64 20), PV.sl 2 (tmP saneC)] := At.mk 0 rfl rfl
  have hA2 : At (tmP saneC) (2 : Int) [PV.v (.int .i64 3), PV.v (.string (bs []))] := At.mk 2 rfl rfl
  refine (ACalls.of (fn := Try.f7) Try.func7 rfl rfl Try.ntmps7 (fun I M w own => ?_))
  (repeat' (first | refine AW.seq_k (fun K hK => ?_) | (refine hK _ ?_; clear hK) | refine AW.ret ?_ | refine AW.region (id := 0) ?_ | refine AW.region (id := 1) ?_ | refine AW.region (id := 2) ?_ | refine Run.p rfl rfl rfl (OpP.asA rfl) ?_ | refine Run.c0 hp rfl rfl rfl rfl rfl rfl rfl rfl ?_ | refine Run.p rfl rfl rfl (OpP.mvA rfl) ?_ | refine Run.p rfl rfl rfl (OpP.extract rfl rfl rfl) ?_ | refine Run.ri rfl rfl rfl (OpRI.lenA rfl rfl) rfl ?_ | refine Run.ri rfl rfl rfl (OpRI.indexAddrA rfl rfl) rfl ?_ | refine Run.c0 hv rfl rfl rfl rfl rfl rfl rfl rfl ?_ | refine Run.bsA rfl rfl rfl rfl rfl rfl ?_ | refine Run.p rfl rfl rfl (OpP.pickAnd rfl rfl rfl rfl) ?_ | refine Run.p rfl rfl rfl (OpP.fieldAddrE rfl rfl (by decide) (by first | (simp only [Nat.reduceAdd, Nat.zero_add, Nat.add_zero]; rfl) | rfl) (Nat.le_of_ble_eq_true rfl)) ?_ | refine Run.p rfl rfl rfl (OpP.loadE1 rfl rfl rfl rfl (by (conv => lhs; whnf) <;> rfl)) ?_ | refine Run.p rfl rfl rfl (OpP.loadES rfl rfl rfl (by repeat constructor)) ?_ | refine Run.p rfl rfl rfl (OpP.eq rfl rfl rfl) ?_ | refine Run.p rfl rfl rfl (OpP.pickA rfl rfl) ?_ | refine Run.gpc (by first | exact Gd.t rfl rfl rfl rfl | exact Gd.t2 rfl rfl rfl rfl) rfl rfl (fun hg => ⟨OpP.not rfl rfl, (by repeat (first | exact trivial | assumption | refine ⟨?_, ?_⟩))⟩) ?_ | refine Run.gccA (fun hg => hh1.weak (.cons .same (.cons .same (.cons .nil .nil)))) (by first | exact Gd.t rfl rfl rfl rfl | exact Gd.t2 rfl rfl rfl rfl) rfl rfl rfl rfl rfl rfl rfl ?_ | refine Run.gccA (fun hg => hh2.weak (.cons .same (.cons .nil (.cons .nil .nil)))) (by first | exact Gd.t rfl rfl rfl rfl | exact Gd.t2 rfl rfl rfl rfl) rfl rfl rfl rfl rfl rfl rfl ?_ | refine Run.fin rfl ?_))
  ((first | refine RetOk.tupS [] rfl rfl rfl rfl rfl ?_ ?_ | refine RetOk.oneS [] rfl rfl rfl rfl ?_ ?_) <;> (repeat' (first | exact RetC.nil | exact Cv.refl | exact Crs.nil | refine RetC.tmp (by (conv => lhs; whnf) <;> rfl) ?_ ?_)))
end Go.Proofs.Ytpacgphnpalepaa
/-
  Walks of the deck of numbers.
-/
namespace Go.Proofs.Ytpacgphnpalepaa
set_option linter.unusedVariables false
set_option linter.unusedSimpArgs false
theorem Mod_c (v n : Int) (hv : -9223372036854775808 ≤ v ∧ v ≤ 9223372036854775807) (hn : 1 ≤ n ∧ n ≤ 1000000000) : ACalls Try.prog 12 [.v (.int .i64 v), .v (.int .i64 n)] [] (.v (.int .i64 (v % n))) [] := by
  have h1 : v.tmod n < n := Int.tmod_lt_of_pos _ (by omega)
  have h2 : -n < v.tmod n := Int.lt_tmod_of_pos _ (by omega)
  have h3 := Int.emod_nonneg v (show n ≠ 0 by omega)
  have h4 := Int.emod_lt_of_pos v (show 0 < n by omega)
  have h5 : v.tmod n = v % n ∨ v.tmod n = v % n - n := by
    have := Int.tmod_eq_emod (a := v) (b := n)
    split at this
    · left; omega
    · right; have : ((n.natAbs : Nat) : Int) = n := by omega
      omega
  refine (ACalls.of (fn := Try.f12) Try.func12 rfl rfl Try.ntmps12 (fun I M w own => ?_))
  (repeat' (first | refine AW.seq_k (fun K hK => ?_) | (refine hK _ ?_; clear hK) | (refine AW.condD rfl (fun hc => ?_) (fun hc => ?_) <;> try (first | (exfalso; omega) | (cases hc; done))) | refine AW.ret ?_ | refine AW.skip ?_ | refine AW.region (id := 0) ?_ | refine AW.region (id := 1) ?_ | refine AW.region (id := 2) ?_ | refine AW.region (id := 3) ?_ | refine AW.region (id := 4) ?_ | (refine Run.p rfl rfl rfl (OpP.asA rfl) ?_) | refine Run.fin rfl ?_ | (refine Run.p rfl rfl rfl (OpP.mvA rfl) ?_) | (refine Run.p rfl rfl rfl (OpP.rem rfl rfl rfl (by omega) rfl) ?_) | (refine Run.p rfl rfl rfl (OpP.ltt rfl rfl rfl) ?_) | (refine Run.p rfl rfl rfl (OpP.addA rfl rfl rfl) ?_)))
  all_goals ((first | refine RetOk.tup rfl rfl ?_ | refine RetOk.one rfl ?_) <;> (repeat' (first | exact RetC.nil | refine RetC.tmp (by (conv => lhs; whnf) <;> rfl) ?_ ?_)))
  (all_goals (try (first | refine CvL.eq ?_ | refine Cv.eq ?_)))
  all_goals (simp only [AV.ren, AV.v.injEq, Value.int.injEq, true_and]; omega)
/-- numbers as elements -/
abbrev ivs (l : List Int) : List (List PV) := l.map fun n => [PV.v (.int .i64 n)]
def Fits (l : List Int) : Prop := l.length ≤ 9223372036854775807 ∧ ∀ n ∈ l, -9223372036854775808 ≤ n ∧ n ≤ 9223372036854775807
/-- a deck: its numbers, how many are taken -/
abbrev dkR (l : List Int) (a : Nat) : Res := .box [.sl 1 (ivs l) false, .v (.int .i64 (a : Int))]
def dkN (l : List Int) (a : Nat) (n : Int) : Int := if h : a < l.length then l[a] % n else 0
def dkA (l : List Int) (a : Nat) : Nat := if a < l.length then a + 1 else a
end Go.Proofs.Ytpacgphnpalepaa
