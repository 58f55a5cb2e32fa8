/-
  The law DescriptorBack: the walk.
-/
import Derived.Test.YtgnlohecllokhaaMdJ
namespace Go.Proofs.Ytgnlohecllokhaa
set_option linter.unusedVariables false
set_option linter.unusedSimpArgs false
theorem bx_at (Z : List (List PV)) : ∀ (b : List UInt8) (i : Nat) (h : i < b.length), (bxs (bsP b ++ Z))[0 * 1 + i * 1]? = some (AV.v (.int .u8 (b[i].toNat : Int))) := by
  intro b
  induction b with
  | nil => intro i h; simp at h
  | cons x t ih =>
    intro i h
    show (bxs ([PV.v (.int .u8 (x.toNat : Int))] :: (bsP t ++ Z)))[0 * 1 + i * 1]? = _
    rw [bx_cons]
    cases i with
    | zero => rfl
    | succ i =>
      rw [show 0 * 1 + (i + 1) * 1 = (0 * 1 + i * 1) + 1 by omega]
      exact ih i (by simpa using h)
theorem bx_put (b : List UInt8) (dd i : Nat) (c : UInt8) (h : i < b.length) : Over (bxs (bsP b ++ List.replicate dd [PV.v (.int .u8 0)])) (0 * 1 + i * 1) [.v (.int .u8 (c.toNat : Int))] (bxs (bsP (b.set i c) ++ List.replicate dd [PV.v (.int .u8 0)])) := by
  have hz1 : ∀ y ∈ bsP b ++ List.replicate dd [PV.v (.int .u8 0)], y.length = 1 := by
    intro y hy
    simp only [List.mem_append, List.mem_map, List.mem_replicate] at hy
    rcases hy with ⟨_, _, rfl⟩ | ⟨_, rfl⟩ <;> rfl
  have q := over_set (PV.v (.int .u8 (c.toNat : Int))) (bsP b ++ List.replicate dd [PV.v (.int .u8 0)]) i hz1 (by rw [List.length_append, List.length_map]; omega)
  rw [List.set_append_left _ _ (by rw [List.length_map]; omega)] at q
  rw [Nat.zero_mul, Nat.zero_add, Nat.mul_one]
  rw [show bsP (b.set i c) = (bsP b).set i [PV.v (.int .u8 (c.toNat : Int))] by simp [List.map_set]]
  exact q
theorem u8_xor (a b : UInt8) : bits .xor .u8 (a.toNat : Int) (b.toNat : Int) = ((a ^^^ b).toNat : Int) := by
  have := u8_xor_nat a.toNat b.toNat (by have := a.toNat_lt; omega) (by have := b.toNat_lt; omega)
  rw [this, UInt8.toNat_xor]
theorem DescriptorBack_c (l : List UInt8) (f : Bool) (hl : l.length ≤ 9223372036854775807) (at_ : Int) (ha : 0 ≤ at_ ∧ at_ ≤ 65535) (by_ : UInt8) :
    ACalls Try.prog 5 [.sl 1 (bsP l) f, .v (.int .u16 at_), .v (.int .u8 (by_.toNat : Int))] [] (.v (.bool true)) [] := by
  have q1 := made_c l f hl
  obtain ⟨hv, hf⟩ := made_ok l
  generalize (madeD l).1 = D at q1 hv hf
  have ho := dsV_ok D hf hv
  have q2 := dEncode_c D false (fit_of D hv hf) hf
  rw [encQ, if_pos hv] at q2
  simp only at q2
  have t1 := encB_len D
  obtain ⟨t2, t3⟩ := encB_top D hv
  have q3 := dDecode_c (encB D) false (by omega)
  have hback := dec_back D ho hv
  have hchg := fun i => dec_chg D i by_
  rw [hback] at q3
  simp only at q3
  have q4 := same_c D false false (fit_of D hv hf)
  generalize encB D = eb at q2 q3 t1 t2 t3 hback hchg
  have hbl : (bsP eb).length = eb.length := by simp
  have hmod : 0 ≤ at_ % (eb.length : Int) ∧ at_ % (eb.length : Int) < (eb.length : Int) := ⟨Int.emod_nonneg _ (by omega), Int.emod_lt_of_pos _ (by omega)⟩
  have hil : (at_ % (eb.length : Int)).toNat < eb.length := by omega
  have e0 : ¬ ((0 : Int) ≠ 0) := fun h => h rfl
  have e1 : ({} : Ds).name = [] := rfl
  have hby := by_.toNat_lt
  have b0 : (0 : Int) ≤ (by_.toNat : Int) := by omega
  refine (ACalls.of (fn := Try.f5) Try.func5 rfl rfl Try.ntmps5 (fun I M w own => ?_))
  (repeat' (first | refine AW.seq_k (fun K hK => ?_) | (refine hK _ ?_; clear hK) | (refine AW.cond rfl (fun hc => ?_) (fun hc => ?_) <;> (try simp only [Bool.and_eq_true, Bool.or_eq_true, Bool.not_eq_true', Bool.not_eq_false', Bool.and_eq_false_iff, Bool.or_eq_false_iff, Bool.and_eq_false_imp, decide_eq_true_eq, decide_eq_false_iff_not, Decidable.not_not, Int.not_lt, Int.not_le, ne_eq, Bool.not_not] at hc) <;> try (first | (exfalso; omega) | (cases hc; done))) | refine AW.skip ?_ | (first | (refine AW.region (id := 0) ?_ <;> (try (refine Run.p rfl rfl rfl (OpP.asA rfl) ?_)) <;> (try refine Run.fin rfl ?_)) | (refine AW.region (id := 1) ?_ <;> (try (refine Run.c0 sane_c rfl rfl rfl rfl rfl rfl rfl rfl ?_)) <;> (try (refine Run.p rfl rfl rfl (OpP.not rfl rfl) ?_)) <;> (try refine Run.fin rfl ?_)) | (refine AW.region (id := 3) ?_ <;> (try (refine Run.p rfl rfl rfl (OpP.mvA rfl) ?_)) <;> (try (refine Run.c0 q1 rfl rfl rfl rfl rfl rfl rfl rfl ?_)) <;> (try (refine Run.alA rfl rfl rfl rfl ?_)) <;> (try (refine Run.stA rfl rfl rfl rfl rfl ?_)) <;> (try refine Run.fin rfl ?_)) | (refine AW.region (id := 4) ?_ <;> (try (refine Run.ldNA rfl rfl rfl rfl rfl rfl rfl ?_)) <;> (try (refine Run.c0 q2 rfl rfl rfl rfl rfl rfl rfl rfl ?_)) <;> (try (refine Run.p rfl rfl rfl (OpP.mvA rfl) ?_)) <;> (try (refine Run.p rfl rfl rfl (OpP.extract rfl rfl rfl) ?_)) <;> (try (refine Run.p rfl rfl rfl (OpP.extract rfl rfl rfl) ?_)) <;> (try (refine Run.p rfl rfl rfl (OpP.asA rfl) ?_)) <;> (try (refine Run.p rfl rfl rfl (OpP.asA rfl) ?_)) <;> (try refine Run.fin rfl ?_)) | (refine AW.region (id := 5) ?_ <;> (try (refine Run.p rfl rfl rfl (OpP.mvA rfl) ?_)) <;> (try (refine Run.c0 q3 rfl rfl rfl rfl rfl rfl rfl rfl ?_)) <;> (try (refine Run.p rfl rfl rfl (OpP.mvA rfl) ?_)) <;> (try (refine Run.p rfl rfl rfl (OpP.extract rfl rfl rfl) ?_)) <;> (try (refine Run.p rfl rfl rfl (OpP.extract rfl rfl rfl) ?_)) <;> (try (refine Run.alA rfl rfl rfl rfl ?_)) <;> (try (refine Run.stA rfl rfl rfl rfl rfl ?_)) <;> (try (refine Run.p rfl rfl rfl (OpP.asA rfl) ?_)) <;> (try refine Run.fin rfl ?_)) | (refine AW.region (id := 6) ?_ <;> (try (refine Run.p rfl rfl rfl (OpP.mvA rfl) ?_)) <;> (try (refine Run.p rfl rfl rfl (OpP.decF (OpP.ne rfl rfl rfl) (by assumption)) ?_)) <;> (try (refine Run.p rfl rfl rfl (OpP.mvA rfl) ?_)) <;> (try (refine Run.p rfl rfl rfl (OpP.mvA rfl) ?_)) <;> (try (refine Run.p rfl rfl rfl (OpP.decF (OpP.ne rfl rfl rfl) (by assumption)) ?_)) <;> (try (refine Run.p rfl rfl rfl (OpP.pickA rfl rfl) ?_)) <;> (try (refine Run.p rfl rfl rfl (OpP.mvA rfl) ?_)) <;> (try (refine Run.ldNA rfl rfl rfl rfl rfl rfl rfl ?_)) <;> (try (refine Run.ldNA rfl rfl rfl rfl rfl rfl rfl ?_)) <;> (try (refine Run.c0 q4 rfl rfl rfl rfl rfl rfl rfl rfl ?_)) <;> (try (refine Run.p rfl rfl rfl (OpP.not rfl rfl) ?_)) <;> (try (refine Run.p rfl rfl rfl (OpP.pickA rfl rfl) ?_)) <;> (try refine Run.fin rfl ?_)))))
  (repeat' (first | refine AW.seq_k (fun K hK => ?_) | (refine hK _ ?_; clear hK) | (refine AW.region (id := 8) ?_ <;> (try (refine Run.p rfl rfl rfl (OpP.mvA rfl) ?_)) <;> (try (refine Run.apBS (fun _ => rfl) rfl rfl rfl rfl (Or.inl ⟨_, rfl⟩) rfl rfl (Or.inr ⟨rfl, rfl⟩) (SrcNI.dat Dat.sl) (m := eb.length) (by simp) (by omega) (by omega) (by simp [maxLen]; omega) rfl (by simp [keys]) (fun dd => ?_))) <;> (try (refine Run.p rfl rfl rfl (OpP.asA rfl) ?_)) <;> (try refine Run.fin rfl ?_))))
  refine AW.conv (s' := ⟨[(1, .v (.int .u16 at_)), (2, .v (.int .u8 (by_.toNat : Int))), (12, .bsl 0 1 0 eb.length (eb.length + dd))], [.box (bxs (bsP eb ++ List.replicate dd [PV.v (.int .u8 0)]))]⟩) (Conv.mk [2] rfl rfl rfl ?_ rfl ?_) ?_
  · (repeat' (first | exact Cf.nil | exact Cv.refl | exact CvL.refl _ | exact Cv.rowf rfl rfl | exact Crs.nil | refine Cf.cons' (by (conv => lhs; whnf) <;> rfl) ?_ ?_ | refine Crs.cons ?_ rfl ?_ | exact Cr.no | refine Cr.row ?_ | refine Cr.box ?_ | exact Cv.nil | exact Cv.full | exact CvL.nil | refine CvL.cons ?_ ?_))
  · refine Crs.cons (Cr.bxs ?_) (bxs_lt' _ _) Crs.nil
    rfl
  have hld := bx_at (List.replicate dd [PV.v (.int .u8 0)]) eb (at_ % (eb.length : Int)).toNat hil
  have hO := bx_put eb dd (at_ % (eb.length : Int)).toNat (eb[(at_ % (eb.length : Int)).toNat] ^^^ by_) hil
  rw [← u8_xor] at hO
  have hset : eb.set (at_ % (eb.length : Int)).toNat (eb[(at_ % (eb.length : Int)).toNat] ^^^ by_) = chg eb (at_ % (eb.length : Int)).toNat by_ := by
    rw [chg, List.getD_eq_getElem?_getD, List.getElem?_eq_getElem hil]; rfl
  rw [hset] at hO
  have hcg := hchg (at_ % (eb.length : Int)).toNat hil
  have hcl := chg_length eb (at_ % (eb.length : Int)).toNat by_
  generalize eb[(at_ % (eb.length : Int)).toNat] = u at hld hO
  generalize chg eb (at_ % (eb.length : Int)).toNat by_ = c at hO hcg hcl
  (repeat' (first | refine AW.seq_k (fun K hK => ?_) | (refine hK _ ?_; clear hK) | (refine AW.region (id := 9) ?_ <;> (try (refine Run.p rfl rfl rfl (OpP.mvA rfl) ?_)) <;> (try (refine Run.p rfl rfl rfl (OpP.mvA rfl) ?_)) <;> (try (refine Run.p rfl rfl rfl (OpP.convA rfl rfl) ?_)) <;> (try (refine Run.p rfl rfl rfl (OpP.mvA rfl) ?_)) <;> (try (refine Run.p rfl rfl rfl (OpP.lenB rfl rfl) ?_)) <;> (try (refine Run.p rfl rfl rfl (OpP.remN rfl rfl rfl (by omega) (by omega) rfl) ?_)) <;> (try (refine Run.p rfl rfl rfl (OpP.indexAddrB rfl rfl rfl (by omega) (by omega) rfl) ?_)) <;> (try (refine Run.ld1F rfl rfl rfl rfl rfl rfl rfl ?_)) <;> (try (refine Run.p rfl rfl rfl (OpP.mvA rfl) ?_)) <;> (try (refine Run.p rfl rfl rfl (OpP.binv rfl rfl rfl ⟨_, _, _, _, rfl, rfl⟩ (fun w => by simp [go_sem]; rfl)) ?_)) <;> (try (refine Run.p rfl rfl rfl (OpP.indexAddrB rfl rfl rfl (by omega) (by omega) rfl) ?_)) <;> (try (refine Run.stF rfl rfl rfl rfl rfl ?_)) <;> (try refine Run.fin rfl ?_))))
  have hcl2 : (bsP c).length = c.length := by simp
  rw [← hcl, ← hcl2]
  refine AW.freezeA 0 1 (bsP c) (List.replicate dd [PV.v (.int .u8 0)]) rfl rfl (by simp) ?_
  have q5 := dDecode_c c false (by omega)
  by_cases hb0 : (by_.toNat : Int) = 0
  · generalize decP c = Y at q5
    (repeat' (first | refine AW.seq_k (fun K hK => ?_) | (refine hK _ ?_; clear hK) | refine AW.ret ?_ | (first | (refine AW.region (id := 10) ?_ <;> (try (refine Run.p rfl rfl rfl (OpP.mvA rfl) ?_)) <;> (try (refine Run.c0 q5 rfl rfl rfl rfl rfl rfl rfl rfl ?_)) <;> (try (refine Run.p rfl rfl rfl (OpP.mvA rfl) ?_)) <;> (try (refine Run.p rfl rfl rfl (OpP.extract rfl rfl rfl) ?_)) <;> (try (refine Run.p rfl rfl rfl (OpP.extract rfl rfl rfl) ?_)) <;> (try (refine Run.alA rfl rfl rfl rfl ?_)) <;> (try (refine Run.stA rfl rfl rfl rfl rfl ?_)) <;> (try (refine Run.p rfl rfl rfl (OpP.asA rfl) ?_)) <;> (try refine Run.fin rfl ?_)) | (refine AW.region (id := 11) ?_ <;> (try (refine Run.p rfl rfl rfl (OpP.mvA rfl) ?_)) <;> (try (refine Run.p rfl rfl rfl (OpP.decT (OpP.eq rfl rfl rfl) (by assumption)) ?_)) <;> (try (refine Run.p rfl rfl rfl (OpP.mvA rfl) ?_)) <;> (try (refine Run.sk rfl rfl rfl ?_)) <;> (try (refine Run.sk rfl rfl rfl ?_)) <;> (try (refine Run.sk rfl rfl rfl ?_)) <;> (try (refine Run.sk rfl rfl rfl ?_)) <;> (try (refine Run.sk rfl rfl rfl ?_)) <;> (try (refine Run.sk rfl rfl rfl ?_)) <;> (try (refine Run.sk rfl rfl rfl ?_)) <;> (try (refine Run.sk rfl rfl rfl ?_)) <;> (try (refine Run.sk rfl rfl rfl ?_)) <;> (try (refine Run.sk rfl rfl rfl ?_)) <;> (try (refine Run.sk rfl rfl rfl ?_)) <;> (try (refine Run.sk rfl rfl rfl ?_)) <;> (try (refine Run.sk rfl rfl rfl ?_)) <;> (try (refine Run.p rfl rfl rfl (OpP.pickA rfl rfl) ?_)) <;> (try (refine Run.p rfl rfl rfl (OpP.asA rfl) ?_)) <;> (try refine Run.fin rfl ?_)))))
    ((first | refine RetOk.tup rfl rfl ?_ | refine RetOk.one rfl ?_) <;> (repeat' (first | exact Cv.nil | exact Cv.rowf rfl rfl | exact RetC.nil | exact CvL.refl _ | exact Cv.refl | refine RetC.tmp (by (conv => lhs; whnf) <;> rfl) ?_ ?_ | refine RetC.cell1 rfl rfl rfl rfl ?_ ?_ | refine RetC.cellN rfl rfl rfl (by repeat constructor) ?_ ?_ | refine Cv.rowE rfl rfl ?_ | exact Cv.full | exact CvL.nil | refine CvL.cons ?_ ?_)))
  · rw [hcg (by rintro rfl; exact hb0 rfl)] at q5
    simp only at q5
    have e6 : ((6 : Int) ≠ 0) := by decide
    (repeat' (first | refine AW.seq_k (fun K hK => ?_) | (refine hK _ ?_; clear hK) | refine AW.ret ?_ | (first | (refine AW.region (id := 10) ?_ <;> (try (refine Run.p rfl rfl rfl (OpP.mvA rfl) ?_)) <;> (try (refine Run.c0 q5 rfl rfl rfl rfl rfl rfl rfl rfl ?_)) <;> (try (refine Run.p rfl rfl rfl (OpP.mvA rfl) ?_)) <;> (try (refine Run.p rfl rfl rfl (OpP.extract rfl rfl rfl) ?_)) <;> (try (refine Run.p rfl rfl rfl (OpP.extract rfl rfl rfl) ?_)) <;> (try (refine Run.alA rfl rfl rfl rfl ?_)) <;> (try (refine Run.stA rfl rfl rfl rfl rfl ?_)) <;> (try (refine Run.p rfl rfl rfl (OpP.asA rfl) ?_)) <;> (try refine Run.fin rfl ?_)) | (refine AW.region (id := 11) ?_ <;> (try (refine Run.p rfl rfl rfl (OpP.mvA rfl) ?_)) <;> (try (refine Run.p rfl rfl rfl (OpP.decF (OpP.eq rfl rfl rfl) (by assumption)) ?_)) <;> (try (refine Run.p rfl rfl rfl (OpP.mvA rfl) ?_)) <;> (try (refine Run.p rfl rfl rfl (OpP.mvA rfl) ?_)) <;> (try (refine Run.p rfl rfl rfl (OpP.decT (OpP.ne rfl rfl rfl) (by assumption)) ?_)) <;> (try (refine Run.p rfl rfl rfl (OpP.mvA rfl) ?_)) <;> (try (refine Run.p rfl rfl rfl (OpP.fieldAddrA rfl rfl) ?_)) <;> (try (refine Run.ld1 rfl rfl rfl rfl rfl rfl rfl rfl ?_)) <;> (try (refine Run.p rfl rfl rfl (OpP.decT (OpP.seq rfl rfl rfl) (by assumption)) ?_)) <;> (try (refine Run.p rfl rfl rfl (OpP.pickA rfl rfl) ?_)) <;> (try (refine Run.p rfl rfl rfl (OpP.mvA rfl) ?_)) <;> (try (refine Run.p rfl rfl rfl (OpP.fieldAddrA rfl rfl) ?_)) <;> (try (refine Run.ld1 rfl rfl rfl rfl rfl rfl rfl rfl ?_)) <;> (try (refine Run.ri rfl rfl rfl (OpRI.lenA rfl rfl) rfl ?_)) <;> (try (refine Run.p rfl rfl rfl (OpP.eq rfl rfl rfl) ?_)) <;> (try (refine Run.p rfl rfl rfl (OpP.pickA rfl rfl) ?_)) <;> (try (refine Run.p rfl rfl rfl (OpP.pickA rfl rfl) ?_)) <;> (try (refine Run.p rfl rfl rfl (OpP.asA rfl) ?_)) <;> (try refine Run.fin rfl ?_)))))
    ((first | refine RetOk.tup rfl rfl ?_ | refine RetOk.one rfl ?_) <;> (repeat' (first | exact Cv.nil | exact Cv.rowf rfl rfl | exact RetC.nil | exact CvL.refl _ | exact Cv.refl | refine RetC.tmp (by (conv => lhs; whnf) <;> rfl) ?_ ?_ | refine RetC.cell1 rfl rfl rfl rfl ?_ ?_ | refine RetC.cellN rfl rfl rfl (by repeat constructor) ?_ ?_ | refine Cv.rowE rfl rfl ?_ | exact Cv.full | exact CvL.nil | refine CvL.cons ?_ ?_)))
end Go.Proofs.Ytgnlohecllokhaa
