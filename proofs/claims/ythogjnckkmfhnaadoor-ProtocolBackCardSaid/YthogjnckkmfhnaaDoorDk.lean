/-
  Walks of the deck of numbers.
-/
import Derived.Test.YthogjnckkmfhnaaDoorTy
import Derived.Test.YthogjnckkmfhnaaDoorBaB
namespace Go.Proofs.YthogjnckkmfhnaaDoor
set_option linter.unusedVariables false
set_option linter.unusedSimpArgs false
theorem Mod_c (v n : Int) (hv : -9223372036854775808 ≤ v ∧ v ≤ 9223372036854775807) (hn : 1 ≤ n ∧ n ≤ 1000000000) : ACalls Tryd.prog 7 [.v (.int .i64 v), .v (.int .i64 n)] [] (.v (.int .i64 (v % n))) [] := by
  have h1 : v.tmod n < n := Int.tmod_lt_of_pos _ (by omega)
  have h2 : -n < v.tmod n := Int.lt_tmod_of_pos _ (by omega)
  have h3 := Int.emod_nonneg v (show n ≠ 0 by omega)
  have h4 := Int.emod_lt_of_pos v (show 0 < n by omega)
  have h5 : v.tmod n = v % n ∨ v.tmod n = v % n - n := by
    have := Int.tmod_eq_emod (a := v) (b := n)
    split at this
    · left; omega
    · right; have : ((n.natAbs : Nat) : Int) = n := by omega
      omega
  refine (ACalls.of (fn := Tryd.f7) Tryd.func7 rfl rfl Tryd.ntmps7 (fun I M w own => ?_))
  (repeat' (first | refine AW.seq_k (fun K hK => ?_) | (refine hK _ ?_; clear hK) | (refine AW.condD rfl (fun hc => ?_) (fun hc => ?_) <;> try (first | (exfalso; omega) | (cases hc; done))) | refine AW.ret ?_ | refine AW.skip ?_ | (first | (refine AW.region (id := 0) ?_ <;> (try (refine Run.p rfl rfl rfl (OpP.asA rfl) ?_)) <;> (try refine Run.fin rfl ?_)) | (refine AW.region (id := 1) ?_ <;> (try (refine Run.p rfl rfl rfl (OpP.mvA rfl) ?_)) <;> (try (refine Run.p rfl rfl rfl (OpP.mvA rfl) ?_)) <;> (try (refine Run.p rfl rfl rfl (OpP.rem rfl rfl rfl (by omega) rfl) ?_)) <;> (try (refine Run.p rfl rfl rfl (OpP.asA rfl) ?_)) <;> (try refine Run.fin rfl ?_)) | (refine AW.region (id := 2) ?_ <;> (try (refine Run.p rfl rfl rfl (OpP.mvA rfl) ?_)) <;> (try (refine Run.p rfl rfl rfl (OpP.ltt rfl rfl rfl) ?_)) <;> (try refine Run.fin rfl ?_)) | (refine AW.region (id := 3) ?_ <;> (try (refine Run.p rfl rfl rfl (OpP.mvA rfl) ?_)) <;> (try (refine Run.p rfl rfl rfl (OpP.mvA rfl) ?_)) <;> (try (refine Run.p rfl rfl rfl (OpP.addA rfl rfl rfl) ?_)) <;> (try (refine Run.p rfl rfl rfl (OpP.asA rfl) ?_)) <;> (try refine Run.fin rfl ?_)) | (refine AW.region (id := 4) ?_ <;> (try (refine Run.p rfl rfl rfl (OpP.mvA rfl) ?_)) <;> (try (refine Run.p rfl rfl rfl (OpP.asA rfl) ?_)) <;> (try refine Run.fin rfl ?_)))))
  all_goals ((first | refine RetOk.tup rfl rfl ?_ | refine RetOk.one rfl ?_) <;> (repeat' (first | exact Cv.nil | exact Cv.rowf rfl rfl | exact RetC.nil | exact CvL.refl _ | exact Cv.refl | refine RetC.tmp (by (conv => lhs; whnf) <;> rfl) ?_ ?_ | refine RetC.cell1 rfl rfl rfl rfl ?_ ?_ | refine RetC.cellN rfl rfl rfl (by repeat constructor) ?_ ?_ | refine Cv.rowE rfl rfl ?_ | exact Cv.full | exact CvL.nil | refine CvL.cons ?_ ?_)))
  (all_goals (try (first | refine CvL.eq ?_ | refine Cv.eq ?_)))
  all_goals (simp only [AV.ren, AV.v.injEq, Value.int.injEq, true_and]; omega)
/-- numbers as elements -/
abbrev ivs (l : List Int) : List (List PV) := l.map fun n => [PV.v (.int .i64 n)]
def Fits (l : List Int) : Prop := l.length ≤ 9223372036854775807 ∧ ∀ n ∈ l, -9223372036854775808 ≤ n ∧ n ≤ 9223372036854775807
/-- a deck: its numbers, how many are taken -/
abbrev dkR (l : List Int) (a : Nat) : Res := .box [.sl 1 (ivs l) false, .v (.int .i64 (a : Int))]
def dkN (l : List Int) (a : Nat) (n : Int) : Int := if h : a < l.length then l[a] % n else 0
def dkA (l : List Int) (a : Nat) : Nat := if a < l.length then a + 1 else a
theorem dkA_le {l : List Int} {a : Nat} (h : a ≤ l.length) : dkA l a ≤ l.length := by unfold dkA; split <;> omega
theorem dkN_rng (l : List Int) (a : Nat) (n : Int) (hn : 1 ≤ n) : 0 ≤ dkN l a n ∧ dkN l a n < n := by
  unfold dkN
  split
  · exact ⟨Int.emod_nonneg _ (by omega), Int.emod_lt_of_pos _ (by omega)⟩
  · omega
theorem New_c (l : List Int) (f : Bool) : ACalls Tryd.prog 14 [.sl 1 (ivs l) f] [] (.ptr 0 0) [dkR l 0] := by
  refine (ACalls.of (fn := Tryd.f14) Tryd.func14 rfl rfl Tryd.ntmps14 (fun I M w own => ?_))
  (repeat' (first | refine AW.seq_k (fun K hK => ?_) | (refine hK _ ?_; clear hK) | refine AW.ret ?_ | (first | (refine AW.region (id := 0) ?_ <;> (try (refine Run.p rfl rfl rfl (OpP.asA rfl) ?_)) <;> (try refine Run.fin rfl ?_)) | (refine AW.region (id := 1) ?_ <;> (try (refine Run.p rfl rfl rfl (OpP.mvA rfl) ?_)) <;> (try (refine Run.p rfl rfl rfl (OpP.buildSA rfl) ?_)) <;> (try (refine Run.bxA rfl rfl rfl rfl ?_)) <;> (try (refine Run.p rfl rfl rfl (OpP.asA rfl) ?_)) <;> (try refine Run.fin rfl ?_)))))
  ((first | refine RetOk.tupS [0] rfl rfl rfl rfl rfl ?_ ?_ | refine RetOk.oneS [0] rfl rfl rfl rfl ?_ ?_) <;> (repeat' (first | exact Cv.nil | exact Cv.rowf rfl rfl | exact RetC.nil | exact CvL.refl _ | exact Cv.full | exact Cv.refl | exact Crs.nil | refine Crs.cons ?_ rfl ?_ | exact Cr.no | refine Cr.row ?_ | refine Cr.box ?_ | refine RetC.tmp (by (conv => lhs; whnf) <;> rfl) ?_ ?_ | refine RetC.cell1 rfl rfl rfl rfl ?_ ?_ | refine RetC.cellN rfl rfl rfl (by repeat constructor) ?_ ?_ | refine Cv.rowE rfl rfl ?_ | exact CvL.nil | refine CvL.cons ?_ ?_)))
theorem Left_c (l : List Int) (a : Nat) : ACalls Tryd.prog 57 [.ptr 0 0] [dkR l a] (.v (.bool (decide ((a : Int) < (l.length : Int))))) [dkR l a] := by
  refine (ACalls.of (fn := Tryd.f57) Tryd.func57 rfl rfl Tryd.ntmps57 (fun I M w own => ?_))
  (repeat' (first | refine AW.seq_k (fun K hK => ?_) | (refine hK _ ?_; clear hK) | refine AW.ret ?_ | (first | (refine AW.region (id := 0) ?_ <;> (try (refine Run.p rfl rfl rfl (OpP.asA rfl) ?_)) <;> (try refine Run.fin rfl ?_)) | (refine AW.draw (id := 1) (by kernel_rfl) ?_ <;> (try (refine Run.p rfl rfl rfl (OpP.mvA rfl) ?_)) <;> (try (refine Run.p rfl rfl rfl (OpP.nilCheck rfl (by (conv => lhs; whnf) <;> rfl) rfl) ?_)) <;> (try (refine Run.p rfl rfl rfl (OpP.fieldAddrA rfl rfl) ?_)) <;> (try (refine Run.ld1 rfl rfl rfl rfl rfl rfl rfl rfl ?_)) <;> (try (refine Run.p rfl rfl rfl (OpP.mvA rfl) ?_)) <;> (try (refine Run.p rfl rfl rfl (OpP.nilCheck rfl (by (conv => lhs; whnf) <;> rfl) rfl) ?_)) <;> (try (refine Run.p rfl rfl rfl (OpP.fieldAddrA rfl rfl) ?_)) <;> (try (refine Run.ld1 rfl rfl rfl rfl rfl rfl rfl rfl ?_)) <;> (try (refine Run.ri rfl rfl rfl (OpRI.lenA rfl rfl) rfl ?_)) <;> (try (refine Run.p rfl rfl rfl (OpP.ltt rfl rfl rfl) ?_)) <;> (try (refine Run.p rfl rfl rfl (OpP.asA rfl) ?_)) <;> (try refine Run.fin (by kernel_rfl) ?_)))))
  ((first | refine RetOk.tupS [0] rfl rfl rfl rfl rfl ?_ ?_ | refine RetOk.oneS [0] rfl rfl rfl rfl ?_ ?_) <;> (repeat' (first | exact Cv.nil | exact Cv.rowf rfl rfl | exact RetC.nil | exact CvL.refl _ | exact Cv.full | exact Cv.refl | exact Crs.nil | refine Crs.cons ?_ rfl ?_ | exact Cr.no | refine Cr.row ?_ | refine Cr.box ?_ | refine RetC.tmp (by (conv => lhs; whnf) <;> rfl) ?_ ?_ | refine RetC.cell1 rfl rfl rfl rfl ?_ ?_ | refine RetC.cellN rfl rfl rfl (by repeat constructor) ?_ ?_ | refine Cv.rowE rfl rfl ?_ | exact CvL.nil | refine CvL.cons ?_ ?_)))
  (all_goals (try (first | refine CvL.eq ?_ | refine Cv.eq ?_)))
  all_goals simp [AV.ren, AV.rens, renL]
theorem Next_c (l : List Int) (hl : Fits l) (a : Nat) (ha : a ≤ l.length) (n : Int) (hn : 1 ≤ n ∧ n ≤ 1000000000) : ACalls Tryd.prog 36 [.ptr 0 0, .v (.int .i64 n)] [dkR l a] (.v (.int .i64 (dkN l a n))) [dkR l (dkA l a)] := by
  have hL := Left_c l a
  have hlen := hl.1
  by_cases h : a < l.length
  · have hM := Mod_c l[a] n (hl.2 _ (List.getElem_mem _)) hn
    have hA : At (ivs l) ((a : Int) + 1 - 1) [PV.v (.int .i64 l[a])] := At.mk a (by omega) (by simp [h])
    have hA' : At (ivs l) (a : Int) [PV.v (.int .i64 l[a])] := At.mk a rfl (by simp [h])
    generalize hr : dkN l a n = r
    generalize hr' : dkA l a = a'
    rw [dkN, dif_pos h] at hr
    rw [dkA, if_pos h] at hr'
    refine (ACalls.of (fn := Tryd.f36) Tryd.func36 rfl rfl Tryd.ntmps36 (fun I M w own => ?_))
    (repeat' (first | refine AW.seq_k (fun K hK => ?_) | (refine hK _ ?_; clear hK) | (refine AW.cond rfl (fun hc => ?_) (fun hc => ?_) <;> (try simp only [Bool.and_eq_true, Bool.or_eq_true, Bool.not_eq_true', Bool.not_eq_false', Bool.and_eq_false_iff, Bool.or_eq_false_iff, Bool.and_eq_false_imp, decide_eq_true_eq, decide_eq_false_iff_not, Decidable.not_not, Int.not_lt, Int.not_le, ne_eq, Bool.not_not] at hc) <;> try (first | (exfalso; omega) | (cases hc; done))) | refine AW.ret ?_ | refine AW.skip ?_ | (first | (refine AW.region (id := 0) ?_ <;> (try (refine Run.p rfl rfl rfl (OpP.asA rfl) ?_)) <;> (try refine Run.fin rfl ?_)) | (refine AW.region (id := 1) ?_ <;> (try (refine Run.p rfl rfl rfl (OpP.mvA rfl) ?_)) <;> (try (refine Run.cSA [0] hL rfl rfl rfl rfl rfl rfl rfl rfl rfl rfl rfl rfl ?_)) <;> (try (refine Run.p rfl rfl rfl (OpP.not rfl rfl) ?_)) <;> (try refine Run.fin rfl ?_)) | (refine AW.region (id := 3) ?_ <;> (try (refine Run.p rfl rfl rfl (OpP.mvA rfl) ?_)) <;> (try (refine Run.p rfl rfl rfl (OpP.nilCheck rfl (by (conv => lhs; whnf) <;> rfl) rfl) ?_)) <;> (try (refine Run.p rfl rfl rfl (OpP.fieldAddrA rfl rfl) ?_)) <;> (try (refine Run.ld1 rfl rfl rfl rfl rfl rfl rfl rfl ?_)) <;> (try (refine Run.p rfl rfl rfl (OpP.addA rfl rfl rfl) ?_)) <;> (try (refine Run.p rfl rfl rfl (OpP.nilCheck rfl (by (conv => lhs; whnf) <;> rfl) rfl) ?_)) <;> (try (refine Run.p rfl rfl rfl (OpP.fieldAddrA rfl rfl) ?_)) <;> (try (refine Run.stA rfl rfl rfl rfl rfl ?_)) <;> (try refine Run.fin rfl ?_)) | (refine AW.draw (id := 4) (by kernel_rfl) ?_ <;> (try (refine Run.p rfl rfl rfl (OpP.mvA rfl) ?_)) <;> (try (refine Run.p rfl rfl rfl (OpP.nilCheck rfl (by (conv => lhs; whnf) <;> rfl) rfl) ?_)) <;> (try (refine Run.p rfl rfl rfl (OpP.fieldAddrA rfl rfl) ?_)) <;> (try (refine Run.ld1 rfl rfl rfl rfl rfl rfl rfl rfl ?_)) <;> (try (refine Run.p rfl rfl rfl (OpP.mvA rfl) ?_)) <;> (try (refine Run.p rfl rfl rfl (OpP.nilCheck rfl (by (conv => lhs; whnf) <;> rfl) rfl) ?_)) <;> (try (refine Run.p rfl rfl rfl (OpP.fieldAddrA rfl rfl) ?_)) <;> (try (refine Run.ld1 rfl rfl rfl rfl rfl rfl rfl rfl ?_)) <;> (try (refine Run.p rfl rfl rfl (OpP.subA rfl rfl rfl) ?_)) <;> (try (refine Run.ri rfl rfl rfl (OpRI.indexAddrA rfl rfl) rfl ?_)) <;> (try (refine Run.p rfl rfl rfl (OpP.loadE1 rfl rfl rfl rfl (by (conv => lhs; whnf) <;> rfl)) ?_)) <;> (try (refine Run.p rfl rfl rfl (OpP.mvA rfl) ?_)) <;> (try (refine Run.c0 hM rfl rfl rfl rfl rfl rfl rfl rfl ?_)) <;> (try (refine Run.p rfl rfl rfl (OpP.asA rfl) ?_)) <;> (try refine Run.fin (by kernel_rfl) ?_)))))
    all_goals subst hr hr'
    all_goals ((first | refine RetOk.tupS [0] rfl rfl rfl rfl rfl ?_ ?_ | refine RetOk.oneS [0] rfl rfl rfl rfl ?_ ?_) <;> (repeat' (first | exact Cv.nil | exact Cv.rowf rfl rfl | exact RetC.nil | exact CvL.refl _ | exact Cv.full | exact Cv.refl | exact Crs.nil | refine Crs.cons ?_ rfl ?_ | exact Cr.no | refine Cr.row ?_ | refine Cr.box ?_ | refine RetC.tmp (by (conv => lhs; whnf) <;> rfl) ?_ ?_ | refine RetC.cell1 rfl rfl rfl rfl ?_ ?_ | refine RetC.cellN rfl rfl rfl (by repeat constructor) ?_ ?_ | refine Cv.rowE rfl rfl ?_ | exact CvL.nil | refine CvL.cons ?_ ?_)))
    (all_goals (try (first | refine CvL.eq ?_ | refine Cv.eq ?_)))
    all_goals simp [AV.ren, AV.rens, renL]
  · generalize hr : dkN l a n = r
    generalize hr' : dkA l a = a'
    rw [dkN, dif_neg h] at hr
    rw [dkA, if_neg h] at hr'
    refine (ACalls.of (fn := Tryd.f36) Tryd.func36 rfl rfl Tryd.ntmps36 (fun I M w own => ?_))
    (repeat' (first | refine AW.seq_k (fun K hK => ?_) | (refine hK _ ?_; clear hK) | (refine AW.cond rfl (fun hc => ?_) (fun hc => ?_) <;> (try simp only [Bool.and_eq_true, Bool.or_eq_true, Bool.not_eq_true', Bool.not_eq_false', Bool.and_eq_false_iff, Bool.or_eq_false_iff, Bool.and_eq_false_imp, decide_eq_true_eq, decide_eq_false_iff_not, Decidable.not_not, Int.not_lt, Int.not_le, ne_eq, Bool.not_not] at hc) <;> try (first | (exfalso; omega) | (cases hc; done))) | refine AW.ret ?_ | (first | (refine AW.region (id := 0) ?_ <;> (try (refine Run.p rfl rfl rfl (OpP.asA rfl) ?_)) <;> (try refine Run.fin rfl ?_)) | (refine AW.region (id := 1) ?_ <;> (try (refine Run.p rfl rfl rfl (OpP.mvA rfl) ?_)) <;> (try (refine Run.cSA [0] hL rfl rfl rfl rfl rfl rfl rfl rfl rfl rfl rfl rfl ?_)) <;> (try (refine Run.p rfl rfl rfl (OpP.not rfl rfl) ?_)) <;> (try refine Run.fin rfl ?_)) | (refine AW.region (id := 2) ?_ <;> (try (refine Run.p rfl rfl rfl (OpP.asA rfl) ?_)) <;> (try refine Run.fin rfl ?_)))))
    all_goals subst hr hr'
    all_goals ((first | refine RetOk.tupS [0] rfl rfl rfl rfl rfl ?_ ?_ | refine RetOk.oneS [0] rfl rfl rfl rfl ?_ ?_) <;> (repeat' (first | exact Cv.nil | exact Cv.rowf rfl rfl | exact RetC.nil | exact CvL.refl _ | exact Cv.full | exact Cv.refl | exact Crs.nil | refine Crs.cons ?_ rfl ?_ | exact Cr.no | refine Cr.row ?_ | refine Cr.box ?_ | refine RetC.tmp (by (conv => lhs; whnf) <;> rfl) ?_ ?_ | refine RetC.cell1 rfl rfl rfl rfl ?_ ?_ | refine RetC.cellN rfl rfl rfl (by repeat constructor) ?_ ?_ | refine Cv.rowE rfl rfl ?_ | exact CvL.nil | refine CvL.cons ?_ ?_)))
    (all_goals (try (first | refine CvL.eq ?_ | refine Cv.eq ?_)))
    all_goals simp [AV.ren, AV.rens, renL]
end Go.Proofs.YthogjnckkmfhnaaDoor
