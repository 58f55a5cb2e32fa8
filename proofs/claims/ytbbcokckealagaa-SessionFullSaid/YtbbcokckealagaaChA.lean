/-
  Walks of chapter 30: lists of IDs, choices that are proper, of the program and of the reference.
-/
import Derived.Test.YtbbcokckealagaaName
namespace Go.Proofs.Ytbbcokckealagaa
set_option linter.unusedVariables false
set_option linter.unusedSimpArgs false
/-- IDs as elements -/
abbrev ids (l : List Int) : List (List PV) := l.map fun n => [PV.v (.int .u64 n)]
def ascI : Int → List Int → Bool
  | _, [] => true
  | b, x :: r => decide (b < x) && ascI x r
theorem Ascending_c (l : List Int) (f : Bool) (hl : l.length ≤ 9223372036854775807) : ACalls Try.prog 57 [.sl 1 (ids l) f] [] (.v (.bool (ascI 0 l))) [] := by
  generalize hr : ascI 0 l = r
  refine (ACalls.of (fn := Try.f57) Try.func57 rfl rfl Try.ntmps57 (fun I M w own => ?_))
  (repeat' (first | refine AW.seq_k (fun K hK => ?_) | (refine hK _ ?_; clear hK) | refine AW.block ?_ | (first | (refine AW.region (id := 0) ?_ <;> (try (refine Run.p rfl rfl rfl (OpP.asA rfl) ?_)) <;> (try refine Run.fin rfl ?_)) | (refine AW.region (id := 1) ?_ <;> (try (refine Run.p rfl rfl rfl (OpP.mvA rfl) ?_)) <;> (try (refine Run.ri rfl rfl rfl (OpRI.lenA rfl rfl) rfl ?_)) <;> (try (refine Run.p rfl rfl rfl (OpP.mvA rfl) ?_)) <;> (try refine Run.fin rfl ?_)))))
  refine AW.loopF (X := Nat × Int) (fun x => ⟨[(0, .sl 1 (ids l) f), (5, .sl 1 (ids l) f), (6, .v (.int .i64 (l.length : Int))), (7, .v (.int .i64 (x.1 : Int)))], []⟩)
    (fun x => x.1 ≤ l.length ∧ ascI 0 l = ascI x.2 (l.drop x.1) ∧ 0 ≤ x.2 ∧ (x.1 = 0 → x.2 = 0) ∧ (∀ i, x.1 = i + 1 → l[i]? = some x.2)) (fun x => l.length - x.1) (0, 0) ?_ ?_ ?_
  · refine Conv.mk [] rfl rfl rfl ?_ rfl ?_
    (repeat' (first | exact Cf.nil | exact Cv.refl | exact CvL.refl _ | exact Cv.rowf rfl rfl | exact Crs.nil | refine Cf.cons' (by (conv => lhs; whnf) <;> rfl) ?_ ?_ | refine Crs.cons ?_ rfl ?_ | exact Cr.no | refine Cr.row ?_ | refine Cr.box ?_ | exact Cv.nil | exact Cv.full | exact CvL.nil | refine CvL.cons ?_ ?_))
    (all_goals (try (first | refine CvL.eq ?_ | refine Cv.eq ?_)))
    all_goals simp [AV.ren]
  · simp
  · rintro ⟨i, b⟩ ⟨h1, h2, h3, h4, h5⟩
    simp only at h1 h2 h3 h4 h5 ⊢
    rw [h2] at hr
    rcases Nat.lt_or_ge i l.length with h | h
    · have hA : At (ids l) (i : Int) [PV.v (.int .u64 l[i])] := At.mk i rfl (by simp [h])
      rw [List.drop_eq_getElem_cons h, ascI] at h2 hr
      have hB : (!decide (l[i] < 1) && decide ((0 : Int) < (i : Int))) = true → At (ids l) ((i : Int) - 1) [PV.v (.int .u64 b)] := by
        intro h
        simp at h
        obtain ⟨j, rfl⟩ : ∃ j, i = j + 1 := ⟨i - 1, by omega⟩
        exact At.mk j (by omega) (by simp [h5 j rfl])
      (repeat' (first | refine AW.seq_k (fun K hK => ?_) | (refine hK _ ?_; clear hK) | (refine AW.condD rfl (fun hc => ?_) (fun hc => ?_) <;> try (first | (exfalso; omega) | (cases hc; done))) | (refine AW.cond rfl (fun hc => ?_) (fun hc => ?_) <;> (try simp only [Bool.and_eq_true, Bool.or_eq_true, Bool.not_eq_true', Bool.not_eq_false', Bool.and_eq_false_iff, Bool.or_eq_false_iff, Bool.and_eq_false_imp, decide_eq_true_eq, decide_eq_false_iff_not, Decidable.not_not, Int.not_lt, Int.not_le, ne_eq, Bool.not_not] at hc) <;> try (first | (exfalso; omega) | (cases hc; done))) | refine AW.block ?_ | refine AW.ret ?_ | refine AW.skip ?_ | (first | (refine AW.region (id := 2) ?_ <;> (try (refine Run.p rfl rfl rfl (OpP.ltt rfl rfl rfl) ?_)) <;> (try refine Run.fin rfl ?_)) | (refine AW.region (id := 3) ?_ <;> (try (refine Run.p rfl rfl rfl (OpP.mvA rfl) ?_)) <;> (try (refine Run.ri rfl rfl rfl (OpRI.indexAddrA rfl rfl) rfl ?_)) <;> (try (refine Run.p rfl rfl rfl (OpP.loadE1 rfl rfl rfl rfl (by (conv => lhs; whnf) <;> rfl)) ?_)) <;> (try (refine Run.p rfl rfl rfl (OpP.asA rfl) ?_)) <;> (try (refine Run.p rfl rfl rfl (OpP.asA rfl) ?_)) <;> (try refine Run.fin rfl ?_)) | (refine AW.region (id := 4) ?_ <;> (try (refine Run.p rfl rfl rfl (OpP.mvA rfl) ?_)) <;> (try (refine Run.p rfl rfl rfl (OpP.ltt rfl rfl rfl) ?_)) <;> (try (refine Run.p rfl rfl rfl (OpP.mvA rfl) ?_)) <;> (try (refine Run.gpc (by first | exact Gd.f rfl rfl rfl rfl | exact Gd.f2 rfl rfl rfl rfl) rfl rfl (fun hg => ⟨OpP.mvA rfl, (by repeat (first | exact trivial | assumption | refine ⟨?_, ?_⟩))⟩) ?_)) <;> (try (refine Run.gpc (by first | exact Gd.f rfl rfl rfl rfl | exact Gd.f2 rfl rfl rfl rfl) rfl rfl (fun hg => ⟨OpP.gtt rfl rfl rfl, (by repeat (first | exact trivial | assumption | refine ⟨?_, ?_⟩))⟩) ?_)) <;> (try (refine Run.gpc (by first | exact Gd.f rfl rfl rfl rfl | exact Gd.f2 rfl rfl rfl rfl) rfl rfl (fun hg => ⟨OpP.mvA rfl, (by repeat (first | exact trivial | assumption | refine ⟨?_, ?_⟩))⟩) ?_)) <;> (try (refine Run.gpc (by first | exact Gd.t rfl rfl rfl rfl | exact Gd.t2 rfl rfl rfl rfl) rfl rfl (fun hg => ⟨OpP.mvA rfl, (by repeat (first | exact trivial | assumption | refine ⟨?_, ?_⟩))⟩) ?_)) <;> (try (refine Run.gpc (by first | exact Gd.t rfl rfl rfl rfl | exact Gd.t2 rfl rfl rfl rfl) rfl rfl (fun hg => ⟨OpP.mvA rfl, (by repeat (first | exact trivial | assumption | refine ⟨?_, ?_⟩))⟩) ?_)) <;> (try (refine Run.gpc (by first | exact Gd.t rfl rfl rfl rfl | exact Gd.t2 rfl rfl rfl rfl) rfl rfl (fun hg => ⟨OpP.mvA rfl, (by repeat (first | exact trivial | assumption | refine ⟨?_, ?_⟩))⟩) ?_)) <;> (try (refine Run.gpc (by first | exact Gd.t rfl rfl rfl rfl | exact Gd.t2 rfl rfl rfl rfl) rfl rfl (fun hg => ⟨OpP.subA rfl rfl rfl, (by repeat (first | exact trivial | assumption | refine ⟨?_, ?_⟩))⟩) ?_)) <;> (try (refine Run.griA (by first | exact Gd.t rfl rfl rfl rfl | exact Gd.t2 rfl rfl rfl rfl) rfl rfl (fun hg => ⟨OpRI.indexAddrA rfl rfl, (by repeat (first | exact trivial | assumption | refine ⟨?_, ?_⟩))⟩) rfl ?_)) <;> (try (refine Run.gpc (by first | exact Gd.t rfl rfl rfl rfl | exact Gd.t2 rfl rfl rfl rfl) rfl rfl (fun hg => ⟨OpP.loadE1 rfl rfl rfl rfl (by (conv => lhs; whnf) <;> rfl), (by repeat (first | exact trivial | assumption | refine ⟨?_, ?_⟩))⟩) ?_)) <;> (try (refine Run.gpc (by first | exact Gd.t rfl rfl rfl rfl | exact Gd.t2 rfl rfl rfl rfl) rfl rfl (fun hg => ⟨OpP.lee rfl rfl rfl, (by repeat (first | exact trivial | assumption | refine ⟨?_, ?_⟩))⟩) ?_)) <;> (try (refine Run.gpick (by first | exact Gd.f rfl rfl rfl rfl | exact Gd.f2 rfl rfl rfl rfl) rfl rfl rfl rfl rfl rfl ?_)) <;> (try (refine Run.p rfl rfl rfl (OpP.pickOr rfl rfl rfl rfl) ?_)) <;> (try refine Run.fin rfl ?_)) | (refine AW.region (id := 5) ?_ <;> (try (refine Run.p rfl rfl rfl (OpP.asA rfl) ?_)) <;> (try refine Run.fin rfl ?_)) | (refine AW.region (id := 6) ?_ <;> (try (refine Run.p rfl rfl rfl (OpP.addA rfl rfl rfl) ?_)) <;> (try (refine Run.p rfl rfl rfl (OpP.mvA rfl) ?_)) <;> (try refine Run.fin rfl ?_)))))
      · rw [decide_eq_false (by omega)] at hr
        subst hr
        ((first | refine RetOk.tup rfl rfl ?_ | refine RetOk.one rfl ?_) <;> (repeat' (first | exact Cv.nil | exact Cv.rowf rfl rfl | exact RetC.nil | exact CvL.refl _ | exact Cv.refl | refine RetC.tmp (by (conv => lhs; whnf) <;> rfl) ?_ ?_ | refine RetC.cell1 rfl rfl rfl rfl ?_ ?_ | refine RetC.cellN rfl rfl rfl (by repeat constructor) ?_ ?_ | refine Cv.rowE rfl rfl ?_ | exact Cv.full | exact CvL.nil | refine CvL.cons ?_ ?_)))
      · rw [decide_eq_true (by omega), Bool.true_and] at h2
        ((repeat (with_reducible refine inB_n ?_)); refine thenA_n ?_)
        refine ⟨(i + 1, l[i]), ⟨by simp only; omega, h2, by simp only; omega, by simp, fun j hj => ?_⟩, by simp only; omega, ?_⟩
        · obtain rfl : j = i := by simp only at hj; omega
          simp [h]
        · refine Conv.mk [] rfl rfl rfl ?_ rfl ?_
          (repeat' (first | exact Cf.nil | exact Cv.refl | exact CvL.refl _ | exact Cv.rowf rfl rfl | exact Crs.nil | refine Cf.cons' (by (conv => lhs; whnf) <;> rfl) ?_ ?_ | refine Crs.cons ?_ rfl ?_ | exact Cr.no | refine Cr.row ?_ | refine Cr.box ?_ | exact Cv.nil | exact Cv.full | exact CvL.nil | refine CvL.cons ?_ ?_))
          (all_goals (try (first | refine CvL.eq ?_ | refine Cv.eq ?_)))
          all_goals simp [AV.ren]
    · rw [List.drop_eq_nil_of_le h, ascI] at hr
      subst hr
      (repeat' (first | refine AW.seq_k (fun K hK => ?_) | (refine hK _ ?_; clear hK) | (refine AW.condD rfl (fun hc => ?_) (fun hc => ?_) <;> try (first | (exfalso; omega) | (cases hc; done))) | refine AW.exit ?_ | refine AW.ret ?_ | (clear hK; refine hK _ ?_; clear hK) | (first | (refine AW.region (id := 2) ?_ <;> (try (refine Run.p rfl rfl rfl (OpP.ltt rfl rfl rfl) ?_)) <;> (try refine Run.fin rfl ?_)) | (refine AW.region (id := 7) ?_ <;> (try (refine Run.p rfl rfl rfl (OpP.asA rfl) ?_)) <;> (try refine Run.fin rfl ?_)))))
      ((first | refine RetOk.tup rfl rfl ?_ | refine RetOk.one rfl ?_) <;> (repeat' (first | exact Cv.nil | exact Cv.rowf rfl rfl | exact RetC.nil | exact CvL.refl _ | exact Cv.refl | refine RetC.tmp (by (conv => lhs; whnf) <;> rfl) ?_ ?_ | refine RetC.cell1 rfl rfl rfl rfl ?_ ?_ | refine RetC.cellN rfl rfl rfl (by repeat constructor) ?_ ?_ | refine Cv.rowE rfl rfl ?_ | exact Cv.full | exact CvL.nil | refine CvL.cons ?_ ?_)))
theorem Index_c (l : List Int) (f : Bool) (v : Int) (hl : l.length ≤ 9223372036854775807) : ∃ r : Int, (0 ≤ r ↔ v ∈ l) ∧ ACalls Try.prog 73 [.sl 1 (ids l) f, .v (.int .u64 v)] [] (.v (.int .i64 r)) [] := by
  obtain ⟨r, hr⟩ : ∃ r : Int, ∀ j : Nat, (∀ i : Nat, i < j → ∀ x, l[i]? = some x → x ≠ v) → (l[j]? = some v → r = j) ∧ (j = l.length → r = -1) := by
    by_cases hm : v ∈ l
    · obtain ⟨j, hj, e⟩ := List.mem_iff_getElem.1 hm
      have hex : ∃ j, l[j]? = some v := ⟨j, by rw [List.getElem?_eq_getElem hj, e]⟩
      obtain ⟨k, hk, hmin⟩ := least_of hex
      refine ⟨k, fun i hi => ⟨fun hv => ?_, fun e => ?_⟩⟩
      · have := hmin i hv
        rcases Nat.lt_or_ge k i with q | q
        · exact absurd rfl (hi k q v hk)
        · omega
      · exfalso
        exact hi k (by have := (List.getElem?_eq_some_iff.1 hk).1; omega) v hk rfl
    · refine ⟨-1, fun i hi => ⟨fun hv => absurd (List.mem_of_getElem? hv) hm, fun _ => rfl⟩⟩
  have hiff : 0 ≤ r ↔ v ∈ l := by
    constructor
    · intro h0
      rcases Decidable.em (v ∈ l) with hm | hm
      · exact hm
      · have := (hr l.length (fun i _ x hx e => hm (e ▸ List.mem_of_getElem? hx))).2 rfl
        omega
    · intro hm
      obtain ⟨j, hj, e⟩ := List.mem_iff_getElem.1 hm
      obtain ⟨k, hk, hmin⟩ := least_of (p := fun j => l[j]? = some v) ⟨j, by rw [List.getElem?_eq_getElem hj, e]⟩
      have := (hr k (fun i hi x hx e => by have := hmin i (by rw [hx, e]); omega)).1 hk
      omega
  refine ⟨r, hiff, ?_⟩
  refine (ACalls.of (fn := Try.f73) Try.func73 rfl rfl Try.ntmps73 (fun I M w own => ?_))
  (repeat' (first | refine AW.seq_k (fun K hK => ?_) | (refine hK _ ?_; clear hK) | refine AW.block ?_ | (first | (refine AW.region (id := 0) ?_ <;> (try (refine Run.p rfl rfl rfl (OpP.asA rfl) ?_)) <;> (try refine Run.fin rfl ?_)) | (refine AW.region (id := 1) ?_ <;> (try (refine Run.p rfl rfl rfl (OpP.mvA rfl) ?_)) <;> (try (refine Run.ri rfl rfl rfl (OpRI.lenA rfl rfl) rfl ?_)) <;> (try (refine Run.p rfl rfl rfl (OpP.mvA rfl) ?_)) <;> (try refine Run.fin rfl ?_)))))
  refine AW.loopF (X := Nat) (fun x => ⟨[(0, .sl 1 (ids l) f), (1, .v (.int .u64 v)), (7, .v (.int .i64 (l.length : Int))), (8, .v (.int .i64 (x : Int)))], []⟩)
    (fun j => j ≤ l.length ∧ ∀ i : Nat, i < j → ∀ x, l[i]? = some x → x ≠ v) (fun x => l.length - x) 0 ?_ ?_ ?_
  · refine Conv.mk [] rfl rfl rfl ?_ rfl ?_
    (repeat' (first | exact Cf.nil | exact Cv.refl | exact CvL.refl _ | exact Cv.rowf rfl rfl | exact Crs.nil | refine Cf.cons' (by (conv => lhs; whnf) <;> rfl) ?_ ?_ | refine Crs.cons ?_ rfl ?_ | exact Cr.no | refine Cr.row ?_ | refine Cr.box ?_ | exact Cv.nil | exact Cv.full | exact CvL.nil | refine CvL.cons ?_ ?_))
    (all_goals (try (first | refine CvL.eq ?_ | refine Cv.eq ?_)))
    all_goals simp [AV.ren]
  · exact ⟨Nat.zero_le _, fun i hi => by omega⟩
  · rintro j ⟨h1, h2⟩
    rcases Nat.lt_or_ge j l.length with h | h
    · have hA : At (ids l) (j : Int) [PV.v (.int .u64 l[j])] := At.mk j rfl (by simp [h])
      (repeat' (first | refine AW.seq_k (fun K hK => ?_) | (refine hK _ ?_; clear hK) | (refine AW.condD rfl (fun hc => ?_) (fun hc => ?_) <;> try (first | (exfalso; omega) | (cases hc; done))) | refine AW.block ?_ | refine AW.ret ?_ | refine AW.skip ?_ | (first | (refine AW.region (id := 2) ?_ <;> (try (refine Run.p rfl rfl rfl (OpP.ltt rfl rfl rfl) ?_)) <;> (try refine Run.fin rfl ?_)) | (refine AW.region (id := 3) ?_ <;> (try (refine Run.p rfl rfl rfl (OpP.mvA rfl) ?_)) <;> (try (refine Run.p rfl rfl rfl (OpP.asA rfl) ?_)) <;> (try refine Run.fin rfl ?_)) | (refine AW.region (id := 4) ?_ <;> (try (refine Run.p rfl rfl rfl (OpP.mvA rfl) ?_)) <;> (try (refine Run.p rfl rfl rfl (OpP.mvA rfl) ?_)) <;> (try (refine Run.p rfl rfl rfl (OpP.mvA rfl) ?_)) <;> (try (refine Run.ri rfl rfl rfl (OpRI.indexAddrA rfl rfl) rfl ?_)) <;> (try (refine Run.p rfl rfl rfl (OpP.loadE1 rfl rfl rfl rfl (by (conv => lhs; whnf) <;> rfl)) ?_)) <;> (try (refine Run.p rfl rfl rfl (OpP.eq rfl rfl rfl) ?_)) <;> (try refine Run.fin rfl ?_)) | (refine AW.region (id := 5) ?_ <;> (try (refine Run.p rfl rfl rfl (OpP.mvA rfl) ?_)) <;> (try (refine Run.p rfl rfl rfl (OpP.asA rfl) ?_)) <;> (try refine Run.fin rfl ?_)) | (refine AW.region (id := 6) ?_ <;> (try (refine Run.p rfl rfl rfl (OpP.addA rfl rfl rfl) ?_)) <;> (try (refine Run.p rfl rfl rfl (OpP.mvA rfl) ?_)) <;> (try refine Run.fin rfl ?_)))))
      · obtain rfl := (hr j h2).1 (by rw [List.getElem?_eq_getElem h]; congr 1; omega)
        ((first | refine RetOk.tup rfl rfl ?_ | refine RetOk.one rfl ?_) <;> (repeat' (first | exact Cv.nil | exact Cv.rowf rfl rfl | exact RetC.nil | exact CvL.refl _ | exact Cv.refl | refine RetC.tmp (by (conv => lhs; whnf) <;> rfl) ?_ ?_ | refine RetC.cell1 rfl rfl rfl rfl ?_ ?_ | refine RetC.cellN rfl rfl rfl (by repeat constructor) ?_ ?_ | refine Cv.rowE rfl rfl ?_ | exact Cv.full | exact CvL.nil | refine CvL.cons ?_ ?_)))
      · ((repeat (with_reducible refine inB_n ?_)); refine thenA_n ?_)
        refine ⟨j + 1, ⟨h, fun i hi x hx => ?_⟩, by omega, ?_⟩
        · rcases Nat.lt_or_ge i j with q | q
          · exact h2 i q x hx
          · obtain rfl : i = j := by omega
            rw [List.getElem?_eq_getElem h] at hx
            injection hx with hx
            subst hx; omega
        · refine Conv.mk [] rfl rfl rfl ?_ rfl ?_
          (repeat' (first | exact Cf.nil | exact Cv.refl | exact CvL.refl _ | exact Cv.rowf rfl rfl | exact Crs.nil | refine Cf.cons' (by (conv => lhs; whnf) <;> rfl) ?_ ?_ | refine Crs.cons ?_ rfl ?_ | exact Cr.no | refine Cr.row ?_ | refine Cr.box ?_ | exact Cv.nil | exact Cv.full | exact CvL.nil | refine CvL.cons ?_ ?_))
          (all_goals (try (first | refine CvL.eq ?_ | refine Cv.eq ?_)))
          all_goals simp [AV.ren]
    · obtain rfl := (hr j h2).2 (by omega)
      (repeat' (first | refine AW.seq_k (fun K hK => ?_) | (refine hK _ ?_; clear hK) | (refine AW.condD rfl (fun hc => ?_) (fun hc => ?_) <;> try (first | (exfalso; omega) | (cases hc; done))) | refine AW.exit ?_ | refine AW.ret ?_ | (clear hK; refine hK _ ?_; clear hK) | (first | (refine AW.region (id := 2) ?_ <;> (try (refine Run.p rfl rfl rfl (OpP.ltt rfl rfl rfl) ?_)) <;> (try refine Run.fin rfl ?_)) | (refine AW.region (id := 7) ?_ <;> (try (refine Run.p rfl rfl rfl (OpP.asA rfl) ?_)) <;> (try refine Run.fin rfl ?_)))))
      ((first | refine RetOk.tup rfl rfl ?_ | refine RetOk.one rfl ?_) <;> (repeat' (first | exact Cv.nil | exact Cv.rowf rfl rfl | exact RetC.nil | exact CvL.refl _ | exact Cv.refl | refine RetC.tmp (by (conv => lhs; whnf) <;> rfl) ?_ ?_ | refine RetC.cell1 rfl rfl rfl rfl ?_ ?_ | refine RetC.cellN rfl rfl rfl (by repeat constructor) ?_ ?_ | refine Cv.rowE rfl rfl ?_ | exact Cv.full | exact CvL.nil | refine CvL.cons ?_ ?_)))
theorem Contains_c (l : List Int) (f : Bool) (v : Int) (hl : l.length ≤ 9223372036854775807) : ACalls Try.prog 58 [.sl 1 (ids l) f, .v (.int .u64 v)] [] (.v (.bool (decide (v ∈ l)))) [] := by
  obtain ⟨r, h1, h2⟩ := Index_c l f v hl
  refine (ACalls.of (fn := Try.f58) Try.func58 rfl rfl Try.ntmps58 (fun I M w own => ?_))
  (repeat' (first | refine AW.seq_k (fun K hK => ?_) | (refine hK _ ?_; clear hK) | refine AW.ret ?_ | (first | (refine AW.region (id := 0) ?_ <;> (try (refine Run.p rfl rfl rfl (OpP.asA rfl) ?_)) <;> (try refine Run.fin rfl ?_)) | (refine AW.region (id := 1) ?_ <;> (try (refine Run.p rfl rfl rfl (OpP.mvA rfl) ?_)) <;> (try (refine Run.p rfl rfl rfl (OpP.mvA rfl) ?_)) <;> (try (refine Run.c0 h2 rfl rfl rfl rfl rfl rfl rfl rfl ?_)) <;> (try (refine Run.p rfl rfl rfl (OpP.gee rfl rfl rfl) ?_)) <;> (try (refine Run.p rfl rfl rfl (OpP.asA rfl) ?_)) <;> (try refine Run.fin rfl ?_)))))
  ((first | refine RetOk.tup rfl rfl ?_ | refine RetOk.one rfl ?_) <;> (repeat' (first | exact Cv.nil | exact Cv.rowf rfl rfl | exact RetC.nil | exact CvL.refl _ | exact Cv.refl | refine RetC.tmp (by (conv => lhs; whnf) <;> rfl) ?_ ?_ | refine RetC.cell1 rfl rfl rfl rfl ?_ ?_ | refine RetC.cellN rfl rfl rfl (by repeat constructor) ?_ ?_ | refine Cv.rowE rfl rfl ?_ | exact Cv.full | exact CvL.nil | refine CvL.cons ?_ ?_)))
  (all_goals (try (first | refine CvL.eq ?_ | refine Cv.eq ?_)))
  all_goals (simp only [AV.ren, AV.v.injEq, Value.bool.injEq]; exact decide_eq_decide.2 h1)
theorem Equal_c (a b : List Int) (fa fb : Bool) (ha : a.length ≤ 9223372036854775807) : ACalls Try.prog 56 [.sl 1 (ids a) fa, .sl 1 (ids b) fb] [] (.v (.bool (decide (a = b)))) [] := by
  generalize he : decide (a = b) = r
  refine (ACalls.of (fn := Try.f56) Try.func56 rfl rfl Try.ntmps56 (fun I M w own => ?_))
  (repeat' (first | refine AW.seq_k (fun K hK => ?_) | (refine hK _ ?_; clear hK) | (refine AW.condD rfl (fun hc => ?_) (fun hc => ?_) <;> try (first | (exfalso; omega) | (cases hc; done))) | refine AW.block ?_ | refine AW.ret ?_ | refine AW.skip ?_ | (first | (refine AW.region (id := 0) ?_ <;> (try (refine Run.p rfl rfl rfl (OpP.asA rfl) ?_)) <;> (try refine Run.fin rfl ?_)) | (refine AW.region (id := 1) ?_ <;> (try (refine Run.p rfl rfl rfl (OpP.mvA rfl) ?_)) <;> (try (refine Run.ri rfl rfl rfl (OpRI.lenA rfl rfl) rfl ?_)) <;> (try (refine Run.p rfl rfl rfl (OpP.mvA rfl) ?_)) <;> (try (refine Run.ri rfl rfl rfl (OpRI.lenA rfl rfl) rfl ?_)) <;> (try (refine Run.p rfl rfl rfl (OpP.ne rfl rfl rfl) ?_)) <;> (try refine Run.fin rfl ?_)) | (refine AW.region (id := 2) ?_ <;> (try (refine Run.p rfl rfl rfl (OpP.asA rfl) ?_)) <;> (try refine Run.fin rfl ?_)) | (refine AW.region (id := 3) ?_ <;> (try (refine Run.p rfl rfl rfl (OpP.mvA rfl) ?_)) <;> (try (refine Run.ri rfl rfl rfl (OpRI.lenA rfl rfl) rfl ?_)) <;> (try (refine Run.p rfl rfl rfl (OpP.mvA rfl) ?_)) <;> (try refine Run.fin rfl ?_)))))
  · simp only [List.length_map] at hc
    obtain rfl : r = false := by rw [← he]; simp; rintro rfl; omega
    ((first | refine RetOk.tup rfl rfl ?_ | refine RetOk.one rfl ?_) <;> (repeat' (first | exact Cv.nil | exact Cv.rowf rfl rfl | exact RetC.nil | exact CvL.refl _ | exact Cv.refl | refine RetC.tmp (by (conv => lhs; whnf) <;> rfl) ?_ ?_ | refine RetC.cell1 rfl rfl rfl rfl ?_ ?_ | refine RetC.cellN rfl rfl rfl (by repeat constructor) ?_ ?_ | refine Cv.rowE rfl rfl ?_ | exact Cv.full | exact CvL.nil | refine CvL.cons ?_ ?_)))
  · simp only [List.length_map, Decidable.not_not, ne_eq] at hc
    have hab : a.length = b.length := by omega
    refine AW.loopF (X := Nat) (fun x => ⟨[(0, .sl 1 (ids a) fa), (1, .sl 1 (ids b) fb), (12, .v (.int .i64 (a.length : Int))), (13, .v (.int .i64 (x : Int)))], []⟩)
      (fun x => x ≤ a.length ∧ a.take x = b.take x) (fun x => a.length - x) 0 ?_ ?_ ?_
    · refine Conv.mk [] rfl rfl rfl ?_ rfl ?_
      (repeat' (first | exact Cf.nil | exact Cv.refl | exact CvL.refl _ | exact Cv.rowf rfl rfl | exact Crs.nil | refine Cf.cons' (by (conv => lhs; whnf) <;> rfl) ?_ ?_ | refine Crs.cons ?_ rfl ?_ | exact Cr.no | refine Cr.row ?_ | refine Cr.box ?_ | exact Cv.nil | exact Cv.full | exact CvL.nil | refine CvL.cons ?_ ?_))
      (all_goals (try (first | refine CvL.eq ?_ | refine Cv.eq ?_)))
      all_goals simp [AV.ren]
    · simp
    · rintro i ⟨h1, h2⟩
      rcases Nat.lt_or_ge i a.length with h | h
      · have hA : At (ids a) (i : Int) [PV.v (.int .u64 a[i])] := At.mk i rfl (by simp [h])
        have hB : At (ids b) (i : Int) [PV.v (.int .u64 (b[i]'(by omega)))] := At.mk i rfl (by simp [show i < b.length by omega])
        (repeat' (first | refine AW.seq_k (fun K hK => ?_) | (refine hK _ ?_; clear hK) | (refine AW.condD rfl (fun hc => ?_) (fun hc => ?_) <;> try (first | (exfalso; omega) | (cases hc; done))) | refine AW.block ?_ | refine AW.ret ?_ | refine AW.skip ?_ | (first | (refine AW.region (id := 4) ?_ <;> (try (refine Run.p rfl rfl rfl (OpP.ltt rfl rfl rfl) ?_)) <;> (try refine Run.fin rfl ?_)) | (refine AW.region (id := 5) ?_ <;> (try (refine Run.p rfl rfl rfl (OpP.mvA rfl) ?_)) <;> (try (refine Run.p rfl rfl rfl (OpP.asA rfl) ?_)) <;> (try refine Run.fin rfl ?_)) | (refine AW.draw (id := 6) (by kernel_rfl) ?_ <;> (try (refine Run.p rfl rfl rfl (OpP.mvA rfl) ?_)) <;> (try (refine Run.p rfl rfl rfl (OpP.mvA rfl) ?_)) <;> (try (refine Run.ri rfl rfl rfl (OpRI.indexAddrA rfl rfl) rfl ?_)) <;> (try (refine Run.p rfl rfl rfl (OpP.loadE1 rfl rfl rfl rfl (by (conv => lhs; whnf) <;> rfl)) ?_)) <;> (try (refine Run.p rfl rfl rfl (OpP.mvA rfl) ?_)) <;> (try (refine Run.p rfl rfl rfl (OpP.mvA rfl) ?_)) <;> (try (refine Run.ri rfl rfl rfl (OpRI.indexAddrA rfl rfl) rfl ?_)) <;> (try (refine Run.p rfl rfl rfl (OpP.loadE1 rfl rfl rfl rfl (by (conv => lhs; whnf) <;> rfl)) ?_)) <;> (try (refine Run.p rfl rfl rfl (OpP.ne rfl rfl rfl) ?_)) <;> (try refine Run.fin (by kernel_rfl) ?_)) | (refine AW.region (id := 7) ?_ <;> (try (refine Run.p rfl rfl rfl (OpP.asA rfl) ?_)) <;> (try refine Run.fin rfl ?_)) | (refine AW.region (id := 8) ?_ <;> (try (refine Run.p rfl rfl rfl (OpP.addA rfl rfl rfl) ?_)) <;> (try (refine Run.p rfl rfl rfl (OpP.mvA rfl) ?_)) <;> (try refine Run.fin rfl ?_)))))
        · obtain rfl : r = false := by
            rw [← he, decide_eq_false_iff_not]
            rintro rfl
            exact hc rfl
          ((first | refine RetOk.tup rfl rfl ?_ | refine RetOk.one rfl ?_) <;> (repeat' (first | exact Cv.nil | exact Cv.rowf rfl rfl | exact RetC.nil | exact CvL.refl _ | exact Cv.refl | refine RetC.tmp (by (conv => lhs; whnf) <;> rfl) ?_ ?_ | refine RetC.cell1 rfl rfl rfl rfl ?_ ?_ | refine RetC.cellN rfl rfl rfl (by repeat constructor) ?_ ?_ | refine Cv.rowE rfl rfl ?_ | exact Cv.full | exact CvL.nil | refine CvL.cons ?_ ?_)))
        · ((repeat (with_reducible refine inB_n ?_)); refine thenA_n ?_)
          refine ⟨i + 1, ⟨h, ?_⟩, by omega, ?_⟩
          · rw [List.take_add_one, List.take_add_one, h2]
            congr 1
            simp [h, show i < b.length by omega, Decidable.not_not.1 hc]
          · refine Conv.mk [] rfl rfl rfl ?_ rfl ?_
            (repeat' (first | exact Cf.nil | exact Cv.refl | exact CvL.refl _ | exact Cv.rowf rfl rfl | exact Crs.nil | refine Cf.cons' (by (conv => lhs; whnf) <;> rfl) ?_ ?_ | refine Crs.cons ?_ rfl ?_ | exact Cr.no | refine Cr.row ?_ | refine Cr.box ?_ | exact Cv.nil | exact Cv.full | exact CvL.nil | refine CvL.cons ?_ ?_))
            (all_goals (try (first | refine CvL.eq ?_ | refine Cv.eq ?_)))
            all_goals simp [AV.ren]
      · (repeat' (first | refine AW.seq_k (fun K hK => ?_) | (refine hK _ ?_; clear hK) | (refine AW.condD rfl (fun hc => ?_) (fun hc => ?_) <;> try (first | (exfalso; omega) | (cases hc; done))) | refine AW.exit ?_ | refine AW.ret ?_ | (clear hK; refine hK _ ?_; clear hK) | (first | (refine AW.region (id := 4) ?_ <;> (try (refine Run.p rfl rfl rfl (OpP.ltt rfl rfl rfl) ?_)) <;> (try refine Run.fin rfl ?_)) | (refine AW.region (id := 9) ?_ <;> (try (refine Run.p rfl rfl rfl (OpP.asA rfl) ?_)) <;> (try refine Run.fin rfl ?_)))))
        obtain rfl : r = true := by
          rw [← he, decide_eq_true_eq]
          rw [List.take_of_length_le h, List.take_of_length_le (by omega)] at h2
          exact h2
        ((first | refine RetOk.tup rfl rfl ?_ | refine RetOk.one rfl ?_) <;> (repeat' (first | exact Cv.nil | exact Cv.rowf rfl rfl | exact RetC.nil | exact CvL.refl _ | exact Cv.refl | refine RetC.tmp (by (conv => lhs; whnf) <;> rfl) ?_ ?_ | refine RetC.cell1 rfl rfl rfl rfl ?_ ?_ | refine RetC.cellN rfl rfl rfl (by repeat constructor) ?_ ?_ | refine Cv.rowE rfl rfl ?_ | exact Cv.full | exact CvL.nil | refine CvL.cons ?_ ?_)))
/-- a choice -/
structure Ch where
  role : List UInt8
  set : List Int
  dev : Int
abbrev Ch.cells (c : Ch) : List AV := [.v (.string (bs c.role)), .sl 1 (ids c.set) false, .v (.int .u64 c.dev)]
abbrev Ch.pv (c : Ch) : List PV := [.v (.string (bs c.role)), .sl 1 (ids c.set), .v (.int .u64 c.dev)]
abbrev chs (l : List Ch) : List (List PV) := l.map Ch.pv
/-- what fits a machine -/
def Ch.ok (c : Ch) : Prop := c.role.length ≤ 9223372036854775807 ∧ c.set.length ≤ 9223372036854775807
def properB (c : Ch) : Bool := nameB c.role && (decide (1 ≤ (c.set.length : Int)) && (decide ((c.set.length : Int) ≤ 8) && (ascI 0 c.set && decide (c.dev ∈ c.set))))
theorem Proper_c (c : Ch) (hc : c.ok) : ACalls Try.prog 34 [.agg c.cells] [] (.v (.bool (properB c))) [] := by
  generalize hr : properB c = r
  rw [properB] at hr
  obtain ⟨k1, k2⟩ := hc
  have h1 := Name_c c.role k1
  have h2 := Ascending_c c.set false k2
  have h3 := Contains_c c.set false c.dev k2
  refine (ACalls.of (fn := Try.f34) Try.func34 rfl rfl Try.ntmps34 (fun I M w own => ?_))
  (repeat' (first | refine AW.seq_k (fun K hK => ?_) | (refine hK _ ?_; clear hK) | refine AW.ret ?_ | (first | (refine AW.region (id := 0) ?_ <;> (try (refine Run.bxA rfl rfl rfl rfl ?_)) <;> (try (refine Run.p rfl rfl rfl (OpP.asA rfl) ?_)) <;> (try refine Run.fin rfl ?_)) | (refine AW.region (id := 1) ?_ <;> (try (refine Run.p rfl rfl rfl (OpP.fieldAddrA rfl rfl) ?_)) <;> (try (refine Run.ld1 rfl rfl rfl rfl rfl rfl rfl rfl ?_)) <;> (try (refine Run.c0 h1 rfl rfl rfl rfl rfl rfl rfl rfl ?_)) <;> (try (refine Run.p rfl rfl rfl (OpP.mvA rfl) ?_)) <;> (try (refine Run.gpc (by first | exact Gd.t rfl rfl rfl rfl | exact Gd.t2 rfl rfl rfl rfl) rfl rfl (fun hg => ⟨OpP.fieldAddrA rfl rfl, (by repeat (first | exact trivial | assumption | refine ⟨?_, ?_⟩))⟩) ?_)) <;> (try (refine Run.glcA (by first | exact Gd.t rfl rfl rfl rfl | exact Gd.t2 rfl rfl rfl rfl) rfl rfl rfl rfl rfl rfl rfl ?_)) <;> (try (refine Run.griA (by first | exact Gd.t rfl rfl rfl rfl | exact Gd.t2 rfl rfl rfl rfl) rfl rfl (fun hg => ⟨OpRI.lenA rfl rfl, (by repeat (first | exact trivial | assumption | refine ⟨?_, ?_⟩))⟩) rfl ?_)) <;> (try (refine Run.gpc (by first | exact Gd.t rfl rfl rfl rfl | exact Gd.t2 rfl rfl rfl rfl) rfl rfl (fun hg => ⟨OpP.gee rfl rfl rfl, (by repeat (first | exact trivial | assumption | refine ⟨?_, ?_⟩))⟩) ?_)) <;> (try (refine Run.p rfl rfl rfl (OpP.pickAnd rfl rfl rfl rfl) ?_)) <;> (try (refine Run.p rfl rfl rfl (OpP.mvA rfl) ?_)) <;> (try (refine Run.gpc (by first | exact Gd.t rfl rfl rfl rfl | exact Gd.t2 rfl rfl rfl rfl) rfl rfl (fun hg => ⟨OpP.fieldAddrA rfl rfl, (by repeat (first | exact trivial | assumption | refine ⟨?_, ?_⟩))⟩) ?_)) <;> (try (refine Run.glcA (by first | exact Gd.t rfl rfl rfl rfl | exact Gd.t2 rfl rfl rfl rfl) rfl rfl rfl rfl rfl rfl rfl ?_)) <;> (try (refine Run.griA (by first | exact Gd.t rfl rfl rfl rfl | exact Gd.t2 rfl rfl rfl rfl) rfl rfl (fun hg => ⟨OpRI.lenA rfl rfl, (by repeat (first | exact trivial | assumption | refine ⟨?_, ?_⟩))⟩) rfl ?_)) <;> (try (refine Run.gpc (by first | exact Gd.t rfl rfl rfl rfl | exact Gd.t2 rfl rfl rfl rfl) rfl rfl (fun hg => ⟨OpP.lee rfl rfl rfl, (by repeat (first | exact trivial | assumption | refine ⟨?_, ?_⟩))⟩) ?_)) <;> (try (refine Run.p rfl rfl rfl (OpP.pickAnd rfl rfl rfl rfl) ?_)) <;> (try (refine Run.p rfl rfl rfl (OpP.mvA rfl) ?_)) <;> (try (refine Run.gpc (by first | exact Gd.t rfl rfl rfl rfl | exact Gd.t2 rfl rfl rfl rfl) rfl rfl (fun hg => ⟨OpP.fieldAddrA rfl rfl, (by repeat (first | exact trivial | assumption | refine ⟨?_, ?_⟩))⟩) ?_)) <;> (try (refine Run.glcA (by first | exact Gd.t rfl rfl rfl rfl | exact Gd.t2 rfl rfl rfl rfl) rfl rfl rfl rfl rfl rfl rfl ?_)) <;> (try (refine Run.gccA (fun hg => h2) (by first | exact Gd.t rfl rfl rfl rfl | exact Gd.t2 rfl rfl rfl rfl) rfl rfl rfl rfl rfl rfl rfl ?_)) <;> (try (refine Run.p rfl rfl rfl (OpP.pickAnd rfl rfl rfl rfl) ?_)) <;> (try (refine Run.p rfl rfl rfl (OpP.mvA rfl) ?_)) <;> (try (refine Run.gpc (by first | exact Gd.t rfl rfl rfl rfl | exact Gd.t2 rfl rfl rfl rfl) rfl rfl (fun hg => ⟨OpP.fieldAddrA rfl rfl, (by repeat (first | exact trivial | assumption | refine ⟨?_, ?_⟩))⟩) ?_)) <;> (try (refine Run.glcA (by first | exact Gd.t rfl rfl rfl rfl | exact Gd.t2 rfl rfl rfl rfl) rfl rfl rfl rfl rfl rfl rfl ?_)) <;> (try (refine Run.gpc (by first | exact Gd.t rfl rfl rfl rfl | exact Gd.t2 rfl rfl rfl rfl) rfl rfl (fun hg => ⟨OpP.fieldAddrA rfl rfl, (by repeat (first | exact trivial | assumption | refine ⟨?_, ?_⟩))⟩) ?_)) <;> (try (refine Run.glcA (by first | exact Gd.t rfl rfl rfl rfl | exact Gd.t2 rfl rfl rfl rfl) rfl rfl rfl rfl rfl rfl rfl ?_)) <;> (try (refine Run.gccA (fun hg => h3) (by first | exact Gd.t rfl rfl rfl rfl | exact Gd.t2 rfl rfl rfl rfl) rfl rfl rfl rfl rfl rfl rfl ?_)) <;> (try (refine Run.p rfl rfl rfl (OpP.pickAnd rfl rfl rfl rfl) ?_)) <;> (try (refine Run.p rfl rfl rfl (OpP.asA rfl) ?_)) <;> (try refine Run.fin rfl ?_)))))
  all_goals ((first | refine RetOk.tup rfl rfl ?_ | refine RetOk.one rfl ?_) <;> (repeat' (first | exact Cv.nil | exact Cv.rowf rfl rfl | exact RetC.nil | exact CvL.refl _ | exact Cv.refl | refine RetC.tmp (by (conv => lhs; whnf) <;> rfl) ?_ ?_ | refine RetC.cell1 rfl rfl rfl rfl ?_ ?_ | refine RetC.cellN rfl rfl rfl (by repeat constructor) ?_ ?_ | refine Cv.rowE rfl rfl ?_ | exact Cv.full | exact CvL.nil | refine CvL.cons ?_ ?_)))
  (all_goals (try (first | refine CvL.eq ?_ | refine Cv.eq ?_)))
  all_goals (simp only [AV.ren, AV.v.injEq, Value.bool.injEq]; rw [← hr]; simp [Bool.and_assoc])
def likeB (a b : Ch) : Bool := decide (a.role = b.role) && decide (a.set = b.set)
theorem like_c (a b : Ch) (ha : a.ok) : ACalls Try.prog 46 [.agg a.cells, .agg b.cells] [] (.v (.bool (likeB a b))) [] := by
  have h1 := Equal_c a.set b.set false false ha.2
  refine (ACalls.of (fn := Try.f46) Try.func46 rfl rfl Try.ntmps46 (fun I M w own => ?_))
  (repeat' (first | refine AW.seq_k (fun K hK => ?_) | (refine hK _ ?_; clear hK) | refine AW.ret ?_ | (first | (refine AW.region (id := 0) ?_ <;> (try (refine Run.bxA rfl rfl rfl rfl ?_)) <;> (try (refine Run.bxA rfl rfl rfl rfl ?_)) <;> (try (refine Run.p rfl rfl rfl (OpP.asA rfl) ?_)) <;> (try refine Run.fin rfl ?_)) | (refine AW.region (id := 1) ?_ <;> (try (refine Run.p rfl rfl rfl (OpP.fieldAddrA rfl rfl) ?_)) <;> (try (refine Run.ld1 rfl rfl rfl rfl rfl rfl rfl rfl ?_)) <;> (try (refine Run.p rfl rfl rfl (OpP.fieldAddrA rfl rfl) ?_)) <;> (try (refine Run.ld1 rfl rfl rfl rfl rfl rfl rfl rfl ?_)) <;> (try (refine Run.p rfl rfl rfl (OpP.seq rfl rfl rfl) ?_)) <;> (try (refine Run.p rfl rfl rfl (OpP.mvA rfl) ?_)) <;> (try (refine Run.gpc (by first | exact Gd.t rfl rfl rfl rfl | exact Gd.t2 rfl rfl rfl rfl) rfl rfl (fun hg => ⟨OpP.fieldAddrA rfl rfl, (by repeat (first | exact trivial | assumption | refine ⟨?_, ?_⟩))⟩) ?_)) <;> (try (refine Run.glcA (by first | exact Gd.t rfl rfl rfl rfl | exact Gd.t2 rfl rfl rfl rfl) rfl rfl rfl rfl rfl rfl rfl ?_)) <;> (try (refine Run.gpc (by first | exact Gd.t rfl rfl rfl rfl | exact Gd.t2 rfl rfl rfl rfl) rfl rfl (fun hg => ⟨OpP.fieldAddrA rfl rfl, (by repeat (first | exact trivial | assumption | refine ⟨?_, ?_⟩))⟩) ?_)) <;> (try (refine Run.glcA (by first | exact Gd.t rfl rfl rfl rfl | exact Gd.t2 rfl rfl rfl rfl) rfl rfl rfl rfl rfl rfl rfl ?_)) <;> (try (refine Run.gccA (fun hg => h1) (by first | exact Gd.t rfl rfl rfl rfl | exact Gd.t2 rfl rfl rfl rfl) rfl rfl rfl rfl rfl rfl rfl ?_)) <;> (try (refine Run.p rfl rfl rfl (OpP.pickAnd rfl rfl rfl rfl) ?_)) <;> (try (refine Run.p rfl rfl rfl (OpP.asA rfl) ?_)) <;> (try refine Run.fin rfl ?_)))))
  all_goals ((first | refine RetOk.tup rfl rfl ?_ | refine RetOk.one rfl ?_) <;> (repeat' (first | exact Cv.nil | exact Cv.rowf rfl rfl | exact RetC.nil | exact CvL.refl _ | exact Cv.refl | refine RetC.tmp (by (conv => lhs; whnf) <;> rfl) ?_ ?_ | refine RetC.cell1 rfl rfl rfl rfl ?_ ?_ | refine RetC.cellN rfl rfl rfl (by repeat constructor) ?_ ?_ | refine Cv.rowE rfl rfl ?_ | exact Cv.full | exact CvL.nil | refine CvL.cons ?_ ?_)))
end Go.Proofs.Ytbbcokckealagaa
