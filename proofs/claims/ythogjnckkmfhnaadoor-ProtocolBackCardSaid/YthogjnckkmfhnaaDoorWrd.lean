/-
  Walks of the readers of words, of the program and of the reference.
-/
import Derived.Test.YthogjnckkmfhnaaDoorTy
import Derived.Test.YthogjnckkmfhnaaDoorBaB
import Derived.Test.YthogjnckkmfhnaaDoorName
import Derived.Test.YthogjnckkmfhnaaDoorASh
namespace Go.Proofs.YthogjnckkmfhnaaDoor
set_option linter.unusedVariables false
set_option linter.unusedSimpArgs false
def simpleB (c : UInt8) : Bool := decide (32 < (c.toNat : Int) ∧ (c.toNat : Int) < 127 ∧ (c.toNat : Int) ≠ 34 ∧ (c.toNat : Int) ≠ 92)
def meant (c : UInt8) : Option UInt8 := if (c.toNat : Int) = 34 ∨ (c.toNat : Int) = 92 then some c else if (c.toNat : Int) = 110 then some 10 else if (c.toNat : Int) = 114 then some 13 else none
abbrev u8 (c : UInt8) : AV := .v (.int .u8 (c.toNat : Int))
theorem simple_c (c : UInt8) : ACalls Tryd.prog 67 [u8 c] [] (.v (.bool (simpleB c))) [] := by
  generalize hr : simpleB c = r
  refine (ACalls.of (fn := Tryd.f67) Tryd.func67 rfl rfl Tryd.ntmps67 (fun I M w own => ?_))
  (repeat' (first | refine AW.seq_k (fun K hK => ?_) | (refine hK _ ?_; clear hK) | refine AW.ret ?_ | (first | (refine AW.region (id := 0) ?_ <;> (try (refine Run.p rfl rfl rfl (OpP.asA rfl) ?_)) <;> (try refine Run.fin rfl ?_)) | (refine AW.region (id := 1) ?_ <;> (try (refine Run.p rfl rfl rfl (OpP.mvA rfl) ?_)) <;> (try (refine Run.p rfl rfl rfl (OpP.gtt rfl rfl rfl) ?_)) <;> (try (refine Run.p rfl rfl rfl (OpP.mvA rfl) ?_)) <;> (try (refine Run.gpc (by first | exact Gd.t rfl rfl rfl rfl | exact Gd.t2 rfl rfl rfl rfl) rfl rfl (fun hg => ⟨OpP.mvA rfl, (by repeat (first | exact trivial | assumption | refine ⟨?_, ?_⟩))⟩) ?_)) <;> (try (refine Run.gpc (by first | exact Gd.t rfl rfl rfl rfl | exact Gd.t2 rfl rfl rfl rfl) rfl rfl (fun hg => ⟨OpP.ltt rfl rfl rfl, (by repeat (first | exact trivial | assumption | refine ⟨?_, ?_⟩))⟩) ?_)) <;> (try (refine Run.p rfl rfl rfl (OpP.pickAnd rfl rfl rfl rfl) ?_)) <;> (try (refine Run.p rfl rfl rfl (OpP.mvA rfl) ?_)) <;> (try (refine Run.gpc (by first | exact Gd.t rfl rfl rfl rfl | exact Gd.t2 rfl rfl rfl rfl) rfl rfl (fun hg => ⟨OpP.mvA rfl, (by repeat (first | exact trivial | assumption | refine ⟨?_, ?_⟩))⟩) ?_)) <;> (try (refine Run.gpc (by first | exact Gd.t rfl rfl rfl rfl | exact Gd.t2 rfl rfl rfl rfl) rfl rfl (fun hg => ⟨OpP.ne rfl rfl rfl, (by repeat (first | exact trivial | assumption | refine ⟨?_, ?_⟩))⟩) ?_)) <;> (try (refine Run.p rfl rfl rfl (OpP.pickAnd rfl rfl rfl rfl) ?_)) <;> (try (refine Run.p rfl rfl rfl (OpP.mvA rfl) ?_)) <;> (try (refine Run.gpc (by first | exact Gd.t rfl rfl rfl rfl | exact Gd.t2 rfl rfl rfl rfl) rfl rfl (fun hg => ⟨OpP.mvA rfl, (by repeat (first | exact trivial | assumption | refine ⟨?_, ?_⟩))⟩) ?_)) <;> (try (refine Run.gpc (by first | exact Gd.t rfl rfl rfl rfl | exact Gd.t2 rfl rfl rfl rfl) rfl rfl (fun hg => ⟨OpP.ne rfl rfl rfl, (by repeat (first | exact trivial | assumption | refine ⟨?_, ?_⟩))⟩) ?_)) <;> (try (refine Run.p rfl rfl rfl (OpP.pickAnd rfl rfl rfl rfl) ?_)) <;> (try (refine Run.p rfl rfl rfl (OpP.asA rfl) ?_)) <;> (try refine Run.fin rfl ?_)))))
  all_goals subst hr
  all_goals ((first | refine RetOk.tup rfl rfl ?_ | refine RetOk.one rfl ?_) <;> (repeat' (first | exact Cv.nil | exact Cv.rowf rfl rfl | exact RetC.nil | exact CvL.refl _ | exact Cv.refl | refine RetC.tmp (by (conv => lhs; whnf) <;> rfl) ?_ ?_ | refine RetC.cell1 rfl rfl rfl rfl ?_ ?_ | refine RetC.cellN rfl rfl rfl (by repeat constructor) ?_ ?_ | refine Cv.rowE rfl rfl ?_ | exact Cv.full | exact CvL.nil | refine CvL.cons ?_ ?_)))
  (all_goals (try (first | refine CvL.eq ?_ | refine Cv.eq ?_)))
  all_goals (simp only [AV.ren, AV.v.injEq, Value.bool.injEq]; rw [Bool.eq_iff_iff]; simp only [simpleB, Bool.and_eq_true, Bool.or_eq_true, Bool.not_eq_true', Bool.not_eq_false', Bool.and_eq_false_iff, Bool.or_eq_false_iff, Bool.and_eq_false_imp, decide_eq_true_eq, decide_eq_false_iff_not, Decidable.not_not, Int.not_lt, Int.not_le, ne_eq, Bool.not_not]; omega)
theorem plainByte_c (c : UInt8) : ACalls Tryd.prog 69 [u8 c] [] (.v (.bool (simpleB c))) [] := by
  generalize hr : simpleB c = r
  refine (ACalls.of (fn := Tryd.f69) Tryd.func69 rfl rfl Tryd.ntmps69 (fun I M w own => ?_))
  (repeat' (first | refine AW.seq_k (fun K hK => ?_) | (refine hK _ ?_; clear hK) | refine AW.ret ?_ | (first | (refine AW.region (id := 0) ?_ <;> (try (refine Run.p rfl rfl rfl (OpP.asA rfl) ?_)) <;> (try refine Run.fin rfl ?_)) | (refine AW.region (id := 1) ?_ <;> (try (refine Run.p rfl rfl rfl (OpP.mvA rfl) ?_)) <;> (try (refine Run.p rfl rfl rfl (OpP.gee rfl rfl rfl) ?_)) <;> (try (refine Run.p rfl rfl rfl (OpP.mvA rfl) ?_)) <;> (try (refine Run.gpc (by first | exact Gd.t rfl rfl rfl rfl | exact Gd.t2 rfl rfl rfl rfl) rfl rfl (fun hg => ⟨OpP.mvA rfl, (by repeat (first | exact trivial | assumption | refine ⟨?_, ?_⟩))⟩) ?_)) <;> (try (refine Run.gpc (by first | exact Gd.t rfl rfl rfl rfl | exact Gd.t2 rfl rfl rfl rfl) rfl rfl (fun hg => ⟨OpP.lee rfl rfl rfl, (by repeat (first | exact trivial | assumption | refine ⟨?_, ?_⟩))⟩) ?_)) <;> (try (refine Run.p rfl rfl rfl (OpP.pickAnd rfl rfl rfl rfl) ?_)) <;> (try (refine Run.p rfl rfl rfl (OpP.mvA rfl) ?_)) <;> (try (refine Run.gpc (by first | exact Gd.t rfl rfl rfl rfl | exact Gd.t2 rfl rfl rfl rfl) rfl rfl (fun hg => ⟨OpP.mvA rfl, (by repeat (first | exact trivial | assumption | refine ⟨?_, ?_⟩))⟩) ?_)) <;> (try (refine Run.gpc (by first | exact Gd.t rfl rfl rfl rfl | exact Gd.t2 rfl rfl rfl rfl) rfl rfl (fun hg => ⟨OpP.ne rfl rfl rfl, (by repeat (first | exact trivial | assumption | refine ⟨?_, ?_⟩))⟩) ?_)) <;> (try (refine Run.p rfl rfl rfl (OpP.pickAnd rfl rfl rfl rfl) ?_)) <;> (try (refine Run.p rfl rfl rfl (OpP.mvA rfl) ?_)) <;> (try (refine Run.gpc (by first | exact Gd.t rfl rfl rfl rfl | exact Gd.t2 rfl rfl rfl rfl) rfl rfl (fun hg => ⟨OpP.mvA rfl, (by repeat (first | exact trivial | assumption | refine ⟨?_, ?_⟩))⟩) ?_)) <;> (try (refine Run.gpc (by first | exact Gd.t rfl rfl rfl rfl | exact Gd.t2 rfl rfl rfl rfl) rfl rfl (fun hg => ⟨OpP.ne rfl rfl rfl, (by repeat (first | exact trivial | assumption | refine ⟨?_, ?_⟩))⟩) ?_)) <;> (try (refine Run.p rfl rfl rfl (OpP.pickAnd rfl rfl rfl rfl) ?_)) <;> (try (refine Run.p rfl rfl rfl (OpP.asA rfl) ?_)) <;> (try refine Run.fin rfl ?_)))))
  all_goals subst hr
  all_goals ((first | refine RetOk.tup rfl rfl ?_ | refine RetOk.one rfl ?_) <;> (repeat' (first | exact Cv.nil | exact Cv.rowf rfl rfl | exact RetC.nil | exact CvL.refl _ | exact Cv.refl | refine RetC.tmp (by (conv => lhs; whnf) <;> rfl) ?_ ?_ | refine RetC.cell1 rfl rfl rfl rfl ?_ ?_ | refine RetC.cellN rfl rfl rfl (by repeat constructor) ?_ ?_ | refine Cv.rowE rfl rfl ?_ | exact Cv.full | exact CvL.nil | refine CvL.cons ?_ ?_)))
  (all_goals (try (first | refine CvL.eq ?_ | refine Cv.eq ?_)))
  all_goals (simp only [AV.ren, AV.v.injEq, Value.bool.injEq]; rw [Bool.eq_iff_iff]; simp only [simpleB, Bool.and_eq_true, Bool.or_eq_true, Bool.not_eq_true', Bool.not_eq_false', Bool.and_eq_false_iff, Bool.or_eq_false_iff, Bool.and_eq_false_imp, decide_eq_true_eq, decide_eq_false_iff_not, Decidable.not_not, Int.not_lt, Int.not_le, ne_eq, Bool.not_not]; omega)
theorem meaning_c (c : UInt8) : ACalls Tryd.prog 68 [u8 c] [] (.tup [u8 ((meant c).getD 0), .v (.bool (meant c).isSome)]) [] := by
  generalize hr : (meant c).getD 0 = r
  generalize hr' : (meant c).isSome = r'
  refine (ACalls.of (fn := Tryd.f68) Tryd.func68 rfl rfl Tryd.ntmps68 (fun I M w own => ?_))
  (repeat' (first | refine AW.seq_k (fun K hK => ?_) | (refine hK _ ?_; clear hK) | (refine AW.condD rfl (fun hc => ?_) (fun hc => ?_) <;> try (first | (exfalso; omega) | (cases hc; done))) | refine AW.block ?_ | refine AW.ret ?_ | refine AW.skip ?_ | (first | (refine AW.region (id := 0) ?_ <;> (try (refine Run.p rfl rfl rfl (OpP.asA rfl) ?_)) <;> (try (refine Run.p rfl rfl rfl (OpP.asA rfl) ?_)) <;> (try refine Run.fin rfl ?_)) | (refine AW.region (id := 1) ?_ <;> (try (refine Run.p rfl rfl rfl (OpP.mvA rfl) ?_)) <;> (try refine Run.fin rfl ?_)) | (refine AW.region (id := 2) ?_ <;> (try (refine Run.p rfl rfl rfl (OpP.eq rfl rfl rfl) ?_)) <;> (try (refine Run.p rfl rfl rfl (OpP.asA rfl) ?_)) <;> (try refine Run.fin rfl ?_)) | (refine AW.region (id := 3) ?_ <;> (try (refine Run.p rfl rfl rfl (OpP.eq rfl rfl rfl) ?_)) <;> (try (refine Run.p rfl rfl rfl (OpP.asA rfl) ?_)) <;> (try refine Run.fin rfl ?_)) | (refine AW.region (id := 4) ?_ <;> (try (refine Run.p rfl rfl rfl (OpP.mvA rfl) ?_)) <;> (try (refine Run.p rfl rfl rfl (OpP.asA rfl) ?_)) <;> (try (refine Run.p rfl rfl rfl (OpP.asA rfl) ?_)) <;> (try refine Run.fin rfl ?_)) | (refine AW.region (id := 5) ?_ <;> (try (refine Run.p rfl rfl rfl (OpP.eq rfl rfl rfl) ?_)) <;> (try (refine Run.p rfl rfl rfl (OpP.asA rfl) ?_)) <;> (try refine Run.fin rfl ?_)) | (refine AW.region (id := 6) ?_ <;> (try (refine Run.p rfl rfl rfl (OpP.asA rfl) ?_)) <;> (try (refine Run.p rfl rfl rfl (OpP.asA rfl) ?_)) <;> (try refine Run.fin rfl ?_)) | (refine AW.region (id := 7) ?_ <;> (try (refine Run.p rfl rfl rfl (OpP.eq rfl rfl rfl) ?_)) <;> (try (refine Run.p rfl rfl rfl (OpP.asA rfl) ?_)) <;> (try refine Run.fin rfl ?_)) | (refine AW.region (id := 8) ?_ <;> (try (refine Run.p rfl rfl rfl (OpP.asA rfl) ?_)) <;> (try (refine Run.p rfl rfl rfl (OpP.asA rfl) ?_)) <;> (try refine Run.fin rfl ?_)) | (refine AW.region (id := 9) ?_ <;> (try (refine Run.p rfl rfl rfl (OpP.asA rfl) ?_)) <;> (try (refine Run.p rfl rfl rfl (OpP.asA rfl) ?_)) <;> (try refine Run.fin rfl ?_)))))
  all_goals subst hr hr'
  all_goals ((first | refine RetOk.tup rfl rfl ?_ | refine RetOk.one rfl ?_) <;> (repeat' (first | exact Cv.nil | exact Cv.rowf rfl rfl | exact RetC.nil | exact CvL.refl _ | exact Cv.refl | refine RetC.tmp (by (conv => lhs; whnf) <;> rfl) ?_ ?_ | refine RetC.cell1 rfl rfl rfl rfl ?_ ?_ | refine RetC.cellN rfl rfl rfl (by repeat constructor) ?_ ?_ | refine Cv.rowE rfl rfl ?_ | exact Cv.full | exact CvL.nil | refine CvL.cons ?_ ?_)))
  (all_goals (try (first | refine CvL.eq ?_ | refine Cv.eq ?_)))
  all_goals (simp [meant, AV.ren, *]; done)
theorem pair_c (c : UInt8) : ACalls Tryd.prog 70 [u8 c] [] (.tup [u8 ((meant c).getD 0), .v (.bool (meant c).isSome)]) [] := by
  generalize hr : (meant c).getD 0 = r
  generalize hr' : (meant c).isSome = r'
  refine (ACalls.of (fn := Tryd.f70) Tryd.func70 rfl rfl Tryd.ntmps70 (fun I M w own => ?_))
  (repeat' (first | refine AW.seq_k (fun K hK => ?_) | (refine hK _ ?_; clear hK) | (refine AW.condD rfl (fun hc => ?_) (fun hc => ?_) <;> try (first | (exfalso; omega) | (cases hc; done))) | refine AW.block ?_ | refine AW.ret ?_ | refine AW.skip ?_ | (first | (refine AW.region (id := 0) ?_ <;> (try (refine Run.p rfl rfl rfl (OpP.asA rfl) ?_)) <;> (try (refine Run.p rfl rfl rfl (OpP.asA rfl) ?_)) <;> (try refine Run.fin rfl ?_)) | (refine AW.region (id := 1) ?_ <;> (try (refine Run.p rfl rfl rfl (OpP.mvA rfl) ?_)) <;> (try refine Run.fin rfl ?_)) | (refine AW.region (id := 2) ?_ <;> (try (refine Run.p rfl rfl rfl (OpP.eq rfl rfl rfl) ?_)) <;> (try (refine Run.p rfl rfl rfl (OpP.asA rfl) ?_)) <;> (try refine Run.fin rfl ?_)) | (refine AW.region (id := 3) ?_ <;> (try (refine Run.p rfl rfl rfl (OpP.eq rfl rfl rfl) ?_)) <;> (try (refine Run.p rfl rfl rfl (OpP.asA rfl) ?_)) <;> (try refine Run.fin rfl ?_)) | (refine AW.region (id := 4) ?_ <;> (try (refine Run.p rfl rfl rfl (OpP.mvA rfl) ?_)) <;> (try (refine Run.p rfl rfl rfl (OpP.asA rfl) ?_)) <;> (try (refine Run.p rfl rfl rfl (OpP.asA rfl) ?_)) <;> (try refine Run.fin rfl ?_)) | (refine AW.region (id := 5) ?_ <;> (try (refine Run.p rfl rfl rfl (OpP.eq rfl rfl rfl) ?_)) <;> (try (refine Run.p rfl rfl rfl (OpP.asA rfl) ?_)) <;> (try refine Run.fin rfl ?_)) | (refine AW.region (id := 6) ?_ <;> (try (refine Run.p rfl rfl rfl (OpP.asA rfl) ?_)) <;> (try (refine Run.p rfl rfl rfl (OpP.asA rfl) ?_)) <;> (try refine Run.fin rfl ?_)) | (refine AW.region (id := 7) ?_ <;> (try (refine Run.p rfl rfl rfl (OpP.eq rfl rfl rfl) ?_)) <;> (try (refine Run.p rfl rfl rfl (OpP.asA rfl) ?_)) <;> (try refine Run.fin rfl ?_)) | (refine AW.region (id := 8) ?_ <;> (try (refine Run.p rfl rfl rfl (OpP.asA rfl) ?_)) <;> (try (refine Run.p rfl rfl rfl (OpP.asA rfl) ?_)) <;> (try refine Run.fin rfl ?_)) | (refine AW.region (id := 9) ?_ <;> (try (refine Run.p rfl rfl rfl (OpP.asA rfl) ?_)) <;> (try (refine Run.p rfl rfl rfl (OpP.asA rfl) ?_)) <;> (try refine Run.fin rfl ?_)))))
  all_goals subst hr hr'
  all_goals ((first | refine RetOk.tup rfl rfl ?_ | refine RetOk.one rfl ?_) <;> (repeat' (first | exact Cv.nil | exact Cv.rowf rfl rfl | exact RetC.nil | exact CvL.refl _ | exact Cv.refl | refine RetC.tmp (by (conv => lhs; whnf) <;> rfl) ?_ ?_ | refine RetC.cell1 rfl rfl rfl rfl ?_ ?_ | refine RetC.cellN rfl rfl rfl (by repeat constructor) ?_ ?_ | refine Cv.rowE rfl rfl ?_ | exact Cv.full | exact CvL.nil | refine CvL.cons ?_ ?_)))
  (all_goals (try (first | refine CvL.eq ?_ | refine Cv.eq ?_)))
  all_goals (simp [meant, AV.ren, *]; done)
/-- words as elements -/
abbrev wdsP (l : List (List UInt8)) : List (List PV) := l.map fun s => [PV.v (.string (bs s))]
/-- a reader of a line -/
abbrev rdR (st : Int) (w : List UInt8) (ws : List (List UInt8)) : List Res := [.box [.v (.int .i64 st), .row 1 (bsP w).length, .row 2 (wdsP ws).length], .row 1 (bsP w), .row 1 (wdsP ws)]
abbrev rdN (w : List UInt8) (ws : List (List UInt8)) : List Res := [.box [.v (.int .i64 0), .v (.slice none 0 0), .row 2 (wdsP ws).length], .row 1 (bsP w), .row 1 (wdsP ws)]
theorem push_c (st : Int) (w : List UInt8) (ws : List (List UInt8)) (hw : ws.length ≤ 5000) : ACalls Tryd.prog 52 [.ptr 0 0] (rdR st w ws) (.tup []) (rdN w (ws ++ [w])) := by
  refine (ACalls.of (fn := Tryd.f52) Tryd.func52 rfl rfl Tryd.ntmps52 (fun I M w own => ?_))
  (repeat' (first | refine AW.seq_k (fun K hK => ?_) | (refine hK _ ?_; clear hK) | (first | (refine AW.draw (id := 0) (by kernel_rfl) ?_ <;> (try (refine Run.p rfl rfl rfl (OpP.mvA rfl) ?_)) <;> (try (refine Run.p rfl rfl rfl (OpP.mvA rfl) ?_)) <;> (try (refine Run.p rfl rfl rfl (OpP.nilCheck rfl (by (conv => lhs; whnf) <;> rfl) rfl) ?_)) <;> (try (refine Run.p rfl rfl rfl (OpP.fieldAddrA rfl rfl) ?_)) <;> (try (refine Run.ld1 rfl rfl rfl rfl rfl rfl rfl rfl ?_)) <;> (try (refine Run.p rfl rfl rfl (OpP.mvA rfl) ?_)) <;> (try (refine Run.p rfl rfl rfl (OpP.nilCheck rfl (by (conv => lhs; whnf) <;> rfl) rfl) ?_)) <;> (try (refine Run.p rfl rfl rfl (OpP.fieldAddrA rfl rfl) ?_)) <;> (try (refine Run.ld1 rfl rfl rfl rfl rfl rfl rfl rfl ?_)) <;> (try (refine Run.ri rfl rfl rfl (OpRI.toStrA rfl) rfl ?_)) <;> (try (refine Run.bsA rfl rfl rfl rfl rfl rfl ?_)) <;> (try (refine Run.apRA rfl rfl rfl rfl rfl rfl rfl rfl rfl ?_)) <;> (try (refine Run.p rfl rfl rfl (OpP.nilCheck rfl (by (conv => lhs; whnf) <;> rfl) rfl) ?_)) <;> (try (refine Run.p rfl rfl rfl (OpP.fieldAddrA rfl rfl) ?_)) <;> (try (refine Run.stA rfl rfl rfl rfl rfl ?_)) <;> (try refine Run.fin (by kernel_rfl) ?_)) | (refine AW.region (id := 1) ?_ <;> (try (refine Run.p rfl rfl rfl (OpP.mvA rfl) ?_)) <;> (try (refine Run.p rfl rfl rfl (OpP.nilCheck rfl (by (conv => lhs; whnf) <;> rfl) rfl) ?_)) <;> (try (refine Run.p rfl rfl rfl (OpP.fieldAddrA rfl rfl) ?_)) <;> (try (refine Run.stA rfl rfl rfl rfl rfl ?_)) <;> (try refine Run.fin rfl ?_)) | (refine AW.region (id := 2) ?_ <;> (try (refine Run.p rfl rfl rfl (OpP.mvA rfl) ?_)) <;> (try (refine Run.p rfl rfl rfl (OpP.nilCheck rfl (by (conv => lhs; whnf) <;> rfl) rfl) ?_)) <;> (try (refine Run.p rfl rfl rfl (OpP.fieldAddrA rfl rfl) ?_)) <;> (try (refine Run.stA rfl rfl rfl rfl rfl ?_)) <;> (try refine Run.fin rfl ?_)))))
  all_goals ((first | refine RetOk.tupS [0, 1, 2] rfl rfl rfl rfl rfl ?_ ?_ | refine RetOk.oneS [0, 1, 2] rfl rfl rfl rfl ?_ ?_) <;> (repeat' (first | exact Cv.nil | exact Cv.rowf rfl rfl | exact RetC.nil | exact CvL.refl _ | exact Cv.full | exact Cv.refl | exact Crs.nil | refine Crs.cons ?_ rfl ?_ | exact Cr.no | refine Cr.row ?_ | refine Cr.box ?_ | refine RetC.tmp (by (conv => lhs; whnf) <;> rfl) ?_ ?_ | refine RetC.cell1 rfl rfl rfl rfl ?_ ?_ | refine RetC.cellN rfl rfl rfl (by repeat constructor) ?_ ?_ | refine Cv.rowE rfl rfl ?_ | exact CvL.nil | refine CvL.cons ?_ ?_)))
  (all_goals (try (first | refine CvL.eq ?_ | refine Cv.eq ?_)))
  all_goals (simp [AV.rens, AV.ren, renL]; done)
def tkPush (st : Int) (c : UInt8) : Bool := decide ((st = 1 ∨ st = 4) ∧ (c.toNat : Int) = 32)
def tkOk (st : Int) (c : UInt8) : Bool :=
  if st = 0 then decide ((c.toNat : Int) = 34) || simpleB c
  else if st = 1 ∨ st = 4 then decide ((c.toNat : Int) = 32) || decide (st = 1) && simpleB c
  else if st = 2 then decide ((c.toNat : Int) ≠ 10 ∧ (c.toNat : Int) ≠ 13)
  else (meant c).isSome
def tkSt (st : Int) (c : UInt8) : Int :=
  if st = 0 then if (c.toNat : Int) = 34 then 2 else 1
  else if st = 1 ∨ st = 4 then st
  else if st = 2 then if (c.toNat : Int) = 34 then 4 else if (c.toNat : Int) = 92 then 3 else 2
  else 2
def tkAdd (st : Int) (c : UInt8) : List UInt8 :=
  if st = 0 then if (c.toNat : Int) = 34 then [] else [c]
  else if st = 1 ∨ st = 4 then [c]
  else if st = 2 then if (c.toNat : Int) = 34 ∨ (c.toNat : Int) = 92 ∨ (c.toNat : Int) = 10 ∨ (c.toNat : Int) = 13 then [] else [c]
  else [(meant c).getD 0]
theorem takeN_c (st : Int) (w : List UInt8) (ws : List (List UInt8)) (c : UInt8) (hw : w.length ≤ 5000) (h : tkPush st c = false) : ACalls Tryd.prog 51 [.ptr 0 0, u8 c] (rdR st w ws) (.v (.bool (tkOk st c))) (rdR (tkSt st c) (w ++ tkAdd st c) ws) := by
  simp only [tkPush, decide_eq_false_iff_not] at h
  generalize hr : rdR (tkSt st c) (w ++ tkAdd st c) ws = r
  generalize hr' : tkOk st c = r'
  refine (ACalls.of (fn := Tryd.f51) Tryd.func51 rfl rfl Tryd.ntmps51 (fun I M w own => ?_))
  (repeat' (first | refine AW.seq_k (fun K hK => ?_) | (refine hK _ ?_; clear hK) | (refine AW.condD rfl (fun hc => ?_) (fun hc => ?_) <;> try (first | (exfalso; omega) | (cases hc; done))) | refine AW.block ?_ | refine AW.ret ?_ | refine AW.skip ?_ | (first | (refine AW.region (id := 0) ?_ <;> (try (refine Run.p rfl rfl rfl (OpP.asA rfl) ?_)) <;> (try refine Run.fin rfl ?_)) | (refine AW.region (id := 1) ?_ <;> (try (refine Run.p rfl rfl rfl (OpP.mvA rfl) ?_)) <;> (try (refine Run.p rfl rfl rfl (OpP.nilCheck rfl (by (conv => lhs; whnf) <;> rfl) rfl) ?_)) <;> (try (refine Run.p rfl rfl rfl (OpP.fieldAddrA rfl rfl) ?_)) <;> (try (refine Run.ld1 rfl rfl rfl rfl rfl rfl rfl rfl ?_)) <;> (try refine Run.fin rfl ?_)) | (refine AW.region (id := 2) ?_ <;> (try (refine Run.p rfl rfl rfl (OpP.eq rfl rfl rfl) ?_)) <;> (try (refine Run.p rfl rfl rfl (OpP.asA rfl) ?_)) <;> (try refine Run.fin rfl ?_)) | (refine AW.region (id := 3) ?_ <;> (try (refine Run.p rfl rfl rfl (OpP.mvA rfl) ?_)) <;> (try (refine Run.p rfl rfl rfl (OpP.eq rfl rfl rfl) ?_)) <;> (try refine Run.fin rfl ?_)) | (refine AW.region (id := 4) ?_ <;> (try (refine Run.p rfl rfl rfl (OpP.mvA rfl) ?_)) <;> (try (refine Run.p rfl rfl rfl (OpP.nilCheck rfl (by (conv => lhs; whnf) <;> rfl) rfl) ?_)) <;> (try (refine Run.p rfl rfl rfl (OpP.fieldAddrA rfl rfl) ?_)) <;> (try (refine Run.stA rfl rfl rfl rfl rfl ?_)) <;> (try refine Run.fin rfl ?_)) | (refine AW.region (id := 5) ?_ <;> (try (refine Run.p rfl rfl rfl (OpP.asA rfl) ?_)) <;> (try refine Run.fin rfl ?_)) | (refine AW.region (id := 6) ?_ <;> (try (refine Run.p rfl rfl rfl (OpP.mvA rfl) ?_)) <;> (try (refine Run.p rfl rfl rfl (OpP.nilCheck rfl (by (conv => lhs; whnf) <;> rfl) rfl) ?_)) <;> (try (refine Run.p rfl rfl rfl (OpP.fieldAddrA rfl rfl) ?_)) <;> (try (refine Run.stA rfl rfl rfl rfl rfl ?_)) <;> (try refine Run.fin rfl ?_)) | (refine AW.region (id := 7) ?_ <;> (try (refine Run.p rfl rfl rfl (OpP.mvA rfl) ?_)) <;> (try (refine Run.p rfl rfl rfl (OpP.mvA rfl) ?_)) <;> (try (refine Run.p rfl rfl rfl (OpP.nilCheck rfl (by (conv => lhs; whnf) <;> rfl) rfl) ?_)) <;> (try (refine Run.p rfl rfl rfl (OpP.fieldAddrA rfl rfl) ?_)) <;> (try (refine Run.ld1 rfl rfl rfl rfl rfl rfl rfl rfl ?_)) <;> (try (refine Run.p rfl rfl rfl (OpP.mvA rfl) ?_)) <;> (try (refine Run.bsA rfl rfl rfl rfl rfl rfl ?_)) <;> (try (refine Run.apRA rfl rfl rfl rfl rfl rfl rfl rfl rfl ?_)) <;> (try (refine Run.p rfl rfl rfl (OpP.nilCheck rfl (by (conv => lhs; whnf) <;> rfl) rfl) ?_)) <;> (try (refine Run.p rfl rfl rfl (OpP.fieldAddrA rfl rfl) ?_)) <;> (try (refine Run.stA rfl rfl rfl rfl rfl ?_)) <;> (try refine Run.fin rfl ?_)) | (refine AW.region (id := 8) ?_ <;> (try (refine Run.p rfl rfl rfl (OpP.mvA rfl) ?_)) <;> (try (refine Run.c0 (simple_c _) rfl rfl rfl rfl rfl rfl rfl rfl ?_)) <;> (try (refine Run.p rfl rfl rfl (OpP.asA rfl) ?_)) <;> (try refine Run.fin rfl ?_)) | (refine AW.region (id := 9) ?_ <;> (try (refine Run.p rfl rfl rfl (OpP.eq rfl rfl rfl) ?_)) <;> (try (refine Run.p rfl rfl rfl (OpP.asA rfl) ?_)) <;> (try refine Run.fin rfl ?_)) | (refine AW.region (id := 10) ?_ <;> (try (refine Run.p rfl rfl rfl (OpP.eq rfl rfl rfl) ?_)) <;> (try (refine Run.p rfl rfl rfl (OpP.asA rfl) ?_)) <;> (try refine Run.fin rfl ?_)) | (refine AW.region (id := 11) ?_ <;> (try (refine Run.p rfl rfl rfl (OpP.mvA rfl) ?_)) <;> (try (refine Run.p rfl rfl rfl (OpP.eq rfl rfl rfl) ?_)) <;> (try refine Run.fin rfl ?_)) | (refine AW.region (id := 14) ?_ <;> (try (refine Run.p rfl rfl rfl (OpP.mvA rfl) ?_)) <;> (try (refine Run.p rfl rfl rfl (OpP.mvA rfl) ?_)) <;> (try (refine Run.p rfl rfl rfl (OpP.nilCheck rfl (by (conv => lhs; whnf) <;> rfl) rfl) ?_)) <;> (try (refine Run.p rfl rfl rfl (OpP.fieldAddrA rfl rfl) ?_)) <;> (try (refine Run.ld1 rfl rfl rfl rfl rfl rfl rfl rfl ?_)) <;> (try (refine Run.p rfl rfl rfl (OpP.mvA rfl) ?_)) <;> (try (refine Run.bsA rfl rfl rfl rfl rfl rfl ?_)) <;> (try (refine Run.apRA rfl rfl rfl rfl rfl rfl rfl rfl rfl ?_)) <;> (try (refine Run.p rfl rfl rfl (OpP.nilCheck rfl (by (conv => lhs; whnf) <;> rfl) rfl) ?_)) <;> (try (refine Run.p rfl rfl rfl (OpP.fieldAddrA rfl rfl) ?_)) <;> (try (refine Run.stA rfl rfl rfl rfl rfl ?_)) <;> (try refine Run.fin rfl ?_)) | (refine AW.region (id := 15) ?_ <;> (try (refine Run.p rfl rfl rfl (OpP.mvA rfl) ?_)) <;> (try (refine Run.p rfl rfl rfl (OpP.nilCheck rfl (by (conv => lhs; whnf) <;> rfl) rfl) ?_)) <;> (try (refine Run.p rfl rfl rfl (OpP.fieldAddrA rfl rfl) ?_)) <;> (try (refine Run.ld1 rfl rfl rfl rfl rfl rfl rfl rfl ?_)) <;> (try (refine Run.p rfl rfl rfl (OpP.eq rfl rfl rfl) ?_)) <;> (try (refine Run.p rfl rfl rfl (OpP.mvA rfl) ?_)) <;> (try (refine Run.gpc (by first | exact Gd.t rfl rfl rfl rfl | exact Gd.t2 rfl rfl rfl rfl) rfl rfl (fun hg => ⟨OpP.mvA rfl, (by repeat (first | exact trivial | assumption | refine ⟨?_, ?_⟩))⟩) ?_)) <;> (try (refine Run.gccA (fun hg => (simple_c _)) (by first | exact Gd.t rfl rfl rfl rfl | exact Gd.t2 rfl rfl rfl rfl) rfl rfl rfl rfl rfl rfl rfl ?_)) <;> (try (refine Run.p rfl rfl rfl (OpP.pickAnd rfl rfl rfl rfl) ?_)) <;> (try (refine Run.p rfl rfl rfl (OpP.asA rfl) ?_)) <;> (try refine Run.fin rfl ?_)) | (refine AW.region (id := 16) ?_ <;> (try (refine Run.p rfl rfl rfl (OpP.eq rfl rfl rfl) ?_)) <;> (try (refine Run.p rfl rfl rfl (OpP.asA rfl) ?_)) <;> (try refine Run.fin rfl ?_)) | (refine AW.region (id := 17) ?_ <;> (try (refine Run.p rfl rfl rfl (OpP.mvA rfl) ?_)) <;> (try refine Run.fin rfl ?_)) | (refine AW.region (id := 19) ?_ <;> (try (refine Run.p rfl rfl rfl (OpP.eq rfl rfl rfl) ?_)) <;> (try (refine Run.p rfl rfl rfl (OpP.asA rfl) ?_)) <;> (try refine Run.fin rfl ?_)) | (refine AW.region (id := 20) ?_ <;> (try (refine Run.p rfl rfl rfl (OpP.mvA rfl) ?_)) <;> (try (refine Run.p rfl rfl rfl (OpP.nilCheck rfl (by (conv => lhs; whnf) <;> rfl) rfl) ?_)) <;> (try (refine Run.p rfl rfl rfl (OpP.fieldAddrA rfl rfl) ?_)) <;> (try (refine Run.stA rfl rfl rfl rfl rfl ?_)) <;> (try refine Run.fin rfl ?_)) | (refine AW.region (id := 21) ?_ <;> (try (refine Run.p rfl rfl rfl (OpP.eq rfl rfl rfl) ?_)) <;> (try (refine Run.p rfl rfl rfl (OpP.asA rfl) ?_)) <;> (try refine Run.fin rfl ?_)) | (refine AW.region (id := 22) ?_ <;> (try (refine Run.p rfl rfl rfl (OpP.mvA rfl) ?_)) <;> (try (refine Run.p rfl rfl rfl (OpP.nilCheck rfl (by (conv => lhs; whnf) <;> rfl) rfl) ?_)) <;> (try (refine Run.p rfl rfl rfl (OpP.fieldAddrA rfl rfl) ?_)) <;> (try (refine Run.stA rfl rfl rfl rfl rfl ?_)) <;> (try refine Run.fin rfl ?_)) | (refine AW.region (id := 23) ?_ <;> (try (refine Run.p rfl rfl rfl (OpP.eq rfl rfl rfl) ?_)) <;> (try (refine Run.p rfl rfl rfl (OpP.asA rfl) ?_)) <;> (try refine Run.fin rfl ?_)) | (refine AW.region (id := 24) ?_ <;> (try (refine Run.p rfl rfl rfl (OpP.eq rfl rfl rfl) ?_)) <;> (try (refine Run.p rfl rfl rfl (OpP.asA rfl) ?_)) <;> (try refine Run.fin rfl ?_)) | (refine AW.region (id := 25) ?_ <;> (try (refine Run.p rfl rfl rfl (OpP.asA rfl) ?_)) <;> (try refine Run.fin rfl ?_)) | (refine AW.region (id := 18) ?_ <;> (try (refine Run.p rfl rfl rfl (OpP.mvA rfl) ?_)) <;> (try (refine Run.p rfl rfl rfl (OpP.mvA rfl) ?_)) <;> (try (refine Run.p rfl rfl rfl (OpP.nilCheck rfl (by (conv => lhs; whnf) <;> rfl) rfl) ?_)) <;> (try (refine Run.p rfl rfl rfl (OpP.fieldAddrA rfl rfl) ?_)) <;> (try (refine Run.ld1 rfl rfl rfl rfl rfl rfl rfl rfl ?_)) <;> (try (refine Run.p rfl rfl rfl (OpP.mvA rfl) ?_)) <;> (try (refine Run.bsA rfl rfl rfl rfl rfl rfl ?_)) <;> (try (refine Run.apRA rfl rfl rfl rfl rfl rfl rfl rfl rfl ?_)) <;> (try (refine Run.p rfl rfl rfl (OpP.nilCheck rfl (by (conv => lhs; whnf) <;> rfl) rfl) ?_)) <;> (try (refine Run.p rfl rfl rfl (OpP.fieldAddrA rfl rfl) ?_)) <;> (try (refine Run.stA rfl rfl rfl rfl rfl ?_)) <;> (try refine Run.fin rfl ?_)) | (refine AW.region (id := 26) ?_ <;> (try (refine Run.p rfl rfl rfl (OpP.asA rfl) ?_)) <;> (try refine Run.fin rfl ?_)) | (refine AW.region (id := 27) ?_ <;> (try (refine Run.p rfl rfl rfl (OpP.mvA rfl) ?_)) <;> (try (refine Run.c0 (meaning_c _) rfl rfl rfl rfl rfl rfl rfl rfl ?_)) <;> (try (refine Run.p rfl rfl rfl (OpP.mvA rfl) ?_)) <;> (try (refine Run.p rfl rfl rfl (OpP.extract rfl rfl rfl) ?_)) <;> (try (refine Run.p rfl rfl rfl (OpP.extract rfl rfl rfl) ?_)) <;> (try (refine Run.p rfl rfl rfl (OpP.asA rfl) ?_)) <;> (try (refine Run.p rfl rfl rfl (OpP.asA rfl) ?_)) <;> (try refine Run.fin rfl ?_)) | (refine AW.region (id := 28) ?_ <;> (try (refine Run.p rfl rfl rfl (OpP.mvA rfl) ?_)) <;> (try (refine Run.p rfl rfl rfl (OpP.nilCheck rfl (by (conv => lhs; whnf) <;> rfl) rfl) ?_)) <;> (try (refine Run.p rfl rfl rfl (OpP.fieldAddrA rfl rfl) ?_)) <;> (try (refine Run.stA rfl rfl rfl rfl rfl ?_)) <;> (try refine Run.fin rfl ?_)) | (refine AW.region (id := 29) ?_ <;> (try (refine Run.p rfl rfl rfl (OpP.mvA rfl) ?_)) <;> (try (refine Run.p rfl rfl rfl (OpP.mvA rfl) ?_)) <;> (try (refine Run.p rfl rfl rfl (OpP.nilCheck rfl (by (conv => lhs; whnf) <;> rfl) rfl) ?_)) <;> (try (refine Run.p rfl rfl rfl (OpP.fieldAddrA rfl rfl) ?_)) <;> (try (refine Run.ld1 rfl rfl rfl rfl rfl rfl rfl rfl ?_)) <;> (try (refine Run.p rfl rfl rfl (OpP.mvA rfl) ?_)) <;> (try (refine Run.bsA rfl rfl rfl rfl rfl rfl ?_)) <;> (try (refine Run.apRA rfl rfl rfl rfl rfl rfl rfl rfl rfl ?_)) <;> (try (refine Run.p rfl rfl rfl (OpP.nilCheck rfl (by (conv => lhs; whnf) <;> rfl) rfl) ?_)) <;> (try (refine Run.p rfl rfl rfl (OpP.fieldAddrA rfl rfl) ?_)) <;> (try (refine Run.stA rfl rfl rfl rfl rfl ?_)) <;> (try refine Run.fin rfl ?_)) | (refine AW.region (id := 30) ?_ <;> (try (refine Run.p rfl rfl rfl (OpP.mvA rfl) ?_)) <;> (try (refine Run.p rfl rfl rfl (OpP.asA rfl) ?_)) <;> (try refine Run.fin rfl ?_)))))
  all_goals subst hr hr'
  all_goals ((first | refine RetOk.tupS [0, 1, 2] rfl rfl rfl rfl rfl ?_ ?_ | refine RetOk.oneS [0, 1, 2] rfl rfl rfl rfl ?_ ?_) <;> (repeat' (first | exact Cv.nil | exact Cv.rowf rfl rfl | exact RetC.nil | exact CvL.refl _ | exact Cv.full | exact Cv.refl | exact Crs.nil | refine Crs.cons ?_ rfl ?_ | exact Cr.no | refine Cr.row ?_ | refine Cr.box ?_ | refine RetC.tmp (by (conv => lhs; whnf) <;> rfl) ?_ ?_ | refine RetC.cell1 rfl rfl rfl rfl ?_ ?_ | refine RetC.cellN rfl rfl rfl (by repeat constructor) ?_ ?_ | refine Cv.rowE rfl rfl ?_ | exact CvL.nil | refine CvL.cons ?_ ?_)))
  (all_goals (try (first | refine CvL.eq ?_ | refine Cv.eq ?_)))
  all_goals ((try clear hK); first | rfl | (simp [tkSt, tkOk, tkAdd, AV.rens, AV.ren, renL]; done) | (simp [tkSt, tkOk, tkAdd, AV.rens, AV.ren, renL, *]; done) | (simp_all [tkSt, tkOk, tkAdd, AV.rens, AV.ren, renL]; done) | (exfalso; omega) | (exfalso; simp_all; omega))
theorem takeP_c (st : Int) (w : List UInt8) (ws : List (List UInt8)) (c : UInt8) (hw : ws.length ≤ 5000) (h : tkPush st c = true) : ACalls Tryd.prog 51 [.ptr 0 0, u8 c] (rdR st w ws) (.v (.bool true)) (rdN w (ws ++ [w])) := by
  simp only [tkPush, decide_eq_true_eq] at h
  refine (ACalls.of (fn := Tryd.f51) Tryd.func51 rfl rfl Tryd.ntmps51 (fun I M w own => ?_))
  (repeat' (first | refine AW.seq_k (fun K hK => ?_) | (refine hK _ ?_; clear hK) | (refine AW.condD rfl (fun hc => ?_) (fun hc => ?_) <;> try (first | (exfalso; omega) | (cases hc; done))) | refine AW.block ?_ | refine AW.ret ?_ | refine AW.skip ?_ | (first | (refine AW.region (id := 0) ?_ <;> (try (refine Run.p rfl rfl rfl (OpP.asA rfl) ?_)) <;> (try refine Run.fin rfl ?_)) | (refine AW.region (id := 1) ?_ <;> (try (refine Run.p rfl rfl rfl (OpP.mvA rfl) ?_)) <;> (try (refine Run.p rfl rfl rfl (OpP.nilCheck rfl (by (conv => lhs; whnf) <;> rfl) rfl) ?_)) <;> (try (refine Run.p rfl rfl rfl (OpP.fieldAddrA rfl rfl) ?_)) <;> (try (refine Run.ld1 rfl rfl rfl rfl rfl rfl rfl rfl ?_)) <;> (try refine Run.fin rfl ?_)) | (refine AW.region (id := 2) ?_ <;> (try (refine Run.p rfl rfl rfl (OpP.eq rfl rfl rfl) ?_)) <;> (try (refine Run.p rfl rfl rfl (OpP.asA rfl) ?_)) <;> (try refine Run.fin rfl ?_)) | (refine AW.region (id := 9) ?_ <;> (try (refine Run.p rfl rfl rfl (OpP.eq rfl rfl rfl) ?_)) <;> (try (refine Run.p rfl rfl rfl (OpP.asA rfl) ?_)) <;> (try refine Run.fin rfl ?_)) | (refine AW.region (id := 10) ?_ <;> (try (refine Run.p rfl rfl rfl (OpP.eq rfl rfl rfl) ?_)) <;> (try (refine Run.p rfl rfl rfl (OpP.asA rfl) ?_)) <;> (try refine Run.fin rfl ?_)) | (refine AW.region (id := 11) ?_ <;> (try (refine Run.p rfl rfl rfl (OpP.mvA rfl) ?_)) <;> (try (refine Run.p rfl rfl rfl (OpP.eq rfl rfl rfl) ?_)) <;> (try refine Run.fin rfl ?_)) | (refine AW.region (id := 12) ?_ <;> (try (refine Run.p rfl rfl rfl (OpP.mvA rfl) ?_)) <;> (try (refine Run.cSA [0, 1, 2] (push_c _ _ _ hw) rfl rfl rfl rfl rfl rfl rfl rfl rfl rfl rfl rfl ?_)) <;> (try refine Run.fin rfl ?_)) | (refine AW.region (id := 13) ?_ <;> (try (refine Run.p rfl rfl rfl (OpP.asA rfl) ?_)) <;> (try refine Run.fin rfl ?_)))))
  all_goals ((first | refine RetOk.tupS [0, 1, 2] rfl rfl rfl rfl rfl ?_ ?_ | refine RetOk.oneS [0, 1, 2] rfl rfl rfl rfl ?_ ?_) <;> (repeat' (first | exact Cv.nil | exact Cv.rowf rfl rfl | exact RetC.nil | exact CvL.refl _ | exact Cv.full | exact Cv.refl | exact Crs.nil | refine Crs.cons ?_ rfl ?_ | exact Cr.no | refine Cr.row ?_ | refine Cr.box ?_ | refine RetC.tmp (by (conv => lhs; whnf) <;> rfl) ?_ ?_ | refine RetC.cell1 rfl rfl rfl rfl ?_ ?_ | refine RetC.cellN rfl rfl rfl (by repeat constructor) ?_ ?_ | refine Cv.rowE rfl rfl ?_ | exact CvL.nil | refine CvL.cons ?_ ?_)))
  (all_goals (try (first | refine CvL.eq ?_ | refine Cv.eq ?_)))
  all_goals ((try clear hK); first | rfl | (simp [tkSt, AV.rens, AV.ren, renL]; done) | (simp [tkSt, AV.rens, AV.ren, renL, *]; done) | (simp_all [tkSt, AV.rens, AV.ren, renL]; done) | (exfalso; omega) | (exfalso; simp_all; omega))
end Go.Proofs.YthogjnckkmfhnaaDoor
/-
  Walks of the readers of words: Split.
-/
namespace Go.Proofs.YthogjnckkmfhnaaDoor
set_option linter.unusedVariables false
set_option linter.unusedSimpArgs false
structure Rd where
  st : Int
  w : List UInt8
  ws : List (List UInt8)
def Rd.step (r : Rd) (c : UInt8) : Rd := if tkPush r.st c then ⟨0, [], r.ws ++ [r.w]⟩ else ⟨tkSt r.st c, r.w ++ tkAdd r.st c, r.ws⟩
def Rd.run : List UInt8 → Rd → Option Rd
  | [], r => some r
  | c :: l, r => if tkPush r.st c || tkOk r.st c then Rd.run l (r.step c) else none
def splitP (s : List UInt8) : List (List UInt8) × Int :=
  if 4096 < s.length then ([], 3) else if s = [] then ([], 0) else match Rd.run s ⟨0, [], []⟩ with
  | none => ([], 5)
  | some r => if r.st ≠ 1 ∧ r.st ≠ 4 then ([], 5) else if 64 < r.ws.length + 1 then ([], 3) else (r.ws ++ [r.w], 0)
theorem Split_c (s : List UInt8) : ACalls Tryd.prog 28 [.v (.string (bs s))] [] (.tup [.sl 1 (wdsP (splitP s).1) false, .v (.int .i64 (splitP s).2)]) [] := by
  generalize he : splitP s = sp
  refine (ACalls.of (fn := Tryd.f28) Tryd.func28 rfl rfl Tryd.ntmps28 (fun I M w own => ?_))
  (repeat' (first | refine AW.seq_k (fun K hK => ?_) | (refine hK _ ?_; clear hK) | (refine AW.condD rfl (fun hc => ?_) (fun hc => ?_) <;> try (first | (exfalso; omega) | (cases hc; done))) | refine AW.block ?_ | refine AW.ret ?_ | refine AW.skip ?_ | (first | (refine AW.region (id := 0) ?_ <;> (try (refine Run.p rfl rfl rfl (OpP.asA rfl) ?_)) <;> (try (refine Run.p rfl rfl rfl (OpP.asA rfl) ?_)) <;> (try refine Run.fin rfl ?_)) | (refine AW.region (id := 1) ?_ <;> (try (refine Run.p rfl rfl rfl (OpP.mvA rfl) ?_)) <;> (try (refine Run.p rfl rfl rfl (OpP.lenStr rfl rfl) ?_)) <;> (try (refine Run.p rfl rfl rfl (OpP.gtt rfl rfl rfl) ?_)) <;> (try refine Run.fin rfl ?_)) | (refine AW.region (id := 2) ?_ <;> (try (refine Run.p rfl rfl rfl (OpP.asA rfl) ?_)) <;> (try (refine Run.p rfl rfl rfl (OpP.asA rfl) ?_)) <;> (try refine Run.fin rfl ?_)) | (refine AW.region (id := 3) ?_ <;> (try (refine Run.p rfl rfl rfl (OpP.mvA rfl) ?_)) <;> (try (refine Run.p rfl rfl rfl (OpP.seq rfl rfl rfl) ?_)) <;> (try refine Run.fin rfl ?_)) | (refine AW.region (id := 4) ?_ <;> (try (refine Run.p rfl rfl rfl (OpP.asA rfl) ?_)) <;> (try (refine Run.p rfl rfl rfl (OpP.asA rfl) ?_)) <;> (try refine Run.fin rfl ?_)) | (refine AW.region (id := 5) ?_ <;> (try (refine Run.p rfl rfl rfl (OpP.buildSA rfl) ?_)) <;> (try (refine Run.bxA rfl rfl rfl rfl ?_)) <;> (try (refine Run.p rfl rfl rfl (OpP.asA rfl) ?_)) <;> (try refine Run.fin rfl ?_)) | (refine AW.region (id := 6) ?_ <;> (try (refine Run.p rfl rfl rfl (OpP.mvA rfl) ?_)) <;> (try (refine Run.p rfl rfl rfl (OpP.lenStr rfl rfl) ?_)) <;> (try (refine Run.p rfl rfl rfl (OpP.mvA rfl) ?_)) <;> (try refine Run.fin rfl ?_)))))
  · obtain rfl : sp = ([], 3) := by rw [← he, splitP, if_pos (by omega)]
    ((first | refine RetOk.tup rfl rfl ?_ | refine RetOk.one rfl ?_) <;> (repeat' (first | exact Cv.nil | exact Cv.rowf rfl rfl | exact RetC.nil | exact CvL.refl _ | exact Cv.refl | refine RetC.tmp (by (conv => lhs; whnf) <;> rfl) ?_ ?_ | refine RetC.cell1 rfl rfl rfl rfl ?_ ?_ | refine RetC.cellN rfl rfl rfl (by repeat constructor) ?_ ?_ | refine Cv.rowE rfl rfl ?_ | exact Cv.full | exact CvL.nil | refine CvL.cons ?_ ?_)))
  · obtain rfl : sp = ([], 0) := by rw [← he, splitP, if_neg (by omega), if_pos (by assumption)]
    ((first | refine RetOk.tup rfl rfl ?_ | refine RetOk.one rfl ?_) <;> (repeat' (first | exact Cv.nil | exact Cv.rowf rfl rfl | exact RetC.nil | exact CvL.refl _ | exact Cv.refl | refine RetC.tmp (by (conv => lhs; whnf) <;> rfl) ?_ ?_ | refine RetC.cell1 rfl rfl rfl rfl ?_ ?_ | refine RetC.cellN rfl rfl rfl (by repeat constructor) ?_ ?_ | refine Cv.rowE rfl rfl ?_ | exact Cv.full | exact CvL.nil | refine CvL.cons ?_ ?_)))
  · refine AW.loopF (X := List UInt8 × List UInt8 × Rd) (fun x => ⟨[(0, .v (.string (bs s))), (4, .ptr 0 0), (14, .v (.int .i64 (s.length : Int))), (15, .v (.int .i64 (x.1.length : Int)))], rdR x.2.2.st x.2.2.w x.2.2.ws⟩)
      (fun x => s = x.1 ++ x.2.1 ∧ Rd.run s ⟨0, [], []⟩ = Rd.run x.2.1 x.2.2 ∧ x.2.2.w.length ≤ x.1.length ∧ x.2.2.ws.length ≤ x.1.length) (fun x => x.2.1.length) ([], s, ⟨0, [], []⟩) ?_ ?_ ?_
    · (refine Conv.ownB 0 1 1 [] rfl rfl (Or.inr ⟨rfl, rfl⟩) (by repeat constructor) (by repeat constructor) ?_)
      (refine Conv.ownB 0 2 1 [] rfl rfl (Or.inr ⟨rfl, rfl⟩) (by repeat constructor) (by repeat constructor) ?_)
      refine Conv.mk [0, 1, 2] rfl rfl rfl ?_ rfl ?_
      (repeat' (first | exact Cf.nil | exact Cv.refl | exact CvL.refl _ | exact Cv.rowf rfl rfl | exact Crs.nil | refine Cf.cons' (by (conv => lhs; whnf) <;> rfl) ?_ ?_ | refine Crs.cons ?_ rfl ?_ | exact Cr.no | refine Cr.row ?_ | refine Cr.box ?_ | exact Cv.nil | exact Cv.full | exact CvL.nil | refine CvL.cons ?_ ?_))
      all_goals rfl
    · simp
    · have hsp : splitP s = match Rd.run s ⟨0, [], []⟩ with | none => ([], 5) | some r => if r.st ≠ 1 ∧ r.st ≠ 4 then ([], 5) else if 64 < r.ws.length + 1 then ([], 3) else (r.ws ++ [r.w], 0) := by rw [splitP, if_neg (by omega), if_neg (by assumption)]
      rintro ⟨pre, l, q⟩ ⟨h1, h2, h3, h4⟩
      simp only at h1 h2 h3 h4 ⊢
      have hl : s.length = pre.length + l.length := by rw [h1, List.length_append]
      rw [hsp, h2] at he
      rcases l with _ | ⟨c, l⟩
      · simp only [List.length_nil] at hl
        simp only [Rd.run] at he
        (repeat' (first | refine AW.seq_k (fun K hK => ?_) | (refine hK _ ?_; clear hK) | (refine AW.condD rfl (fun hc => ?_) (fun hc => ?_) <;> try (first | (exfalso; omega) | (cases hc; done))) | (refine AW.cond rfl (fun hc => ?_) (fun hc => ?_) <;> (try simp only [Bool.and_eq_true, Bool.or_eq_true, Bool.not_eq_true', Bool.not_eq_false', Bool.and_eq_false_iff, Bool.or_eq_false_iff, Bool.and_eq_false_imp, decide_eq_true_eq, decide_eq_false_iff_not, Decidable.not_not, Int.not_lt, Int.not_le, ne_eq, Bool.not_not] at hc) <;> try (first | (exfalso; omega) | (cases hc; done))) | refine AW.exit ?_ | refine AW.ret ?_ | refine AW.skip ?_ | (clear hK; refine hK _ ?_; clear hK) | (first | (refine AW.region (id := 7) ?_ <;> (try (refine Run.p rfl rfl rfl (OpP.ltt rfl rfl rfl) ?_)) <;> (try refine Run.fin rfl ?_)) | (refine AW.region (id := 12) ?_ <;> (try (refine Run.p rfl rfl rfl (OpP.mvA rfl) ?_)) <;> (try (refine Run.p rfl rfl rfl (OpP.nilCheck rfl (by (conv => lhs; whnf) <;> rfl) rfl) ?_)) <;> (try (refine Run.p rfl rfl rfl (OpP.fieldAddrA rfl rfl) ?_)) <;> (try (refine Run.ld1 rfl rfl rfl rfl rfl rfl rfl rfl ?_)) <;> (try (refine Run.p rfl rfl rfl (OpP.ne rfl rfl rfl) ?_)) <;> (try (refine Run.p rfl rfl rfl (OpP.mvA rfl) ?_)) <;> (try (refine Run.gpc (by first | exact Gd.t rfl rfl rfl rfl | exact Gd.t2 rfl rfl rfl rfl) rfl rfl (fun hg => ⟨OpP.mvA rfl, (by repeat (first | exact trivial | assumption | refine ⟨?_, ?_⟩))⟩) ?_)) <;> (try (refine Run.gpc (by first | exact Gd.t rfl rfl rfl rfl | exact Gd.t2 rfl rfl rfl rfl) rfl rfl (fun hg => ⟨OpP.nilCheck rfl (by (conv => lhs; whnf) <;> rfl) rfl, (by repeat (first | exact trivial | assumption | refine ⟨?_, ?_⟩))⟩) ?_)) <;> (try (refine Run.gpc (by first | exact Gd.t rfl rfl rfl rfl | exact Gd.t2 rfl rfl rfl rfl) rfl rfl (fun hg => ⟨OpP.fieldAddrA rfl rfl, (by repeat (first | exact trivial | assumption | refine ⟨?_, ?_⟩))⟩) ?_)) <;> (try (refine Run.glcA (by first | exact Gd.t rfl rfl rfl rfl | exact Gd.t2 rfl rfl rfl rfl) rfl rfl rfl rfl rfl rfl rfl ?_)) <;> (try (refine Run.gpc (by first | exact Gd.t rfl rfl rfl rfl | exact Gd.t2 rfl rfl rfl rfl) rfl rfl (fun hg => ⟨OpP.ne rfl rfl rfl, (by repeat (first | exact trivial | assumption | refine ⟨?_, ?_⟩))⟩) ?_)) <;> (try (refine Run.p rfl rfl rfl (OpP.pickAnd rfl rfl rfl rfl) ?_)) <;> (try refine Run.fin rfl ?_)) | (refine AW.region (id := 13) ?_ <;> (try (refine Run.p rfl rfl rfl (OpP.asA rfl) ?_)) <;> (try (refine Run.p rfl rfl rfl (OpP.asA rfl) ?_)) <;> (try refine Run.fin rfl ?_)) | (refine AW.region (id := 14) ?_ <;> (try (refine Run.p rfl rfl rfl (OpP.mvA rfl) ?_)) <;> (try (refine Run.cSA [0, 1, 2] (push_c q.st q.w q.ws (by omega)) rfl rfl rfl rfl rfl rfl rfl rfl rfl rfl rfl rfl ?_)) <;> (try refine Run.fin rfl ?_)) | (refine AW.region (id := 15) ?_ <;> (try (refine Run.p rfl rfl rfl (OpP.mvA rfl) ?_)) <;> (try (refine Run.p rfl rfl rfl (OpP.nilCheck rfl (by (conv => lhs; whnf) <;> rfl) rfl) ?_)) <;> (try (refine Run.p rfl rfl rfl (OpP.fieldAddrA rfl rfl) ?_)) <;> (try (refine Run.ld1 rfl rfl rfl rfl rfl rfl rfl rfl ?_)) <;> (try (refine Run.ri rfl rfl rfl (OpRI.lenA rfl rfl) rfl ?_)) <;> (try (refine Run.p rfl rfl rfl (OpP.gtt rfl rfl rfl) ?_)) <;> (try refine Run.fin rfl ?_)) | (refine AW.region (id := 16) ?_ <;> (try (refine Run.p rfl rfl rfl (OpP.asA rfl) ?_)) <;> (try (refine Run.p rfl rfl rfl (OpP.asA rfl) ?_)) <;> (try refine Run.fin rfl ?_)) | (refine AW.region (id := 17) ?_ <;> (try (refine Run.p rfl rfl rfl (OpP.mvA rfl) ?_)) <;> (try (refine Run.p rfl rfl rfl (OpP.nilCheck rfl (by (conv => lhs; whnf) <;> rfl) rfl) ?_)) <;> (try (refine Run.p rfl rfl rfl (OpP.fieldAddrA rfl rfl) ?_)) <;> (try (refine Run.ld1 rfl rfl rfl rfl rfl rfl rfl rfl ?_)) <;> (try (refine Run.p rfl rfl rfl (OpP.asA rfl) ?_)) <;> (try (refine Run.p rfl rfl rfl (OpP.asA rfl) ?_)) <;> (try refine Run.fin rfl ?_)))))
        · obtain rfl : sp = ([], 5) := by rw [← he, if_pos (by assumption)]
          ((first | refine RetOk.tup rfl rfl ?_ | refine RetOk.one rfl ?_) <;> (repeat' (first | exact Cv.nil | exact Cv.rowf rfl rfl | exact RetC.nil | exact CvL.refl _ | exact Cv.refl | refine RetC.tmp (by (conv => lhs; whnf) <;> rfl) ?_ ?_ | refine RetC.cell1 rfl rfl rfl rfl ?_ ?_ | refine RetC.cellN rfl rfl rfl (by repeat constructor) ?_ ?_ | refine Cv.rowE rfl rfl ?_ | exact Cv.full | exact CvL.nil | refine CvL.cons ?_ ?_)))
        · simp only [List.length_map, List.length_append, List.length_cons, List.length_nil] at hc
          obtain rfl : sp = ([], 3) := by rw [← he, if_neg (by omega), if_pos (by omega)]
          ((first | refine RetOk.tup rfl rfl ?_ | refine RetOk.one rfl ?_) <;> (repeat' (first | exact Cv.nil | exact Cv.rowf rfl rfl | exact RetC.nil | exact CvL.refl _ | exact Cv.refl | refine RetC.tmp (by (conv => lhs; whnf) <;> rfl) ?_ ?_ | refine RetC.cell1 rfl rfl rfl rfl ?_ ?_ | refine RetC.cellN rfl rfl rfl (by repeat constructor) ?_ ?_ | refine Cv.rowE rfl rfl ?_ | exact Cv.full | exact CvL.nil | refine CvL.cons ?_ ?_)))
        · simp only [List.length_map, List.length_append, List.length_cons, List.length_nil] at hc
          obtain rfl : sp = (q.ws ++ [q.w], 0) := by rw [← he, if_neg (by omega), if_neg (by omega)]
          ((first | refine RetOk.tup rfl rfl ?_ | refine RetOk.one rfl ?_) <;> (repeat' (first | exact Cv.nil | exact Cv.rowf rfl rfl | exact RetC.nil | exact CvL.refl _ | exact Cv.refl | refine RetC.tmp (by (conv => lhs; whnf) <;> rfl) ?_ ?_ | refine RetC.cell1 rfl rfl rfl rfl ?_ ?_ | refine RetC.cellN rfl rfl rfl (by repeat constructor) ?_ ?_ | refine Cv.rowE rfl rfl ?_ | exact Cv.full | exact CvL.nil | refine CvL.cons ?_ ?_)))
      · have hF : s[(pre.length : Int).toNat]? = some c := by rw [h1]; simp
        simp only [List.length_cons] at hl
        by_cases hp : tkPush q.st c = true
        · (repeat' (first | refine AW.seq_k (fun K hK => ?_) | (refine hK _ ?_; clear hK) | (refine AW.condD rfl (fun hc => ?_) (fun hc => ?_) <;> try (first | (exfalso; omega) | (cases hc; done))) | (refine AW.cond rfl (fun hc => ?_) (fun hc => ?_) <;> (try simp only [Bool.and_eq_true, Bool.or_eq_true, Bool.not_eq_true', Bool.not_eq_false', Bool.and_eq_false_iff, Bool.or_eq_false_iff, Bool.and_eq_false_imp, decide_eq_true_eq, decide_eq_false_iff_not, Decidable.not_not, Int.not_lt, Int.not_le, ne_eq, Bool.not_not] at hc) <;> try (first | (exfalso; omega) | (cases hc; done))) | refine AW.block ?_ | refine AW.skip ?_ | (first | (refine AW.region (id := 7) ?_ <;> (try (refine Run.p rfl rfl rfl (OpP.ltt rfl rfl rfl) ?_)) <;> (try refine Run.fin rfl ?_)) | (refine AW.region (id := 8) ?_ <;> (try (refine Run.p rfl rfl rfl (OpP.mvA rfl) ?_)) <;> (try (refine Run.p rfl rfl rfl (OpP.asA rfl) ?_)) <;> (try refine Run.fin rfl ?_)) | (refine AW.region (id := 9) ?_ <;> (try (refine Run.p rfl rfl rfl (OpP.mvA rfl) ?_)) <;> (try (refine Run.p rfl rfl rfl (OpP.mvA rfl) ?_)) <;> (try (refine Run.p rfl rfl rfl (OpP.mvA rfl) ?_)) <;> (try (refine Run.p rfl rfl rfl (OpP.indexStrA rfl rfl rfl) ?_)) <;> (try (refine Run.cSA [0, 1, 2] (takeP_c q.st q.w q.ws c (by omega) hp) rfl rfl rfl rfl rfl rfl rfl rfl rfl rfl rfl rfl ?_)) <;> (try (refine Run.p rfl rfl rfl (OpP.not rfl rfl) ?_)) <;> (try refine Run.fin rfl ?_)) | (refine AW.region (id := 11) ?_ <;> (try (refine Run.p rfl rfl rfl (OpP.addA rfl rfl rfl) ?_)) <;> (try (refine Run.p rfl rfl rfl (OpP.mvA rfl) ?_)) <;> (try refine Run.fin rfl ?_)))))
          · refine thenA_n ⟨(pre ++ [c], l, ⟨0, [], q.ws ++ [q.w]⟩), ⟨by simp [h1], ?_, by simp, by simp; omega⟩, by simp, ?_⟩
            · rw [h2, Rd.run]; simp [hp, Rd.step]
            · (refine Conv.ownB 0 1 1 [] rfl rfl (Or.inr ⟨rfl, rfl⟩) (by repeat constructor) (by repeat constructor) ?_)
              refine Conv.mk [0, 3, 2] rfl rfl rfl ?_ rfl ?_
              (repeat' (first | exact Cf.nil | exact Cv.refl | exact CvL.refl _ | exact Cv.rowf rfl rfl | exact Crs.nil | refine Cf.cons' (by (conv => lhs; whnf) <;> rfl) ?_ ?_ | refine Crs.cons ?_ rfl ?_ | exact Cr.no | refine Cr.row ?_ | refine Cr.box ?_ | exact Cv.nil | exact Cv.full | exact CvL.nil | refine CvL.cons ?_ ?_))
              (all_goals (try (first | refine CvL.eq ?_ | refine Cv.eq ?_)))
              all_goals ((try clear hK); first | rfl | (simp [List.length_append, AV.rens, AV.ren, renL]; done) | (simp [List.length_append, AV.rens, AV.ren, renL, *]; done) | (simp_all [List.length_append, AV.rens, AV.ren, renL]; done) | (exfalso; omega) | (exfalso; simp_all; omega))
        · rw [Bool.not_eq_true] at hp
          (repeat' (first | refine AW.seq_k (fun K hK => ?_) | (refine hK _ ?_; clear hK) | (refine AW.condD rfl (fun hc => ?_) (fun hc => ?_) <;> try (first | (exfalso; omega) | (cases hc; done))) | (refine AW.cond rfl (fun hc => ?_) (fun hc => ?_) <;> (try simp only [Bool.and_eq_true, Bool.or_eq_true, Bool.not_eq_true', Bool.not_eq_false', Bool.and_eq_false_iff, Bool.or_eq_false_iff, Bool.and_eq_false_imp, decide_eq_true_eq, decide_eq_false_iff_not, Decidable.not_not, Int.not_lt, Int.not_le, ne_eq, Bool.not_not] at hc) <;> try (first | (exfalso; omega) | (cases hc; done))) | refine AW.block ?_ | refine AW.ret ?_ | refine AW.skip ?_ | (first | (refine AW.region (id := 7) ?_ <;> (try (refine Run.p rfl rfl rfl (OpP.ltt rfl rfl rfl) ?_)) <;> (try refine Run.fin rfl ?_)) | (refine AW.region (id := 8) ?_ <;> (try (refine Run.p rfl rfl rfl (OpP.mvA rfl) ?_)) <;> (try (refine Run.p rfl rfl rfl (OpP.asA rfl) ?_)) <;> (try refine Run.fin rfl ?_)) | (refine AW.region (id := 9) ?_ <;> (try (refine Run.p rfl rfl rfl (OpP.mvA rfl) ?_)) <;> (try (refine Run.p rfl rfl rfl (OpP.mvA rfl) ?_)) <;> (try (refine Run.p rfl rfl rfl (OpP.mvA rfl) ?_)) <;> (try (refine Run.p rfl rfl rfl (OpP.indexStrA rfl rfl rfl) ?_)) <;> (try (refine Run.cSA [0, 1, 2] (takeN_c q.st q.w q.ws c (by omega) hp) rfl rfl rfl rfl rfl rfl rfl rfl rfl rfl rfl rfl ?_)) <;> (try (refine Run.p rfl rfl rfl (OpP.not rfl rfl) ?_)) <;> (try refine Run.fin rfl ?_)) | (refine AW.region (id := 10) ?_ <;> (try (refine Run.p rfl rfl rfl (OpP.asA rfl) ?_)) <;> (try (refine Run.p rfl rfl rfl (OpP.asA rfl) ?_)) <;> (try refine Run.fin rfl ?_)) | (refine AW.region (id := 11) ?_ <;> (try (refine Run.p rfl rfl rfl (OpP.addA rfl rfl rfl) ?_)) <;> (try (refine Run.p rfl rfl rfl (OpP.mvA rfl) ?_)) <;> (try refine Run.fin rfl ?_)))))
          · obtain rfl : sp = ([], 5) := by rw [← he, Rd.run]; simp [hp, hc]
            ((first | refine RetOk.tup rfl rfl ?_ | refine RetOk.one rfl ?_) <;> (repeat' (first | exact Cv.nil | exact Cv.rowf rfl rfl | exact RetC.nil | exact CvL.refl _ | exact Cv.refl | refine RetC.tmp (by (conv => lhs; whnf) <;> rfl) ?_ ?_ | refine RetC.cell1 rfl rfl rfl rfl ?_ ?_ | refine RetC.cellN rfl rfl rfl (by repeat constructor) ?_ ?_ | refine Cv.rowE rfl rfl ?_ | exact Cv.full | exact CvL.nil | refine CvL.cons ?_ ?_)))
          · refine thenA_n ⟨(pre ++ [c], l, ⟨tkSt q.st c, q.w ++ tkAdd q.st c, q.ws⟩), ⟨by simp [h1], ?_, ?_, by simp; omega⟩, by simp, ?_⟩
            · rw [h2, Rd.run]; simp [hp, hc, Rd.step]
            · have : (tkAdd q.st c).length ≤ 1 := by unfold tkAdd; (repeat' split) <;> simp
              simp; omega
            · refine Conv.mk [0, 1, 2] rfl rfl rfl ?_ rfl ?_
              (repeat' (first | exact Cf.nil | exact Cv.refl | exact CvL.refl _ | exact Cv.rowf rfl rfl | exact Crs.nil | refine Cf.cons' (by (conv => lhs; whnf) <;> rfl) ?_ ?_ | refine Crs.cons ?_ rfl ?_ | exact Cr.no | refine Cr.row ?_ | refine Cr.box ?_ | exact Cv.nil | exact Cv.full | exact CvL.nil | refine CvL.cons ?_ ?_))
              (all_goals (try (first | refine CvL.eq ?_ | refine Cv.eq ?_)))
              all_goals ((try clear hK); first | rfl | (simp [List.length_append, AV.rens, AV.ren, renL]; done) | (simp [List.length_append, AV.rens, AV.ren, renL, *]; done) | (simp_all [List.length_append, AV.rens, AV.ren, renL]; done) | (exfalso; omega) | (exfalso; simp_all; omega))
end Go.Proofs.YthogjnckkmfhnaaDoor
/-
  Walks of the reference's reader of words.
-/
namespace Go.Proofs.YthogjnckkmfhnaaDoor
set_option linter.unusedVariables false
set_option linter.unusedSimpArgs false
def qRead : Nat → List UInt8 → List UInt8 → Option (List UInt8 × List UInt8)
  | 0, _, _ => none
  | _ + 1, [], _ => none
  | n + 1, c :: l, out =>
    if (c.toNat : Int) = 34 then some (out, l)
    else if (c.toNat : Int) = 10 ∨ (c.toNat : Int) = 13 then none
    else if (c.toNat : Int) = 92 then match l with
      | [] => none
      | d :: l => match meant d with
        | none => none
        | some x => qRead n l (out ++ [x])
    else qRead n l (out ++ [c])
/-- the word that begins a text, what lies behind it, whether there is one -/
def wordR (l : List UInt8) : List UInt8 × Option (List UInt8) :=
  match l with
  | [] => ([], none)
  | c :: r => if (c.toNat : Int) = 34 then match qRead (r.length + 1) r [] with
      | none => ([], none)
      | some (w, t) => (w, some t)
    else (l.takeWhile simpleB, if l.takeWhile simpleB = [] then none else some (l.dropWhile simpleB))
def wordTo (s l : List UInt8) : Int := match l with
  | [] => s.length
  | c :: r => if (c.toNat : Int) = 34 then match qRead (r.length + 1) r [] with
      | none => 0
      | some (w, t) => (s.length : Int) - t.length
    else (s.length : Int) - (l.dropWhile simpleB).length
theorem wordR_plain (s l : List UInt8) (h : ∀ c r, l = c :: r → (c.toNat : Int) ≠ 34) : wordR l = (l.takeWhile simpleB, if l.takeWhile simpleB = [] then none else some (l.dropWhile simpleB)) ∧ wordTo s l = (s.length : Int) - (l.dropWhile simpleB).length := by
  rcases l with _ | ⟨c, r⟩
  · simp [wordR, wordTo]
  · have := h c r rfl
    simp only [wordR, wordTo, if_neg this]
    exact ⟨trivial, trivial⟩
theorem get_app (a b : List UInt8) (c : UInt8) (r : List UInt8) (i : Int) (hi : i = (a.length : Int) + b.length) (s : List UInt8) (hs : s = a ++ (b ++ c :: r)) : s[i.toNat]? = some c := by
  have : i.toNat = a.length + b.length := by omega
  rw [this, hs, ← List.append_assoc, ← List.length_append]
  simp
theorem word_c (s pre l : List UInt8) (hs : s = pre ++ l) (h4 : s.length ≤ 4096) : ACalls Tryd.prog 55 [.v (.string (bs s)), .v (.int .i64 (pre.length : Int))] [] (.tup [.v (.string (bs (wordR l).1)), .v (.int .i64 (wordTo s l)), .v (.bool (wordR l).2.isSome)]) [] := by
  generalize he : wordR l = wr
  generalize he' : wordTo s l = wt
  have hl : s.length = pre.length + l.length := by rw [hs, List.length_append]
  have hF : ∃ c : UInt8, (!decide ((s.length : Int) ≤ pre.length)) = true → s[(pre.length : Int).toNat]? = some c ∧ ∃ r, l = c :: r := by
    rcases l with _ | ⟨c, r⟩
    · exact ⟨0, fun h => by simp at hl h; omega⟩
    · exact ⟨c, fun _ => ⟨by rw [hs]; simp, r, rfl⟩⟩
  obtain ⟨c0, hF⟩ := hF
  have hF1 : (!decide ((s.length : Int) ≤ pre.length)) = true → s[(pre.length : Int).toNat]? = some c0 := fun h => (hF h).1
  refine (ACalls.of (fn := Tryd.f55) Tryd.func55 rfl rfl Tryd.ntmps55 (fun I M w own => ?_))
  (repeat' (first | refine AW.seq_k (fun K hK => ?_) | (refine hK _ ?_; clear hK) | (refine AW.cond rfl (fun hc => ?_) (fun hc => ?_) <;> (try simp only [Bool.and_eq_true, Bool.or_eq_true, Bool.not_eq_true', Bool.not_eq_false', Bool.and_eq_false_iff, Bool.or_eq_false_iff, Bool.and_eq_false_imp, decide_eq_true_eq, decide_eq_false_iff_not, Decidable.not_not, Int.not_lt, Int.not_le, ne_eq, Bool.not_not] at hc) <;> try (first | (exfalso; omega) | (cases hc; done))) | refine AW.block ?_ | refine AW.skip ?_ | (first | (refine AW.region (id := 0) ?_ <;> (try (refine Run.p rfl rfl rfl (OpP.asA rfl) ?_)) <;> (try (refine Run.p rfl rfl rfl (OpP.asA rfl) ?_)) <;> (try (refine Run.p rfl rfl rfl (OpP.asA rfl) ?_)) <;> (try refine Run.fin rfl ?_)) | (refine AW.region (id := 1) ?_ <;> (try (refine Run.p rfl rfl rfl (OpP.mvA rfl) ?_)) <;> (try (refine Run.p rfl rfl rfl (OpP.mvA rfl) ?_)) <;> (try (refine Run.p rfl rfl rfl (OpP.lenStr rfl rfl) ?_)) <;> (try (refine Run.p rfl rfl rfl (OpP.gee rfl rfl rfl) ?_)) <;> (try (refine Run.p rfl rfl rfl (OpP.mvA rfl) ?_)) <;> (try (refine Run.gpc (by first | exact Gd.f rfl rfl rfl rfl | exact Gd.f2 rfl rfl rfl rfl) rfl rfl (fun hg => ⟨OpP.mvA rfl, (by repeat (first | exact trivial | assumption | refine ⟨?_, ?_⟩))⟩) ?_)) <;> (try (refine Run.gpc (by first | exact Gd.f rfl rfl rfl rfl | exact Gd.f2 rfl rfl rfl rfl) rfl rfl (fun hg => ⟨OpP.mvA rfl, (by repeat (first | exact trivial | assumption | refine ⟨?_, ?_⟩))⟩) ?_)) <;> (try (refine Run.gpc (by first | exact Gd.f rfl rfl rfl rfl | exact Gd.f2 rfl rfl rfl rfl) rfl rfl (fun hg => ⟨OpP.indexStrA rfl rfl rfl, (by repeat (first | exact trivial | assumption | refine ⟨?_, ?_⟩))⟩) ?_)) <;> (try (refine Run.gpc (by first | exact Gd.f rfl rfl rfl rfl | exact Gd.f2 rfl rfl rfl rfl) rfl rfl (fun hg => ⟨OpP.ne rfl rfl rfl, (by repeat (first | exact trivial | assumption | refine ⟨?_, ?_⟩))⟩) ?_)) <;> (try (refine Run.p rfl rfl rfl (OpP.pickOr rfl rfl rfl rfl) ?_)) <;> (try refine Run.fin rfl ?_)) | (refine AW.region (id := 2) ?_ <;> (try (refine Run.p rfl rfl rfl (OpP.mvA rfl) ?_)) <;> (try (refine Run.p rfl rfl rfl (OpP.asA rfl) ?_)) <;> (try refine Run.fin rfl ?_)) | (refine AW.region (id := 6) ?_ <;> (try (refine Run.p rfl rfl rfl (OpP.asA rfl) ?_)) <;> (try refine Run.fin rfl ?_)) | (refine AW.region (id := 7) ?_ <;> (try (refine Run.p rfl rfl rfl (OpP.mvA rfl) ?_)) <;> (try (refine Run.p rfl rfl rfl (OpP.addA rfl rfl rfl) ?_)) <;> (try (refine Run.p rfl rfl rfl (OpP.asA rfl) ?_)) <;> (try refine Run.fin rfl ?_)))))
  · obtain ⟨p1, p2⟩ := wordR_plain s l (fun c r h => by
      subst h
      simp only [List.length_cons] at hl
      rcases hc with hc | hc
      · omega
      · have : c = c0 := by
          have h1 := hF1 (by simp; omega)
          rw [hs] at h1
          simpa using h1
        subst this; exact hc)
    rw [he] at p1
    rw [he'] at p2
    subst p1 p2
    clear he he' hF hF1
    refine AW.loopF (X := List UInt8 × List UInt8) (fun x => ⟨[(0, .v (.string (bs s))), (1, .v (.int .i64 (pre.length : Int))), (7, .v (.int .i64 ((pre.length : Int) + (x.1.length : Int))))], []⟩)
      (fun x => l = x.1 ++ x.2 ∧ l.takeWhile simpleB = x.1 ++ x.2.takeWhile simpleB ∧ l.dropWhile simpleB = x.2.dropWhile simpleB) (fun x => x.2.length) ([], l) ?_ ?_ ?_
    · refine Conv.mk [] rfl rfl rfl ?_ rfl ?_
      (repeat' (first | exact Cf.nil | exact Cv.refl | exact CvL.refl _ | exact Cv.rowf rfl rfl | exact Crs.nil | refine Cf.cons' (by (conv => lhs; whnf) <;> rfl) ?_ ?_ | refine Crs.cons ?_ rfl ?_ | exact Cr.no | refine Cr.row ?_ | refine Cr.box ?_ | exact Cv.nil | exact Cv.full | exact CvL.nil | refine CvL.cons ?_ ?_))
      (all_goals (try (first | refine CvL.eq ?_ | refine Cv.eq ?_)))
      all_goals ((try clear hK); first | rfl | (simp [List.length_append, AV.rens, AV.ren, renL]; done) | (simp [List.length_append, AV.rens, AV.ren, renL, *]; done) | (simp_all [List.length_append, AV.rens, AV.ren, renL]; done) | (exfalso; omega) | (exfalso; simp_all; omega))
    · simp
    · rintro ⟨d, r⟩ ⟨h1, h2, h3⟩
      simp only at h1 h2 h3 ⊢
      have hl1 : l.length = d.length + r.length := by rw [h1, List.length_append]
      have hF : ∃ c : UInt8, decide ((pre.length : Int) + d.length < s.length) = true → s[((pre.length : Int) + d.length).toNat]? = some c ∧ ∃ t, r = c :: t := by
        rcases r with _ | ⟨c, t⟩
        · exact ⟨0, fun h => by simp at hl1 h; omega⟩
        · exact ⟨c, fun _ => ⟨get_app pre d c t _ rfl s (by rw [hs, h1]), t, rfl⟩⟩
      obtain ⟨c1, hF⟩ := hF
      have hF1 : decide ((pre.length : Int) + d.length < s.length) = true → s[((pre.length : Int) + d.length).toNat]? = some c1 := fun h => (hF h).1
      (repeat' (first | refine AW.seq_k (fun K hK => ?_) | (refine hK _ ?_; clear hK) | (refine AW.cond rfl (fun hc => ?_) (fun hc => ?_) <;> (try simp only [Bool.and_eq_true, Bool.or_eq_true, Bool.not_eq_true', Bool.not_eq_false', Bool.and_eq_false_iff, Bool.or_eq_false_iff, Bool.and_eq_false_imp, decide_eq_true_eq, decide_eq_false_iff_not, Decidable.not_not, Int.not_lt, Int.not_le, ne_eq, Bool.not_not] at hc) <;> try (first | (exfalso; omega) | (cases hc; done))) | refine AW.block ?_ | refine AW.exit ?_ | refine AW.ret ?_ | refine AW.skip ?_ | (clear hK; refine hK _ ?_; clear hK) | (first | (refine AW.region (id := 3) ?_ <;> (try (refine Run.p rfl rfl rfl (OpP.mvA rfl) ?_)) <;> (try (refine Run.p rfl rfl rfl (OpP.mvA rfl) ?_)) <;> (try (refine Run.p rfl rfl rfl (OpP.lenStr rfl rfl) ?_)) <;> (try (refine Run.p rfl rfl rfl (OpP.ltt rfl rfl rfl) ?_)) <;> (try (refine Run.p rfl rfl rfl (OpP.mvA rfl) ?_)) <;> (try (refine Run.gpc (by first | exact Gd.t rfl rfl rfl rfl | exact Gd.t2 rfl rfl rfl rfl) rfl rfl (fun hg => ⟨OpP.mvA rfl, (by repeat (first | exact trivial | assumption | refine ⟨?_, ?_⟩))⟩) ?_)) <;> (try (refine Run.gpc (by first | exact Gd.t rfl rfl rfl rfl | exact Gd.t2 rfl rfl rfl rfl) rfl rfl (fun hg => ⟨OpP.mvA rfl, (by repeat (first | exact trivial | assumption | refine ⟨?_, ?_⟩))⟩) ?_)) <;> (try (refine Run.gpc (by first | exact Gd.t rfl rfl rfl rfl | exact Gd.t2 rfl rfl rfl rfl) rfl rfl (fun hg => ⟨OpP.indexStrA rfl rfl rfl, (by repeat (first | exact trivial | assumption | refine ⟨?_, ?_⟩))⟩) ?_)) <;> (try (refine Run.gccA (fun hg => (plainByte_c _)) (by first | exact Gd.t rfl rfl rfl rfl | exact Gd.t2 rfl rfl rfl rfl) rfl rfl rfl rfl rfl rfl rfl ?_)) <;> (try (refine Run.p rfl rfl rfl (OpP.pickAnd rfl rfl rfl rfl) ?_)) <;> (try refine Run.fin rfl ?_)) | (refine AW.region (id := 4) ?_ <;> (try (refine Run.p rfl rfl rfl (OpP.mvA rfl) ?_)) <;> (try (refine Run.p rfl rfl rfl (OpP.addA rfl rfl rfl) ?_)) <;> (try (refine Run.p rfl rfl rfl (OpP.asA rfl) ?_)) <;> (try refine Run.fin rfl ?_)) | (refine AW.region (id := 5) ?_ <;> (try (refine Run.p rfl rfl rfl (OpP.mvA rfl) ?_)) <;> (try (refine Run.p rfl rfl rfl (OpP.mvA rfl) ?_)) <;> (try (refine Run.p rfl rfl rfl (OpP.mvA rfl) ?_)) <;> (try (refine Run.p rfl rfl rfl (OpP.sliceStrLHA rfl rfl rfl rfl rfl) ?_)) <;> (try (refine Run.p rfl rfl rfl (OpP.mvA rfl) ?_)) <;> (try (refine Run.p rfl rfl rfl (OpP.mvA rfl) ?_)) <;> (try (refine Run.p rfl rfl rfl (OpP.mvA rfl) ?_)) <;> (try (refine Run.p rfl rfl rfl (OpP.gtt rfl rfl rfl) ?_)) <;> (try (refine Run.p rfl rfl rfl (OpP.asA rfl) ?_)) <;> (try (refine Run.p rfl rfl rfl (OpP.asA rfl) ?_)) <;> (try (refine Run.p rfl rfl rfl (OpP.asA rfl) ?_)) <;> (try refine Run.fin rfl ?_)))))
      · obtain ⟨-, t, rfl⟩ := hF (by simp; omega)
        ((repeat (with_reducible refine inB_n ?_)); refine thenA_n ?_)
        refine ⟨(d ++ [c1], t), ⟨by simp [h1], ?_, ?_⟩, by simp, ?_⟩
        · rw [h2]; simp [hc.2]
        · rw [h3]; simp [hc.2]
        · refine Conv.mk [] rfl rfl rfl ?_ rfl ?_
          (repeat' (first | exact Cf.nil | exact Cv.refl | exact CvL.refl _ | exact Cv.rowf rfl rfl | exact Crs.nil | refine Cf.cons' (by (conv => lhs; whnf) <;> rfl) ?_ ?_ | refine Crs.cons ?_ rfl ?_ | exact Cr.no | refine Cr.row ?_ | refine Cr.box ?_ | exact Cv.nil | exact Cv.full | exact CvL.nil | refine CvL.cons ?_ ?_))
          (all_goals (try (first | refine CvL.eq ?_ | refine Cv.eq ?_)))
          all_goals (simp [AV.ren]; omega)
      · have e1 : r.takeWhile simpleB = [] ∧ r.dropWhile simpleB = r := by
          rcases r with _ | ⟨c, t⟩
          · exact ⟨rfl, rfl⟩
          · have hb : simpleB c = false := by
              simp only [List.length_cons] at hl1
              rcases hc with hc | hc
              · omega
              · have h5 := (hF (by simp; omega)).2
                obtain ⟨t', e⟩ := h5
                injection e with e _
                rw [e]; exact hc
            simp [hb]
        rw [e1.1, List.append_nil] at h2
        rw [e1.2] at h3
        have e2 : List.drop ((pre.length : Int)).toNat (List.take ((pre.length : Int) + d.length).toNat s) = d := by
          have : ((pre.length : Int) + d.length).toNat = (pre ++ d).length := by simp; omega
          rw [this, hs, h1, ← List.append_assoc, List.take_left]
          simp
        rw [h2, h3]
        ((first | refine RetOk.tup rfl rfl ?_ | refine RetOk.one rfl ?_) <;> (repeat' (first | exact Cv.nil | exact Cv.rowf rfl rfl | exact RetC.nil | exact CvL.refl _ | exact Cv.refl | refine RetC.tmp (by (conv => lhs; whnf) <;> rfl) ?_ ?_ | refine RetC.cell1 rfl rfl rfl rfl ?_ ?_ | refine RetC.cellN rfl rfl rfl (by repeat constructor) ?_ ?_ | refine Cv.rowE rfl rfl ?_ | exact Cv.full | exact CvL.nil | refine CvL.cons ?_ ?_)))
        (all_goals (try (first | refine CvL.eq ?_ | refine Cv.eq ?_)))
        · rw [e2]; rfl
        · simp [AV.ren]; omega
        · rcases d with _ | ⟨c, d⟩ <;> simp [AV.ren]; omega
  · obtain ⟨r, rfl⟩ := (hF (by simp; omega)).2
    clear hF1
    refine AW.loopF (X := List UInt8 × List UInt8 × List UInt8) (fun x => ⟨[(0, .v (.string (bs s))), (1, .v (.int .i64 (pre.length : Int))), (8, .row 0 (bsP x.2.2).length), (9, .v (.int .i64 ((pre.length : Int) + 1 + (x.1.length : Int))))], [.row 1 (bsP x.2.2)]⟩)
      (fun x => r = x.1 ++ x.2.1 ∧ (∃ n, x.2.1.length < n ∧ qRead (r.length + 1) r [] = qRead n x.2.1 x.2.2) ∧ x.2.2.length ≤ x.1.length) (fun x => x.2.1.length) ([], r, []) ?_ ?_ ?_
    · refine Conv.own 8 1 [] (Or.inr ⟨rfl, rfl⟩) ?_
      refine Conv.mk [0] rfl rfl rfl ?_ rfl ?_
      (repeat' (first | exact Cf.nil | exact Cv.refl | exact CvL.refl _ | exact Cv.rowf rfl rfl | exact Crs.nil | refine Cf.cons' (by (conv => lhs; whnf) <;> rfl) ?_ ?_ | refine Crs.cons ?_ rfl ?_ | exact Cr.no | refine Cr.row ?_ | refine Cr.box ?_ | exact Cv.nil | exact Cv.full | exact CvL.nil | refine CvL.cons ?_ ?_))
      (all_goals (try (first | refine CvL.eq ?_ | refine Cv.eq ?_)))
      all_goals ((try clear hK); first | rfl | (simp [List.length_append, AV.rens, AV.ren, renL]; done) | (simp [List.length_append, AV.rens, AV.ren, renL, *]; done) | (simp_all [List.length_append, AV.rens, AV.ren, renL]; done) | (exfalso; omega) | (exfalso; simp_all; omega))
    · refine ⟨rfl, ⟨_, ?_, rfl⟩, Nat.le_refl _⟩; simp
    · rintro ⟨d, t, out⟩ ⟨h1, ⟨n, hn, h2⟩, h3⟩
      simp only at h1 hn h2 h3 ⊢
      have hl1 : r.length = d.length + t.length := by rw [h1, List.length_append]
      simp only [List.length_cons] at hl
      have e1 : wr = match qRead n t out with | none => ([], none) | some (w, t) => (w, some t) := by rw [← he, ← h2]; simp only [wordR]; rw [if_pos hc.2]
      have e2 : wt = match qRead n t out with | none => (0 : Int) | some (w, t) => (s.length : Int) - t.length := by rw [← he', ← h2]; simp only [wordTo]; rw [if_pos hc.2]
      clear he he' hF
      obtain ⟨m, rfl⟩ : ∃ m, n = m + 1 := ⟨n - 1, by omega⟩
      rcases t with _ | ⟨c, t⟩
      · simp only [List.length_nil] at hl1
        rw [qRead] at e1 e2
        subst e1 e2
        (repeat' (first | refine AW.seq_k (fun K hK => ?_) | (refine hK _ ?_; clear hK) | (refine AW.condD rfl (fun hc => ?_) (fun hc => ?_) <;> try (first | (exfalso; omega) | (cases hc; done))) | refine AW.exit ?_ | refine AW.ret ?_ | (clear hK; refine hK _ ?_; clear hK) | (first | (refine AW.region (id := 8) ?_ <;> (try (refine Run.p rfl rfl rfl (OpP.mvA rfl) ?_)) <;> (try (refine Run.p rfl rfl rfl (OpP.mvA rfl) ?_)) <;> (try (refine Run.p rfl rfl rfl (OpP.lenStr rfl rfl) ?_)) <;> (try (refine Run.p rfl rfl rfl (OpP.ltt rfl rfl rfl) ?_)) <;> (try refine Run.fin rfl ?_)) | (refine AW.region (id := 24) ?_ <;> (try (refine Run.p rfl rfl rfl (OpP.asA rfl) ?_)) <;> (try (refine Run.p rfl rfl rfl (OpP.asA rfl) ?_)) <;> (try (refine Run.p rfl rfl rfl (OpP.asA rfl) ?_)) <;> (try refine Run.fin rfl ?_)))))
        ((first | refine RetOk.tup rfl rfl ?_ | refine RetOk.one rfl ?_) <;> (repeat' (first | exact Cv.nil | exact Cv.rowf rfl rfl | exact RetC.nil | exact CvL.refl _ | exact Cv.refl | refine RetC.tmp (by (conv => lhs; whnf) <;> rfl) ?_ ?_ | refine RetC.cell1 rfl rfl rfl rfl ?_ ?_ | refine RetC.cellN rfl rfl rfl (by repeat constructor) ?_ ?_ | refine Cv.rowE rfl rfl ?_ | exact Cv.full | exact CvL.nil | refine CvL.cons ?_ ?_)))
      · simp only [List.length_cons] at hl1 hn
        have hF : s[((pre.length : Int) + 1 + d.length).toNat]? = some c := get_app (pre ++ [c0]) d c t _ (by simp) s (by rw [hs, h1]; simp)
        rcases t with _ | ⟨e, t⟩
        · simp only [List.length_nil] at hl1 hn
          (repeat' (first | refine AW.seq_k (fun K hK => ?_) | (refine hK _ ?_; clear hK) | (refine AW.condD rfl (fun hc => ?_) (fun hc => ?_) <;> try (first | (exfalso; omega) | (cases hc; done))) | (refine AW.cond rfl (fun hc => ?_) (fun hc => ?_) <;> (try simp only [Bool.and_eq_true, Bool.or_eq_true, Bool.not_eq_true', Bool.not_eq_false', Bool.and_eq_false_iff, Bool.or_eq_false_iff, Bool.and_eq_false_imp, decide_eq_true_eq, decide_eq_false_iff_not, Decidable.not_not, Int.not_lt, Int.not_le, ne_eq, Bool.not_not] at hc) <;> try (first | (exfalso; omega) | (cases hc; done))) | refine AW.block ?_ | refine AW.ret ?_ | refine AW.skip ?_ | (first | (refine AW.region (id := 8) ?_ <;> (try (refine Run.p rfl rfl rfl (OpP.mvA rfl) ?_)) <;> (try (refine Run.p rfl rfl rfl (OpP.mvA rfl) ?_)) <;> (try (refine Run.p rfl rfl rfl (OpP.lenStr rfl rfl) ?_)) <;> (try (refine Run.p rfl rfl rfl (OpP.ltt rfl rfl rfl) ?_)) <;> (try refine Run.fin rfl ?_)) | (refine AW.region (id := 10) ?_ <;> (try (refine Run.p rfl rfl rfl (OpP.mvA rfl) ?_)) <;> (try (refine Run.p rfl rfl rfl (OpP.mvA rfl) ?_)) <;> (try (refine Run.p rfl rfl rfl (OpP.indexStrA rfl rfl rfl) ?_)) <;> (try (refine Run.p rfl rfl rfl (OpP.asA rfl) ?_)) <;> (try refine Run.fin rfl ?_)) | (refine AW.region (id := 12) ?_ <;> (try (refine Run.p rfl rfl rfl (OpP.mvA rfl) ?_)) <;> (try (refine Run.p rfl rfl rfl (OpP.eq rfl rfl rfl) ?_)) <;> (try (refine Run.p rfl rfl rfl (OpP.asA rfl) ?_)) <;> (try refine Run.fin rfl ?_)) | (refine AW.region (id := 13) ?_ <;> (try (refine Run.p rfl rfl rfl (OpP.mvA rfl) ?_)) <;> (try (refine Run.ri rfl rfl rfl (OpRI.toStrA rfl) rfl ?_)) <;> (try (refine Run.p rfl rfl rfl (OpP.mvA rfl) ?_)) <;> (try (refine Run.p rfl rfl rfl (OpP.addA rfl rfl rfl) ?_)) <;> (try (refine Run.p rfl rfl rfl (OpP.asA rfl) ?_)) <;> (try (refine Run.p rfl rfl rfl (OpP.asA rfl) ?_)) <;> (try (refine Run.p rfl rfl rfl (OpP.asA rfl) ?_)) <;> (try refine Run.fin rfl ?_)) | (refine AW.region (id := 14) ?_ <;> (try (refine Run.p rfl rfl rfl (OpP.mvA rfl) ?_)) <;> (try (refine Run.p rfl rfl rfl (OpP.eq rfl rfl rfl) ?_)) <;> (try (refine Run.p rfl rfl rfl (OpP.mvA rfl) ?_)) <;> (try (refine Run.gpc (by first | exact Gd.f rfl rfl rfl rfl | exact Gd.f2 rfl rfl rfl rfl) rfl rfl (fun hg => ⟨OpP.mvA rfl, (by repeat (first | exact trivial | assumption | refine ⟨?_, ?_⟩))⟩) ?_)) <;> (try (refine Run.gpc (by first | exact Gd.f rfl rfl rfl rfl | exact Gd.f2 rfl rfl rfl rfl) rfl rfl (fun hg => ⟨OpP.eq rfl rfl rfl, (by repeat (first | exact trivial | assumption | refine ⟨?_, ?_⟩))⟩) ?_)) <;> (try (refine Run.p rfl rfl rfl (OpP.pickOr rfl rfl rfl rfl) ?_)) <;> (try (refine Run.p rfl rfl rfl (OpP.asA rfl) ?_)) <;> (try refine Run.fin rfl ?_)) | (refine AW.region (id := 15) ?_ <;> (try (refine Run.p rfl rfl rfl (OpP.asA rfl) ?_)) <;> (try (refine Run.p rfl rfl rfl (OpP.asA rfl) ?_)) <;> (try (refine Run.p rfl rfl rfl (OpP.asA rfl) ?_)) <;> (try refine Run.fin rfl ?_)) | (refine AW.region (id := 16) ?_ <;> (try (refine Run.p rfl rfl rfl (OpP.mvA rfl) ?_)) <;> (try (refine Run.p rfl rfl rfl (OpP.eq rfl rfl rfl) ?_)) <;> (try (refine Run.p rfl rfl rfl (OpP.asA rfl) ?_)) <;> (try refine Run.fin rfl ?_)) | (refine AW.region (id := 17) ?_ <;> (try (refine Run.p rfl rfl rfl (OpP.mvA rfl) ?_)) <;> (try (refine Run.p rfl rfl rfl (OpP.addA rfl rfl rfl) ?_)) <;> (try (refine Run.p rfl rfl rfl (OpP.asA rfl) ?_)) <;> (try refine Run.fin rfl ?_)) | (refine AW.region (id := 18) ?_ <;> (try (refine Run.p rfl rfl rfl (OpP.mvA rfl) ?_)) <;> (try (refine Run.p rfl rfl rfl (OpP.mvA rfl) ?_)) <;> (try (refine Run.p rfl rfl rfl (OpP.lenStr rfl rfl) ?_)) <;> (try (refine Run.p rfl rfl rfl (OpP.eq rfl rfl rfl) ?_)) <;> (try refine Run.fin rfl ?_)) | (refine AW.region (id := 19) ?_ <;> (try (refine Run.p rfl rfl rfl (OpP.asA rfl) ?_)) <;> (try (refine Run.p rfl rfl rfl (OpP.asA rfl) ?_)) <;> (try (refine Run.p rfl rfl rfl (OpP.asA rfl) ?_)) <;> (try refine Run.fin rfl ?_)) | (refine AW.region (id := 11) ?_ <;> (try (refine Run.p rfl rfl rfl (OpP.mvA rfl) ?_)) <;> (try (refine Run.p rfl rfl rfl (OpP.mvA rfl) ?_)) <;> (try (refine Run.bsA rfl rfl rfl rfl rfl rfl ?_)) <;> (try (refine Run.apRA rfl rfl rfl rfl rfl rfl rfl rfl rfl ?_)) <;> (try (refine Run.p rfl rfl rfl (OpP.asA rfl) ?_)) <;> (try refine Run.fin rfl ?_)) | (refine AW.region (id := 9) ?_ <;> (try (refine Run.p rfl rfl rfl (OpP.mvA rfl) ?_)) <;> (try (refine Run.p rfl rfl rfl (OpP.addA rfl rfl rfl) ?_)) <;> (try (refine Run.p rfl rfl rfl (OpP.asA rfl) ?_)) <;> (try refine Run.fin rfl ?_)))))
          · simp only [qRead, hc, if_true] at e1 e2
            subst e1 e2
            ((first | refine RetOk.tup rfl rfl ?_ | refine RetOk.one rfl ?_) <;> (repeat' (first | exact Cv.nil | exact Cv.rowf rfl rfl | exact RetC.nil | exact CvL.refl _ | exact Cv.refl | refine RetC.tmp (by (conv => lhs; whnf) <;> rfl) ?_ ?_ | refine RetC.cell1 rfl rfl rfl rfl ?_ ?_ | refine RetC.cellN rfl rfl rfl (by repeat constructor) ?_ ?_ | refine Cv.rowE rfl rfl ?_ | exact Cv.full | exact CvL.nil | refine CvL.cons ?_ ?_)))
            (all_goals (try (first | refine CvL.eq ?_ | refine Cv.eq ?_)))
            all_goals (simp [AV.ren]; omega)
          · have hq : qRead (m + 1) [c] out = none := by rw [qRead, if_neg (by assumption), if_pos hc]
            rw [hq] at e1 e2
            subst e1 e2
            ((first | refine RetOk.tup rfl rfl ?_ | refine RetOk.one rfl ?_) <;> (repeat' (first | exact Cv.nil | exact Cv.rowf rfl rfl | exact RetC.nil | exact CvL.refl _ | exact Cv.refl | refine RetC.tmp (by (conv => lhs; whnf) <;> rfl) ?_ ?_ | refine RetC.cell1 rfl rfl rfl rfl ?_ ?_ | refine RetC.cellN rfl rfl rfl (by repeat constructor) ?_ ?_ | refine Cv.rowE rfl rfl ?_ | exact Cv.full | exact CvL.nil | refine CvL.cons ?_ ?_)))
          · have hq : qRead (m + 1) [c] out = none := by rw [qRead, if_neg (by assumption), if_neg (by omega), if_pos (by assumption)]
            rw [hq] at e1 e2
            subst e1 e2
            ((first | refine RetOk.tup rfl rfl ?_ | refine RetOk.one rfl ?_) <;> (repeat' (first | exact Cv.nil | exact Cv.rowf rfl rfl | exact RetC.nil | exact CvL.refl _ | exact Cv.refl | refine RetC.tmp (by (conv => lhs; whnf) <;> rfl) ?_ ?_ | refine RetC.cell1 rfl rfl rfl rfl ?_ ?_ | refine RetC.cellN rfl rfl rfl (by repeat constructor) ?_ ?_ | refine Cv.rowE rfl rfl ?_ | exact Cv.full | exact CvL.nil | refine CvL.cons ?_ ?_)))
          · ((repeat (with_reducible refine inB_n ?_)); refine thenA_n ?_)
            refine ⟨(d ++ [c], [], out ++ [c]), ⟨by simp [h1], ⟨m, by simp; omega, ?_⟩, by simp; omega⟩, by simp, ?_⟩
            · rw [h2, qRead, if_neg (by assumption), if_neg (by omega), if_neg (by assumption)]
            · refine Conv.mk [0] rfl rfl rfl ?_ rfl ?_
              (repeat' (first | exact Cf.nil | exact Cv.refl | exact CvL.refl _ | exact Cv.rowf rfl rfl | exact Crs.nil | refine Cf.cons' (by (conv => lhs; whnf) <;> rfl) ?_ ?_ | refine Crs.cons ?_ rfl ?_ | exact Cr.no | refine Cr.row ?_ | refine Cr.box ?_ | exact Cv.nil | exact Cv.full | exact CvL.nil | refine CvL.cons ?_ ?_))
              (all_goals (try (first | refine CvL.eq ?_ | refine Cv.eq ?_)))
              all_goals (simp [AV.ren, renL]; try omega)
        · simp only [List.length_cons] at hl1 hn
          have hF' : s[((pre.length : Int) + 1 + d.length + 1).toNat]? = some e := get_app (pre ++ [c0]) (d ++ [c]) e t _ (by simp; omega) s (by rw [hs, h1]; simp)
          (repeat' (first | refine AW.seq_k (fun K hK => ?_) | (refine hK _ ?_; clear hK) | (refine AW.condD rfl (fun hc => ?_) (fun hc => ?_) <;> try (first | (exfalso; omega) | (cases hc; done))) | (refine AW.cond rfl (fun hc => ?_) (fun hc => ?_) <;> (try simp only [Bool.and_eq_true, Bool.or_eq_true, Bool.not_eq_true', Bool.not_eq_false', Bool.and_eq_false_iff, Bool.or_eq_false_iff, Bool.and_eq_false_imp, decide_eq_true_eq, decide_eq_false_iff_not, Decidable.not_not, Int.not_lt, Int.not_le, ne_eq, Bool.not_not] at hc) <;> try (first | (exfalso; omega) | (cases hc; done))) | refine AW.block ?_ | refine AW.ret ?_ | refine AW.skip ?_ | (first | (refine AW.region (id := 8) ?_ <;> (try (refine Run.p rfl rfl rfl (OpP.mvA rfl) ?_)) <;> (try (refine Run.p rfl rfl rfl (OpP.mvA rfl) ?_)) <;> (try (refine Run.p rfl rfl rfl (OpP.lenStr rfl rfl) ?_)) <;> (try (refine Run.p rfl rfl rfl (OpP.ltt rfl rfl rfl) ?_)) <;> (try refine Run.fin rfl ?_)) | (refine AW.region (id := 10) ?_ <;> (try (refine Run.p rfl rfl rfl (OpP.mvA rfl) ?_)) <;> (try (refine Run.p rfl rfl rfl (OpP.mvA rfl) ?_)) <;> (try (refine Run.p rfl rfl rfl (OpP.indexStrA rfl rfl rfl) ?_)) <;> (try (refine Run.p rfl rfl rfl (OpP.asA rfl) ?_)) <;> (try refine Run.fin rfl ?_)) | (refine AW.region (id := 12) ?_ <;> (try (refine Run.p rfl rfl rfl (OpP.mvA rfl) ?_)) <;> (try (refine Run.p rfl rfl rfl (OpP.eq rfl rfl rfl) ?_)) <;> (try (refine Run.p rfl rfl rfl (OpP.asA rfl) ?_)) <;> (try refine Run.fin rfl ?_)) | (refine AW.region (id := 13) ?_ <;> (try (refine Run.p rfl rfl rfl (OpP.mvA rfl) ?_)) <;> (try (refine Run.ri rfl rfl rfl (OpRI.toStrA rfl) rfl ?_)) <;> (try (refine Run.p rfl rfl rfl (OpP.mvA rfl) ?_)) <;> (try (refine Run.p rfl rfl rfl (OpP.addA rfl rfl rfl) ?_)) <;> (try (refine Run.p rfl rfl rfl (OpP.asA rfl) ?_)) <;> (try (refine Run.p rfl rfl rfl (OpP.asA rfl) ?_)) <;> (try (refine Run.p rfl rfl rfl (OpP.asA rfl) ?_)) <;> (try refine Run.fin rfl ?_)) | (refine AW.region (id := 14) ?_ <;> (try (refine Run.p rfl rfl rfl (OpP.mvA rfl) ?_)) <;> (try (refine Run.p rfl rfl rfl (OpP.eq rfl rfl rfl) ?_)) <;> (try (refine Run.p rfl rfl rfl (OpP.mvA rfl) ?_)) <;> (try (refine Run.gpc (by first | exact Gd.f rfl rfl rfl rfl | exact Gd.f2 rfl rfl rfl rfl) rfl rfl (fun hg => ⟨OpP.mvA rfl, (by repeat (first | exact trivial | assumption | refine ⟨?_, ?_⟩))⟩) ?_)) <;> (try (refine Run.gpc (by first | exact Gd.f rfl rfl rfl rfl | exact Gd.f2 rfl rfl rfl rfl) rfl rfl (fun hg => ⟨OpP.eq rfl rfl rfl, (by repeat (first | exact trivial | assumption | refine ⟨?_, ?_⟩))⟩) ?_)) <;> (try (refine Run.p rfl rfl rfl (OpP.pickOr rfl rfl rfl rfl) ?_)) <;> (try (refine Run.p rfl rfl rfl (OpP.asA rfl) ?_)) <;> (try refine Run.fin rfl ?_)) | (refine AW.region (id := 15) ?_ <;> (try (refine Run.p rfl rfl rfl (OpP.asA rfl) ?_)) <;> (try (refine Run.p rfl rfl rfl (OpP.asA rfl) ?_)) <;> (try (refine Run.p rfl rfl rfl (OpP.asA rfl) ?_)) <;> (try refine Run.fin rfl ?_)) | (refine AW.region (id := 16) ?_ <;> (try (refine Run.p rfl rfl rfl (OpP.mvA rfl) ?_)) <;> (try (refine Run.p rfl rfl rfl (OpP.eq rfl rfl rfl) ?_)) <;> (try (refine Run.p rfl rfl rfl (OpP.asA rfl) ?_)) <;> (try refine Run.fin rfl ?_)) | (refine AW.region (id := 17) ?_ <;> (try (refine Run.p rfl rfl rfl (OpP.mvA rfl) ?_)) <;> (try (refine Run.p rfl rfl rfl (OpP.addA rfl rfl rfl) ?_)) <;> (try (refine Run.p rfl rfl rfl (OpP.asA rfl) ?_)) <;> (try refine Run.fin rfl ?_)) | (refine AW.region (id := 18) ?_ <;> (try (refine Run.p rfl rfl rfl (OpP.mvA rfl) ?_)) <;> (try (refine Run.p rfl rfl rfl (OpP.mvA rfl) ?_)) <;> (try (refine Run.p rfl rfl rfl (OpP.lenStr rfl rfl) ?_)) <;> (try (refine Run.p rfl rfl rfl (OpP.eq rfl rfl rfl) ?_)) <;> (try refine Run.fin rfl ?_)) | (refine AW.region (id := 20) ?_ <;> (try (refine Run.p rfl rfl rfl (OpP.mvA rfl) ?_)) <;> (try (refine Run.p rfl rfl rfl (OpP.mvA rfl) ?_)) <;> (try (refine Run.p rfl rfl rfl (OpP.indexStrA rfl rfl rfl) ?_)) <;> (try (refine Run.c0 (pair_c _) rfl rfl rfl rfl rfl rfl rfl rfl ?_)) <;> (try (refine Run.p rfl rfl rfl (OpP.mvA rfl) ?_)) <;> (try (refine Run.p rfl rfl rfl (OpP.extract rfl rfl rfl) ?_)) <;> (try (refine Run.p rfl rfl rfl (OpP.extract rfl rfl rfl) ?_)) <;> (try (refine Run.p rfl rfl rfl (OpP.asA rfl) ?_)) <;> (try (refine Run.p rfl rfl rfl (OpP.asA rfl) ?_)) <;> (try refine Run.fin rfl ?_)) | (refine AW.region (id := 21) ?_ <;> (try (refine Run.p rfl rfl rfl (OpP.mvA rfl) ?_)) <;> (try (refine Run.p rfl rfl rfl (OpP.not rfl rfl) ?_)) <;> (try refine Run.fin rfl ?_)) | (refine AW.region (id := 22) ?_ <;> (try (refine Run.p rfl rfl rfl (OpP.asA rfl) ?_)) <;> (try (refine Run.p rfl rfl rfl (OpP.asA rfl) ?_)) <;> (try (refine Run.p rfl rfl rfl (OpP.asA rfl) ?_)) <;> (try refine Run.fin rfl ?_)) | (refine AW.region (id := 23) ?_ <;> (try (refine Run.p rfl rfl rfl (OpP.mvA rfl) ?_)) <;> (try (refine Run.p rfl rfl rfl (OpP.mvA rfl) ?_)) <;> (try (refine Run.bsA rfl rfl rfl rfl rfl rfl ?_)) <;> (try (refine Run.apRA rfl rfl rfl rfl rfl rfl rfl rfl rfl ?_)) <;> (try (refine Run.p rfl rfl rfl (OpP.asA rfl) ?_)) <;> (try refine Run.fin rfl ?_)) | (refine AW.region (id := 11) ?_ <;> (try (refine Run.p rfl rfl rfl (OpP.mvA rfl) ?_)) <;> (try (refine Run.p rfl rfl rfl (OpP.mvA rfl) ?_)) <;> (try (refine Run.bsA rfl rfl rfl rfl rfl rfl ?_)) <;> (try (refine Run.apRA rfl rfl rfl rfl rfl rfl rfl rfl rfl ?_)) <;> (try (refine Run.p rfl rfl rfl (OpP.asA rfl) ?_)) <;> (try refine Run.fin rfl ?_)) | (refine AW.region (id := 9) ?_ <;> (try (refine Run.p rfl rfl rfl (OpP.mvA rfl) ?_)) <;> (try (refine Run.p rfl rfl rfl (OpP.addA rfl rfl rfl) ?_)) <;> (try (refine Run.p rfl rfl rfl (OpP.asA rfl) ?_)) <;> (try refine Run.fin rfl ?_)))))
          · simp only [qRead, hc, if_true] at e1 e2
            subst e1 e2
            ((first | refine RetOk.tup rfl rfl ?_ | refine RetOk.one rfl ?_) <;> (repeat' (first | exact Cv.nil | exact Cv.rowf rfl rfl | exact RetC.nil | exact CvL.refl _ | exact Cv.refl | refine RetC.tmp (by (conv => lhs; whnf) <;> rfl) ?_ ?_ | refine RetC.cell1 rfl rfl rfl rfl ?_ ?_ | refine RetC.cellN rfl rfl rfl (by repeat constructor) ?_ ?_ | refine Cv.rowE rfl rfl ?_ | exact Cv.full | exact CvL.nil | refine CvL.cons ?_ ?_)))
            (all_goals (try (first | refine CvL.eq ?_ | refine Cv.eq ?_)))
            have e3 : (pre.length : Int) + 1 + d.length + 1 = s.length - ((e :: t).length : Int) := by simp only [List.length_cons]; omega
            all_goals (simp only [AV.ren]; rw [e3])
          · have hq : qRead (m + 1) (c :: e :: t) out = none := by rw [qRead, if_neg (by assumption), if_pos hc]
            rw [hq] at e1 e2
            subst e1 e2
            ((first | refine RetOk.tup rfl rfl ?_ | refine RetOk.one rfl ?_) <;> (repeat' (first | exact Cv.nil | exact Cv.rowf rfl rfl | exact RetC.nil | exact CvL.refl _ | exact Cv.refl | refine RetC.tmp (by (conv => lhs; whnf) <;> rfl) ?_ ?_ | refine RetC.cell1 rfl rfl rfl rfl ?_ ?_ | refine RetC.cellN rfl rfl rfl (by repeat constructor) ?_ ?_ | refine Cv.rowE rfl rfl ?_ | exact Cv.full | exact CvL.nil | refine CvL.cons ?_ ?_)))
          · have hm : meant e = none := by cases hm : meant e <;> simp [hm] at hc; rfl
            have hq : qRead (m + 1) (c :: e :: t) out = none := by
              rw [qRead, if_neg (by assumption), if_neg (by omega), if_pos (by assumption)]
              simp only [hm]
            rw [hq] at e1 e2
            subst e1 e2
            ((first | refine RetOk.tup rfl rfl ?_ | refine RetOk.one rfl ?_) <;> (repeat' (first | exact Cv.nil | exact Cv.rowf rfl rfl | exact RetC.nil | exact CvL.refl _ | exact Cv.refl | refine RetC.tmp (by (conv => lhs; whnf) <;> rfl) ?_ ?_ | refine RetC.cell1 rfl rfl rfl rfl ?_ ?_ | refine RetC.cellN rfl rfl rfl (by repeat constructor) ?_ ?_ | refine Cv.rowE rfl rfl ?_ | exact Cv.full | exact CvL.nil | refine CvL.cons ?_ ?_)))
          · obtain ⟨x, hm⟩ := Option.isSome_iff_exists.1 hc
            ((repeat (with_reducible refine inB_n ?_)); refine thenA_n ?_)
            refine ⟨(d ++ [c, e], t, out ++ [x]), ⟨by simp [h1], ⟨m, by simp; omega, ?_⟩, by simp; omega⟩, by simp; omega, ?_⟩
            · rw [h2, qRead, if_neg (by assumption), if_neg (by omega), if_pos (by assumption)]
              simp only [hm]
            · refine Conv.mk [0] rfl rfl rfl ?_ rfl ?_
              (repeat' (first | exact Cf.nil | exact Cv.refl | exact CvL.refl _ | exact Cv.rowf rfl rfl | exact Crs.nil | refine Cf.cons' (by (conv => lhs; whnf) <;> rfl) ?_ ?_ | refine Crs.cons ?_ rfl ?_ | exact Cr.no | refine Cr.row ?_ | refine Cr.box ?_ | exact Cv.nil | exact Cv.full | exact CvL.nil | refine CvL.cons ?_ ?_))
              (all_goals (try (first | refine CvL.eq ?_ | refine Cv.eq ?_)))
              all_goals (simp [AV.ren, renL, hm]; try omega)
          · ((repeat (with_reducible refine inB_n ?_)); refine thenA_n ?_)
            refine ⟨(d ++ [c], e :: t, out ++ [c]), ⟨by simp [h1], ⟨m, by simp; omega, ?_⟩, by simp; omega⟩, by simp, ?_⟩
            · rw [h2, qRead, if_neg (by assumption), if_neg (by omega), if_neg (by assumption)]
            · refine Conv.mk [0] rfl rfl rfl ?_ rfl ?_
              (repeat' (first | exact Cf.nil | exact Cv.refl | exact CvL.refl _ | exact Cv.rowf rfl rfl | exact Crs.nil | refine Cf.cons' (by (conv => lhs; whnf) <;> rfl) ?_ ?_ | refine Crs.cons ?_ rfl ?_ | exact Cr.no | refine Cr.row ?_ | refine Cr.box ?_ | exact Cv.nil | exact Cv.full | exact CvL.nil | refine CvL.cons ?_ ?_))
              (all_goals (try (first | refine CvL.eq ?_ | refine Cv.eq ?_)))
              all_goals (simp [AV.ren, renL]; try omega)
end Go.Proofs.YthogjnckkmfhnaaDoor
/-
  Walks of the reference's Split, Same.
-/
namespace Go.Proofs.YthogjnckkmfhnaaDoor
set_option linter.unusedVariables false
set_option linter.unusedSimpArgs false
theorem qRead_suf : ∀ (n : Nat) (l out w t : List UInt8), qRead n l out = some (w, t) → ∃ d, l = d ++ t := by
  intro n
  induction n with
  | zero => intro l out w t h; simp [qRead] at h
  | succ n ih =>
    intro l out w t h
    rcases l with _ | ⟨c, l⟩
    · simp [qRead] at h
    · simp only [qRead] at h
      split at h
      · simp at h; exact ⟨[c], by simp [h.2]⟩
      · split at h
        · cases h
        · split at h
          · rcases l with _ | ⟨e, l⟩
            · simp at h
            · simp only at h
              cases hm : meant e with
              | none => rw [hm] at h; simp at h
              | some x =>
                rw [hm] at h
                obtain ⟨d, rfl⟩ := ih _ _ _ _ h
                exact ⟨c :: e :: d, by simp⟩
          · obtain ⟨d, rfl⟩ := ih _ _ _ _ h
            exact ⟨c :: d, by simp⟩
theorem wordR_suf (s l w t : List UInt8) (h : wordR l = (w, some t)) : (∃ d, l = d ++ t) ∧ wordTo s l = (s.length : Int) - t.length := by
  rcases l with _ | ⟨c, r⟩
  · simp [wordR] at h
  · simp only [wordR, wordTo] at h ⊢
    split at h
    · rename_i hc
      rw [if_pos hc]
      cases hq : qRead (r.length + 1) r [] with
      | none => rw [hq] at h; simp at h
      | some p =>
        obtain ⟨w', t'⟩ := p
        rw [hq] at h
        simp at h
        obtain ⟨rfl, rfl⟩ := h
        obtain ⟨d, e⟩ := qRead_suf _ _ _ _ _ hq
        exact ⟨⟨c :: d, by rw [e]; rfl⟩, rfl⟩
    · rename_i hc
      rw [if_neg hc]
      injection h with h1 h2
      split at h2
      · cases h2
      · injection h2 with h2
        rw [← h2]
        exact ⟨⟨_, (List.takeWhile_append_dropWhile ..).symm⟩, rfl⟩
def rSplit : Nat → List UInt8 → List (List UInt8) → Option (List (List UInt8))
  | 0, _, _ => none
  | n + 1, l, out => match wordR l with
    | (_, none) => none
    | (w, some []) => some (out ++ [w])
    | (w, some (c :: t)) => if (c.toNat : Int) = 32 then rSplit n t (out ++ [w]) else none
def rSplitP (s : List UInt8) : List (List UInt8) × Int :=
  if 4096 < s.length then ([], 3) else if s = [] then ([], 0) else match rSplit (s.length + 1) s [] with
  | none => ([], 5)
  | some r => if 64 < r.length then ([], 3) else (r, 0)
theorem rSplit_c (s : List UInt8) : ACalls Tryd.prog 30 [.v (.string (bs s))] [] (.tup [.sl 1 (wdsP (rSplitP s).1) false, .v (.int .i64 (rSplitP s).2)]) [] := by
  generalize he : rSplitP s = sp
  refine (ACalls.of (fn := Tryd.f30) Tryd.func30 rfl rfl Tryd.ntmps30 (fun I M w own => ?_))
  (repeat' (first | refine AW.seq_k (fun K hK => ?_) | (refine hK _ ?_; clear hK) | (refine AW.condD rfl (fun hc => ?_) (fun hc => ?_) <;> try (first | (exfalso; omega) | (cases hc; done))) | refine AW.block ?_ | refine AW.ret ?_ | refine AW.skip ?_ | (first | (refine AW.region (id := 0) ?_ <;> (try (refine Run.p rfl rfl rfl (OpP.asA rfl) ?_)) <;> (try (refine Run.p rfl rfl rfl (OpP.asA rfl) ?_)) <;> (try refine Run.fin rfl ?_)) | (refine AW.region (id := 1) ?_ <;> (try (refine Run.p rfl rfl rfl (OpP.mvA rfl) ?_)) <;> (try (refine Run.p rfl rfl rfl (OpP.lenStr rfl rfl) ?_)) <;> (try (refine Run.p rfl rfl rfl (OpP.gtt rfl rfl rfl) ?_)) <;> (try refine Run.fin rfl ?_)) | (refine AW.region (id := 2) ?_ <;> (try (refine Run.p rfl rfl rfl (OpP.asA rfl) ?_)) <;> (try (refine Run.p rfl rfl rfl (OpP.asA rfl) ?_)) <;> (try refine Run.fin rfl ?_)) | (refine AW.region (id := 3) ?_ <;> (try (refine Run.p rfl rfl rfl (OpP.mvA rfl) ?_)) <;> (try (refine Run.p rfl rfl rfl (OpP.seq rfl rfl rfl) ?_)) <;> (try refine Run.fin rfl ?_)) | (refine AW.region (id := 4) ?_ <;> (try (refine Run.p rfl rfl rfl (OpP.asA rfl) ?_)) <;> (try (refine Run.p rfl rfl rfl (OpP.asA rfl) ?_)) <;> (try refine Run.fin rfl ?_)) | (refine AW.region (id := 5) ?_ <;> (try (refine Run.p rfl rfl rfl (OpP.asA rfl) ?_)) <;> (try refine Run.fin rfl ?_)) | (refine AW.region (id := 6) ?_ <;> (try (refine Run.p rfl rfl rfl (OpP.asA rfl) ?_)) <;> (try refine Run.fin rfl ?_)))))
  · obtain rfl : sp = ([], 3) := by rw [← he, rSplitP, if_pos (by omega)]
    ((first | refine RetOk.tup rfl rfl ?_ | refine RetOk.one rfl ?_) <;> (repeat' (first | exact Cv.nil | exact Cv.rowf rfl rfl | exact RetC.nil | exact CvL.refl _ | exact Cv.refl | refine RetC.tmp (by (conv => lhs; whnf) <;> rfl) ?_ ?_ | refine RetC.cell1 rfl rfl rfl rfl ?_ ?_ | refine RetC.cellN rfl rfl rfl (by repeat constructor) ?_ ?_ | refine Cv.rowE rfl rfl ?_ | exact Cv.full | exact CvL.nil | refine CvL.cons ?_ ?_)))
  · obtain rfl : sp = ([], 0) := by rw [← he, rSplitP, if_neg (by omega), if_pos (by assumption)]
    ((first | refine RetOk.tup rfl rfl ?_ | refine RetOk.one rfl ?_) <;> (repeat' (first | exact Cv.nil | exact Cv.rowf rfl rfl | exact RetC.nil | exact CvL.refl _ | exact Cv.refl | refine RetC.tmp (by (conv => lhs; whnf) <;> rfl) ?_ ?_ | refine RetC.cell1 rfl rfl rfl rfl ?_ ?_ | refine RetC.cellN rfl rfl rfl (by repeat constructor) ?_ ?_ | refine Cv.rowE rfl rfl ?_ | exact Cv.full | exact CvL.nil | refine CvL.cons ?_ ?_)))
  · refine AW.loopF (X := List UInt8 × List UInt8 × List (List UInt8)) (fun x => ⟨[(0, .v (.string (bs s))), (4, .row 0 (wdsP x.2.2).length), (5, .v (.int .i64 (x.1.length : Int)))], [.row 1 (wdsP x.2.2)]⟩)
      (fun x => s = x.1 ++ x.2.1 ∧ (∃ n, x.2.1.length < n ∧ rSplit (s.length + 1) s [] = rSplit n x.2.1 x.2.2) ∧ x.2.2.length ≤ x.1.length) (fun x => x.2.1.length) ([], s, []) ?_ ?_ ?_
    · refine Conv.own 4 1 [] (Or.inr ⟨rfl, rfl⟩) ?_
      refine Conv.mk [0] rfl rfl rfl ?_ rfl ?_
      (repeat' (first | exact Cf.nil | exact Cv.refl | exact CvL.refl _ | exact Cv.rowf rfl rfl | exact Crs.nil | refine Cf.cons' (by (conv => lhs; whnf) <;> rfl) ?_ ?_ | refine Crs.cons ?_ rfl ?_ | exact Cr.no | refine Cr.row ?_ | refine Cr.box ?_ | exact Cv.nil | exact Cv.full | exact CvL.nil | refine CvL.cons ?_ ?_))
      (all_goals (try (first | refine CvL.eq ?_ | refine Cv.eq ?_)))
      all_goals ((try clear hK); first | rfl | (simp [List.length_append, AV.rens, AV.ren, renL]; done) | (simp [List.length_append, AV.rens, AV.ren, renL, *]; done) | (simp_all [List.length_append, AV.rens, AV.ren, renL]; done) | (exfalso; omega) | (exfalso; simp_all; omega))
    · refine ⟨rfl, ⟨_, ?_, rfl⟩, Nat.le_refl _⟩; simp
    · have hsp : rSplitP s = match rSplit (s.length + 1) s [] with | none => ([], 5) | some r => if 64 < r.length then ([], 3) else (r, 0) := by rw [rSplitP, if_neg (by omega), if_neg (by assumption)]
      rintro ⟨pre, l, out⟩ ⟨h1, ⟨n, hn, h2⟩, h3⟩
      simp only at h1 hn h2 h3 ⊢
      have hl : s.length = pre.length + l.length := by rw [h1, List.length_append]
      rw [hsp, h2] at he
      obtain ⟨m, rfl⟩ : ∃ m, n = m + 1 := ⟨n - 1, by omega⟩
      have hw := word_c s pre l h1 (by omega)
      rw [rSplit] at he
      generalize hwr : wordR l = wr at hw he
      obtain ⟨wd, to⟩ := wr
      rcases to with _ | t
      · (repeat' (first | refine AW.seq_k (fun K hK => ?_) | (refine hK _ ?_; clear hK) | (refine AW.cond rfl (fun hc => ?_) (fun hc => ?_) <;> (try simp only [Bool.and_eq_true, Bool.or_eq_true, Bool.not_eq_true', Bool.not_eq_false', Bool.and_eq_false_iff, Bool.or_eq_false_iff, Bool.and_eq_false_imp, decide_eq_true_eq, decide_eq_false_iff_not, Decidable.not_not, Int.not_lt, Int.not_le, ne_eq, Bool.not_not] at hc) <;> try (first | (exfalso; omega) | (cases hc; done))) | refine AW.block ?_ | refine AW.ret ?_ | (first | (refine AW.region (id := 8) ?_ <;> (try (refine Run.p rfl rfl rfl (OpP.mvA rfl) ?_)) <;> (try (refine Run.p rfl rfl rfl (OpP.mvA rfl) ?_)) <;> (try (refine Run.c0 hw rfl rfl rfl rfl rfl rfl rfl rfl ?_)) <;> (try (refine Run.p rfl rfl rfl (OpP.mvA rfl) ?_)) <;> (try (refine Run.p rfl rfl rfl (OpP.extract rfl rfl rfl) ?_)) <;> (try (refine Run.p rfl rfl rfl (OpP.extract rfl rfl rfl) ?_)) <;> (try (refine Run.p rfl rfl rfl (OpP.extract rfl rfl rfl) ?_)) <;> (try (refine Run.p rfl rfl rfl (OpP.asA rfl) ?_)) <;> (try (refine Run.p rfl rfl rfl (OpP.asA rfl) ?_)) <;> (try (refine Run.p rfl rfl rfl (OpP.asA rfl) ?_)) <;> (try refine Run.fin rfl ?_)) | (refine AW.region (id := 9) ?_ <;> (try (refine Run.p rfl rfl rfl (OpP.mvA rfl) ?_)) <;> (try (refine Run.p rfl rfl rfl (OpP.not rfl rfl) ?_)) <;> (try refine Run.fin rfl ?_)) | (refine AW.region (id := 10) ?_ <;> (try (refine Run.p rfl rfl rfl (OpP.asA rfl) ?_)) <;> (try (refine Run.p rfl rfl rfl (OpP.asA rfl) ?_)) <;> (try refine Run.fin rfl ?_)))))
        subst he
        ((first | refine RetOk.tup rfl rfl ?_ | refine RetOk.one rfl ?_) <;> (repeat' (first | exact Cv.nil | exact Cv.rowf rfl rfl | exact RetC.nil | exact CvL.refl _ | exact Cv.refl | refine RetC.tmp (by (conv => lhs; whnf) <;> rfl) ?_ ?_ | refine RetC.cell1 rfl rfl rfl rfl ?_ ?_ | refine RetC.cellN rfl rfl rfl (by repeat constructor) ?_ ?_ | refine Cv.rowE rfl rfl ?_ | exact Cv.full | exact CvL.nil | refine CvL.cons ?_ ?_)))
      · obtain ⟨⟨d, hd⟩, hto⟩ := wordR_suf s l wd t hwr
        have hld : l.length = d.length + t.length := by rw [hd, List.length_append]
        have hto' : wordTo s l = (pre.length : Int) + d.length := by omega
        rw [hto'] at hw
        rcases t with _ | ⟨c, t⟩
        · simp only [List.length_nil] at hld
          simp only [List.length_append, List.length_cons, List.length_nil] at he
          (repeat' (first | refine AW.seq_k (fun K hK => ?_) | (refine hK _ ?_; clear hK) | (refine AW.condD rfl (fun hc => ?_) (fun hc => ?_) <;> try (first | (exfalso; omega) | (cases hc; done))) | (refine AW.cond rfl (fun hc => ?_) (fun hc => ?_) <;> (try simp only [Bool.and_eq_true, Bool.or_eq_true, Bool.not_eq_true', Bool.not_eq_false', Bool.and_eq_false_iff, Bool.or_eq_false_iff, Bool.and_eq_false_imp, decide_eq_true_eq, decide_eq_false_iff_not, Decidable.not_not, Int.not_lt, Int.not_le, ne_eq, Bool.not_not] at hc) <;> try (first | (exfalso; omega) | (cases hc; done))) | refine AW.block ?_ | refine AW.exit ?_ | refine AW.ret ?_ | refine AW.skip ?_ | (clear hK; clear hK; refine hK _ ?_; clear hK) | (first | (refine AW.region (id := 8) ?_ <;> (try (refine Run.p rfl rfl rfl (OpP.mvA rfl) ?_)) <;> (try (refine Run.p rfl rfl rfl (OpP.mvA rfl) ?_)) <;> (try (refine Run.c0 hw rfl rfl rfl rfl rfl rfl rfl rfl ?_)) <;> (try (refine Run.p rfl rfl rfl (OpP.mvA rfl) ?_)) <;> (try (refine Run.p rfl rfl rfl (OpP.extract rfl rfl rfl) ?_)) <;> (try (refine Run.p rfl rfl rfl (OpP.extract rfl rfl rfl) ?_)) <;> (try (refine Run.p rfl rfl rfl (OpP.extract rfl rfl rfl) ?_)) <;> (try (refine Run.p rfl rfl rfl (OpP.asA rfl) ?_)) <;> (try (refine Run.p rfl rfl rfl (OpP.asA rfl) ?_)) <;> (try (refine Run.p rfl rfl rfl (OpP.asA rfl) ?_)) <;> (try refine Run.fin rfl ?_)) | (refine AW.region (id := 9) ?_ <;> (try (refine Run.p rfl rfl rfl (OpP.mvA rfl) ?_)) <;> (try (refine Run.p rfl rfl rfl (OpP.not rfl rfl) ?_)) <;> (try refine Run.fin rfl ?_)) | (refine AW.region (id := 11) ?_ <;> (try (refine Run.p rfl rfl rfl (OpP.mvA rfl) ?_)) <;> (try (refine Run.p rfl rfl rfl (OpP.mvA rfl) ?_)) <;> (try (refine Run.bsA rfl rfl rfl rfl rfl rfl ?_)) <;> (try (refine Run.apRA rfl rfl rfl rfl rfl rfl rfl rfl rfl ?_)) <;> (try (refine Run.p rfl rfl rfl (OpP.asA rfl) ?_)) <;> (try refine Run.fin rfl ?_)) | (refine AW.region (id := 12) ?_ <;> (try (refine Run.p rfl rfl rfl (OpP.mvA rfl) ?_)) <;> (try (refine Run.p rfl rfl rfl (OpP.mvA rfl) ?_)) <;> (try (refine Run.p rfl rfl rfl (OpP.lenStr rfl rfl) ?_)) <;> (try (refine Run.p rfl rfl rfl (OpP.eq rfl rfl rfl) ?_)) <;> (try refine Run.fin rfl ?_)) | (refine AW.region (id := 16) ?_ <;> (try (refine Run.p rfl rfl rfl (OpP.mvA rfl) ?_)) <;> (try (refine Run.ri rfl rfl rfl (OpRI.lenA rfl rfl) rfl ?_)) <;> (try (refine Run.p rfl rfl rfl (OpP.gtt rfl rfl rfl) ?_)) <;> (try refine Run.fin rfl ?_)) | (refine AW.region (id := 17) ?_ <;> (try (refine Run.p rfl rfl rfl (OpP.asA rfl) ?_)) <;> (try (refine Run.p rfl rfl rfl (OpP.asA rfl) ?_)) <;> (try refine Run.fin rfl ?_)) | (refine AW.region (id := 18) ?_ <;> (try (refine Run.p rfl rfl rfl (OpP.mvA rfl) ?_)) <;> (try (refine Run.p rfl rfl rfl (OpP.asA rfl) ?_)) <;> (try (refine Run.p rfl rfl rfl (OpP.asA rfl) ?_)) <;> (try refine Run.fin rfl ?_)))))
          · simp only [List.length_map, List.length_append, List.length_cons, List.length_nil] at hc
            rw [if_pos (by omega)] at he
            subst he
            ((first | refine RetOk.tup rfl rfl ?_ | refine RetOk.one rfl ?_) <;> (repeat' (first | exact Cv.nil | exact Cv.rowf rfl rfl | exact RetC.nil | exact CvL.refl _ | exact Cv.refl | refine RetC.tmp (by (conv => lhs; whnf) <;> rfl) ?_ ?_ | refine RetC.cell1 rfl rfl rfl rfl ?_ ?_ | refine RetC.cellN rfl rfl rfl (by repeat constructor) ?_ ?_ | refine Cv.rowE rfl rfl ?_ | exact Cv.full | exact CvL.nil | refine CvL.cons ?_ ?_)))
          · simp only [List.length_map, List.length_append, List.length_cons, List.length_nil] at hc
            rw [if_neg (by omega)] at he
            subst he
            ((first | refine RetOk.tup rfl rfl ?_ | refine RetOk.one rfl ?_) <;> (repeat' (first | exact Cv.nil | exact Cv.rowf rfl rfl | exact RetC.nil | exact CvL.refl _ | exact Cv.refl | refine RetC.tmp (by (conv => lhs; whnf) <;> rfl) ?_ ?_ | refine RetC.cell1 rfl rfl rfl rfl ?_ ?_ | refine RetC.cellN rfl rfl rfl (by repeat constructor) ?_ ?_ | refine Cv.rowE rfl rfl ?_ | exact Cv.full | exact CvL.nil | refine CvL.cons ?_ ?_)))
            simp
        · simp only [List.length_cons] at hld
          have hF : s[((pre.length : Int) + d.length).toNat]? = some c := get_app pre d c t _ rfl s (by rw [h1, hd])
          (repeat' (first | refine AW.seq_k (fun K hK => ?_) | (refine hK _ ?_; clear hK) | (refine AW.condD rfl (fun hc => ?_) (fun hc => ?_) <;> try (first | (exfalso; omega) | (cases hc; done))) | (refine AW.cond rfl (fun hc => ?_) (fun hc => ?_) <;> (try simp only [Bool.and_eq_true, Bool.or_eq_true, Bool.not_eq_true', Bool.not_eq_false', Bool.and_eq_false_iff, Bool.or_eq_false_iff, Bool.and_eq_false_imp, decide_eq_true_eq, decide_eq_false_iff_not, Decidable.not_not, Int.not_lt, Int.not_le, ne_eq, Bool.not_not] at hc) <;> try (first | (exfalso; omega) | (cases hc; done))) | refine AW.block ?_ | refine AW.ret ?_ | refine AW.skip ?_ | (first | (refine AW.region (id := 8) ?_ <;> (try (refine Run.p rfl rfl rfl (OpP.mvA rfl) ?_)) <;> (try (refine Run.p rfl rfl rfl (OpP.mvA rfl) ?_)) <;> (try (refine Run.c0 hw rfl rfl rfl rfl rfl rfl rfl rfl ?_)) <;> (try (refine Run.p rfl rfl rfl (OpP.mvA rfl) ?_)) <;> (try (refine Run.p rfl rfl rfl (OpP.extract rfl rfl rfl) ?_)) <;> (try (refine Run.p rfl rfl rfl (OpP.extract rfl rfl rfl) ?_)) <;> (try (refine Run.p rfl rfl rfl (OpP.extract rfl rfl rfl) ?_)) <;> (try (refine Run.p rfl rfl rfl (OpP.asA rfl) ?_)) <;> (try (refine Run.p rfl rfl rfl (OpP.asA rfl) ?_)) <;> (try (refine Run.p rfl rfl rfl (OpP.asA rfl) ?_)) <;> (try refine Run.fin rfl ?_)) | (refine AW.region (id := 9) ?_ <;> (try (refine Run.p rfl rfl rfl (OpP.mvA rfl) ?_)) <;> (try (refine Run.p rfl rfl rfl (OpP.not rfl rfl) ?_)) <;> (try refine Run.fin rfl ?_)) | (refine AW.region (id := 11) ?_ <;> (try (refine Run.p rfl rfl rfl (OpP.mvA rfl) ?_)) <;> (try (refine Run.p rfl rfl rfl (OpP.mvA rfl) ?_)) <;> (try (refine Run.bsA rfl rfl rfl rfl rfl rfl ?_)) <;> (try (refine Run.apRA rfl rfl rfl rfl rfl rfl rfl rfl rfl ?_)) <;> (try (refine Run.p rfl rfl rfl (OpP.asA rfl) ?_)) <;> (try refine Run.fin rfl ?_)) | (refine AW.region (id := 12) ?_ <;> (try (refine Run.p rfl rfl rfl (OpP.mvA rfl) ?_)) <;> (try (refine Run.p rfl rfl rfl (OpP.mvA rfl) ?_)) <;> (try (refine Run.p rfl rfl rfl (OpP.lenStr rfl rfl) ?_)) <;> (try (refine Run.p rfl rfl rfl (OpP.eq rfl rfl rfl) ?_)) <;> (try refine Run.fin rfl ?_)) | (refine AW.region (id := 13) ?_ <;> (try (refine Run.p rfl rfl rfl (OpP.mvA rfl) ?_)) <;> (try (refine Run.p rfl rfl rfl (OpP.asA rfl) ?_)) <;> (try refine Run.fin rfl ?_)) | (refine AW.region (id := 14) ?_ <;> (try (refine Run.p rfl rfl rfl (OpP.mvA rfl) ?_)) <;> (try (refine Run.p rfl rfl rfl (OpP.mvA rfl) ?_)) <;> (try (refine Run.p rfl rfl rfl (OpP.indexStrA rfl rfl rfl) ?_)) <;> (try (refine Run.p rfl rfl rfl (OpP.ne rfl rfl rfl) ?_)) <;> (try refine Run.fin rfl ?_)) | (refine AW.region (id := 15) ?_ <;> (try (refine Run.p rfl rfl rfl (OpP.asA rfl) ?_)) <;> (try (refine Run.p rfl rfl rfl (OpP.asA rfl) ?_)) <;> (try refine Run.fin rfl ?_)) | (refine AW.region (id := 7) ?_ <;> (try (refine Run.p rfl rfl rfl (OpP.mvA rfl) ?_)) <;> (try (refine Run.p rfl rfl rfl (OpP.addA rfl rfl rfl) ?_)) <;> (try (refine Run.p rfl rfl rfl (OpP.asA rfl) ?_)) <;> (try refine Run.fin rfl ?_)))))
          · simp only [if_neg (show ¬ (c.toNat : Int) = 32 by assumption)] at he
            subst he
            ((first | refine RetOk.tup rfl rfl ?_ | refine RetOk.one rfl ?_) <;> (repeat' (first | exact Cv.nil | exact Cv.rowf rfl rfl | exact RetC.nil | exact CvL.refl _ | exact Cv.refl | refine RetC.tmp (by (conv => lhs; whnf) <;> rfl) ?_ ?_ | refine RetC.cell1 rfl rfl rfl rfl ?_ ?_ | refine RetC.cellN rfl rfl rfl (by repeat constructor) ?_ ?_ | refine Cv.rowE rfl rfl ?_ | exact Cv.full | exact CvL.nil | refine CvL.cons ?_ ?_)))
          · ((repeat (with_reducible refine inB_n ?_)); refine thenA_n ?_)
            refine ⟨(pre ++ d ++ [c], t, out ++ [wd]), ⟨by simp [h1, hd], ⟨m, by simp only; omega, ?_⟩, by simp; omega⟩, by simp only; omega, ?_⟩
            · rw [h2, rSplit, hwr]
              simp only [if_pos (show (c.toNat : Int) = 32 by omega)]
            · refine Conv.mk [0] rfl rfl rfl ?_ rfl ?_
              (repeat' (first | exact Cf.nil | exact Cv.refl | exact CvL.refl _ | exact Cv.rowf rfl rfl | exact Crs.nil | refine Cf.cons' (by (conv => lhs; whnf) <;> rfl) ?_ ?_ | refine Crs.cons ?_ rfl ?_ | exact Cr.no | refine Cr.row ?_ | refine Cr.box ?_ | exact Cv.nil | exact Cv.full | exact CvL.nil | refine CvL.cons ?_ ?_))
              (all_goals (try (first | refine CvL.eq ?_ | refine Cv.eq ?_)))
              all_goals (simp [AV.ren, renL]; try omega)
theorem Same_c (a b : List (List UInt8)) (fa fb : Bool) (ha : a.length ≤ 4611686018427387904) : ACalls Tryd.prog 33 [.sl 1 (wdsP a) fa, .sl 1 (wdsP b) fb] [] (.v (.bool (decide (a = b)))) [] := by
  generalize he : decide (a = b) = r
  refine (ACalls.of (fn := Tryd.f33) Tryd.func33 rfl rfl Tryd.ntmps33 (fun I M w own => ?_))
  (repeat' (first | refine AW.seq_k (fun K hK => ?_) | (refine hK _ ?_; clear hK) | (refine AW.condD rfl (fun hc => ?_) (fun hc => ?_) <;> try (first | (exfalso; omega) | (cases hc; done))) | refine AW.block ?_ | refine AW.ret ?_ | refine AW.skip ?_ | (first | (refine AW.region (id := 0) ?_ <;> (try (refine Run.p rfl rfl rfl (OpP.asA rfl) ?_)) <;> (try refine Run.fin rfl ?_)) | (refine AW.region (id := 1) ?_ <;> (try (refine Run.p rfl rfl rfl (OpP.mvA rfl) ?_)) <;> (try (refine Run.ri rfl rfl rfl (OpRI.lenA rfl rfl) rfl ?_)) <;> (try (refine Run.p rfl rfl rfl (OpP.mvA rfl) ?_)) <;> (try (refine Run.ri rfl rfl rfl (OpRI.lenA rfl rfl) rfl ?_)) <;> (try (refine Run.p rfl rfl rfl (OpP.ne rfl rfl rfl) ?_)) <;> (try refine Run.fin rfl ?_)) | (refine AW.region (id := 2) ?_ <;> (try (refine Run.p rfl rfl rfl (OpP.asA rfl) ?_)) <;> (try refine Run.fin rfl ?_)) | (refine AW.region (id := 3) ?_ <;> (try (refine Run.p rfl rfl rfl (OpP.mvA rfl) ?_)) <;> (try (refine Run.ri rfl rfl rfl (OpRI.lenA rfl rfl) rfl ?_)) <;> (try (refine Run.p rfl rfl rfl (OpP.mvA rfl) ?_)) <;> (try refine Run.fin rfl ?_)))))
  · simp only [List.length_map] at hc
    obtain rfl : r = false := by rw [← he]; simp; rintro rfl; omega
    ((first | refine RetOk.tup rfl rfl ?_ | refine RetOk.one rfl ?_) <;> (repeat' (first | exact Cv.nil | exact Cv.rowf rfl rfl | exact RetC.nil | exact CvL.refl _ | exact Cv.refl | refine RetC.tmp (by (conv => lhs; whnf) <;> rfl) ?_ ?_ | refine RetC.cell1 rfl rfl rfl rfl ?_ ?_ | refine RetC.cellN rfl rfl rfl (by repeat constructor) ?_ ?_ | refine Cv.rowE rfl rfl ?_ | exact Cv.full | exact CvL.nil | refine CvL.cons ?_ ?_)))
  · simp only [List.length_map, Decidable.not_not, ne_eq] at hc
    have hab : a.length = b.length := by omega
    refine AW.loopF (X := Nat) (fun x => ⟨[(0, .sl 1 (wdsP a) fa), (1, .sl 1 (wdsP b) fb), (12, .v (.int .i64 (a.length : Int))), (13, .v (.int .i64 (x : Int)))], []⟩)
      (fun x => x ≤ a.length ∧ a.take x = b.take x) (fun x => a.length - x) 0 ?_ ?_ ?_
    · refine Conv.mk [] rfl rfl rfl ?_ rfl ?_
      (repeat' (first | exact Cf.nil | exact Cv.refl | exact CvL.refl _ | exact Cv.rowf rfl rfl | exact Crs.nil | refine Cf.cons' (by (conv => lhs; whnf) <;> rfl) ?_ ?_ | refine Crs.cons ?_ rfl ?_ | exact Cr.no | refine Cr.row ?_ | refine Cr.box ?_ | exact Cv.nil | exact Cv.full | exact CvL.nil | refine CvL.cons ?_ ?_))
      (all_goals (try (first | refine CvL.eq ?_ | refine Cv.eq ?_)))
      all_goals simp [AV.ren]
    · simp
    · rintro i ⟨h1, h2⟩
      rcases Nat.lt_or_ge i a.length with h | h
      · have hA : At (wdsP a) (i : Int) [PV.v (.string (bs a[i]))] := At.mk i rfl (by simp [h])
        have hB : At (wdsP b) (i : Int) [PV.v (.string (bs (b[i]'(by omega))))] := At.mk i rfl (by simp [show i < b.length by omega])
        (repeat' (first | refine AW.seq_k (fun K hK => ?_) | (refine hK _ ?_; clear hK) | (refine AW.condD rfl (fun hc => ?_) (fun hc => ?_) <;> try (first | (exfalso; omega) | (cases hc; done))) | refine AW.block ?_ | refine AW.ret ?_ | refine AW.skip ?_ | (first | (refine AW.region (id := 4) ?_ <;> (try (refine Run.p rfl rfl rfl (OpP.ltt rfl rfl rfl) ?_)) <;> (try refine Run.fin rfl ?_)) | (refine AW.region (id := 5) ?_ <;> (try (refine Run.p rfl rfl rfl (OpP.mvA rfl) ?_)) <;> (try (refine Run.p rfl rfl rfl (OpP.asA rfl) ?_)) <;> (try refine Run.fin rfl ?_)) | (refine AW.draw (id := 6) (by kernel_rfl) ?_ <;> (try (refine Run.p rfl rfl rfl (OpP.mvA rfl) ?_)) <;> (try (refine Run.p rfl rfl rfl (OpP.mvA rfl) ?_)) <;> (try (refine Run.ri rfl rfl rfl (OpRI.indexAddrA rfl rfl) rfl ?_)) <;> (try (refine Run.p rfl rfl rfl (OpP.loadE1 rfl rfl rfl rfl (by (conv => lhs; whnf) <;> rfl)) ?_)) <;> (try (refine Run.p rfl rfl rfl (OpP.mvA rfl) ?_)) <;> (try (refine Run.p rfl rfl rfl (OpP.mvA rfl) ?_)) <;> (try (refine Run.ri rfl rfl rfl (OpRI.indexAddrA rfl rfl) rfl ?_)) <;> (try (refine Run.p rfl rfl rfl (OpP.loadE1 rfl rfl rfl rfl (by (conv => lhs; whnf) <;> rfl)) ?_)) <;> (try (refine Run.p rfl rfl rfl (OpP.sne rfl rfl rfl) ?_)) <;> (try refine Run.fin (by kernel_rfl) ?_)) | (refine AW.region (id := 7) ?_ <;> (try (refine Run.p rfl rfl rfl (OpP.asA rfl) ?_)) <;> (try refine Run.fin rfl ?_)) | (refine AW.region (id := 8) ?_ <;> (try (refine Run.p rfl rfl rfl (OpP.addA rfl rfl rfl) ?_)) <;> (try (refine Run.p rfl rfl rfl (OpP.mvA rfl) ?_)) <;> (try refine Run.fin rfl ?_)))))
        · obtain rfl : r = false := by
            rw [← he, decide_eq_false_iff_not]
            rintro rfl
            exact hc rfl
          ((first | refine RetOk.tup rfl rfl ?_ | refine RetOk.one rfl ?_) <;> (repeat' (first | exact Cv.nil | exact Cv.rowf rfl rfl | exact RetC.nil | exact CvL.refl _ | exact Cv.refl | refine RetC.tmp (by (conv => lhs; whnf) <;> rfl) ?_ ?_ | refine RetC.cell1 rfl rfl rfl rfl ?_ ?_ | refine RetC.cellN rfl rfl rfl (by repeat constructor) ?_ ?_ | refine Cv.rowE rfl rfl ?_ | exact Cv.full | exact CvL.nil | refine CvL.cons ?_ ?_)))
        · ((repeat (with_reducible refine inB_n ?_)); refine thenA_n ?_)
          refine ⟨i + 1, ⟨h, ?_⟩, by omega, ?_⟩
          · rw [List.take_add_one, List.take_add_one, h2]
            congr 1
            simp [h, show i < b.length by omega, Decidable.not_not.1 hc]
          · refine Conv.mk [] rfl rfl rfl ?_ rfl ?_
            (repeat' (first | exact Cf.nil | exact Cv.refl | exact CvL.refl _ | exact Cv.rowf rfl rfl | exact Crs.nil | refine Cf.cons' (by (conv => lhs; whnf) <;> rfl) ?_ ?_ | refine Crs.cons ?_ rfl ?_ | exact Cr.no | refine Cr.row ?_ | refine Cr.box ?_ | exact Cv.nil | exact Cv.full | exact CvL.nil | refine CvL.cons ?_ ?_))
            (all_goals (try (first | refine CvL.eq ?_ | refine Cv.eq ?_)))
            all_goals simp [AV.ren]
      · (repeat' (first | refine AW.seq_k (fun K hK => ?_) | (refine hK _ ?_; clear hK) | (refine AW.condD rfl (fun hc => ?_) (fun hc => ?_) <;> try (first | (exfalso; omega) | (cases hc; done))) | refine AW.exit ?_ | refine AW.ret ?_ | (clear hK; refine hK _ ?_; clear hK) | (first | (refine AW.region (id := 4) ?_ <;> (try (refine Run.p rfl rfl rfl (OpP.ltt rfl rfl rfl) ?_)) <;> (try refine Run.fin rfl ?_)) | (refine AW.region (id := 9) ?_ <;> (try (refine Run.p rfl rfl rfl (OpP.asA rfl) ?_)) <;> (try refine Run.fin rfl ?_)))))
        obtain rfl : r = true := by
          rw [← he, decide_eq_true_eq]
          rw [List.take_of_length_le h, List.take_of_length_le (by omega)] at h2
          exact h2
        ((first | refine RetOk.tup rfl rfl ?_ | refine RetOk.one rfl ?_) <;> (repeat' (first | exact Cv.nil | exact Cv.rowf rfl rfl | exact RetC.nil | exact CvL.refl _ | exact Cv.refl | refine RetC.tmp (by (conv => lhs; whnf) <;> rfl) ?_ ?_ | refine RetC.cell1 rfl rfl rfl rfl ?_ ?_ | refine RetC.cellN rfl rfl rfl (by repeat constructor) ?_ ?_ | refine Cv.rowE rfl rfl ?_ | exact Cv.full | exact CvL.nil | refine CvL.cons ?_ ?_)))
end Go.Proofs.YthogjnckkmfhnaaDoor
/-
  Walks of the writers of words, of the program and of the reference.
-/
namespace Go.Proofs.YthogjnckkmfhnaaDoor
set_option linter.unusedVariables false
set_option linter.unusedSimpArgs false
def bareB (s : List UInt8) : Bool := s.all simpleB && decide (s ≠ [])
theorem all_of_get {s : List UInt8} {i : Nat} (h : i < s.length) (h1 : (s.take i).all simpleB = true) (h2 : simpleB s[i] = true) : (s.take (i + 1)).all simpleB = true := by
  rw [List.take_add_one, List.all_append, h1]
  simp [h, h2]
theorem not_all_of_get {s : List UInt8} {i : Nat} (h : i < s.length) (h2 : simpleB s[i] = false) : bareB s = false := by
  simp only [bareB, Bool.and_eq_false_imp, List.all_eq_true]
  intro h1
  have := h1 s[i] (List.getElem_mem _)
  rw [h2] at this; cases this
theorem bare_c (s : List UInt8) (hs : s.length ≤ 1099511627776) : ACalls Tryd.prog 64 [.v (.string (bs s))] [] (.v (.bool (bareB s))) [] := by
  generalize he : bareB s = r
  refine (ACalls.of (fn := Tryd.f64) Tryd.func64 rfl rfl Tryd.ntmps64 (fun I M w own => ?_))
  (repeat' (first | refine AW.seq_k (fun K hK => ?_) | (refine hK _ ?_; clear hK) | refine AW.block ?_ | (first | (refine AW.region (id := 0) ?_ <;> (try (refine Run.p rfl rfl rfl (OpP.asA rfl) ?_)) <;> (try refine Run.fin rfl ?_)) | (refine AW.region (id := 1) ?_ <;> (try (refine Run.p rfl rfl rfl (OpP.mvA rfl) ?_)) <;> (try (refine Run.p rfl rfl rfl (OpP.lenStr rfl rfl) ?_)) <;> (try (refine Run.p rfl rfl rfl (OpP.mvA rfl) ?_)) <;> (try refine Run.fin rfl ?_)))))
  refine AW.loopF (X := Nat) (fun x => ⟨[(0, .v (.string (bs s))), (5, .v (.int .i64 (s.length : Int))), (6, .v (.int .i64 (x : Int)))], []⟩)
    (fun x => x ≤ s.length ∧ (s.take x).all simpleB = true) (fun x => s.length - x) 0 ?_ ?_ ?_
  · refine Conv.mk [] rfl rfl rfl ?_ rfl ?_
    (repeat' (first | exact Cf.nil | exact Cv.refl | exact CvL.refl _ | exact Cv.rowf rfl rfl | exact Crs.nil | refine Cf.cons' (by (conv => lhs; whnf) <;> rfl) ?_ ?_ | refine Crs.cons ?_ rfl ?_ | exact Cr.no | refine Cr.row ?_ | refine Cr.box ?_ | exact Cv.nil | exact Cv.full | exact CvL.nil | refine CvL.cons ?_ ?_))
    (all_goals (try (first | refine CvL.eq ?_ | refine Cv.eq ?_)))
    all_goals simp [AV.ren]
  · simp
  · rintro i ⟨h1, h2⟩
    rcases Nat.lt_or_ge i s.length with h | h
    · have hF : s[(i : Int).toNat]? = some s[i] := by simp [h]
      (repeat' (first | refine AW.seq_k (fun K hK => ?_) | (refine hK _ ?_; clear hK) | (refine AW.condD rfl (fun hc => ?_) (fun hc => ?_) <;> try (first | (exfalso; omega) | (cases hc; done))) | (refine AW.cond rfl (fun hc => ?_) (fun hc => ?_) <;> (try simp only [Bool.and_eq_true, Bool.or_eq_true, Bool.not_eq_true', Bool.not_eq_false', Bool.and_eq_false_iff, Bool.or_eq_false_iff, Bool.and_eq_false_imp, decide_eq_true_eq, decide_eq_false_iff_not, Decidable.not_not, Int.not_lt, Int.not_le, ne_eq, Bool.not_not] at hc) <;> try (first | (exfalso; omega) | (cases hc; done))) | refine AW.block ?_ | refine AW.ret ?_ | refine AW.skip ?_ | (first | (refine AW.region (id := 2) ?_ <;> (try (refine Run.p rfl rfl rfl (OpP.ltt rfl rfl rfl) ?_)) <;> (try refine Run.fin rfl ?_)) | (refine AW.region (id := 3) ?_ <;> (try (refine Run.p rfl rfl rfl (OpP.mvA rfl) ?_)) <;> (try (refine Run.p rfl rfl rfl (OpP.asA rfl) ?_)) <;> (try refine Run.fin rfl ?_)) | (refine AW.region (id := 4) ?_ <;> (try (refine Run.p rfl rfl rfl (OpP.mvA rfl) ?_)) <;> (try (refine Run.p rfl rfl rfl (OpP.mvA rfl) ?_)) <;> (try (refine Run.p rfl rfl rfl (OpP.indexStrA rfl rfl rfl) ?_)) <;> (try (refine Run.c0 (simple_c _) rfl rfl rfl rfl rfl rfl rfl rfl ?_)) <;> (try (refine Run.p rfl rfl rfl (OpP.not rfl rfl) ?_)) <;> (try refine Run.fin rfl ?_)) | (refine AW.region (id := 5) ?_ <;> (try (refine Run.p rfl rfl rfl (OpP.asA rfl) ?_)) <;> (try refine Run.fin rfl ?_)) | (refine AW.region (id := 6) ?_ <;> (try (refine Run.p rfl rfl rfl (OpP.addA rfl rfl rfl) ?_)) <;> (try (refine Run.p rfl rfl rfl (OpP.mvA rfl) ?_)) <;> (try refine Run.fin rfl ?_)))))
      · obtain rfl : r = false := by rw [← he]; exact not_all_of_get h hc
        ((first | refine RetOk.tup rfl rfl ?_ | refine RetOk.one rfl ?_) <;> (repeat' (first | exact Cv.nil | exact Cv.rowf rfl rfl | exact RetC.nil | exact CvL.refl _ | exact Cv.refl | refine RetC.tmp (by (conv => lhs; whnf) <;> rfl) ?_ ?_ | refine RetC.cell1 rfl rfl rfl rfl ?_ ?_ | refine RetC.cellN rfl rfl rfl (by repeat constructor) ?_ ?_ | refine Cv.rowE rfl rfl ?_ | exact Cv.full | exact CvL.nil | refine CvL.cons ?_ ?_)))
      · ((repeat (with_reducible refine inB_n ?_)); refine thenA_n ?_)
        refine ⟨i + 1, ⟨h, all_of_get h h2 hc⟩, by omega, ?_⟩
        refine Conv.mk [] rfl rfl rfl ?_ rfl ?_
        (repeat' (first | exact Cf.nil | exact Cv.refl | exact CvL.refl _ | exact Cv.rowf rfl rfl | exact Crs.nil | refine Cf.cons' (by (conv => lhs; whnf) <;> rfl) ?_ ?_ | refine Crs.cons ?_ rfl ?_ | exact Cr.no | refine Cr.row ?_ | refine Cr.box ?_ | exact Cv.nil | exact Cv.full | exact CvL.nil | refine CvL.cons ?_ ?_))
        (all_goals (try (first | refine CvL.eq ?_ | refine Cv.eq ?_)))
        all_goals simp [AV.ren]
    · (repeat' (first | refine AW.seq_k (fun K hK => ?_) | (refine hK _ ?_; clear hK) | (refine AW.condD rfl (fun hc => ?_) (fun hc => ?_) <;> try (first | (exfalso; omega) | (cases hc; done))) | refine AW.exit ?_ | refine AW.ret ?_ | (clear hK; refine hK _ ?_; clear hK) | (first | (refine AW.region (id := 2) ?_ <;> (try (refine Run.p rfl rfl rfl (OpP.ltt rfl rfl rfl) ?_)) <;> (try refine Run.fin rfl ?_)) | (refine AW.region (id := 7) ?_ <;> (try (refine Run.p rfl rfl rfl (OpP.mvA rfl) ?_)) <;> (try (refine Run.p rfl rfl rfl (OpP.sne rfl rfl rfl) ?_)) <;> (try (refine Run.p rfl rfl rfl (OpP.asA rfl) ?_)) <;> (try refine Run.fin rfl ?_)))))
      obtain rfl : r = decide (s ≠ []) := by
        rw [← he, bareB]
        rw [List.take_of_length_le h] at h2
        rw [h2]; simp
      ((first | refine RetOk.tup rfl rfl ?_ | refine RetOk.one rfl ?_) <;> (repeat' (first | exact Cv.nil | exact Cv.rowf rfl rfl | exact RetC.nil | exact CvL.refl _ | exact Cv.refl | refine RetC.tmp (by (conv => lhs; whnf) <;> rfl) ?_ ?_ | refine RetC.cell1 rfl rfl rfl rfl ?_ ?_ | refine RetC.cellN rfl rfl rfl (by repeat constructor) ?_ ?_ | refine Cv.rowE rfl rfl ?_ | exact Cv.full | exact CvL.nil | refine CvL.cons ?_ ?_)))
theorem Plain_c (s : List UInt8) (hs : s.length ≤ 1099511627776) : ACalls Tryd.prog 66 [.v (.string (bs s))] [] (.v (.bool (bareB s))) [] := by
  generalize he : bareB s = r
  refine (ACalls.of (fn := Tryd.f66) Tryd.func66 rfl rfl Tryd.ntmps66 (fun I M w own => ?_))
  (repeat' (first | refine AW.seq_k (fun K hK => ?_) | (refine hK _ ?_; clear hK) | refine AW.block ?_ | (first | (refine AW.region (id := 0) ?_ <;> (try (refine Run.p rfl rfl rfl (OpP.asA rfl) ?_)) <;> (try refine Run.fin rfl ?_)) | (refine AW.region (id := 1) ?_ <;> (try (refine Run.p rfl rfl rfl (OpP.asA rfl) ?_)) <;> (try refine Run.fin rfl ?_)))))
  refine AW.loopF (X := Nat) (fun x => ⟨[(0, .v (.string (bs s))), (3, .v (.int .i64 (x : Int)))], []⟩)
    (fun x => x ≤ s.length ∧ (s.take x).all simpleB = true) (fun x => s.length - x) 0 ?_ ?_ ?_
  · refine Conv.mk [] rfl rfl rfl ?_ rfl ?_
    (repeat' (first | exact Cf.nil | exact Cv.refl | exact CvL.refl _ | exact Cv.rowf rfl rfl | exact Crs.nil | refine Cf.cons' (by (conv => lhs; whnf) <;> rfl) ?_ ?_ | refine Crs.cons ?_ rfl ?_ | exact Cr.no | refine Cr.row ?_ | refine Cr.box ?_ | exact Cv.nil | exact Cv.full | exact CvL.nil | refine CvL.cons ?_ ?_))
    (all_goals (try (first | refine CvL.eq ?_ | refine Cv.eq ?_)))
    all_goals simp [AV.ren]
  · simp
  · rintro i ⟨h1, h2⟩
    rcases Nat.lt_or_ge i s.length with h | h
    · have hF : s[(i : Int).toNat]? = some s[i] := by simp [h]
      (repeat' (first | refine AW.seq_k (fun K hK => ?_) | (refine hK _ ?_; clear hK) | (refine AW.condD rfl (fun hc => ?_) (fun hc => ?_) <;> try (first | (exfalso; omega) | (cases hc; done))) | (refine AW.cond rfl (fun hc => ?_) (fun hc => ?_) <;> (try simp only [Bool.and_eq_true, Bool.or_eq_true, Bool.not_eq_true', Bool.not_eq_false', Bool.and_eq_false_iff, Bool.or_eq_false_iff, Bool.and_eq_false_imp, decide_eq_true_eq, decide_eq_false_iff_not, Decidable.not_not, Int.not_lt, Int.not_le, ne_eq, Bool.not_not] at hc) <;> try (first | (exfalso; omega) | (cases hc; done))) | refine AW.block ?_ | refine AW.ret ?_ | refine AW.skip ?_ | (first | (refine AW.region (id := 2) ?_ <;> (try (refine Run.p rfl rfl rfl (OpP.mvA rfl) ?_)) <;> (try (refine Run.p rfl rfl rfl (OpP.mvA rfl) ?_)) <;> (try (refine Run.p rfl rfl rfl (OpP.lenStr rfl rfl) ?_)) <;> (try (refine Run.p rfl rfl rfl (OpP.ltt rfl rfl rfl) ?_)) <;> (try refine Run.fin rfl ?_)) | (refine AW.region (id := 4) ?_ <;> (try (refine Run.p rfl rfl rfl (OpP.mvA rfl) ?_)) <;> (try (refine Run.p rfl rfl rfl (OpP.mvA rfl) ?_)) <;> (try (refine Run.p rfl rfl rfl (OpP.indexStrA rfl rfl rfl) ?_)) <;> (try (refine Run.c0 (plainByte_c _) rfl rfl rfl rfl rfl rfl rfl rfl ?_)) <;> (try (refine Run.p rfl rfl rfl (OpP.not rfl rfl) ?_)) <;> (try refine Run.fin rfl ?_)) | (refine AW.region (id := 5) ?_ <;> (try (refine Run.p rfl rfl rfl (OpP.asA rfl) ?_)) <;> (try refine Run.fin rfl ?_)) | (refine AW.region (id := 3) ?_ <;> (try (refine Run.p rfl rfl rfl (OpP.mvA rfl) ?_)) <;> (try (refine Run.p rfl rfl rfl (OpP.addA rfl rfl rfl) ?_)) <;> (try (refine Run.p rfl rfl rfl (OpP.asA rfl) ?_)) <;> (try refine Run.fin rfl ?_)))))
      · obtain rfl : r = false := by rw [← he]; exact not_all_of_get h hc
        ((first | refine RetOk.tup rfl rfl ?_ | refine RetOk.one rfl ?_) <;> (repeat' (first | exact Cv.nil | exact Cv.rowf rfl rfl | exact RetC.nil | exact CvL.refl _ | exact Cv.refl | refine RetC.tmp (by (conv => lhs; whnf) <;> rfl) ?_ ?_ | refine RetC.cell1 rfl rfl rfl rfl ?_ ?_ | refine RetC.cellN rfl rfl rfl (by repeat constructor) ?_ ?_ | refine Cv.rowE rfl rfl ?_ | exact Cv.full | exact CvL.nil | refine CvL.cons ?_ ?_)))
      · ((repeat (with_reducible refine inB_n ?_)); refine thenA_n ?_)
        refine ⟨i + 1, ⟨h, all_of_get h h2 hc⟩, by omega, ?_⟩
        refine Conv.mk [] rfl rfl rfl ?_ rfl ?_
        (repeat' (first | exact Cf.nil | exact Cv.refl | exact CvL.refl _ | exact Cv.rowf rfl rfl | exact Crs.nil | refine Cf.cons' (by (conv => lhs; whnf) <;> rfl) ?_ ?_ | refine Crs.cons ?_ rfl ?_ | exact Cr.no | refine Cr.row ?_ | refine Cr.box ?_ | exact Cv.nil | exact Cv.full | exact CvL.nil | refine CvL.cons ?_ ?_))
        (all_goals (try (first | refine CvL.eq ?_ | refine Cv.eq ?_)))
        all_goals simp [AV.ren]
    · (repeat' (first | refine AW.seq_k (fun K hK => ?_) | (refine hK _ ?_; clear hK) | (refine AW.condD rfl (fun hc => ?_) (fun hc => ?_) <;> try (first | (exfalso; omega) | (cases hc; done))) | refine AW.exit ?_ | refine AW.ret ?_ | (clear hK; refine hK _ ?_; clear hK) | (first | (refine AW.region (id := 2) ?_ <;> (try (refine Run.p rfl rfl rfl (OpP.mvA rfl) ?_)) <;> (try (refine Run.p rfl rfl rfl (OpP.mvA rfl) ?_)) <;> (try (refine Run.p rfl rfl rfl (OpP.lenStr rfl rfl) ?_)) <;> (try (refine Run.p rfl rfl rfl (OpP.ltt rfl rfl rfl) ?_)) <;> (try refine Run.fin rfl ?_)) | (refine AW.region (id := 6) ?_ <;> (try (refine Run.p rfl rfl rfl (OpP.mvA rfl) ?_)) <;> (try (refine Run.p rfl rfl rfl (OpP.sne rfl rfl rfl) ?_)) <;> (try (refine Run.p rfl rfl rfl (OpP.asA rfl) ?_)) <;> (try refine Run.fin rfl ?_)))))
      obtain rfl : r = decide (s ≠ []) := by
        rw [← he, bareB]
        rw [List.take_of_length_le h] at h2
        rw [h2]; simp
      ((first | refine RetOk.tup rfl rfl ?_ | refine RetOk.one rfl ?_) <;> (repeat' (first | exact Cv.nil | exact Cv.rowf rfl rfl | exact RetC.nil | exact CvL.refl _ | exact Cv.refl | refine RetC.tmp (by (conv => lhs; whnf) <;> rfl) ?_ ?_ | refine RetC.cell1 rfl rfl rfl rfl ?_ ?_ | refine RetC.cellN rfl rfl rfl (by repeat constructor) ?_ ?_ | refine Cv.rowE rfl rfl ?_ | exact Cv.full | exact CvL.nil | refine CvL.cons ?_ ?_)))
def esc (c : UInt8) : List UInt8 := if (c.toNat : Int) = 34 ∨ (c.toNat : Int) = 92 then [92, c] else if (c.toNat : Int) = 10 then [92, 110] else if (c.toNat : Int) = 13 then [92, 114] else [c]
def writtenL (s : List UInt8) : List UInt8 := if bareB s then s else 34 :: (s.flatMap esc ++ [34])
theorem esc_len (c : UInt8) : (esc c).length ≤ 2 := by unfold esc; (repeat' split) <;> simp
theorem flat_esc_len (s : List UInt8) : (s.flatMap esc).length ≤ 2 * s.length := by
  induction s with
  | nil => simp
  | cons c s ih =>
    rw [List.flatMap_cons, List.length_append]
    have := esc_len c
    simp only [List.length_cons]; omega
theorem write_c (b s : List UInt8) (hb : b.length + 2 * s.length ≤ 1099511627776) : ACalls Tryd.prog 47 [.row 0 (bsP b).length, .v (.string (bs s))] [.row 1 (bsP b)] (.row 0 (bsP (b ++ writtenL s)).length) [.row 1 (bsP (b ++ writtenL s))] := by
  generalize he : b ++ writtenL s = r
  refine (ACalls.of (fn := Tryd.f47) Tryd.func47 rfl rfl Tryd.ntmps47 (fun I M w own => ?_))
  (repeat' (first | refine AW.seq_k (fun K hK => ?_) | (refine hK _ ?_; clear hK) | (refine AW.cond rfl (fun hc => ?_) (fun hc => ?_) <;> (try simp only [Bool.and_eq_true, Bool.or_eq_true, Bool.not_eq_true', Bool.not_eq_false', Bool.and_eq_false_iff, Bool.or_eq_false_iff, Bool.and_eq_false_imp, decide_eq_true_eq, decide_eq_false_iff_not, Decidable.not_not, Int.not_lt, Int.not_le, ne_eq, Bool.not_not] at hc) <;> try (first | (exfalso; omega) | (cases hc; done))) | refine AW.block ?_ | refine AW.ret ?_ | refine AW.skip ?_ | (first | (refine AW.region (id := 0) ?_ <;> (try (refine Run.p rfl rfl rfl (OpP.asA rfl) ?_)) <;> (try refine Run.fin rfl ?_)) | (refine AW.region (id := 1) ?_ <;> (try (refine Run.p rfl rfl rfl (OpP.mvA rfl) ?_)) <;> (try (refine Run.c0 (bare_c s (by omega)) rfl rfl rfl rfl rfl rfl rfl rfl ?_)) <;> (try refine Run.fin rfl ?_)) | (refine AW.region (id := 2) ?_ <;> (try (refine Run.p rfl rfl rfl (OpP.mvA rfl) ?_)) <;> (try (refine Run.p rfl rfl rfl (OpP.mvA rfl) ?_)) <;> (try (refine Run.apRA rfl rfl rfl rfl rfl rfl rfl rfl rfl ?_)) <;> (try (refine Run.p rfl rfl rfl (OpP.asA rfl) ?_)) <;> (try refine Run.fin rfl ?_)) | (refine AW.region (id := 3) ?_ <;> (try (refine Run.p rfl rfl rfl (OpP.mvA rfl) ?_)) <;> (try (refine Run.bsA rfl rfl rfl rfl rfl rfl ?_)) <;> (try (refine Run.apRA rfl rfl rfl rfl rfl rfl rfl rfl rfl ?_)) <;> (try (refine Run.p rfl rfl rfl (OpP.asA rfl) ?_)) <;> (try refine Run.fin rfl ?_)) | (refine AW.region (id := 4) ?_ <;> (try (refine Run.p rfl rfl rfl (OpP.mvA rfl) ?_)) <;> (try (refine Run.p rfl rfl rfl (OpP.lenStr rfl rfl) ?_)) <;> (try (refine Run.p rfl rfl rfl (OpP.mvA rfl) ?_)) <;> (try refine Run.fin rfl ?_)))))
  · obtain rfl : r = b ++ s := by rw [← he, writtenL, if_pos (by assumption)]
    ((first | refine RetOk.tupS [0] rfl rfl rfl rfl rfl ?_ ?_ | refine RetOk.oneS [0] rfl rfl rfl rfl ?_ ?_) <;> (repeat' (first | exact Cv.nil | exact Cv.rowf rfl rfl | exact RetC.nil | exact CvL.refl _ | exact Cv.full | exact Cv.refl | exact Crs.nil | refine Crs.cons ?_ rfl ?_ | exact Cr.no | refine Cr.row ?_ | refine Cr.box ?_ | refine RetC.tmp (by (conv => lhs; whnf) <;> rfl) ?_ ?_ | refine RetC.cell1 rfl rfl rfl rfl ?_ ?_ | refine RetC.cellN rfl rfl rfl (by repeat constructor) ?_ ?_ | refine Cv.rowE rfl rfl ?_ | exact CvL.nil | refine CvL.cons ?_ ?_)))
    (all_goals (try (first | refine CvL.eq ?_ | refine Cv.eq ?_)))
    all_goals simp [AV.rens, AV.ren, renL]
  · obtain rfl : r = b ++ [34] ++ s.flatMap esc ++ [34] := by rw [← he, writtenL, if_neg (by simp_all)]; simp
    clear he
    refine AW.loopF (X := Nat) (fun x => ⟨[(0, .row 0 (bsP (b ++ [34] ++ (s.take x).flatMap esc)).length), (1, .v (.string (bs s))), (16, .v (.int .i64 (s.length : Int))), (17, .v (.int .i64 (x : Int)))], [.row 1 (bsP (b ++ [34] ++ (s.take x).flatMap esc))]⟩)
      (fun x => x ≤ s.length) (fun x => s.length - x) 0 ?_ ?_ ?_
    · refine Conv.mk [0] rfl rfl rfl ?_ rfl ?_
      (repeat' (first | exact Cf.nil | exact Cv.refl | exact CvL.refl _ | exact Cv.rowf rfl rfl | exact Crs.nil | refine Cf.cons' (by (conv => lhs; whnf) <;> rfl) ?_ ?_ | refine Crs.cons ?_ rfl ?_ | exact Cr.no | refine Cr.row ?_ | refine Cr.box ?_ | exact Cv.nil | exact Cv.full | exact CvL.nil | refine CvL.cons ?_ ?_))
      (all_goals (try (first | refine CvL.eq ?_ | refine Cv.eq ?_)))
      all_goals simp [AV.rens, AV.ren, renL]
    · simp
    · rintro i h1
      have hfl := flat_esc_len (s.take i)
      have htl : (s.take i).length = i := by rw [List.length_take]; omega
      rcases Nat.lt_or_ge i s.length with h | h
      · have hF : s[(i : Int).toNat]? = some s[i] := by simp [h]
        have hst : (s.take (i + 1)).flatMap esc = (s.take i).flatMap esc ++ esc s[i] := by rw [List.take_add_one, List.flatMap_append]; simp [h]
        (repeat' (first | refine AW.seq_k (fun K hK => ?_) | (refine hK _ ?_; clear hK) | (refine AW.condD rfl (fun hc => ?_) (fun hc => ?_) <;> try (first | (exfalso; omega) | (cases hc; done))) | refine AW.block ?_ | refine AW.skip ?_ | (first | (refine AW.region (id := 5) ?_ <;> (try (refine Run.p rfl rfl rfl (OpP.ltt rfl rfl rfl) ?_)) <;> (try refine Run.fin rfl ?_)) | (refine AW.region (id := 6) ?_ <;> (try (refine Run.p rfl rfl rfl (OpP.mvA rfl) ?_)) <;> (try (refine Run.p rfl rfl rfl (OpP.asA rfl) ?_)) <;> (try refine Run.fin rfl ?_)) | (refine AW.region (id := 7) ?_ <;> (try (refine Run.p rfl rfl rfl (OpP.mvA rfl) ?_)) <;> (try (refine Run.p rfl rfl rfl (OpP.mvA rfl) ?_)) <;> (try (refine Run.p rfl rfl rfl (OpP.indexStrA rfl rfl rfl) ?_)) <;> (try (refine Run.p rfl rfl rfl (OpP.asA rfl) ?_)) <;> (try refine Run.fin rfl ?_)) | (refine AW.region (id := 8) ?_ <;> (try (refine Run.p rfl rfl rfl (OpP.mvA rfl) ?_)) <;> (try refine Run.fin rfl ?_)) | (refine AW.region (id := 10) ?_ <;> (try (refine Run.p rfl rfl rfl (OpP.eq rfl rfl rfl) ?_)) <;> (try (refine Run.p rfl rfl rfl (OpP.asA rfl) ?_)) <;> (try refine Run.fin rfl ?_)) | (refine AW.region (id := 11) ?_ <;> (try (refine Run.p rfl rfl rfl (OpP.eq rfl rfl rfl) ?_)) <;> (try (refine Run.p rfl rfl rfl (OpP.asA rfl) ?_)) <;> (try refine Run.fin rfl ?_)) | (refine AW.region (id := 12) ?_ <;> (try (refine Run.p rfl rfl rfl (OpP.mvA rfl) ?_)) <;> (try (refine Run.p rfl rfl rfl (OpP.mvA rfl) ?_)) <;> (try (refine Run.bsA rfl rfl rfl rfl rfl rfl ?_)) <;> (try (refine Run.apRA rfl rfl rfl rfl rfl rfl rfl rfl rfl ?_)) <;> (try (refine Run.p rfl rfl rfl (OpP.asA rfl) ?_)) <;> (try refine Run.fin rfl ?_)) | (refine AW.region (id := 13) ?_ <;> (try (refine Run.p rfl rfl rfl (OpP.eq rfl rfl rfl) ?_)) <;> (try (refine Run.p rfl rfl rfl (OpP.asA rfl) ?_)) <;> (try refine Run.fin rfl ?_)) | (refine AW.region (id := 14) ?_ <;> (try (refine Run.p rfl rfl rfl (OpP.mvA rfl) ?_)) <;> (try (refine Run.bsA rfl rfl rfl rfl rfl rfl ?_)) <;> (try (refine Run.apRA rfl rfl rfl rfl rfl rfl rfl rfl rfl ?_)) <;> (try (refine Run.p rfl rfl rfl (OpP.asA rfl) ?_)) <;> (try refine Run.fin rfl ?_)) | (refine AW.region (id := 15) ?_ <;> (try (refine Run.p rfl rfl rfl (OpP.eq rfl rfl rfl) ?_)) <;> (try (refine Run.p rfl rfl rfl (OpP.asA rfl) ?_)) <;> (try refine Run.fin rfl ?_)) | (refine AW.region (id := 16) ?_ <;> (try (refine Run.p rfl rfl rfl (OpP.mvA rfl) ?_)) <;> (try (refine Run.bsA rfl rfl rfl rfl rfl rfl ?_)) <;> (try (refine Run.apRA rfl rfl rfl rfl rfl rfl rfl rfl rfl ?_)) <;> (try (refine Run.p rfl rfl rfl (OpP.asA rfl) ?_)) <;> (try refine Run.fin rfl ?_)) | (refine AW.region (id := 9) ?_ <;> (try (refine Run.p rfl rfl rfl (OpP.mvA rfl) ?_)) <;> (try (refine Run.p rfl rfl rfl (OpP.mvA rfl) ?_)) <;> (try (refine Run.bsA rfl rfl rfl rfl rfl rfl ?_)) <;> (try (refine Run.apRA rfl rfl rfl rfl rfl rfl rfl rfl rfl ?_)) <;> (try (refine Run.p rfl rfl rfl (OpP.asA rfl) ?_)) <;> (try refine Run.fin rfl ?_)) | (refine AW.region (id := 17) ?_ <;> (try (refine Run.p rfl rfl rfl (OpP.addA rfl rfl rfl) ?_)) <;> (try (refine Run.p rfl rfl rfl (OpP.mvA rfl) ?_)) <;> (try refine Run.fin rfl ?_)))))
        all_goals (
          ((repeat (with_reducible refine inB_n ?_)); refine thenA_n ?_)
          refine ⟨i + 1, h, by omega, ?_⟩
          refine Conv.mk [0] rfl rfl rfl ?_ rfl ?_
          (repeat' (first | exact Cf.nil | exact Cv.refl | exact CvL.refl _ | exact Cv.rowf rfl rfl | exact Crs.nil | refine Cf.cons' (by (conv => lhs; whnf) <;> rfl) ?_ ?_ | refine Crs.cons ?_ rfl ?_ | exact Cr.no | refine Cr.row ?_ | refine Cr.box ?_ | exact Cv.nil | exact Cv.full | exact CvL.nil | refine CvL.cons ?_ ?_))
          (all_goals (try (first | refine CvL.eq ?_ | refine Cv.eq ?_)))
          all_goals (rw [hst]; clear hF hst hfl; simp [AV.rens, AV.ren, renL, esc, *]))
      · (repeat' (first | refine AW.seq_k (fun K hK => ?_) | (refine hK _ ?_; clear hK) | (refine AW.condD rfl (fun hc => ?_) (fun hc => ?_) <;> try (first | (exfalso; omega) | (cases hc; done))) | refine AW.exit ?_ | refine AW.ret ?_ | (clear hK; refine hK _ ?_; clear hK) | (first | (refine AW.region (id := 5) ?_ <;> (try (refine Run.p rfl rfl rfl (OpP.ltt rfl rfl rfl) ?_)) <;> (try refine Run.fin rfl ?_)) | (refine AW.region (id := 18) ?_ <;> (try (refine Run.p rfl rfl rfl (OpP.mvA rfl) ?_)) <;> (try (refine Run.bsA rfl rfl rfl rfl rfl rfl ?_)) <;> (try (refine Run.apRA rfl rfl rfl rfl rfl rfl rfl rfl rfl ?_)) <;> (try (refine Run.p rfl rfl rfl (OpP.asA rfl) ?_)) <;> (try refine Run.fin rfl ?_)))))
        rw [List.take_of_length_le h]
        ((first | refine RetOk.tupS [0] rfl rfl rfl rfl rfl ?_ ?_ | refine RetOk.oneS [0] rfl rfl rfl rfl ?_ ?_) <;> (repeat' (first | exact Cv.nil | exact Cv.rowf rfl rfl | exact RetC.nil | exact CvL.refl _ | exact Cv.full | exact Cv.refl | exact Crs.nil | refine Crs.cons ?_ rfl ?_ | exact Cr.no | refine Cr.row ?_ | refine Cr.box ?_ | refine RetC.tmp (by (conv => lhs; whnf) <;> rfl) ?_ ?_ | refine RetC.cell1 rfl rfl rfl rfl ?_ ?_ | refine RetC.cellN rfl rfl rfl (by repeat constructor) ?_ ?_ | refine Cv.rowE rfl rfl ?_ | exact CvL.nil | refine CvL.cons ?_ ?_)))
        (all_goals (try (first | refine CvL.eq ?_ | refine Cv.eq ?_)))
        all_goals simp [AV.rens, AV.ren, renL]
theorem written_c (s : List UInt8) (hs : s.length ≤ 1099511627776) : ACalls Tryd.prog 49 [.v (.string (bs s))] [] (.v (.string (bs (writtenL s)))) [] := by
  generalize he : writtenL s = r
  refine (ACalls.of (fn := Tryd.f49) Tryd.func49 rfl rfl Tryd.ntmps49 (fun I M w own => ?_))
  (repeat' (first | refine AW.seq_k (fun K hK => ?_) | (refine hK _ ?_; clear hK) | (refine AW.cond rfl (fun hc => ?_) (fun hc => ?_) <;> (try simp only [Bool.and_eq_true, Bool.or_eq_true, Bool.not_eq_true', Bool.not_eq_false', Bool.and_eq_false_iff, Bool.or_eq_false_iff, Bool.and_eq_false_imp, decide_eq_true_eq, decide_eq_false_iff_not, Decidable.not_not, Int.not_lt, Int.not_le, ne_eq, Bool.not_not] at hc) <;> try (first | (exfalso; omega) | (cases hc; done))) | refine AW.block ?_ | refine AW.ret ?_ | refine AW.skip ?_ | (first | (refine AW.region (id := 0) ?_ <;> (try (refine Run.p rfl rfl rfl (OpP.asA rfl) ?_)) <;> (try refine Run.fin rfl ?_)) | (refine AW.region (id := 1) ?_ <;> (try (refine Run.p rfl rfl rfl (OpP.mvA rfl) ?_)) <;> (try (refine Run.c0 (Plain_c s (by omega)) rfl rfl rfl rfl rfl rfl rfl rfl ?_)) <;> (try refine Run.fin rfl ?_)) | (refine AW.region (id := 2) ?_ <;> (try (refine Run.p rfl rfl rfl (OpP.mvA rfl) ?_)) <;> (try (refine Run.p rfl rfl rfl (OpP.asA rfl) ?_)) <;> (try refine Run.fin rfl ?_)) | (refine AW.region (id := 3) ?_ <;> (try (refine Run.bsA rfl rfl rfl rfl rfl rfl ?_)) <;> (try (refine Run.p rfl rfl rfl (OpP.asA rfl) ?_)) <;> (try refine Run.fin rfl ?_)) | (refine AW.region (id := 4) ?_ <;> (try (refine Run.p rfl rfl rfl (OpP.asA rfl) ?_)) <;> (try refine Run.fin rfl ?_)))))
  · obtain rfl : r = s := by rw [← he, writtenL, if_pos (by assumption)]
    ((first | refine RetOk.tup rfl rfl ?_ | refine RetOk.one rfl ?_) <;> (repeat' (first | exact Cv.nil | exact Cv.rowf rfl rfl | exact RetC.nil | exact CvL.refl _ | exact Cv.refl | refine RetC.tmp (by (conv => lhs; whnf) <;> rfl) ?_ ?_ | refine RetC.cell1 rfl rfl rfl rfl ?_ ?_ | refine RetC.cellN rfl rfl rfl (by repeat constructor) ?_ ?_ | refine Cv.rowE rfl rfl ?_ | exact Cv.full | exact CvL.nil | refine CvL.cons ?_ ?_)))
  · obtain rfl : r = [34] ++ s.flatMap esc ++ [34] := by rw [← he, writtenL, if_neg (by simp_all)]; simp
    clear he
    refine AW.loopF (X := Nat) (fun x => ⟨[(0, .v (.string (bs s))), (3, .row 0 (bsP ([34] ++ (s.take x).flatMap esc)).length), (4, .v (.int .i64 (x : Int)))], [.row 1 (bsP ([34] ++ (s.take x).flatMap esc))]⟩)
      (fun x => x ≤ s.length) (fun x => s.length - x) 0 ?_ ?_ ?_
    · refine Conv.own 3 1 _ (Or.inl rfl) ?_
      refine Conv.mk [0] rfl rfl rfl ?_ rfl ?_
      (repeat' (first | exact Cf.nil | exact Cv.refl | exact CvL.refl _ | exact Cv.rowf rfl rfl | exact Crs.nil | refine Cf.cons' (by (conv => lhs; whnf) <;> rfl) ?_ ?_ | refine Crs.cons ?_ rfl ?_ | exact Cr.no | refine Cr.row ?_ | refine Cr.box ?_ | exact Cv.nil | exact Cv.full | exact CvL.nil | refine CvL.cons ?_ ?_))
      (all_goals (try (first | refine CvL.eq ?_ | refine Cv.eq ?_)))
      all_goals simp [AV.rens, AV.ren, renL]
    · simp
    · rintro i h1
      have hfl := flat_esc_len (s.take i)
      have htl : (s.take i).length = i := by rw [List.length_take]; omega
      rcases Nat.lt_or_ge i s.length with h | h
      · have hF : s[(i : Int).toNat]? = some s[i] := by simp [h]
        have hst : (s.take (i + 1)).flatMap esc = (s.take i).flatMap esc ++ esc s[i] := by rw [List.take_add_one, List.flatMap_append]; simp [h]
        (repeat' (first | refine AW.seq_k (fun K hK => ?_) | (refine hK _ ?_; clear hK) | (refine AW.condD rfl (fun hc => ?_) (fun hc => ?_) <;> try (first | (exfalso; omega) | (cases hc; done))) | refine AW.block ?_ | refine AW.skip ?_ | (first | (refine AW.region (id := 5) ?_ <;> (try (refine Run.p rfl rfl rfl (OpP.mvA rfl) ?_)) <;> (try (refine Run.p rfl rfl rfl (OpP.mvA rfl) ?_)) <;> (try (refine Run.p rfl rfl rfl (OpP.lenStr rfl rfl) ?_)) <;> (try (refine Run.p rfl rfl rfl (OpP.ltt rfl rfl rfl) ?_)) <;> (try refine Run.fin rfl ?_)) | (refine AW.region (id := 7) ?_ <;> (try (refine Run.p rfl rfl rfl (OpP.mvA rfl) ?_)) <;> (try (refine Run.p rfl rfl rfl (OpP.mvA rfl) ?_)) <;> (try (refine Run.p rfl rfl rfl (OpP.indexStrA rfl rfl rfl) ?_)) <;> (try (refine Run.p rfl rfl rfl (OpP.asA rfl) ?_)) <;> (try refine Run.fin rfl ?_)) | (refine AW.region (id := 8) ?_ <;> (try (refine Run.p rfl rfl rfl (OpP.mvA rfl) ?_)) <;> (try refine Run.fin rfl ?_)) | (refine AW.region (id := 10) ?_ <;> (try (refine Run.p rfl rfl rfl (OpP.eq rfl rfl rfl) ?_)) <;> (try (refine Run.p rfl rfl rfl (OpP.asA rfl) ?_)) <;> (try refine Run.fin rfl ?_)) | (refine AW.region (id := 11) ?_ <;> (try (refine Run.p rfl rfl rfl (OpP.eq rfl rfl rfl) ?_)) <;> (try (refine Run.p rfl rfl rfl (OpP.asA rfl) ?_)) <;> (try refine Run.fin rfl ?_)) | (refine AW.region (id := 12) ?_ <;> (try (refine Run.p rfl rfl rfl (OpP.mvA rfl) ?_)) <;> (try (refine Run.p rfl rfl rfl (OpP.mvA rfl) ?_)) <;> (try (refine Run.bsA rfl rfl rfl rfl rfl rfl ?_)) <;> (try (refine Run.apRA rfl rfl rfl rfl rfl rfl rfl rfl rfl ?_)) <;> (try (refine Run.p rfl rfl rfl (OpP.asA rfl) ?_)) <;> (try refine Run.fin rfl ?_)) | (refine AW.region (id := 13) ?_ <;> (try (refine Run.p rfl rfl rfl (OpP.eq rfl rfl rfl) ?_)) <;> (try (refine Run.p rfl rfl rfl (OpP.asA rfl) ?_)) <;> (try refine Run.fin rfl ?_)) | (refine AW.region (id := 14) ?_ <;> (try (refine Run.p rfl rfl rfl (OpP.mvA rfl) ?_)) <;> (try (refine Run.bsA rfl rfl rfl rfl rfl rfl ?_)) <;> (try (refine Run.apRA rfl rfl rfl rfl rfl rfl rfl rfl rfl ?_)) <;> (try (refine Run.p rfl rfl rfl (OpP.asA rfl) ?_)) <;> (try refine Run.fin rfl ?_)) | (refine AW.region (id := 15) ?_ <;> (try (refine Run.p rfl rfl rfl (OpP.eq rfl rfl rfl) ?_)) <;> (try (refine Run.p rfl rfl rfl (OpP.asA rfl) ?_)) <;> (try refine Run.fin rfl ?_)) | (refine AW.region (id := 16) ?_ <;> (try (refine Run.p rfl rfl rfl (OpP.mvA rfl) ?_)) <;> (try (refine Run.bsA rfl rfl rfl rfl rfl rfl ?_)) <;> (try (refine Run.apRA rfl rfl rfl rfl rfl rfl rfl rfl rfl ?_)) <;> (try (refine Run.p rfl rfl rfl (OpP.asA rfl) ?_)) <;> (try refine Run.fin rfl ?_)) | (refine AW.region (id := 9) ?_ <;> (try (refine Run.p rfl rfl rfl (OpP.mvA rfl) ?_)) <;> (try (refine Run.p rfl rfl rfl (OpP.mvA rfl) ?_)) <;> (try (refine Run.bsA rfl rfl rfl rfl rfl rfl ?_)) <;> (try (refine Run.apRA rfl rfl rfl rfl rfl rfl rfl rfl rfl ?_)) <;> (try (refine Run.p rfl rfl rfl (OpP.asA rfl) ?_)) <;> (try refine Run.fin rfl ?_)) | (refine AW.region (id := 6) ?_ <;> (try (refine Run.p rfl rfl rfl (OpP.mvA rfl) ?_)) <;> (try (refine Run.p rfl rfl rfl (OpP.addA rfl rfl rfl) ?_)) <;> (try (refine Run.p rfl rfl rfl (OpP.asA rfl) ?_)) <;> (try refine Run.fin rfl ?_)))))
        all_goals (
          ((repeat (with_reducible refine inB_n ?_)); refine thenA_n ?_)
          refine ⟨i + 1, h, by omega, ?_⟩
          refine Conv.mk [0] rfl rfl rfl ?_ rfl ?_
          (repeat' (first | exact Cf.nil | exact Cv.refl | exact CvL.refl _ | exact Cv.rowf rfl rfl | exact Crs.nil | refine Cf.cons' (by (conv => lhs; whnf) <;> rfl) ?_ ?_ | refine Crs.cons ?_ rfl ?_ | exact Cr.no | refine Cr.row ?_ | refine Cr.box ?_ | exact Cv.nil | exact Cv.full | exact CvL.nil | refine CvL.cons ?_ ?_))
          (all_goals (try (first | refine CvL.eq ?_ | refine Cv.eq ?_)))
          all_goals (rw [hst]; clear hF hst hfl; simp [AV.rens, AV.ren, renL, esc, *]))
      · (repeat' (first | refine AW.seq_k (fun K hK => ?_) | (refine hK _ ?_; clear hK) | (refine AW.condD rfl (fun hc => ?_) (fun hc => ?_) <;> try (first | (exfalso; omega) | (cases hc; done))) | refine AW.exit ?_ | refine AW.ret ?_ | (clear hK; refine hK _ ?_; clear hK) | (first | (refine AW.region (id := 5) ?_ <;> (try (refine Run.p rfl rfl rfl (OpP.mvA rfl) ?_)) <;> (try (refine Run.p rfl rfl rfl (OpP.mvA rfl) ?_)) <;> (try (refine Run.p rfl rfl rfl (OpP.lenStr rfl rfl) ?_)) <;> (try (refine Run.p rfl rfl rfl (OpP.ltt rfl rfl rfl) ?_)) <;> (try refine Run.fin rfl ?_)) | (refine AW.region (id := 17) ?_ <;> (try (refine Run.p rfl rfl rfl (OpP.mvA rfl) ?_)) <;> (try (refine Run.bsA rfl rfl rfl rfl rfl rfl ?_)) <;> (try (refine Run.apRA rfl rfl rfl rfl rfl rfl rfl rfl rfl ?_)) <;> (try (refine Run.ri rfl rfl rfl (OpRI.toStrBA rfl) rfl ?_)) <;> (try (refine Run.p rfl rfl rfl (OpP.asA rfl) ?_)) <;> (try refine Run.fin rfl ?_)))))
        rw [List.take_of_length_le h]
        ((first | refine RetOk.tup rfl rfl ?_ | refine RetOk.one rfl ?_) <;> (repeat' (first | exact Cv.nil | exact Cv.rowf rfl rfl | exact RetC.nil | exact CvL.refl _ | exact Cv.refl | refine RetC.tmp (by (conv => lhs; whnf) <;> rfl) ?_ ?_ | refine RetC.cell1 rfl rfl rfl rfl ?_ ?_ | refine RetC.cellN rfl rfl rfl (by repeat constructor) ?_ ?_ | refine Cv.rowE rfl rfl ?_ | exact Cv.full | exact CvL.nil | refine CvL.cons ?_ ?_)))
        (all_goals (try (first | refine CvL.eq ?_ | refine Cv.eq ?_)))
        all_goals simp [AV.rens, AV.ren, renL]
end Go.Proofs.YthogjnckkmfhnaaDoor
/-
  Walks of Join, of the program and of the reference.
-/
namespace Go.Proofs.YthogjnckkmfhnaaDoor
set_option linter.unusedVariables false
set_option linter.unusedSimpArgs false
def jW : List (List UInt8) → Bool → List UInt8 → Option (List UInt8)
  | [], _, b => some b
  | w :: l, first, b => if 4096 < w.length then none else jW l false ((if first then b else b ++ [32]) ++ writtenL w)
def joinP (l : List (List UInt8)) : List UInt8 × Int :=
  if 64 < l.length then ([], 3) else match jW l true [] with
  | none => ([], 3)
  | some b => if 4096 < b.length then ([], 3) else (b, 0)
theorem writtenL_len (s : List UInt8) : (writtenL s).length ≤ 2 * s.length + 2 := by
  unfold writtenL
  split
  · omega
  · have := flat_esc_len s
    simp only [List.length_cons, List.length_append, List.length_nil]; omega
theorem Join_c (l : List (List UInt8)) (f : Bool) (hl : l.length ≤ 4611686018427387904) : ACalls Tryd.prog 23 [.sl 1 (wdsP l) f] [] (.tup [.v (.string (bs (joinP l).1)), .v (.int .i64 (joinP l).2)]) [] := by
  generalize he : joinP l = r
  refine (ACalls.of (fn := Tryd.f23) Tryd.func23 rfl rfl Tryd.ntmps23 (fun I M w own => ?_))
  (repeat' (first | refine AW.seq_k (fun K hK => ?_) | (refine hK _ ?_; clear hK) | (refine AW.condD rfl (fun hc => ?_) (fun hc => ?_) <;> try (first | (exfalso; omega) | (cases hc; done))) | refine AW.block ?_ | refine AW.ret ?_ | refine AW.skip ?_ | (first | (refine AW.region (id := 0) ?_ <;> (try (refine Run.p rfl rfl rfl (OpP.asA rfl) ?_)) <;> (try (refine Run.p rfl rfl rfl (OpP.asA rfl) ?_)) <;> (try refine Run.fin rfl ?_)) | (refine AW.region (id := 1) ?_ <;> (try (refine Run.p rfl rfl rfl (OpP.mvA rfl) ?_)) <;> (try (refine Run.ri rfl rfl rfl (OpRI.lenA rfl rfl) rfl ?_)) <;> (try (refine Run.p rfl rfl rfl (OpP.gtt rfl rfl rfl) ?_)) <;> (try refine Run.fin rfl ?_)) | (refine AW.region (id := 2) ?_ <;> (try (refine Run.p rfl rfl rfl (OpP.asA rfl) ?_)) <;> (try (refine Run.p rfl rfl rfl (OpP.asA rfl) ?_)) <;> (try refine Run.fin rfl ?_)) | (refine AW.region (id := 3) ?_ <;> (try (refine Run.p rfl rfl rfl (OpP.asA rfl) ?_)) <;> (try refine Run.fin rfl ?_)) | (refine AW.region (id := 4) ?_ <;> (try (refine Run.p rfl rfl rfl (OpP.mvA rfl) ?_)) <;> (try (refine Run.ri rfl rfl rfl (OpRI.lenA rfl rfl) rfl ?_)) <;> (try (refine Run.p rfl rfl rfl (OpP.mvA rfl) ?_)) <;> (try refine Run.fin rfl ?_)))))
  · simp only [List.length_map] at hc
    obtain rfl : r = ([], 3) := by rw [← he, joinP, if_pos (by omega)]
    ((first | refine RetOk.tup rfl rfl ?_ | refine RetOk.one rfl ?_) <;> (repeat' (first | exact Cv.nil | exact Cv.rowf rfl rfl | exact RetC.nil | exact CvL.refl _ | exact Cv.refl | refine RetC.tmp (by (conv => lhs; whnf) <;> rfl) ?_ ?_ | refine RetC.cell1 rfl rfl rfl rfl ?_ ?_ | refine RetC.cellN rfl rfl rfl (by repeat constructor) ?_ ?_ | refine Cv.rowE rfl rfl ?_ | exact Cv.full | exact CvL.nil | refine CvL.cons ?_ ?_)))
  · simp only [List.length_map] at hc
    rw [joinP, if_neg (by omega)] at he
    refine AW.loopF (X := Nat × List UInt8) (fun x => ⟨[(4, .row 0 (bsP x.2).length), (10, .sl 1 (wdsP l) f), (11, .v (.int .i64 (l.length : Int))), (12, .v (.int .i64 (x.1 : Int)))], [.row 1 (bsP x.2)]⟩)
      (fun x => x.1 ≤ l.length ∧ jW l true [] = jW (l.drop x.1) (decide (x.1 = 0)) x.2 ∧ x.2.length ≤ x.1 * 8200) (fun x => l.length - x.1) (0, []) ?_ ?_ ?_
    · refine Conv.own 4 1 [] (Or.inr ⟨rfl, rfl⟩) ?_
      refine Conv.mk [0] rfl rfl rfl ?_ rfl ?_
      (repeat' (first | exact Cf.nil | exact Cv.refl | exact CvL.refl _ | exact Cv.rowf rfl rfl | exact Crs.nil | refine Cf.cons' (by (conv => lhs; whnf) <;> rfl) ?_ ?_ | refine Crs.cons ?_ rfl ?_ | exact Cr.no | refine Cr.row ?_ | refine Cr.box ?_ | exact Cv.nil | exact Cv.full | exact CvL.nil | refine CvL.cons ?_ ?_))
      (all_goals (try (first | refine CvL.eq ?_ | refine Cv.eq ?_)))
      all_goals simp [AV.rens, AV.ren, renL]
    · simp
    · rintro ⟨i, b⟩ ⟨h1, h2, h3⟩
      simp only at h1 h2 h3 ⊢
      rcases Nat.lt_or_ge i l.length with h | h
      · have hA : At (wdsP l) (i : Int) [PV.v (.string (bs l[i]))] := At.mk i rfl (by simp [h])
        have hwl := writtenL_len l[i]
        have hd : l.drop i = l[i] :: l.drop (i + 1) := by rw [List.drop_eq_getElem_cons h]
        rw [hd] at h2
        (repeat' (first | refine AW.seq_k (fun K hK => ?_) | (refine hK _ ?_; clear hK) | (refine AW.condD rfl (fun hc => ?_) (fun hc => ?_) <;> try (first | (exfalso; omega) | (cases hc; done))) | refine AW.block ?_ | refine AW.ret ?_ | refine AW.skip ?_ | (first | (refine AW.region (id := 5) ?_ <;> (try (refine Run.p rfl rfl rfl (OpP.ltt rfl rfl rfl) ?_)) <;> (try refine Run.fin rfl ?_)) | (refine AW.region (id := 6) ?_ <;> (try (refine Run.p rfl rfl rfl (OpP.mvA rfl) ?_)) <;> (try (refine Run.ri rfl rfl rfl (OpRI.indexAddrA rfl rfl) rfl ?_)) <;> (try (refine Run.p rfl rfl rfl (OpP.loadE1 rfl rfl rfl rfl (by (conv => lhs; whnf) <;> rfl)) ?_)) <;> (try (refine Run.p rfl rfl rfl (OpP.asA rfl) ?_)) <;> (try (refine Run.p rfl rfl rfl (OpP.asA rfl) ?_)) <;> (try refine Run.fin rfl ?_)) | (refine AW.region (id := 7) ?_ <;> (try (refine Run.p rfl rfl rfl (OpP.mvA rfl) ?_)) <;> (try (refine Run.p rfl rfl rfl (OpP.gtt rfl rfl rfl) ?_)) <;> (try refine Run.fin rfl ?_)) | (refine AW.region (id := 8) ?_ <;> (try (refine Run.p rfl rfl rfl (OpP.mvA rfl) ?_)) <;> (try (refine Run.bsA rfl rfl rfl rfl rfl rfl ?_)) <;> (try (refine Run.apRA rfl rfl rfl rfl rfl rfl rfl rfl rfl ?_)) <;> (try (refine Run.p rfl rfl rfl (OpP.asA rfl) ?_)) <;> (try refine Run.fin rfl ?_)) | (refine AW.region (id := 9) ?_ <;> (try (refine Run.p rfl rfl rfl (OpP.mvA rfl) ?_)) <;> (try (refine Run.p rfl rfl rfl (OpP.lenStr rfl rfl) ?_)) <;> (try (refine Run.p rfl rfl rfl (OpP.gtt rfl rfl rfl) ?_)) <;> (try refine Run.fin rfl ?_)) | (refine AW.region (id := 10) ?_ <;> (try (refine Run.p rfl rfl rfl (OpP.asA rfl) ?_)) <;> (try (refine Run.p rfl rfl rfl (OpP.asA rfl) ?_)) <;> (try refine Run.fin rfl ?_)) | (refine AW.region (id := 11) ?_ <;> (try (refine Run.p rfl rfl rfl (OpP.mvA rfl) ?_)) <;> (try (refine Run.p rfl rfl rfl (OpP.mvA rfl) ?_)) <;> (try (first | refine Run.cSA [0] (write_c (b ++ [32]) l[i] (by first | omega | (simp; omega))) rfl rfl rfl rfl rfl rfl rfl rfl rfl rfl rfl rfl ?_ | refine Run.cSA [0] (write_c b l[i] (by omega)) rfl rfl rfl rfl rfl rfl rfl rfl rfl rfl rfl rfl ?_)) <;> (try (refine Run.p rfl rfl rfl (OpP.asA rfl) ?_)) <;> (try refine Run.fin rfl ?_)) | (refine AW.region (id := 12) ?_ <;> (try (refine Run.p rfl rfl rfl (OpP.addA rfl rfl rfl) ?_)) <;> (try (refine Run.p rfl rfl rfl (OpP.mvA rfl) ?_)) <;> (try refine Run.fin rfl ?_)))))
        · rw [h2, jW, if_pos (by omega)] at he
          subst he
          ((first | refine RetOk.tup rfl rfl ?_ | refine RetOk.one rfl ?_) <;> (repeat' (first | exact Cv.nil | exact Cv.rowf rfl rfl | exact RetC.nil | exact CvL.refl _ | exact Cv.refl | refine RetC.tmp (by (conv => lhs; whnf) <;> rfl) ?_ ?_ | refine RetC.cell1 rfl rfl rfl rfl ?_ ?_ | refine RetC.cellN rfl rfl rfl (by repeat constructor) ?_ ?_ | refine Cv.rowE rfl rfl ?_ | exact Cv.full | exact CvL.nil | refine CvL.cons ?_ ?_)))
        · have hi : decide (i = 0) = false := by simp; omega
          rw [hi] at h2
          ((repeat (with_reducible refine inB_n ?_)); refine thenA_n ?_)
          refine ⟨(i + 1, b ++ [32] ++ writtenL l[i]), ⟨h, ?_, ?_⟩, by simp only; omega, ?_⟩
          · rw [h2, jW, if_neg (by omega)]; simp
          · simp only [List.length_append, List.length_cons, List.length_nil]; omega
          · refine Conv.mk [0] rfl rfl rfl ?_ rfl ?_
            (repeat' (first | exact Cf.nil | exact Cv.refl | exact CvL.refl _ | exact Cv.rowf rfl rfl | exact Crs.nil | refine Cf.cons' (by (conv => lhs; whnf) <;> rfl) ?_ ?_ | refine Crs.cons ?_ rfl ?_ | exact Cr.no | refine Cr.row ?_ | refine Cr.box ?_ | exact Cv.nil | exact Cv.full | exact CvL.nil | refine CvL.cons ?_ ?_))
            (all_goals (try (first | refine CvL.eq ?_ | refine Cv.eq ?_)))
            all_goals simp [AV.rens, AV.ren, renL]
        · rw [h2, jW, if_pos (by omega)] at he
          subst he
          ((first | refine RetOk.tup rfl rfl ?_ | refine RetOk.one rfl ?_) <;> (repeat' (first | exact Cv.nil | exact Cv.rowf rfl rfl | exact RetC.nil | exact CvL.refl _ | exact Cv.refl | refine RetC.tmp (by (conv => lhs; whnf) <;> rfl) ?_ ?_ | refine RetC.cell1 rfl rfl rfl rfl ?_ ?_ | refine RetC.cellN rfl rfl rfl (by repeat constructor) ?_ ?_ | refine Cv.rowE rfl rfl ?_ | exact Cv.full | exact CvL.nil | refine CvL.cons ?_ ?_)))
        · have hi : decide (i = 0) = true := by simp; omega
          rw [hi] at h2
          ((repeat (with_reducible refine inB_n ?_)); refine thenA_n ?_)
          refine ⟨(i + 1, b ++ writtenL l[i]), ⟨h, ?_, ?_⟩, by simp only; omega, ?_⟩
          · rw [h2, jW, if_neg (by omega)]; simp
          · simp only [List.length_append, List.length_cons, List.length_nil]; omega
          · refine Conv.mk [0] rfl rfl rfl ?_ rfl ?_
            (repeat' (first | exact Cf.nil | exact Cv.refl | exact CvL.refl _ | exact Cv.rowf rfl rfl | exact Crs.nil | refine Cf.cons' (by (conv => lhs; whnf) <;> rfl) ?_ ?_ | refine Crs.cons ?_ rfl ?_ | exact Cr.no | refine Cr.row ?_ | refine Cr.box ?_ | exact Cv.nil | exact Cv.full | exact CvL.nil | refine CvL.cons ?_ ?_))
            (all_goals (try (first | refine CvL.eq ?_ | refine Cv.eq ?_)))
            all_goals simp [AV.rens, AV.ren, renL]
      · rw [List.drop_eq_nil_of_le h, jW] at h2
        rw [h2] at he
        (repeat' (first | refine AW.seq_k (fun K hK => ?_) | (refine hK _ ?_; clear hK) | (refine AW.condD rfl (fun hc => ?_) (fun hc => ?_) <;> try (first | (exfalso; omega) | (cases hc; done))) | refine AW.exit ?_ | refine AW.ret ?_ | refine AW.skip ?_ | (clear hK; refine hK _ ?_; clear hK) | (first | (refine AW.region (id := 5) ?_ <;> (try (refine Run.p rfl rfl rfl (OpP.ltt rfl rfl rfl) ?_)) <;> (try refine Run.fin rfl ?_)) | (refine AW.region (id := 13) ?_ <;> (try (refine Run.p rfl rfl rfl (OpP.mvA rfl) ?_)) <;> (try (refine Run.ri rfl rfl rfl (OpRI.lenA rfl rfl) rfl ?_)) <;> (try (refine Run.p rfl rfl rfl (OpP.gtt rfl rfl rfl) ?_)) <;> (try refine Run.fin rfl ?_)) | (refine AW.region (id := 14) ?_ <;> (try (refine Run.p rfl rfl rfl (OpP.asA rfl) ?_)) <;> (try (refine Run.p rfl rfl rfl (OpP.asA rfl) ?_)) <;> (try refine Run.fin rfl ?_)) | (refine AW.region (id := 15) ?_ <;> (try (refine Run.p rfl rfl rfl (OpP.mvA rfl) ?_)) <;> (try (refine Run.ri rfl rfl rfl (OpRI.toStrA rfl) rfl ?_)) <;> (try (refine Run.p rfl rfl rfl (OpP.asA rfl) ?_)) <;> (try (refine Run.p rfl rfl rfl (OpP.asA rfl) ?_)) <;> (try refine Run.fin rfl ?_)))))
        · simp only [List.length_map] at hc
          simp only [if_pos (show 4096 < b.length by omega)] at he
          subst he
          ((first | refine RetOk.tup rfl rfl ?_ | refine RetOk.one rfl ?_) <;> (repeat' (first | exact Cv.nil | exact Cv.rowf rfl rfl | exact RetC.nil | exact CvL.refl _ | exact Cv.refl | refine RetC.tmp (by (conv => lhs; whnf) <;> rfl) ?_ ?_ | refine RetC.cell1 rfl rfl rfl rfl ?_ ?_ | refine RetC.cellN rfl rfl rfl (by repeat constructor) ?_ ?_ | refine Cv.rowE rfl rfl ?_ | exact Cv.full | exact CvL.nil | refine CvL.cons ?_ ?_)))
        · simp only [List.length_map] at hc
          simp only [if_neg (show ¬ 4096 < b.length by omega)] at he
          subst he
          ((first | refine RetOk.tup rfl rfl ?_ | refine RetOk.one rfl ?_) <;> (repeat' (first | exact Cv.nil | exact Cv.rowf rfl rfl | exact RetC.nil | exact CvL.refl _ | exact Cv.refl | refine RetC.tmp (by (conv => lhs; whnf) <;> rfl) ?_ ?_ | refine RetC.cell1 rfl rfl rfl rfl ?_ ?_ | refine RetC.cellN rfl rfl rfl (by repeat constructor) ?_ ?_ | refine Cv.rowE rfl rfl ?_ | exact Cv.full | exact CvL.nil | refine CvL.cons ?_ ?_)))
def jR : List (List UInt8) → Bool → List UInt8 → Option (List UInt8)
  | [], _, b => some b
  | w :: l, first, b => if 4096 < ((if first then b else b ++ [32]) ++ writtenL w).length then none else jR l false ((if first then b else b ++ [32]) ++ writtenL w)
def rJoinP (l : List (List UInt8)) : List UInt8 × Int :=
  if 64 < l.length then ([], 3) else match jR l true [] with
  | none => ([], 3)
  | some b => (b, 0)
theorem rJoin_c (l : List (List UInt8)) (f : Bool) (hl : l.length ≤ 4611686018427387904) (hk : ∀ w ∈ l, w.length ≤ 1099511627776) : ACalls Tryd.prog 26 [.sl 1 (wdsP l) f] [] (.tup [.v (.string (bs (rJoinP l).1)), .v (.int .i64 (rJoinP l).2)]) [] := by
  generalize he : rJoinP l = r
  refine (ACalls.of (fn := Tryd.f26) Tryd.func26 rfl rfl Tryd.ntmps26 (fun I M w own => ?_))
  (repeat' (first | refine AW.seq_k (fun K hK => ?_) | (refine hK _ ?_; clear hK) | (refine AW.condD rfl (fun hc => ?_) (fun hc => ?_) <;> try (first | (exfalso; omega) | (cases hc; done))) | refine AW.block ?_ | refine AW.ret ?_ | refine AW.skip ?_ | (first | (refine AW.region (id := 0) ?_ <;> (try (refine Run.p rfl rfl rfl (OpP.asA rfl) ?_)) <;> (try (refine Run.p rfl rfl rfl (OpP.asA rfl) ?_)) <;> (try refine Run.fin rfl ?_)) | (refine AW.region (id := 1) ?_ <;> (try (refine Run.p rfl rfl rfl (OpP.mvA rfl) ?_)) <;> (try (refine Run.ri rfl rfl rfl (OpRI.lenA rfl rfl) rfl ?_)) <;> (try (refine Run.p rfl rfl rfl (OpP.gtt rfl rfl rfl) ?_)) <;> (try refine Run.fin rfl ?_)) | (refine AW.region (id := 2) ?_ <;> (try (refine Run.p rfl rfl rfl (OpP.asA rfl) ?_)) <;> (try (refine Run.p rfl rfl rfl (OpP.asA rfl) ?_)) <;> (try refine Run.fin rfl ?_)) | (refine AW.region (id := 3) ?_ <;> (try (refine Run.p rfl rfl rfl (OpP.asA rfl) ?_)) <;> (try refine Run.fin rfl ?_)) | (refine AW.region (id := 4) ?_ <;> (try (refine Run.p rfl rfl rfl (OpP.mvA rfl) ?_)) <;> (try (refine Run.ri rfl rfl rfl (OpRI.lenA rfl rfl) rfl ?_)) <;> (try (refine Run.p rfl rfl rfl (OpP.mvA rfl) ?_)) <;> (try refine Run.fin rfl ?_)))))
  · simp only [List.length_map] at hc
    obtain rfl : r = ([], 3) := by rw [← he, rJoinP, if_pos (by omega)]
    ((first | refine RetOk.tup rfl rfl ?_ | refine RetOk.one rfl ?_) <;> (repeat' (first | exact Cv.nil | exact Cv.rowf rfl rfl | exact RetC.nil | exact CvL.refl _ | exact Cv.refl | refine RetC.tmp (by (conv => lhs; whnf) <;> rfl) ?_ ?_ | refine RetC.cell1 rfl rfl rfl rfl ?_ ?_ | refine RetC.cellN rfl rfl rfl (by repeat constructor) ?_ ?_ | refine Cv.rowE rfl rfl ?_ | exact Cv.full | exact CvL.nil | refine CvL.cons ?_ ?_)))
  · simp only [List.length_map] at hc
    rw [rJoinP, if_neg (by omega)] at he
    refine AW.loopF (X := Nat × List UInt8) (fun x => ⟨[(4, .v (.string (bs x.2))), (10, .sl 1 (wdsP l) f), (11, .v (.int .i64 (l.length : Int))), (12, .v (.int .i64 (x.1 : Int)))], []⟩)
      (fun x => x.1 ≤ l.length ∧ jR l true [] = jR (l.drop x.1) (decide (x.1 = 0)) x.2 ∧ x.2.length ≤ 4096) (fun x => l.length - x.1) (0, []) ?_ ?_ ?_
    · refine Conv.mk [] rfl rfl rfl ?_ rfl ?_
      (repeat' (first | exact Cf.nil | exact Cv.refl | exact CvL.refl _ | exact Cv.rowf rfl rfl | exact Crs.nil | refine Cf.cons' (by (conv => lhs; whnf) <;> rfl) ?_ ?_ | refine Crs.cons ?_ rfl ?_ | exact Cr.no | refine Cr.row ?_ | refine Cr.box ?_ | exact Cv.nil | exact Cv.full | exact CvL.nil | refine CvL.cons ?_ ?_))
      (all_goals (try (first | refine CvL.eq ?_ | refine Cv.eq ?_)))
      all_goals (first | rfl | simp [AV.rens, AV.ren, renL])
    · simp
    · rintro ⟨i, b⟩ ⟨h1, h2, h3⟩
      simp only at h1 h2 h3 ⊢
      rcases Nat.lt_or_ge i l.length with h | h
      · have hA : At (wdsP l) (i : Int) [PV.v (.string (bs l[i]))] := At.mk i rfl (by simp [h])
        have hwl := writtenL_len l[i]
        have hkl := hk l[i] (List.getElem_mem _)
        have hd : l.drop i = l[i] :: l.drop (i + 1) := by rw [List.drop_eq_getElem_cons h]
        rw [hd] at h2
        (repeat' (first | refine AW.seq_k (fun K hK => ?_) | (refine hK _ ?_; clear hK) | (refine AW.condD rfl (fun hc => ?_) (fun hc => ?_) <;> try (first | (exfalso; omega) | (cases hc; done))) | refine AW.block ?_ | refine AW.ret ?_ | refine AW.skip ?_ | (first | (refine AW.region (id := 5) ?_ <;> (try (refine Run.p rfl rfl rfl (OpP.ltt rfl rfl rfl) ?_)) <;> (try refine Run.fin rfl ?_)) | (refine AW.region (id := 6) ?_ <;> (try (refine Run.p rfl rfl rfl (OpP.mvA rfl) ?_)) <;> (try (refine Run.ri rfl rfl rfl (OpRI.indexAddrA rfl rfl) rfl ?_)) <;> (try (refine Run.p rfl rfl rfl (OpP.loadE1 rfl rfl rfl rfl (by (conv => lhs; whnf) <;> rfl)) ?_)) <;> (try (refine Run.p rfl rfl rfl (OpP.asA rfl) ?_)) <;> (try (refine Run.p rfl rfl rfl (OpP.asA rfl) ?_)) <;> (try refine Run.fin rfl ?_)) | (refine AW.region (id := 7) ?_ <;> (try (refine Run.p rfl rfl rfl (OpP.mvA rfl) ?_)) <;> (try (refine Run.p rfl rfl rfl (OpP.gtt rfl rfl rfl) ?_)) <;> (try refine Run.fin rfl ?_)) | (refine AW.region (id := 8) ?_ <;> (try (refine Run.p rfl rfl rfl (OpP.mvA rfl) ?_)) <;> (try (refine Run.p rfl rfl rfl (OpP.cat rfl rfl rfl (by first | omega | (simp only [List.length_append, List.length_cons, List.length_nil, List.length_map, maxLen]; omega) | (simp [maxLen]; omega) | simp [maxLen])) ?_)) <;> (try (refine Run.p rfl rfl rfl (OpP.asA rfl) ?_)) <;> (try refine Run.fin rfl ?_)) | (refine AW.region (id := 9) ?_ <;> (try (refine Run.p rfl rfl rfl (OpP.mvA rfl) ?_)) <;> (try (refine Run.p rfl rfl rfl (OpP.mvA rfl) ?_)) <;> (try (refine Run.c0 (written_c l[i] hkl) rfl rfl rfl rfl rfl rfl rfl rfl ?_)) <;> (try (refine Run.p rfl rfl rfl (OpP.cat rfl rfl rfl (by first | omega | (simp only [List.length_append, List.length_cons, List.length_nil, List.length_map, maxLen]; omega) | (simp [maxLen]; omega) | simp [maxLen])) ?_)) <;> (try (refine Run.p rfl rfl rfl (OpP.asA rfl) ?_)) <;> (try refine Run.fin rfl ?_)) | (refine AW.region (id := 10) ?_ <;> (try (refine Run.p rfl rfl rfl (OpP.mvA rfl) ?_)) <;> (try (refine Run.p rfl rfl rfl (OpP.lenStr rfl rfl) ?_)) <;> (try (refine Run.p rfl rfl rfl (OpP.gtt rfl rfl rfl) ?_)) <;> (try refine Run.fin rfl ?_)) | (refine AW.region (id := 11) ?_ <;> (try (refine Run.p rfl rfl rfl (OpP.asA rfl) ?_)) <;> (try (refine Run.p rfl rfl rfl (OpP.asA rfl) ?_)) <;> (try refine Run.fin rfl ?_)) | (refine AW.region (id := 12) ?_ <;> (try (refine Run.p rfl rfl rfl (OpP.addA rfl rfl rfl) ?_)) <;> (try (refine Run.p rfl rfl rfl (OpP.mvA rfl) ?_)) <;> (try refine Run.fin rfl ?_)))))
        · have hi : decide (i = 0) = false := by simp; omega
          rw [hi, jR] at h2
          simp only [Bool.false_eq_true, if_false, if_true] at h2
          rw [h2, if_pos (by omega)] at he
          subst he
          ((first | refine RetOk.tup rfl rfl ?_ | refine RetOk.one rfl ?_) <;> (repeat' (first | exact Cv.nil | exact Cv.rowf rfl rfl | exact RetC.nil | exact CvL.refl _ | exact Cv.refl | refine RetC.tmp (by (conv => lhs; whnf) <;> rfl) ?_ ?_ | refine RetC.cell1 rfl rfl rfl rfl ?_ ?_ | refine RetC.cellN rfl rfl rfl (by repeat constructor) ?_ ?_ | refine Cv.rowE rfl rfl ?_ | exact Cv.full | exact CvL.nil | refine CvL.cons ?_ ?_)))
        · have hi : decide (i = 0) = false := by simp; omega
          rw [hi, jR] at h2
          simp only [Bool.false_eq_true, if_false, if_true] at h2
          ((repeat (with_reducible refine inB_n ?_)); refine thenA_n ?_)
          refine ⟨(i + 1, b ++ [32] ++ writtenL l[i]), ⟨h, ?_, by simp only; omega⟩, by simp only; omega, ?_⟩
          · rw [h2, if_neg (by omega)]; simp
          · refine Conv.mk [] rfl rfl rfl ?_ rfl ?_
            (repeat' (first | exact Cf.nil | exact Cv.refl | exact CvL.refl _ | exact Cv.rowf rfl rfl | exact Crs.nil | refine Cf.cons' (by (conv => lhs; whnf) <;> rfl) ?_ ?_ | refine Crs.cons ?_ rfl ?_ | exact Cr.no | refine Cr.row ?_ | refine Cr.box ?_ | exact Cv.nil | exact Cv.full | exact CvL.nil | refine CvL.cons ?_ ?_))
            (all_goals (try (first | refine CvL.eq ?_ | refine Cv.eq ?_)))
            all_goals simp [AV.rens, AV.ren, renL]
        · have hi : decide (i = 0) = true := by simp; omega
          rw [hi, jR] at h2
          simp only [Bool.false_eq_true, if_false, if_true] at h2
          rw [h2, if_pos (by omega)] at he
          subst he
          ((first | refine RetOk.tup rfl rfl ?_ | refine RetOk.one rfl ?_) <;> (repeat' (first | exact Cv.nil | exact Cv.rowf rfl rfl | exact RetC.nil | exact CvL.refl _ | exact Cv.refl | refine RetC.tmp (by (conv => lhs; whnf) <;> rfl) ?_ ?_ | refine RetC.cell1 rfl rfl rfl rfl ?_ ?_ | refine RetC.cellN rfl rfl rfl (by repeat constructor) ?_ ?_ | refine Cv.rowE rfl rfl ?_ | exact Cv.full | exact CvL.nil | refine CvL.cons ?_ ?_)))
        · have hi : decide (i = 0) = true := by simp; omega
          rw [hi, jR] at h2
          simp only [Bool.false_eq_true, if_false, if_true] at h2
          ((repeat (with_reducible refine inB_n ?_)); refine thenA_n ?_)
          refine ⟨(i + 1, b ++ writtenL l[i]), ⟨h, ?_, by simp only; omega⟩, by simp only; omega, ?_⟩
          · rw [h2, if_neg (by omega)]; simp
          · refine Conv.mk [] rfl rfl rfl ?_ rfl ?_
            (repeat' (first | exact Cf.nil | exact Cv.refl | exact CvL.refl _ | exact Cv.rowf rfl rfl | exact Crs.nil | refine Cf.cons' (by (conv => lhs; whnf) <;> rfl) ?_ ?_ | refine Crs.cons ?_ rfl ?_ | exact Cr.no | refine Cr.row ?_ | refine Cr.box ?_ | exact Cv.nil | exact Cv.full | exact CvL.nil | refine CvL.cons ?_ ?_))
            (all_goals (try (first | refine CvL.eq ?_ | refine Cv.eq ?_)))
            all_goals simp [AV.rens, AV.ren, renL]
      · rw [List.drop_eq_nil_of_le h, jR] at h2
        rw [h2] at he
        (repeat' (first | refine AW.seq_k (fun K hK => ?_) | (refine hK _ ?_; clear hK) | (refine AW.condD rfl (fun hc => ?_) (fun hc => ?_) <;> try (first | (exfalso; omega) | (cases hc; done))) | refine AW.exit ?_ | refine AW.ret ?_ | (clear hK; refine hK _ ?_; clear hK) | (first | (refine AW.region (id := 5) ?_ <;> (try (refine Run.p rfl rfl rfl (OpP.ltt rfl rfl rfl) ?_)) <;> (try refine Run.fin rfl ?_)) | (refine AW.region (id := 13) ?_ <;> (try (refine Run.p rfl rfl rfl (OpP.mvA rfl) ?_)) <;> (try (refine Run.p rfl rfl rfl (OpP.asA rfl) ?_)) <;> (try (refine Run.p rfl rfl rfl (OpP.asA rfl) ?_)) <;> (try refine Run.fin rfl ?_)))))
        subst he
        ((first | refine RetOk.tup rfl rfl ?_ | refine RetOk.one rfl ?_) <;> (repeat' (first | exact Cv.nil | exact Cv.rowf rfl rfl | exact RetC.nil | exact CvL.refl _ | exact Cv.refl | refine RetC.tmp (by (conv => lhs; whnf) <;> rfl) ?_ ?_ | refine RetC.cell1 rfl rfl rfl rfl ?_ ?_ | refine RetC.cellN rfl rfl rfl (by repeat constructor) ?_ ?_ | refine Cv.rowE rfl rfl ?_ | exact Cv.full | exact CvL.nil | refine CvL.cons ?_ ?_)))
end Go.Proofs.YthogjnckkmfhnaaDoor
/-
  Walk of kept.
-/
namespace Go.Proofs.YthogjnckkmfhnaaDoor
set_option linter.unusedVariables false
set_option linter.unusedSimpArgs false
end Go.Proofs.YthogjnckkmfhnaaDoor
/-
  Walk of Number.
-/
namespace Go.Proofs.YthogjnckkmfhnaaDoor
set_option linter.unusedVariables false
set_option linter.unusedSimpArgs false
def dig : List UInt8 → Int → Option Int
  | [], n => some n
  | c :: t, n => if 48 ≤ (c.toNat : Int) ∧ (c.toNat : Int) ≤ 57 then dig t (if n ≤ 9007199254740992 then 10 * n + ((c.toNat : Int) - 48) else n) else none
def numD (neg : Bool) (d : List UInt8) : Int × Int :=
  match d with
  | [] => (0, 5)
  | c :: t => if (c.toNat : Int) = 48 ∧ (t ≠ [] ∨ neg = true) then (0, 5) else match dig (c :: t) 0 with
    | none => (0, 5)
    | some n => if 9007199254740992 < n then (0, 2) else (if neg then -n else n, 0)
def numberP (s : List UInt8) : Int × Int :=
  match s with
  | [] => (0, 5)
  | c :: t => if (c.toNat : Int) = 45 then numD true t else numD false s
theorem Number_0 (hs : (([] : List UInt8)).length ≤ 1099511627776) : ACalls Tryd.prog 54 [.v (.string (bs (([] : List UInt8))))] [] (.tup [.v (.int .i64 (numberP (([] : List UInt8))).1), .v (.int .i64 (numberP (([] : List UInt8))).2)]) [] := by
  generalize he : numberP (([] : List UInt8)) = r
  have hF : decide ((0 : Int) < (([] : List UInt8).length : Int)) = true → ([] : List UInt8)[(0 : Int).toNat]? = some 0 := by simp
  refine (ACalls.of (fn := Tryd.f54) Tryd.func54 rfl rfl Tryd.ntmps54 (fun I M w own => ?_))
  (repeat' (first | refine AW.seq_k (fun K hK => ?_) | (refine hK _ ?_; clear hK) | (refine AW.cond rfl (fun hc => ?_) (fun hc => ?_) <;> (try simp only [Bool.and_eq_true, Bool.or_eq_true, Bool.not_eq_true', Bool.not_eq_false', Bool.and_eq_false_iff, Bool.or_eq_false_iff, Bool.and_eq_false_imp, decide_eq_true_eq, decide_eq_false_iff_not, Decidable.not_not, Int.not_lt, Int.not_le, ne_eq, Bool.not_not] at hc) <;> try (first | (exfalso; omega) | (cases hc; done))) | refine AW.ret ?_ | refine AW.skip ?_ | (first | (refine AW.region (id := 0) ?_ <;> (try (refine Run.p rfl rfl rfl (OpP.asA rfl) ?_)) <;> (try (refine Run.p rfl rfl rfl (OpP.asA rfl) ?_)) <;> (try refine Run.fin rfl ?_)) | (refine AW.region (id := 1) ?_ <;> (try (refine Run.p rfl rfl rfl (OpP.mvA rfl) ?_)) <;> (try (refine Run.p rfl rfl rfl (OpP.lenStr rfl rfl) ?_)) <;> (try (refine Run.p rfl rfl rfl (OpP.gtt rfl rfl rfl) ?_)) <;> (try (refine Run.p rfl rfl rfl (OpP.mvA rfl) ?_)) <;> (try (refine Run.sk rfl rfl rfl ?_)) <;> (try (refine Run.sk rfl rfl rfl ?_)) <;> (try (refine Run.sk rfl rfl rfl ?_)) <;> (try (refine Run.p rfl rfl rfl (OpP.pickA rfl rfl) ?_)) <;> (try (refine Run.p rfl rfl rfl (OpP.asA rfl) ?_)) <;> (try refine Run.fin rfl ?_)) | (refine AW.region (id := 2) ?_ <;> (try (refine Run.p rfl rfl rfl (OpP.mvA rfl) ?_)) <;> (try (refine Run.p rfl rfl rfl (OpP.asA rfl) ?_)) <;> (try refine Run.fin rfl ?_)) | (refine AW.region (id := 3) ?_ <;> (try (refine Run.p rfl rfl rfl (OpP.mvA rfl) ?_)) <;> (try refine Run.fin rfl ?_)) | (refine AW.region (id := 5) ?_ <;> (try (refine Run.p rfl rfl rfl (OpP.mvA rfl) ?_)) <;> (try (refine Run.p rfl rfl rfl (OpP.seq rfl rfl rfl) ?_)) <;> (try (refine Run.p rfl rfl rfl (OpP.mvA rfl) ?_)) <;> (try (refine Run.sk rfl rfl rfl ?_)) <;> (try (refine Run.sk rfl rfl rfl ?_)) <;> (try (refine Run.sk rfl rfl rfl ?_)) <;> (try (refine Run.sk rfl rfl rfl ?_)) <;> (try (refine Run.sk rfl rfl rfl ?_)) <;> (try (refine Run.sk rfl rfl rfl ?_)) <;> (try (refine Run.sk rfl rfl rfl ?_)) <;> (try (refine Run.sk rfl rfl rfl ?_)) <;> (try (refine Run.sk rfl rfl rfl ?_)) <;> (try (refine Run.sk rfl rfl rfl ?_)) <;> (try (refine Run.sk rfl rfl rfl ?_)) <;> (try (refine Run.p rfl rfl rfl (OpP.pickA rfl rfl) ?_)) <;> (try refine Run.fin rfl ?_)) | (refine AW.region (id := 6) ?_ <;> (try (refine Run.p rfl rfl rfl (OpP.asA rfl) ?_)) <;> (try (refine Run.p rfl rfl rfl (OpP.asA rfl) ?_)) <;> (try refine Run.fin rfl ?_)))))
  all_goals subst he
  ((first | refine RetOk.tup rfl rfl ?_ | refine RetOk.one rfl ?_) <;> (repeat' (first | exact Cv.nil | exact Cv.rowf rfl rfl | exact RetC.nil | exact CvL.refl _ | exact Cv.refl | refine RetC.tmp (by (conv => lhs; whnf) <;> rfl) ?_ ?_ | refine RetC.cell1 rfl rfl rfl rfl ?_ ?_ | refine RetC.cellN rfl rfl rfl (by repeat constructor) ?_ ?_ | refine Cv.rowE rfl rfl ?_ | exact Cv.full | exact CvL.nil | refine CvL.cons ?_ ?_)))
theorem Number_m (c : UInt8) (hs : ([c]).length ≤ 1099511627776) (hc0 : (c.toNat : Int) = 45) : ACalls Tryd.prog 54 [.v (.string (bs ([c])))] [] (.tup [.v (.int .i64 (numberP ([c])).1), .v (.int .i64 (numberP ([c])).2)]) [] := by
  generalize he : numberP ([c]) = r
  have hF : [c][(0 : Int).toNat]? = some c := rfl
  have hF2 : (!decide (List.drop (Int.toNat 1) [c] = [])) = true → (List.drop (Int.toNat 1) [c])[(0 : Int).toNat]? = some 0 := by simp
  simp only [numberP, if_pos hc0, numD] at he
  refine (ACalls.of (fn := Tryd.f54) Tryd.func54 rfl rfl Tryd.ntmps54 (fun I M w own => ?_))
  (repeat' (first | refine AW.seq_k (fun K hK => ?_) | (refine hK _ ?_; clear hK) | (refine AW.condD rfl (fun hc => ?_) (fun hc => ?_) <;> try (first | (exfalso; omega) | (cases hc; done))) | (refine AW.cond rfl (fun hc => ?_) (fun hc => ?_) <;> (try simp only [Bool.and_eq_true, Bool.or_eq_true, Bool.not_eq_true', Bool.not_eq_false', Bool.and_eq_false_iff, Bool.or_eq_false_iff, Bool.and_eq_false_imp, decide_eq_true_eq, decide_eq_false_iff_not, Decidable.not_not, Int.not_lt, Int.not_le, ne_eq, Bool.not_not] at hc) <;> try (first | (exfalso; omega) | (cases hc; done))) | refine AW.ret ?_ | (first | (refine AW.region (id := 0) ?_ <;> (try (refine Run.p rfl rfl rfl (OpP.asA rfl) ?_)) <;> (try (refine Run.p rfl rfl rfl (OpP.asA rfl) ?_)) <;> (try refine Run.fin rfl ?_)) | (refine AW.region (id := 1) ?_ <;> (try (refine Run.p rfl rfl rfl (OpP.mvA rfl) ?_)) <;> (try (refine Run.p rfl rfl rfl (OpP.lenStr rfl rfl) ?_)) <;> (try (refine Run.p rfl rfl rfl (OpP.gtt rfl rfl rfl) ?_)) <;> (try (refine Run.p rfl rfl rfl (OpP.mvA rfl) ?_)) <;> (try (refine Run.p rfl rfl rfl (OpP.mvA rfl) ?_)) <;> (try (refine Run.p rfl rfl rfl (OpP.indexStrA rfl rfl rfl) ?_)) <;> (try (refine Run.p rfl rfl rfl (OpP.eq rfl rfl rfl) ?_)) <;> (try (refine Run.p rfl rfl rfl (OpP.pickA rfl rfl) ?_)) <;> (try (refine Run.p rfl rfl rfl (OpP.asA rfl) ?_)) <;> (try refine Run.fin rfl ?_)) | (refine AW.region (id := 2) ?_ <;> (try (refine Run.p rfl rfl rfl (OpP.mvA rfl) ?_)) <;> (try (refine Run.p rfl rfl rfl (OpP.asA rfl) ?_)) <;> (try refine Run.fin rfl ?_)) | (refine AW.region (id := 3) ?_ <;> (try (refine Run.p rfl rfl rfl (OpP.mvA rfl) ?_)) <;> (try refine Run.fin rfl ?_)) | (refine AW.region (id := 4) ?_ <;> (try (refine Run.p rfl rfl rfl (OpP.mvA rfl) ?_)) <;> (try (refine Run.p rfl rfl rfl (OpP.sliceStrLA rfl rfl rfl rfl) ?_)) <;> (try (refine Run.p rfl rfl rfl (OpP.asA rfl) ?_)) <;> (try refine Run.fin rfl ?_)) | (refine AW.region (id := 5) ?_ <;> (try (refine Run.p rfl rfl rfl (OpP.mvA rfl) ?_)) <;> (try (refine Run.p rfl rfl rfl (OpP.seq rfl rfl rfl) ?_)) <;> (try (refine Run.p rfl rfl rfl (OpP.mvA rfl) ?_)) <;> (try (refine Run.sk rfl rfl rfl ?_)) <;> (try (refine Run.sk rfl rfl rfl ?_)) <;> (try (refine Run.sk rfl rfl rfl ?_)) <;> (try (refine Run.sk rfl rfl rfl ?_)) <;> (try (refine Run.sk rfl rfl rfl ?_)) <;> (try (refine Run.sk rfl rfl rfl ?_)) <;> (try (refine Run.sk rfl rfl rfl ?_)) <;> (try (refine Run.sk rfl rfl rfl ?_)) <;> (try (refine Run.sk rfl rfl rfl ?_)) <;> (try (refine Run.sk rfl rfl rfl ?_)) <;> (try (refine Run.sk rfl rfl rfl ?_)) <;> (try (refine Run.p rfl rfl rfl (OpP.pickA rfl rfl) ?_)) <;> (try refine Run.fin rfl ?_)) | (refine AW.region (id := 6) ?_ <;> (try (refine Run.p rfl rfl rfl (OpP.asA rfl) ?_)) <;> (try (refine Run.p rfl rfl rfl (OpP.asA rfl) ?_)) <;> (try refine Run.fin rfl ?_)))))
  subst he
  ((first | refine RetOk.tup rfl rfl ?_ | refine RetOk.one rfl ?_) <;> (repeat' (first | exact Cv.nil | exact Cv.rowf rfl rfl | exact RetC.nil | exact CvL.refl _ | exact Cv.refl | refine RetC.tmp (by (conv => lhs; whnf) <;> rfl) ?_ ?_ | refine RetC.cell1 rfl rfl rfl rfl ?_ ?_ | refine RetC.cellN rfl rfl rfl (by repeat constructor) ?_ ?_ | refine Cv.rowE rfl rfl ?_ | exact Cv.full | exact CvL.nil | refine CvL.cons ?_ ?_)))
theorem Number_n (c e : UInt8) (t : List UInt8) (hs : (c :: e :: t).length ≤ 1099511627776) (hc0 : (c.toNat : Int) = 45) : ACalls Tryd.prog 54 [.v (.string (bs (c :: e :: t)))] [] (.tup [.v (.int .i64 (numberP (c :: e :: t)).1), .v (.int .i64 (numberP (c :: e :: t)).2)]) [] := by
  generalize he : numberP (c :: e :: t) = r
  have hF : (c :: e :: t)[(0 : Int).toNat]? = some c := rfl
  have hF2 : (List.drop (Int.toNat 1) (c :: e :: t))[(0 : Int).toNat]? = some e := rfl
  have hL : (c :: e :: t).length = t.length + 2 := rfl
  have hL2 : (e :: t).length = t.length + 1 := rfl
  simp only [numberP, if_pos hc0, numD] at he
  refine (ACalls.of (fn := Tryd.f54) Tryd.func54 rfl rfl Tryd.ntmps54 (fun I M w own => ?_))
  (repeat' (first | refine AW.seq_k (fun K hK => ?_) | (refine hK _ ?_; clear hK) | (refine AW.cond rfl (fun hc => ?_) (fun hc => ?_) <;> (try simp only [Bool.and_eq_true, Bool.or_eq_true, Bool.not_eq_true', Bool.not_eq_false', Bool.and_eq_false_iff, Bool.or_eq_false_iff, Bool.and_eq_false_imp, decide_eq_true_eq, decide_eq_false_iff_not, Decidable.not_not, Int.not_lt, Int.not_le, ne_eq, Bool.not_not] at hc) <;> try (first | (exfalso; omega) | (cases hc; done))) | refine AW.block ?_ | refine AW.ret ?_ | refine AW.skip ?_ | (first | (refine AW.region (id := 0) ?_ <;> (try (refine Run.p rfl rfl rfl (OpP.asA rfl) ?_)) <;> (try (refine Run.p rfl rfl rfl (OpP.asA rfl) ?_)) <;> (try refine Run.fin rfl ?_)) | (refine AW.region (id := 1) ?_ <;> (try (refine Run.p rfl rfl rfl (OpP.mvA rfl) ?_)) <;> (try (refine Run.p rfl rfl rfl (OpP.lenStr rfl rfl) ?_)) <;> (try (refine Run.p rfl rfl rfl (OpP.gtt rfl rfl rfl) ?_)) <;> (try (refine Run.p rfl rfl rfl (OpP.mvA rfl) ?_)) <;> (try (refine Run.gpc (by first | exact Gd.t rfl rfl rfl rfl | exact Gd.t2 rfl rfl rfl rfl) rfl rfl (fun hg => ⟨OpP.mvA rfl, (by repeat (first | exact trivial | assumption | refine ⟨?_, ?_⟩))⟩) ?_)) <;> (try (refine Run.gpc (by first | exact Gd.t rfl rfl rfl rfl | exact Gd.t2 rfl rfl rfl rfl) rfl rfl (fun hg => ⟨OpP.indexStrA rfl rfl rfl, (by repeat (first | exact trivial | assumption | refine ⟨?_, ?_⟩))⟩) ?_)) <;> (try (refine Run.gpc (by first | exact Gd.t rfl rfl rfl rfl | exact Gd.t2 rfl rfl rfl rfl) rfl rfl (fun hg => ⟨OpP.eq rfl rfl rfl, (by repeat (first | exact trivial | assumption | refine ⟨?_, ?_⟩))⟩) ?_)) <;> (try (refine Run.p rfl rfl rfl (OpP.pickAnd rfl rfl rfl rfl) ?_)) <;> (try (refine Run.p rfl rfl rfl (OpP.asA rfl) ?_)) <;> (try refine Run.fin rfl ?_)) | (refine AW.region (id := 2) ?_ <;> (try (refine Run.p rfl rfl rfl (OpP.mvA rfl) ?_)) <;> (try (refine Run.p rfl rfl rfl (OpP.asA rfl) ?_)) <;> (try refine Run.fin rfl ?_)) | (refine AW.region (id := 3) ?_ <;> (try (refine Run.p rfl rfl rfl (OpP.mvA rfl) ?_)) <;> (try refine Run.fin rfl ?_)) | (refine AW.region (id := 4) ?_ <;> (try (refine Run.p rfl rfl rfl (OpP.mvA rfl) ?_)) <;> (try (refine Run.p rfl rfl rfl (OpP.sliceStrLA rfl rfl rfl rfl) ?_)) <;> (try (refine Run.p rfl rfl rfl (OpP.asA rfl) ?_)) <;> (try refine Run.fin rfl ?_)) | (refine AW.region (id := 5) ?_ <;> (try (refine Run.p rfl rfl rfl (OpP.mvA rfl) ?_)) <;> (try (refine Run.p rfl rfl rfl (OpP.seq rfl rfl rfl) ?_)) <;> (try (refine Run.p rfl rfl rfl (OpP.mvA rfl) ?_)) <;> (try (refine Run.p rfl rfl rfl (OpP.mvA rfl) ?_)) <;> (try (refine Run.p rfl rfl rfl (OpP.indexStrA rfl rfl rfl) ?_)) <;> (try (refine Run.p rfl rfl rfl (OpP.eq rfl rfl rfl) ?_)) <;> (try (refine Run.p rfl rfl rfl (OpP.mvA rfl) ?_)) <;> (try (refine Run.gpc (by first | exact Gd.t rfl rfl rfl rfl | exact Gd.t2 rfl rfl rfl rfl) rfl rfl (fun hg => ⟨OpP.mvA rfl, (by repeat (first | exact trivial | assumption | refine ⟨?_, ?_⟩))⟩) ?_)) <;> (try (refine Run.gpc (by first | exact Gd.t rfl rfl rfl rfl | exact Gd.t2 rfl rfl rfl rfl) rfl rfl (fun hg => ⟨OpP.lenStr rfl rfl, (by repeat (first | exact trivial | assumption | refine ⟨?_, ?_⟩))⟩) ?_)) <;> (try (refine Run.gpc (by first | exact Gd.t rfl rfl rfl rfl | exact Gd.t2 rfl rfl rfl rfl) rfl rfl (fun hg => ⟨OpP.gtt rfl rfl rfl, (by repeat (first | exact trivial | assumption | refine ⟨?_, ?_⟩))⟩) ?_)) <;> (try (refine Run.gpc (by first | exact Gd.t rfl rfl rfl rfl | exact Gd.t2 rfl rfl rfl rfl) rfl rfl (fun hg => ⟨OpP.mvA rfl, (by repeat (first | exact trivial | assumption | refine ⟨?_, ?_⟩))⟩) ?_)) <;> (try (refine Run.gpc (by first | exact Gd.f rfl rfl rfl rfl | exact Gd.f2 rfl rfl rfl rfl) rfl rfl (fun hg => ⟨OpP.mvA rfl, (by repeat (first | exact trivial | assumption | refine ⟨?_, ?_⟩))⟩) ?_)) <;> (try (refine Run.gpickO (by first | exact Gd.t rfl rfl rfl rfl | exact Gd.t2 rfl rfl rfl rfl) rfl rfl rfl rfl rfl rfl ?_)) <;> (try (refine Run.p rfl rfl rfl (OpP.pickAnd rfl rfl rfl rfl) ?_)) <;> (try (refine Run.p rfl rfl rfl (OpP.pickA rfl rfl) ?_)) <;> (try refine Run.fin rfl ?_)) | (refine AW.region (id := 6) ?_ <;> (try (refine Run.p rfl rfl rfl (OpP.asA rfl) ?_)) <;> (try (refine Run.p rfl rfl rfl (OpP.asA rfl) ?_)) <;> (try refine Run.fin rfl ?_)) | (refine AW.region (id := 7) ?_ <;> (try (refine Run.p rfl rfl rfl (OpP.asA rfl) ?_)) <;> (try refine Run.fin rfl ?_)) | (refine AW.region (id := 8) ?_ <;> (try (refine Run.p rfl rfl rfl (OpP.mvA rfl) ?_)) <;> (try (refine Run.p rfl rfl rfl (OpP.lenStr rfl rfl) ?_)) <;> (try (refine Run.p rfl rfl rfl (OpP.mvA rfl) ?_)) <;> (try refine Run.fin rfl ?_)))))
  · rw [if_pos (by simp [hc.1])] at he
    subst he
    ((first | refine RetOk.tup rfl rfl ?_ | refine RetOk.one rfl ?_) <;> (repeat' (first | exact Cv.nil | exact Cv.rowf rfl rfl | exact RetC.nil | exact CvL.refl _ | exact Cv.refl | refine RetC.tmp (by (conv => lhs; whnf) <;> rfl) ?_ ?_ | refine RetC.cell1 rfl rfl rfl rfl ?_ ?_ | refine RetC.cellN rfl rfl rfl (by repeat constructor) ?_ ?_ | refine Cv.rowE rfl rfl ?_ | exact Cv.full | exact CvL.nil | refine CvL.cons ?_ ?_)))
  · rw [if_neg (by simp at hc ⊢; omega)] at he
    refine AW.loopF (X := Nat × Int) (fun x => ⟨[(4, .v (.bool true)), (5, .v (.string (bs (e :: t)))), (6, .v (.int .i64 x.2)), (36, .v (.int .i64 (((e :: t)).length : Int))), (37, .v (.int .i64 (x.1 : Int)))], []⟩) (fun x => x.1 ≤ ((e :: t)).length ∧ dig (e :: t) 0 = dig (((e :: t)).drop x.1) x.2 ∧ 0 ≤ x.2 ∧ x.2 ≤ 90071992547409929) (fun x => ((e :: t)).length - x.1) (0, 0) ?_ ?_ ?_
    · refine Conv.mk [] rfl rfl rfl ?_ rfl ?_
      (repeat' (first | exact Cf.nil | exact Cv.refl | exact CvL.refl _ | exact Cv.rowf rfl rfl | exact Crs.nil | refine Cf.cons' (by (conv => lhs; whnf) <;> rfl) ?_ ?_ | refine Crs.cons ?_ rfl ?_ | exact Cr.no | refine Cr.row ?_ | refine Cr.box ?_ | exact Cv.nil | exact Cv.full | exact CvL.nil | refine CvL.cons ?_ ?_))
      (all_goals (try (first | refine CvL.eq ?_ | refine Cv.eq ?_)))
      all_goals (simp [AV.ren]; try omega)
    · simp
    · rintro ⟨i, n⟩ ⟨h1, h2, h3, h4⟩
      simp only at h1 h2 h3 h4 ⊢
      rcases Nat.lt_or_ge i ((e :: t)).length with h | h
      · obtain ⟨x, hx⟩ : ∃ x, ((e :: t))[i] = x := ⟨_, rfl⟩
        have hG : ((e :: t))[(i : Int).toNat]? = some x := by rw [Int.toNat_natCast, List.getElem?_eq_getElem h, hx]
        have hd : ((e :: t)).drop i = x :: ((e :: t)).drop (i + 1) := by rw [List.drop_eq_getElem_cons h, hx]
        have hdg : dig (x :: ((e :: t)).drop (i + 1)) n = if 48 ≤ (x.toNat : Int) ∧ (x.toNat : Int) ≤ 57 then dig (((e :: t)).drop (i + 1)) (if n ≤ 9007199254740992 then 10 * n + ((x.toNat : Int) - 48) else n) else none := rfl
        rw [hd, hdg] at h2
        (repeat' (first | refine AW.seq_k (fun K hK => ?_) | (refine hK _ ?_; clear hK) | (refine AW.condD rfl (fun hc => ?_) (fun hc => ?_) <;> try (first | (exfalso; omega) | (cases hc; done))) | (refine AW.cond rfl (fun hc => ?_) (fun hc => ?_) <;> (try simp only [Bool.and_eq_true, Bool.or_eq_true, Bool.not_eq_true', Bool.not_eq_false', Bool.and_eq_false_iff, Bool.or_eq_false_iff, Bool.and_eq_false_imp, decide_eq_true_eq, decide_eq_false_iff_not, Decidable.not_not, Int.not_lt, Int.not_le, ne_eq, Bool.not_not] at hc) <;> try (first | (exfalso; omega) | (cases hc; done))) | refine AW.block ?_ | refine AW.ret ?_ | refine AW.skip ?_ | (first | (refine AW.region (id := 9) ?_ <;> (try (refine Run.p rfl rfl rfl (OpP.ltt rfl rfl rfl) ?_)) <;> (try refine Run.fin rfl ?_)) | (refine AW.region (id := 10) ?_ <;> (try (refine Run.p rfl rfl rfl (OpP.mvA rfl) ?_)) <;> (try (refine Run.p rfl rfl rfl (OpP.asA rfl) ?_)) <;> (try refine Run.fin rfl ?_)) | (refine AW.region (id := 11) ?_ <;> (try (refine Run.p rfl rfl rfl (OpP.mvA rfl) ?_)) <;> (try (refine Run.p rfl rfl rfl (OpP.mvA rfl) ?_)) <;> (try (refine Run.p rfl rfl rfl (OpP.indexStrA rfl rfl rfl) ?_)) <;> (try (refine Run.p rfl rfl rfl (OpP.ltt rfl rfl rfl) ?_)) <;> (try (refine Run.p rfl rfl rfl (OpP.mvA rfl) ?_)) <;> (try (refine Run.gpc (by first | exact Gd.f rfl rfl rfl rfl | exact Gd.f2 rfl rfl rfl rfl) rfl rfl (fun hg => ⟨OpP.mvA rfl, (by repeat (first | exact trivial | assumption | refine ⟨?_, ?_⟩))⟩) ?_)) <;> (try (refine Run.gpc (by first | exact Gd.f rfl rfl rfl rfl | exact Gd.f2 rfl rfl rfl rfl) rfl rfl (fun hg => ⟨OpP.mvA rfl, (by repeat (first | exact trivial | assumption | refine ⟨?_, ?_⟩))⟩) ?_)) <;> (try (refine Run.gpc (by first | exact Gd.f rfl rfl rfl rfl | exact Gd.f2 rfl rfl rfl rfl) rfl rfl (fun hg => ⟨OpP.indexStrA rfl rfl rfl, (by repeat (first | exact trivial | assumption | refine ⟨?_, ?_⟩))⟩) ?_)) <;> (try (refine Run.gpc (by first | exact Gd.f rfl rfl rfl rfl | exact Gd.f2 rfl rfl rfl rfl) rfl rfl (fun hg => ⟨OpP.gtt rfl rfl rfl, (by repeat (first | exact trivial | assumption | refine ⟨?_, ?_⟩))⟩) ?_)) <;> (try (refine Run.p rfl rfl rfl (OpP.pickOr rfl rfl rfl rfl) ?_)) <;> (try refine Run.fin rfl ?_)) | (refine AW.region (id := 12) ?_ <;> (try (refine Run.p rfl rfl rfl (OpP.asA rfl) ?_)) <;> (try (refine Run.p rfl rfl rfl (OpP.asA rfl) ?_)) <;> (try refine Run.fin rfl ?_)) | (refine AW.region (id := 13) ?_ <;> (try (refine Run.p rfl rfl rfl (OpP.mvA rfl) ?_)) <;> (try (refine Run.p rfl rfl rfl (OpP.lee rfl rfl rfl) ?_)) <;> (try refine Run.fin rfl ?_)) | (refine AW.region (id := 14) ?_ <;> (try (refine Run.p rfl rfl rfl (OpP.mvA rfl) ?_)) <;> (try (refine Run.p rfl rfl rfl (OpP.mulA rfl rfl rfl) ?_)) <;> (try (refine Run.p rfl rfl rfl (OpP.mvA rfl) ?_)) <;> (try (refine Run.p rfl rfl rfl (OpP.mvA rfl) ?_)) <;> (try (refine Run.p rfl rfl rfl (OpP.indexStrA rfl rfl rfl) ?_)) <;> (try (refine Run.p rfl rfl rfl (OpP.subA rfl rfl rfl) ?_)) <;> (try (refine Run.p rfl rfl rfl (OpP.convA rfl rfl) ?_)) <;> (try (refine Run.p rfl rfl rfl (OpP.addA rfl rfl rfl) ?_)) <;> (try (refine Run.p rfl rfl rfl (OpP.asA rfl) ?_)) <;> (try refine Run.fin rfl ?_)) | (refine AW.region (id := 15) ?_ <;> (try (refine Run.p rfl rfl rfl (OpP.addA rfl rfl rfl) ?_)) <;> (try (refine Run.p rfl rfl rfl (OpP.mvA rfl) ?_)) <;> (try refine Run.fin rfl ?_)))))
        · rw [h2, if_neg (by omega)] at he
          subst he
          ((first | refine RetOk.tup rfl rfl ?_ | refine RetOk.one rfl ?_) <;> (repeat' (first | exact Cv.nil | exact Cv.rowf rfl rfl | exact RetC.nil | exact CvL.refl _ | exact Cv.refl | refine RetC.tmp (by (conv => lhs; whnf) <;> rfl) ?_ ?_ | refine RetC.cell1 rfl rfl rfl rfl ?_ ?_ | refine RetC.cellN rfl rfl rfl (by repeat constructor) ?_ ?_ | refine Cv.rowE rfl rfl ?_ | exact Cv.full | exact CvL.nil | refine CvL.cons ?_ ?_)))
        · ((repeat (with_reducible refine inB_n ?_)); refine thenA_n ?_)
          refine ⟨(i + 1, 10 * n + ((x.toNat : Int) - 48)), ⟨h, ?_, by simp only; omega, by simp only; omega⟩, by simp only; omega, ?_⟩
          · rw [h2, if_pos (by omega), if_pos (by omega)]
          · refine Conv.mk [] rfl rfl rfl ?_ rfl ?_
            (repeat' (first | exact Cf.nil | exact Cv.refl | exact CvL.refl _ | exact Cv.rowf rfl rfl | exact Crs.nil | refine Cf.cons' (by (conv => lhs; whnf) <;> rfl) ?_ ?_ | refine Crs.cons ?_ rfl ?_ | exact Cr.no | refine Cr.row ?_ | refine Cr.box ?_ | exact Cv.nil | exact Cv.full | exact CvL.nil | refine CvL.cons ?_ ?_))
            (all_goals (try (first | refine CvL.eq ?_ | refine Cv.eq ?_)))
            all_goals simp [AV.ren]
        · ((repeat (with_reducible refine inB_n ?_)); refine thenA_n ?_)
          refine ⟨(i + 1, n), ⟨h, ?_, h3, h4⟩, by simp only; omega, ?_⟩
          · rw [h2, if_pos (by omega), if_neg (by omega)]
          · refine Conv.mk [] rfl rfl rfl ?_ rfl ?_
            (repeat' (first | exact Cf.nil | exact Cv.refl | exact CvL.refl _ | exact Cv.rowf rfl rfl | exact Crs.nil | refine Cf.cons' (by (conv => lhs; whnf) <;> rfl) ?_ ?_ | refine Crs.cons ?_ rfl ?_ | exact Cr.no | refine Cr.row ?_ | refine Cr.box ?_ | exact Cv.nil | exact Cv.full | exact CvL.nil | refine CvL.cons ?_ ?_))
            (all_goals (try (first | refine CvL.eq ?_ | refine Cv.eq ?_)))
            all_goals simp [AV.ren]
      · have hdg : dig [] n = some n := rfl
        rw [List.drop_eq_nil_of_le h, hdg] at h2
        rw [h2] at he
        (repeat' (first | refine AW.seq_k (fun K hK => ?_) | (refine hK _ ?_; clear hK) | (refine AW.condD rfl (fun hc => ?_) (fun hc => ?_) <;> try (first | (exfalso; omega) | (cases hc; done))) | (refine AW.cond rfl (fun hc => ?_) (fun hc => ?_) <;> (try simp only [Bool.and_eq_true, Bool.or_eq_true, Bool.not_eq_true', Bool.not_eq_false', Bool.and_eq_false_iff, Bool.or_eq_false_iff, Bool.and_eq_false_imp, decide_eq_true_eq, decide_eq_false_iff_not, Decidable.not_not, Int.not_lt, Int.not_le, ne_eq, Bool.not_not] at hc) <;> try (first | (exfalso; omega) | (cases hc; done))) | refine AW.exit ?_ | refine AW.ret ?_ | refine AW.skip ?_ | (clear hK; refine hK _ ?_; clear hK) | (first | (refine AW.region (id := 9) ?_ <;> (try (refine Run.p rfl rfl rfl (OpP.ltt rfl rfl rfl) ?_)) <;> (try refine Run.fin rfl ?_)) | (refine AW.region (id := 16) ?_ <;> (try (refine Run.p rfl rfl rfl (OpP.mvA rfl) ?_)) <;> (try (refine Run.p rfl rfl rfl (OpP.gtt rfl rfl rfl) ?_)) <;> (try refine Run.fin rfl ?_)) | (refine AW.region (id := 17) ?_ <;> (try (refine Run.p rfl rfl rfl (OpP.asA rfl) ?_)) <;> (try (refine Run.p rfl rfl rfl (OpP.asA rfl) ?_)) <;> (try refine Run.fin rfl ?_)) | (refine AW.region (id := 18) ?_ <;> (try (refine Run.p rfl rfl rfl (OpP.mvA rfl) ?_)) <;> (try refine Run.fin rfl ?_)) | (refine AW.region (id := 19) ?_ <;> (try (refine Run.p rfl rfl rfl (OpP.mvA rfl) ?_)) <;> (try (refine Run.p rfl rfl rfl (OpP.negA rfl rfl) ?_)) <;> (try (refine Run.p rfl rfl rfl (OpP.asA rfl) ?_)) <;> (try refine Run.fin rfl ?_)) | (refine AW.region (id := 20) ?_ <;> (try (refine Run.p rfl rfl rfl (OpP.mvA rfl) ?_)) <;> (try (refine Run.p rfl rfl rfl (OpP.asA rfl) ?_)) <;> (try (refine Run.p rfl rfl rfl (OpP.asA rfl) ?_)) <;> (try refine Run.fin rfl ?_)))))
        · simp only [if_pos (show 9007199254740992 < n by assumption)] at he
          subst he
          ((first | refine RetOk.tup rfl rfl ?_ | refine RetOk.one rfl ?_) <;> (repeat' (first | exact Cv.nil | exact Cv.rowf rfl rfl | exact RetC.nil | exact CvL.refl _ | exact Cv.refl | refine RetC.tmp (by (conv => lhs; whnf) <;> rfl) ?_ ?_ | refine RetC.cell1 rfl rfl rfl rfl ?_ ?_ | refine RetC.cellN rfl rfl rfl (by repeat constructor) ?_ ?_ | refine Cv.rowE rfl rfl ?_ | exact Cv.full | exact CvL.nil | refine CvL.cons ?_ ?_)))
        · simp only [if_neg (show ¬ 9007199254740992 < n by assumption)] at he
          subst he
          ((first | refine RetOk.tup rfl rfl ?_ | refine RetOk.one rfl ?_) <;> (repeat' (first | exact Cv.nil | exact Cv.rowf rfl rfl | exact RetC.nil | exact CvL.refl _ | exact Cv.refl | refine RetC.tmp (by (conv => lhs; whnf) <;> rfl) ?_ ?_ | refine RetC.cell1 rfl rfl rfl rfl ?_ ?_ | refine RetC.cellN rfl rfl rfl (by repeat constructor) ?_ ?_ | refine Cv.rowE rfl rfl ?_ | exact Cv.full | exact CvL.nil | refine CvL.cons ?_ ?_)))
theorem Number_p (c : UInt8) (t : List UInt8) (hs : (c :: t).length ≤ 1099511627776) (hc0 : ¬ (c.toNat : Int) = 45) : ACalls Tryd.prog 54 [.v (.string (bs (c :: t)))] [] (.tup [.v (.int .i64 (numberP (c :: t)).1), .v (.int .i64 (numberP (c :: t)).2)]) [] := by
  generalize he : numberP (c :: t) = r
  have hF : (c :: t)[(0 : Int).toNat]? = some c := rfl
  have hL : (c :: t).length = t.length + 1 := rfl
  simp only [numberP, if_neg hc0, numD] at he
  refine (ACalls.of (fn := Tryd.f54) Tryd.func54 rfl rfl Tryd.ntmps54 (fun I M w own => ?_))
  (repeat' (first | refine AW.seq_k (fun K hK => ?_) | (refine hK _ ?_; clear hK) | (refine AW.cond rfl (fun hc => ?_) (fun hc => ?_) <;> (try simp only [Bool.and_eq_true, Bool.or_eq_true, Bool.not_eq_true', Bool.not_eq_false', Bool.and_eq_false_iff, Bool.or_eq_false_iff, Bool.and_eq_false_imp, decide_eq_true_eq, decide_eq_false_iff_not, Decidable.not_not, Int.not_lt, Int.not_le, ne_eq, Bool.not_not] at hc) <;> try (first | (exfalso; omega) | (cases hc; done))) | refine AW.block ?_ | refine AW.ret ?_ | refine AW.skip ?_ | (first | (refine AW.region (id := 0) ?_ <;> (try (refine Run.p rfl rfl rfl (OpP.asA rfl) ?_)) <;> (try (refine Run.p rfl rfl rfl (OpP.asA rfl) ?_)) <;> (try refine Run.fin rfl ?_)) | (refine AW.region (id := 1) ?_ <;> (try (refine Run.p rfl rfl rfl (OpP.mvA rfl) ?_)) <;> (try (refine Run.p rfl rfl rfl (OpP.lenStr rfl rfl) ?_)) <;> (try (refine Run.p rfl rfl rfl (OpP.gtt rfl rfl rfl) ?_)) <;> (try (refine Run.p rfl rfl rfl (OpP.mvA rfl) ?_)) <;> (try (refine Run.gpc (by first | exact Gd.t rfl rfl rfl rfl | exact Gd.t2 rfl rfl rfl rfl) rfl rfl (fun hg => ⟨OpP.mvA rfl, (by repeat (first | exact trivial | assumption | refine ⟨?_, ?_⟩))⟩) ?_)) <;> (try (refine Run.gpc (by first | exact Gd.t rfl rfl rfl rfl | exact Gd.t2 rfl rfl rfl rfl) rfl rfl (fun hg => ⟨OpP.indexStrA rfl rfl rfl, (by repeat (first | exact trivial | assumption | refine ⟨?_, ?_⟩))⟩) ?_)) <;> (try (refine Run.gpc (by first | exact Gd.t rfl rfl rfl rfl | exact Gd.t2 rfl rfl rfl rfl) rfl rfl (fun hg => ⟨OpP.eq rfl rfl rfl, (by repeat (first | exact trivial | assumption | refine ⟨?_, ?_⟩))⟩) ?_)) <;> (try (refine Run.p rfl rfl rfl (OpP.pickAnd rfl rfl rfl rfl) ?_)) <;> (try (refine Run.p rfl rfl rfl (OpP.asA rfl) ?_)) <;> (try refine Run.fin rfl ?_)) | (refine AW.region (id := 2) ?_ <;> (try (refine Run.p rfl rfl rfl (OpP.mvA rfl) ?_)) <;> (try (refine Run.p rfl rfl rfl (OpP.asA rfl) ?_)) <;> (try refine Run.fin rfl ?_)) | (refine AW.region (id := 3) ?_ <;> (try (refine Run.p rfl rfl rfl (OpP.mvA rfl) ?_)) <;> (try refine Run.fin rfl ?_)) | (refine AW.region (id := 5) ?_ <;> (try (refine Run.p rfl rfl rfl (OpP.mvA rfl) ?_)) <;> (try (refine Run.p rfl rfl rfl (OpP.seq rfl rfl rfl) ?_)) <;> (try (refine Run.p rfl rfl rfl (OpP.mvA rfl) ?_)) <;> (try (refine Run.p rfl rfl rfl (OpP.mvA rfl) ?_)) <;> (try (refine Run.p rfl rfl rfl (OpP.indexStrA rfl rfl rfl) ?_)) <;> (try (refine Run.p rfl rfl rfl (OpP.eq rfl rfl rfl) ?_)) <;> (try (refine Run.p rfl rfl rfl (OpP.mvA rfl) ?_)) <;> (try (refine Run.gpc (by first | exact Gd.t rfl rfl rfl rfl | exact Gd.t2 rfl rfl rfl rfl) rfl rfl (fun hg => ⟨OpP.mvA rfl, (by repeat (first | exact trivial | assumption | refine ⟨?_, ?_⟩))⟩) ?_)) <;> (try (refine Run.gpc (by first | exact Gd.t rfl rfl rfl rfl | exact Gd.t2 rfl rfl rfl rfl) rfl rfl (fun hg => ⟨OpP.lenStr rfl rfl, (by repeat (first | exact trivial | assumption | refine ⟨?_, ?_⟩))⟩) ?_)) <;> (try (refine Run.gpc (by first | exact Gd.t rfl rfl rfl rfl | exact Gd.t2 rfl rfl rfl rfl) rfl rfl (fun hg => ⟨OpP.gtt rfl rfl rfl, (by repeat (first | exact trivial | assumption | refine ⟨?_, ?_⟩))⟩) ?_)) <;> (try (refine Run.gpc (by first | exact Gd.t rfl rfl rfl rfl | exact Gd.t2 rfl rfl rfl rfl) rfl rfl (fun hg => ⟨OpP.mvA rfl, (by repeat (first | exact trivial | assumption | refine ⟨?_, ?_⟩))⟩) ?_)) <;> (try (refine Run.gpc (by first | exact Gd.f rfl rfl rfl rfl | exact Gd.f2 rfl rfl rfl rfl) rfl rfl (fun hg => ⟨OpP.mvA rfl, (by repeat (first | exact trivial | assumption | refine ⟨?_, ?_⟩))⟩) ?_)) <;> (try (refine Run.gpickO (by first | exact Gd.t rfl rfl rfl rfl | exact Gd.t2 rfl rfl rfl rfl) rfl rfl rfl rfl rfl rfl ?_)) <;> (try (refine Run.p rfl rfl rfl (OpP.pickAnd rfl rfl rfl rfl) ?_)) <;> (try (refine Run.p rfl rfl rfl (OpP.pickA rfl rfl) ?_)) <;> (try refine Run.fin rfl ?_)) | (refine AW.region (id := 6) ?_ <;> (try (refine Run.p rfl rfl rfl (OpP.asA rfl) ?_)) <;> (try (refine Run.p rfl rfl rfl (OpP.asA rfl) ?_)) <;> (try refine Run.fin rfl ?_)) | (refine AW.region (id := 7) ?_ <;> (try (refine Run.p rfl rfl rfl (OpP.asA rfl) ?_)) <;> (try refine Run.fin rfl ?_)) | (refine AW.region (id := 8) ?_ <;> (try (refine Run.p rfl rfl rfl (OpP.mvA rfl) ?_)) <;> (try (refine Run.p rfl rfl rfl (OpP.lenStr rfl rfl) ?_)) <;> (try (refine Run.p rfl rfl rfl (OpP.mvA rfl) ?_)) <;> (try refine Run.fin rfl ?_)))))
  · rw [if_pos ⟨hc.1, by left; rintro rfl; simp at hc; omega⟩] at he
    subst he
    ((first | refine RetOk.tup rfl rfl ?_ | refine RetOk.one rfl ?_) <;> (repeat' (first | exact Cv.nil | exact Cv.rowf rfl rfl | exact RetC.nil | exact CvL.refl _ | exact Cv.refl | refine RetC.tmp (by (conv => lhs; whnf) <;> rfl) ?_ ?_ | refine RetC.cell1 rfl rfl rfl rfl ?_ ?_ | refine RetC.cellN rfl rfl rfl (by repeat constructor) ?_ ?_ | refine Cv.rowE rfl rfl ?_ | exact Cv.full | exact CvL.nil | refine CvL.cons ?_ ?_)))
  · rw [if_neg (by rintro ⟨q1, q2⟩; cases t <;> simp at hc q2 <;> omega)] at he
    refine AW.loopF (X := Nat × Int) (fun x => ⟨[(4, .v (.bool false)), (5, .v (.string (bs (c :: t)))), (6, .v (.int .i64 x.2)), (36, .v (.int .i64 (((c :: t)).length : Int))), (37, .v (.int .i64 (x.1 : Int)))], []⟩) (fun x => x.1 ≤ ((c :: t)).length ∧ dig (c :: t) 0 = dig (((c :: t)).drop x.1) x.2 ∧ 0 ≤ x.2 ∧ x.2 ≤ 90071992547409929) (fun x => ((c :: t)).length - x.1) (0, 0) ?_ ?_ ?_
    · refine Conv.mk [] rfl rfl rfl ?_ rfl ?_
      (repeat' (first | exact Cf.nil | exact Cv.refl | exact CvL.refl _ | exact Cv.rowf rfl rfl | exact Crs.nil | refine Cf.cons' (by (conv => lhs; whnf) <;> rfl) ?_ ?_ | refine Crs.cons ?_ rfl ?_ | exact Cr.no | refine Cr.row ?_ | refine Cr.box ?_ | exact Cv.nil | exact Cv.full | exact CvL.nil | refine CvL.cons ?_ ?_))
      (all_goals (try (first | refine CvL.eq ?_ | refine Cv.eq ?_)))
      all_goals (simp [AV.ren]; try omega)
    · simp
    · rintro ⟨i, n⟩ ⟨h1, h2, h3, h4⟩
      simp only at h1 h2 h3 h4 ⊢
      rcases Nat.lt_or_ge i ((c :: t)).length with h | h
      · obtain ⟨x, hx⟩ : ∃ x, ((c :: t))[i] = x := ⟨_, rfl⟩
        have hG : ((c :: t))[(i : Int).toNat]? = some x := by rw [Int.toNat_natCast, List.getElem?_eq_getElem h, hx]
        have hd : ((c :: t)).drop i = x :: ((c :: t)).drop (i + 1) := by rw [List.drop_eq_getElem_cons h, hx]
        have hdg : dig (x :: ((c :: t)).drop (i + 1)) n = if 48 ≤ (x.toNat : Int) ∧ (x.toNat : Int) ≤ 57 then dig (((c :: t)).drop (i + 1)) (if n ≤ 9007199254740992 then 10 * n + ((x.toNat : Int) - 48) else n) else none := rfl
        rw [hd, hdg] at h2
        (repeat' (first | refine AW.seq_k (fun K hK => ?_) | (refine hK _ ?_; clear hK) | (refine AW.condD rfl (fun hc => ?_) (fun hc => ?_) <;> try (first | (exfalso; omega) | (cases hc; done))) | (refine AW.cond rfl (fun hc => ?_) (fun hc => ?_) <;> (try simp only [Bool.and_eq_true, Bool.or_eq_true, Bool.not_eq_true', Bool.not_eq_false', Bool.and_eq_false_iff, Bool.or_eq_false_iff, Bool.and_eq_false_imp, decide_eq_true_eq, decide_eq_false_iff_not, Decidable.not_not, Int.not_lt, Int.not_le, ne_eq, Bool.not_not] at hc) <;> try (first | (exfalso; omega) | (cases hc; done))) | refine AW.block ?_ | refine AW.ret ?_ | refine AW.skip ?_ | (first | (refine AW.region (id := 9) ?_ <;> (try (refine Run.p rfl rfl rfl (OpP.ltt rfl rfl rfl) ?_)) <;> (try refine Run.fin rfl ?_)) | (refine AW.region (id := 10) ?_ <;> (try (refine Run.p rfl rfl rfl (OpP.mvA rfl) ?_)) <;> (try (refine Run.p rfl rfl rfl (OpP.asA rfl) ?_)) <;> (try refine Run.fin rfl ?_)) | (refine AW.region (id := 11) ?_ <;> (try (refine Run.p rfl rfl rfl (OpP.mvA rfl) ?_)) <;> (try (refine Run.p rfl rfl rfl (OpP.mvA rfl) ?_)) <;> (try (refine Run.p rfl rfl rfl (OpP.indexStrA rfl rfl rfl) ?_)) <;> (try (refine Run.p rfl rfl rfl (OpP.ltt rfl rfl rfl) ?_)) <;> (try (refine Run.p rfl rfl rfl (OpP.mvA rfl) ?_)) <;> (try (refine Run.gpc (by first | exact Gd.f rfl rfl rfl rfl | exact Gd.f2 rfl rfl rfl rfl) rfl rfl (fun hg => ⟨OpP.mvA rfl, (by repeat (first | exact trivial | assumption | refine ⟨?_, ?_⟩))⟩) ?_)) <;> (try (refine Run.gpc (by first | exact Gd.f rfl rfl rfl rfl | exact Gd.f2 rfl rfl rfl rfl) rfl rfl (fun hg => ⟨OpP.mvA rfl, (by repeat (first | exact trivial | assumption | refine ⟨?_, ?_⟩))⟩) ?_)) <;> (try (refine Run.gpc (by first | exact Gd.f rfl rfl rfl rfl | exact Gd.f2 rfl rfl rfl rfl) rfl rfl (fun hg => ⟨OpP.indexStrA rfl rfl rfl, (by repeat (first | exact trivial | assumption | refine ⟨?_, ?_⟩))⟩) ?_)) <;> (try (refine Run.gpc (by first | exact Gd.f rfl rfl rfl rfl | exact Gd.f2 rfl rfl rfl rfl) rfl rfl (fun hg => ⟨OpP.gtt rfl rfl rfl, (by repeat (first | exact trivial | assumption | refine ⟨?_, ?_⟩))⟩) ?_)) <;> (try (refine Run.p rfl rfl rfl (OpP.pickOr rfl rfl rfl rfl) ?_)) <;> (try refine Run.fin rfl ?_)) | (refine AW.region (id := 12) ?_ <;> (try (refine Run.p rfl rfl rfl (OpP.asA rfl) ?_)) <;> (try (refine Run.p rfl rfl rfl (OpP.asA rfl) ?_)) <;> (try refine Run.fin rfl ?_)) | (refine AW.region (id := 13) ?_ <;> (try (refine Run.p rfl rfl rfl (OpP.mvA rfl) ?_)) <;> (try (refine Run.p rfl rfl rfl (OpP.lee rfl rfl rfl) ?_)) <;> (try refine Run.fin rfl ?_)) | (refine AW.region (id := 14) ?_ <;> (try (refine Run.p rfl rfl rfl (OpP.mvA rfl) ?_)) <;> (try (refine Run.p rfl rfl rfl (OpP.mulA rfl rfl rfl) ?_)) <;> (try (refine Run.p rfl rfl rfl (OpP.mvA rfl) ?_)) <;> (try (refine Run.p rfl rfl rfl (OpP.mvA rfl) ?_)) <;> (try (refine Run.p rfl rfl rfl (OpP.indexStrA rfl rfl rfl) ?_)) <;> (try (refine Run.p rfl rfl rfl (OpP.subA rfl rfl rfl) ?_)) <;> (try (refine Run.p rfl rfl rfl (OpP.convA rfl rfl) ?_)) <;> (try (refine Run.p rfl rfl rfl (OpP.addA rfl rfl rfl) ?_)) <;> (try (refine Run.p rfl rfl rfl (OpP.asA rfl) ?_)) <;> (try refine Run.fin rfl ?_)) | (refine AW.region (id := 15) ?_ <;> (try (refine Run.p rfl rfl rfl (OpP.addA rfl rfl rfl) ?_)) <;> (try (refine Run.p rfl rfl rfl (OpP.mvA rfl) ?_)) <;> (try refine Run.fin rfl ?_)))))
        · rw [h2, if_neg (by omega)] at he
          subst he
          ((first | refine RetOk.tup rfl rfl ?_ | refine RetOk.one rfl ?_) <;> (repeat' (first | exact Cv.nil | exact Cv.rowf rfl rfl | exact RetC.nil | exact CvL.refl _ | exact Cv.refl | refine RetC.tmp (by (conv => lhs; whnf) <;> rfl) ?_ ?_ | refine RetC.cell1 rfl rfl rfl rfl ?_ ?_ | refine RetC.cellN rfl rfl rfl (by repeat constructor) ?_ ?_ | refine Cv.rowE rfl rfl ?_ | exact Cv.full | exact CvL.nil | refine CvL.cons ?_ ?_)))
        · ((repeat (with_reducible refine inB_n ?_)); refine thenA_n ?_)
          refine ⟨(i + 1, 10 * n + ((x.toNat : Int) - 48)), ⟨h, ?_, by simp only; omega, by simp only; omega⟩, by simp only; omega, ?_⟩
          · rw [h2, if_pos (by omega), if_pos (by omega)]
          · refine Conv.mk [] rfl rfl rfl ?_ rfl ?_
            (repeat' (first | exact Cf.nil | exact Cv.refl | exact CvL.refl _ | exact Cv.rowf rfl rfl | exact Crs.nil | refine Cf.cons' (by (conv => lhs; whnf) <;> rfl) ?_ ?_ | refine Crs.cons ?_ rfl ?_ | exact Cr.no | refine Cr.row ?_ | refine Cr.box ?_ | exact Cv.nil | exact Cv.full | exact CvL.nil | refine CvL.cons ?_ ?_))
            (all_goals (try (first | refine CvL.eq ?_ | refine Cv.eq ?_)))
            all_goals simp [AV.ren]
        · ((repeat (with_reducible refine inB_n ?_)); refine thenA_n ?_)
          refine ⟨(i + 1, n), ⟨h, ?_, h3, h4⟩, by simp only; omega, ?_⟩
          · rw [h2, if_pos (by omega), if_neg (by omega)]
          · refine Conv.mk [] rfl rfl rfl ?_ rfl ?_
            (repeat' (first | exact Cf.nil | exact Cv.refl | exact CvL.refl _ | exact Cv.rowf rfl rfl | exact Crs.nil | refine Cf.cons' (by (conv => lhs; whnf) <;> rfl) ?_ ?_ | refine Crs.cons ?_ rfl ?_ | exact Cr.no | refine Cr.row ?_ | refine Cr.box ?_ | exact Cv.nil | exact Cv.full | exact CvL.nil | refine CvL.cons ?_ ?_))
            (all_goals (try (first | refine CvL.eq ?_ | refine Cv.eq ?_)))
            all_goals simp [AV.ren]
      · have hdg : dig [] n = some n := rfl
        rw [List.drop_eq_nil_of_le h, hdg] at h2
        rw [h2] at he
        (repeat' (first | refine AW.seq_k (fun K hK => ?_) | (refine hK _ ?_; clear hK) | (refine AW.condD rfl (fun hc => ?_) (fun hc => ?_) <;> try (first | (exfalso; omega) | (cases hc; done))) | (refine AW.cond rfl (fun hc => ?_) (fun hc => ?_) <;> (try simp only [Bool.and_eq_true, Bool.or_eq_true, Bool.not_eq_true', Bool.not_eq_false', Bool.and_eq_false_iff, Bool.or_eq_false_iff, Bool.and_eq_false_imp, decide_eq_true_eq, decide_eq_false_iff_not, Decidable.not_not, Int.not_lt, Int.not_le, ne_eq, Bool.not_not] at hc) <;> try (first | (exfalso; omega) | (cases hc; done))) | refine AW.exit ?_ | refine AW.ret ?_ | refine AW.skip ?_ | (clear hK; refine hK _ ?_; clear hK) | (first | (refine AW.region (id := 9) ?_ <;> (try (refine Run.p rfl rfl rfl (OpP.ltt rfl rfl rfl) ?_)) <;> (try refine Run.fin rfl ?_)) | (refine AW.region (id := 16) ?_ <;> (try (refine Run.p rfl rfl rfl (OpP.mvA rfl) ?_)) <;> (try (refine Run.p rfl rfl rfl (OpP.gtt rfl rfl rfl) ?_)) <;> (try refine Run.fin rfl ?_)) | (refine AW.region (id := 17) ?_ <;> (try (refine Run.p rfl rfl rfl (OpP.asA rfl) ?_)) <;> (try (refine Run.p rfl rfl rfl (OpP.asA rfl) ?_)) <;> (try refine Run.fin rfl ?_)) | (refine AW.region (id := 18) ?_ <;> (try (refine Run.p rfl rfl rfl (OpP.mvA rfl) ?_)) <;> (try refine Run.fin rfl ?_)) | (refine AW.region (id := 20) ?_ <;> (try (refine Run.p rfl rfl rfl (OpP.mvA rfl) ?_)) <;> (try (refine Run.p rfl rfl rfl (OpP.asA rfl) ?_)) <;> (try (refine Run.p rfl rfl rfl (OpP.asA rfl) ?_)) <;> (try refine Run.fin rfl ?_)))))
        · simp only [if_pos (show 9007199254740992 < n by assumption)] at he
          subst he
          ((first | refine RetOk.tup rfl rfl ?_ | refine RetOk.one rfl ?_) <;> (repeat' (first | exact Cv.nil | exact Cv.rowf rfl rfl | exact RetC.nil | exact CvL.refl _ | exact Cv.refl | refine RetC.tmp (by (conv => lhs; whnf) <;> rfl) ?_ ?_ | refine RetC.cell1 rfl rfl rfl rfl ?_ ?_ | refine RetC.cellN rfl rfl rfl (by repeat constructor) ?_ ?_ | refine Cv.rowE rfl rfl ?_ | exact Cv.full | exact CvL.nil | refine CvL.cons ?_ ?_)))
        · simp only [if_neg (show ¬ 9007199254740992 < n by assumption)] at he
          subst he
          ((first | refine RetOk.tup rfl rfl ?_ | refine RetOk.one rfl ?_) <;> (repeat' (first | exact Cv.nil | exact Cv.rowf rfl rfl | exact RetC.nil | exact CvL.refl _ | exact Cv.refl | refine RetC.tmp (by (conv => lhs; whnf) <;> rfl) ?_ ?_ | refine RetC.cell1 rfl rfl rfl rfl ?_ ?_ | refine RetC.cellN rfl rfl rfl (by repeat constructor) ?_ ?_ | refine Cv.rowE rfl rfl ?_ | exact Cv.full | exact CvL.nil | refine CvL.cons ?_ ?_)))
end Go.Proofs.YthogjnckkmfhnaaDoor
/-
  Walk of the chapter's examples.
-/
namespace Go.Proofs.YthogjnckkmfhnaaDoor
set_option linter.unusedVariables false
set_option linter.unusedSimpArgs false
theorem Number_c (s : List UInt8) (hs : s.length ≤ 1099511627776) : ACalls Tryd.prog 54 [.v (.string (bs s))] [] (.tup [.v (.int .i64 (numberP s).1), .v (.int .i64 (numberP s).2)]) [] := by
  rcases s with _ | ⟨c, t⟩
  · exact Number_0 hs
  · by_cases h : (c.toNat : Int) = 45
    · rcases t with _ | ⟨e, t⟩
      · exact Number_m c hs h
      · exact Number_n c e t hs h
    · exact Number_p c t hs h
end Go.Proofs.YthogjnckkmfhnaaDoor
/-
  Plain facts about words: the reader by bytes, and the reader by words.
-/
namespace Go.Proofs.YthogjnckkmfhnaaDoor
set_option linter.unusedVariables false
set_option linter.unusedSimpArgs false
def Rd.fin (o : Option Rd) : Option (List (List UInt8)) := match o with
  | none => none
  | some r => if r.st = 1 ∨ r.st = 4 then some (r.ws ++ [r.w]) else none
theorem space_not (c : UInt8) (h : (c.toNat : Int) = 32) : simpleB c = false := by simp [simpleB, h]
theorem run1 : ∀ (l w : List UInt8) (ws : List (List UInt8)), Rd.run l ⟨1, w, ws⟩ = match l.dropWhile simpleB with
    | [] => some ⟨1, w ++ l.takeWhile simpleB, ws⟩
    | c :: t => if (c.toNat : Int) = 32 then Rd.run t ⟨0, [], ws ++ [w ++ l.takeWhile simpleB]⟩ else none := by
  intro l
  induction l with
  | nil => intro w ws; simp [Rd.run]
  | cons c l ih =>
    intro w ws
    rw [Rd.run]
    by_cases h : (c.toNat : Int) = 32
    · have hs := space_not c h
      simp [tkPush, Rd.step, h, hs]
    · by_cases hs : simpleB c = true
      · simp [tkPush, tkOk, Rd.step, h, hs, tkSt, tkAdd, ih]
      · rw [Bool.not_eq_true] at hs
        simp [tkPush, tkOk, h, hs]
theorem run4 (l w : List UInt8) (ws : List (List UInt8)) : Rd.run l ⟨4, w, ws⟩ = match l with
    | [] => some ⟨4, w, ws⟩
    | c :: t => if (c.toNat : Int) = 32 then Rd.run t ⟨0, [], ws ++ [w]⟩ else none := by
  cases l with
  | nil => rfl
  | cons c t =>
    rw [Rd.run]
    by_cases h : (c.toNat : Int) = 32 <;> simp [tkPush, tkOk, Rd.step, h]
theorem run2 : ∀ (n : Nat) (l w : List UInt8) (ws : List (List UInt8)), l.length < n → Rd.fin (Rd.run l ⟨2, w, ws⟩) = match qRead n l w with
    | none => none
    | some (w', t) => Rd.fin (Rd.run t ⟨4, w', ws⟩) := by
  intro n
  induction n with
  | zero => intro l w ws h; omega
  | succ n ih =>
    intro l w ws hl
    rcases l with _ | ⟨c, l⟩
    · simp [Rd.run, Rd.fin, qRead]
    · simp only [List.length_cons] at hl
      rw [Rd.run]
      simp only [qRead]
      by_cases h1 : (c.toNat : Int) = 34
      · simp [tkPush, tkOk, Rd.step, h1, tkSt, tkAdd]
      · by_cases h2 : (c.toNat : Int) = 10 ∨ (c.toNat : Int) = 13
        · have e : (tkPush 2 c || tkOk 2 c) = false := by
            rw [Bool.or_eq_false_iff]
            refine ⟨by simp [tkPush], ?_⟩
            simp [tkOk]; omega
          simp only [e]
          simp [h1, h2, Rd.fin]
        · have h2' : ¬ (c.toNat : Int) = 10 ∧ ¬ (c.toNat : Int) = 13 := by omega
          by_cases h3 : (c.toNat : Int) = 92
          · rcases l with _ | ⟨e, l⟩
            · simp [tkPush, tkOk, Rd.step, h1, h3, tkSt, tkAdd, Rd.run, Rd.fin]
            · simp only [List.length_cons] at hl
              cases hm : meant e with
              | none => simp [tkPush, tkOk, Rd.step, h1, h3, tkSt, tkAdd, Rd.run, Rd.fin, hm]
              | some x => simp [tkPush, tkOk, Rd.step, h1, h3, tkSt, tkAdd, Rd.run, hm, ih l (w ++ [x]) ws (by omega)]
          · simp [tkPush, tkOk, Rd.step, h1, h2, h2', h3, tkSt, tkAdd, ih l (w ++ [c]) ws (by omega)]
theorem split_run : ∀ (n : Nat) (l : List UInt8) (out : List (List UInt8)), l.length < n → rSplit n l out = Rd.fin (Rd.run l ⟨0, [], out⟩) := by
  intro n
  induction n with
  | zero => intro l out h; omega
  | succ n ih =>
    intro l out hl
    rcases l with _ | ⟨c, r⟩
    · simp [rSplit, wordR, Rd.run, Rd.fin]
    · simp only [List.length_cons] at hl
      rw [rSplit, Rd.run]
      by_cases h1 : (c.toNat : Int) = 34
      · have e1 : (if (tkPush 0 c || tkOk 0 c) = true then Rd.run r (Rd.step ⟨0, [], out⟩ c) else none) = Rd.run r ⟨2, [], out⟩ := by simp [tkPush, tkOk, Rd.step, tkSt, tkAdd, h1]
        simp only [e1]
        rw [run2 (r.length + 1) r [] out (by omega)]
        simp only [wordR, if_pos h1]
        cases hq : qRead (r.length + 1) r [] with
        | none => rfl
        | some p =>
          obtain ⟨w, t⟩ := p
          obtain ⟨d, hd⟩ := qRead_suf _ _ _ _ _ hq
          simp only
          rw [run4]
          rcases t with _ | ⟨c', t⟩
          · simp [Rd.fin]
          · simp only
            have : r.length = d.length + (t.length + 1) := by rw [hd]; simp
            by_cases h2 : (c'.toNat : Int) = 32
            · rw [if_pos h2, if_pos h2, ih t _ (by omega)]
            · rw [if_neg h2, if_neg h2]; rfl
      · by_cases hs : simpleB c = true
        · have e1 : (if (tkPush 0 c || tkOk 0 c) = true then Rd.run r (Rd.step ⟨0, [], out⟩ c) else none) = Rd.run r ⟨1, [c], out⟩ := by simp [tkPush, tkOk, Rd.step, tkSt, tkAdd, h1, hs]
          simp only [e1]
          rw [run1]
          have hlen : (r.dropWhile simpleB).length ≤ r.length := by
            have := congrArg List.length (List.takeWhile_append_dropWhile (p := simpleB) (l := r))
            rw [List.length_append] at this; omega
          simp only [wordR, if_neg h1, List.takeWhile_cons, List.dropWhile_cons, hs, if_true]
          generalize r.dropWhile simpleB = t at hlen
          rcases t with _ | ⟨c', t⟩
          · simp [Rd.fin]
          · simp only [List.length_cons] at hlen
            simp only [reduceCtorEq, if_false]
            by_cases h2 : (c'.toNat : Int) = 32
            · rw [if_pos h2, if_pos h2, ih t _ (by omega)]; rfl
            · rw [if_neg h2, if_neg h2]; rfl
        · rw [Bool.not_eq_true] at hs
          simp [wordR, h1, hs, tkPush, tkOk, Rd.fin]
theorem split_eq (s : List UInt8) : splitP s = rSplitP s := by
  unfold splitP rSplitP
  split
  · rfl
  · split
    · rfl
    · rw [split_run (s.length + 1) s [] (by omega)]
      cases Rd.run s ⟨0, [], []⟩ with
      | none => rfl
      | some r =>
        simp only [Rd.fin]
        by_cases h : r.st = 1 ∨ r.st = 4
        · rw [if_neg (by omega), if_pos h]
          simp
        · rw [if_pos (by omega), if_neg h]
end Go.Proofs.YthogjnckkmfhnaaDoor
/-
  Plain facts about Join, and about Split behind Join.
-/
namespace Go.Proofs.YthogjnckkmfhnaaDoor
set_option linter.unusedVariables false
set_option linter.unusedSimpArgs false
theorem esc_ge (c : UInt8) : 1 ≤ (esc c).length := by unfold esc; (repeat' split) <;> simp
theorem flat_esc_ge (s : List UInt8) : s.length ≤ (s.flatMap esc).length := by
  induction s with
  | nil => simp
  | cons c s ih =>
    rw [List.flatMap_cons, List.length_append]
    have := esc_ge c
    simp only [List.length_cons]; omega
theorem writtenL_ge (s : List UInt8) : s.length ≤ (writtenL s).length := by
  unfold writtenL
  split
  · exact Nat.le_refl _
  · have := flat_esc_ge s
    simp only [List.length_cons, List.length_append]; omega
theorem jW_ge : ∀ (l : List (List UInt8)) (f : Bool) (b b' : List UInt8), jW l f b = some b' → b.length ≤ b'.length := by
  intro l
  induction l with
  | nil => intro f b b' h; rw [jW] at h; injection h with h; rw [h]; exact Nat.le_refl _
  | cons w l ih =>
    intro f b b' h
    rw [jW] at h
    split at h
    · cases h
    · have := ih _ _ _ h
      cases f <;> simp at this <;> omega
theorem join_run : ∀ (l : List (List UInt8)) (f : Bool) (b : List UInt8), b.length ≤ 4096 → (match jW l f b with | none => none | some b' => if 4096 < b'.length then none else some b') = jR l f b := by
  intro l
  induction l with
  | nil => intro f b h; simp only [jW, jR]; rw [if_neg (by omega)]
  | cons w l ih =>
    intro f b h
    rw [jW, jR]
    have hg := writtenL_ge w
    generalize hb : (if f = true then b else b ++ [32]) ++ writtenL w = b1
    have hb1 : (writtenL w).length ≤ b1.length := by rw [← hb, List.length_append]; omega
    by_cases h1 : 4096 < b1.length
    · rw [if_pos h1]
      by_cases h2 : 4096 < w.length
      · rw [if_pos h2]
      · rw [if_neg h2]
        cases hj : jW l false b1 with
        | none => rfl
        | some b' =>
          have := jW_ge _ _ _ _ hj
          simp only
          rw [if_pos (by omega)]
    · rw [if_neg h1, if_neg (show ¬ 4096 < w.length by omega)]
      exact ih false b1 (by omega)
theorem join_eq (l : List (List UInt8)) : joinP l = rJoinP l := by
  unfold joinP rJoinP
  split
  · rfl
  · rw [← join_run l true [] (by simp)]
    cases jW l true [] with
    | none => rfl
    | some b =>
      simp only
      by_cases h : 4096 < b.length
      · rw [if_pos h, if_pos h]
      · rw [if_neg h, if_neg h]
/-- the line of some words -/
def J : List (List UInt8) → List UInt8
  | [] => []
  | [w] => writtenL w
  | w :: v :: ws => writtenL w ++ 32 :: J (v :: ws)
/-- what joins behind a beginning -/
def Jb (f : Bool) (b : List UInt8) : List (List UInt8) → List UInt8
  | [] => b
  | w :: ws => Jb false ((if f then b else b ++ [32]) ++ writtenL w) ws
theorem Jb_ge : ∀ (l : List (List UInt8)) (f : Bool) (b : List UInt8), b.length ≤ (Jb f b l).length := by
  intro l
  induction l with
  | nil => intro f b; exact Nat.le_refl _
  | cons w l ih =>
    intro f b
    have := ih false ((if f then b else b ++ [32]) ++ writtenL w)
    rw [Jb]
    cases f <;> simp at this ⊢ <;> omega
theorem jR_eq : ∀ (l : List (List UInt8)) (f : Bool) (b : List UInt8), b.length ≤ 4096 → jR l f b = if 4096 < (Jb f b l).length then none else some (Jb f b l) := by
  intro l
  induction l with
  | nil => intro f b h; rw [jR, Jb, if_neg (by omega)]
  | cons w l ih =>
    intro f b h
    rw [jR, Jb]
    have hg := Jb_ge l false ((if f then b else b ++ [32]) ++ writtenL w)
    by_cases h1 : 4096 < ((if f then b else b ++ [32]) ++ writtenL w).length
    · rw [if_pos h1, if_pos (by omega)]
    · rw [if_neg h1]
      exact ih false _ (by omega)
theorem Jb_false : ∀ (ws : List (List UInt8)) (w b : List UInt8), Jb false (b ++ writtenL w) ws = b ++ J (w :: ws) := by
  intro ws
  induction ws with
  | nil => intro w b; rfl
  | cons v ws ih =>
    intro w b
    rw [Jb, J]
    have := ih v (b ++ writtenL w ++ [32])
    simp only [Bool.false_eq_true, if_false]
    rw [this]; simp
theorem Jb_true (l : List (List UInt8)) : Jb true [] l = J l := by
  cases l with
  | nil => rfl
  | cons w ws =>
    rw [Jb]
    have := Jb_false ws w []
    simpa using this
theorem rJoin_J (l : List (List UInt8)) : rJoinP l = if 64 < l.length ∨ 4096 < (J l).length then ([], 3) else (J l, 0) := by
  unfold rJoinP
  rw [jR_eq l true [] (by simp), Jb_true]
  by_cases h1 : 64 < l.length
  · rw [if_pos h1, if_pos (Or.inl h1)]
  · rw [if_neg h1]
    by_cases h2 : 4096 < (J l).length
    · rw [if_pos h2, if_pos (Or.inr h2)]
    · rw [if_neg h2, if_neg (by omega)]
theorem bare_simple {w : List UInt8} (h : bareB w = true) : (∀ c ∈ w, simpleB c = true) ∧ w ≠ [] := by
  simp only [bareB, Bool.and_eq_true, List.all_eq_true, decide_eq_true_eq] at h
  exact h
theorem qRead_esc : ∀ (w rest out : List UInt8) (n : Nat), (w.flatMap esc ++ 34 :: rest).length < n → qRead n (w.flatMap esc ++ 34 :: rest) out = some (out ++ w, rest) := by
  intro w
  induction w with
  | nil =>
    intro rest out n hn
    obtain ⟨m, rfl⟩ : ∃ m, n = m + 1 := ⟨n - 1, by omega⟩
    simp [qRead]
  | cons c w ih =>
    intro rest out n hn
    obtain ⟨m, rfl⟩ : ∃ m, n = m + 1 := ⟨n - 1, by omega⟩
    rw [List.flatMap_cons, List.append_assoc]
    rw [List.flatMap_cons, List.append_assoc, List.length_append] at hn
    have hp : ∀ d x : UInt8, meant d = some x → (esc c) = [92, d] → x = c → qRead (m + 1) (esc c ++ (w.flatMap esc ++ 34 :: rest)) out = some (out ++ c :: w, rest) := by
      intro d x h1 h2 h3
      rw [h2] at hn ⊢
      simp only [List.cons_append, List.nil_append, List.length_cons, List.length_nil] at hn ⊢
      rw [qRead]
      simp only [show ¬ (((92 : UInt8).toNat : Int) = 34) by decide, show ¬ (((92 : UInt8).toNat : Int) = 10 ∨ ((92 : UInt8).toNat : Int) = 13) by decide, show ((92 : UInt8).toNat : Int) = 92 from rfl, if_true, if_false, h1]
      subst h3
      rw [ih rest (out ++ [x]) m (by omega)]; simp
    by_cases h1 : (c.toNat : Int) = 34 ∨ (c.toNat : Int) = 92
    · exact hp c c (by simp [meant, h1]) (by rw [esc, if_pos h1]) rfl
    · by_cases h2 : (c.toNat : Int) = 10
      · exact hp 110 10 rfl (by rw [esc, if_neg h1, if_pos h2]) (by apply UInt8.toNat_inj.1; have : ((10 : UInt8).toNat) = 10 := rfl; omega)
      · by_cases h3 : (c.toNat : Int) = 13
        · exact hp 114 13 rfl (by rw [esc, if_neg h1, if_neg h2, if_pos h3]) (by apply UInt8.toNat_inj.1; have : ((13 : UInt8).toNat) = 13 := rfl; omega)
        · have he : esc c = [c] := by rw [esc, if_neg h1, if_neg h2, if_neg h3]
          rw [he] at hn ⊢
          simp only [List.cons_append, List.nil_append, List.length_cons, List.length_nil] at hn ⊢
          rw [qRead.eq_def]
          simp only
          rw [if_neg (by omega), if_neg (by omega), if_neg (by omega), ih rest (out ++ [c]) m (by omega)]; simp
/-- behind a word: nothing, or a space -/
def Aft (l : List UInt8) : Prop := l = [] ∨ ∃ t, l = 32 :: t
theorem aft_tw {l : List UInt8} (h : Aft l) : l.takeWhile simpleB = [] ∧ l.dropWhile simpleB = l := by
  rcases h with rfl | ⟨t, rfl⟩
  · exact ⟨rfl, rfl⟩
  · have : simpleB 32 = false := by decide
    simp [this]
theorem tw_all {w l : List UInt8} (h : ∀ c ∈ w, simpleB c = true) : (w ++ l).takeWhile simpleB = w ++ l.takeWhile simpleB ∧ (w ++ l).dropWhile simpleB = l.dropWhile simpleB := by
  induction w with
  | nil => exact ⟨rfl, rfl⟩
  | cons c w ih =>
    obtain ⟨h1, h2⟩ := ih (fun c hc => h c (List.mem_cons_of_mem _ hc))
    have := h c (by simp)
    simp [this, h1, h2]
theorem wordR_written (w rest : List UInt8) (h : Aft rest) : wordR (writtenL w ++ rest) = (w, some rest) := by
  unfold writtenL
  by_cases hb : bareB w = true
  · rw [if_pos hb]
    obtain ⟨h1, h2⟩ := bare_simple hb
    obtain ⟨t1, t2⟩ := tw_all (l := rest) h1
    obtain ⟨a1, a2⟩ := aft_tw h
    rw [a1, List.append_nil] at t1
    rw [a2] at t2
    obtain ⟨p1, _⟩ := wordR_plain [] (w ++ rest) (fun c r e => by
      rcases w with _ | ⟨c', w⟩
      · exact absurd rfl h2
      · injection e with e1 e2
        have := h1 c' (by simp)
        subst e1
        simp only [simpleB, decide_eq_true_eq] at this
        exact this.2.2.1)
    rw [p1, t1, t2, if_neg h2]
  · rw [if_neg hb]
    simp only [List.cons_append, List.append_assoc, List.nil_append]
    simp only [wordR, show (((34 : UInt8).toNat : Int) = 34) from rfl, if_true]
    rw [qRead_esc w rest [] _ (by omega)]; rfl
theorem meant_esc (d x : UInt8) (h : meant d = some x) : (esc x).length = 2 := by
  unfold meant at h
  (repeat' split at h) <;> first | (cases h; done) | skip
  · injection h with h; subst h; simp [esc, *]
  · injection h with h; subst h; decide
  · injection h with h; subst h; decide
theorem qRead_len : ∀ (n : Nat) (l out w t : List UInt8), qRead n l out = some (w, t) → ∃ d e, l = d ++ t ∧ w = out ++ e ∧ (e.flatMap esc).length + 1 ≤ d.length := by
  intro n
  induction n with
  | zero => intro l out w t h; simp [qRead] at h
  | succ n ih =>
    intro l out w t h
    rcases l with _ | ⟨c, l⟩
    · simp [qRead] at h
    · simp only [qRead] at h
      split at h
      · simp at h; exact ⟨[c], [], by simp [h.2], by simp [h.1], by simp⟩
      · split at h
        · cases h
        · split at h
          · rcases l with _ | ⟨e, l⟩
            · simp at h
            · simp only at h
              cases hm : meant e with
              | none => rw [hm] at h; simp at h
              | some x =>
                rw [hm] at h
                obtain ⟨d, f, rfl, rfl, hl⟩ := ih _ _ _ _ h
                refine ⟨c :: e :: d, x :: f, by simp, by simp, ?_⟩
                have := meant_esc e x hm
                simp only [List.flatMap_cons, List.length_append, List.length_cons]; omega
          · obtain ⟨d, f, rfl, rfl, hl⟩ := ih _ _ _ _ h
            refine ⟨c :: d, c :: f, by simp, by simp, ?_⟩
            have : (esc c).length = 1 := by
              unfold esc
              rw [if_neg (by omega), if_neg (by omega), if_neg (by omega)]; rfl
            simp only [List.flatMap_cons, List.length_append, List.length_cons]; omega
theorem wordR_len (l w t : List UInt8) (h : wordR l = (w, some t)) : ∃ d, l = d ++ t ∧ (writtenL w).length ≤ d.length := by
  rcases l with _ | ⟨c, r⟩
  · simp [wordR] at h
  · simp only [wordR] at h
    split at h
    · rename_i hc
      cases hq : qRead (r.length + 1) r [] with
      | none => rw [hq] at h; simp at h
      | some p =>
        obtain ⟨w', t'⟩ := p
        rw [hq] at h
        simp at h
        obtain ⟨rfl, rfl⟩ := h
        obtain ⟨d, e, h1, h2, h3⟩ := qRead_len _ _ _ _ _ hq
        rw [List.nil_append] at h2
        subst h2
        refine ⟨c :: d, by rw [h1]; rfl, ?_⟩
        have := flat_esc_ge w'
        unfold writtenL
        split <;> simp only [List.length_cons, List.length_append, List.length_nil] <;> omega
    · rename_i hc
      injection h with h1 h2
      split at h2
      · cases h2
      · rename_i hne
        injection h2 with h2
        refine ⟨w, by rw [← h1, ← h2]; exact (List.takeWhile_append_dropWhile ..).symm, ?_⟩
        have : bareB w = true := by
          rw [← h1]
          simp only [bareB, Bool.and_eq_true, decide_eq_true_eq]
          refine ⟨?_, hne⟩
          rw [List.all_eq_true]
          intro x hx
          have := List.all_takeWhile (p := simpleB) (l := c :: r)
          exact (List.all_eq_true.1 this) x hx
        unfold writtenL
        rw [if_pos this]; exact Nat.le_refl _
theorem rSplit_len : ∀ (n : Nat) (l : List UInt8) (out r : List (List UInt8)), rSplit n l out = some r → ∃ ws, ws ≠ [] ∧ r = out ++ ws ∧ (J ws).length ≤ l.length := by
  intro n
  induction n with
  | zero => intro l out r h; simp [rSplit] at h
  | succ n ih =>
    intro l out r h
    rw [rSplit] at h
    generalize hw : wordR l = wr at h
    obtain ⟨w, to⟩ := wr
    rcases to with _ | t
    · simp at h
    · obtain ⟨d, hd, hl⟩ := wordR_len l w t hw
      rcases t with _ | ⟨c, t⟩
      · simp at h
        refine ⟨[w], by simp, h.symm, ?_⟩
        rw [hd]; simp only [J, List.append_nil]; exact hl
      · simp only at h
        split at h
        · obtain ⟨ws, h1, h2, h3⟩ := ih _ _ _ h
          rcases ws with _ | ⟨v, ws⟩
          · exact absurd rfl h1
          · refine ⟨w :: v :: ws, by simp, by rw [h2]; simp, ?_⟩
            rw [hd]; simp only [J, List.length_append, List.length_cons]; omega
        · cases h
theorem aft_J (v : List UInt8) (ws : List (List UInt8)) : Aft (32 :: J (v :: ws)) := Or.inr ⟨_, rfl⟩
theorem rSplit_J : ∀ (ws : List (List UInt8)) (n : Nat) (out : List (List UInt8)), ws ≠ [] → (J ws).length < n → rSplit n (J ws) out = some (out ++ ws) := by
  intro ws
  induction ws with
  | nil => intro n out h; exact absurd rfl h
  | cons w ws ih =>
    intro n out _ hn
    obtain ⟨m, rfl⟩ : ∃ m, n = m + 1 := ⟨n - 1, by omega⟩
    rw [rSplit]
    rcases ws with _ | ⟨v, ws⟩
    · have := wordR_written w [] (Or.inl rfl)
      rw [List.append_nil] at this
      simp only [J, this]
    · have := wordR_written w (32 :: J (v :: ws)) (aft_J v ws)
      simp only [J] at hn ⊢
      rw [this]
      simp only [show (((32 : UInt8).toNat : Int) = 32) from rfl, if_true]
      rw [ih m (out ++ [w]) (by simp) (by simp only [List.length_append, List.length_cons] at hn; omega)]
      simp
theorem writtenL_pos (w : List UInt8) : 1 ≤ (writtenL w).length := by
  unfold writtenL
  split
  · rename_i h
    have := (bare_simple h).2
    cases w
    · exact absurd rfl this
    · simp
  · simp
theorem J_nil {ws : List (List UInt8)} (h : J ws = []) : ws = [] := by
  rcases ws with _ | ⟨w, _ | ⟨v, ws⟩⟩
  · rfl
  · have := writtenL_pos w
    rw [J] at h; rw [h] at this; simp at this
  · rw [J] at h; simp at h
theorem split_J (ws : List (List UInt8)) : splitP (J ws) = if 4096 < (J ws).length ∨ 64 < ws.length then ([], 3) else (ws, 0) := by
  rw [split_eq, rSplitP]
  by_cases h1 : 4096 < (J ws).length
  · rw [if_pos h1, if_pos (Or.inl h1)]
  · rw [if_neg h1]
    by_cases h2 : ws = []
    · subst h2; simp [J]
    · rw [if_neg (fun e => h2 (J_nil e)), rSplit_J ws _ [] h2 (by omega)]
      simp only [List.nil_append]
      by_cases h3 : 64 < ws.length
      · rw [if_pos h3, if_pos (Or.inr h3)]
      · rw [if_neg h3, if_neg (by omega)]
/-- what a line that was split joins to -/
theorem split_join (s : List UInt8) (h : (splitP s).2 = 0) : (splitP s).1.length ≤ 64 ∧ (J (splitP s).1).length ≤ s.length ∧ s.length ≤ 4096 := by
  rw [split_eq] at h ⊢
  unfold rSplitP at h ⊢
  by_cases h1 : 4096 < s.length
  · rw [if_pos h1] at h; simp at h
  · rw [if_neg h1] at h ⊢
    by_cases h2 : s = []
    · rw [if_pos h2]; simp [J]; omega
    · rw [if_neg h2] at h ⊢
      cases hr : rSplit (s.length + 1) s [] with
      | none => rw [hr] at h; simp at h
      | some r =>
        rw [hr] at h
        simp only at h ⊢
        by_cases h3 : 64 < r.length
        · rw [if_pos h3] at h; simp at h
        · rw [if_neg h3]
          obtain ⟨ws, _, e, hl⟩ := rSplit_len _ _ _ _ hr
          rw [List.nil_append] at e
          subst e
          exact ⟨by simp only; omega, hl, by omega⟩
theorem split_err (s : List UInt8) (h : (splitP s).2 ≠ 0) : (splitP s).1 = [] := by
  unfold splitP at h ⊢
  (repeat' split) <;> first | rfl | skip
  all_goals simp_all
end Go.Proofs.YthogjnckkmfhnaaDoor
/-
  The laws WordsSplit, WordsJoin, WordsOnce over values without addresses.
-/
namespace Go.Proofs.YthogjnckkmfhnaaDoor
set_option linter.unusedVariables false
set_option linter.unusedSimpArgs false
theorem wds_of : ∀ (xs : List (List PV)), (∀ x ∈ xs, Sh.str.fits x) → ∃ l, xs = wdsP l := by
  intro xs
  induction xs with
  | nil => intro _; exact ⟨[], rfl⟩
  | cons x xs ih =>
    intro h
    obtain ⟨l, rfl⟩ := ih (fun y hy => h y (List.mem_cons_of_mem _ hy))
    obtain ⟨s, rfl, _⟩ := h x (by simp)
    exact ⟨s :: l, rfl⟩
end Go.Proofs.YthogjnckkmfhnaaDoor
