/-
  Walks of chapter 35: the requests that the statements make; the reference's line of a request.
-/
import Derived.Test.YthogjnckkmfhnaaDoorPrF
import Derived.Test.YthogjnckkmfhnaaDoorPrG
import Derived.Test.YthogjnckkmfhnaaDoorDk
namespace Go.Proofs.YthogjnckkmfhnaaDoor
set_option linter.unusedVariables false
set_option linter.unusedSimpArgs false
theorem Range_c (l : List Int) (hl : Fits l) (a : Nat) (ha : a ≤ l.length) (lo hi : Int) (h1 : 0 ≤ lo ∧ lo ≤ hi) (h2 : hi ≤ 1000000) : ACalls Tryd.prog 34 [.ptr 0 0, .v (.int .i64 lo), .v (.int .i64 hi)] [dkR l a] (.v (.int .i64 (lo + dkN l a (hi - lo + 1)))) [dkR l (dkA l a)] := by
  have hN := Next_c l hl a ha (hi - lo + 1) (by omega)
  have hb := dkN_rng l a (hi - lo + 1) (by omega)
  refine (ACalls.of (fn := Tryd.f34) Tryd.func34 rfl rfl Tryd.ntmps34 (fun I M w own => ?_))
  (repeat' (first | refine AW.seq_k (fun K hK => ?_) | (refine hK _ ?_; clear hK) | refine AW.ret ?_ | (first | (refine AW.region (id := 0) ?_ <;> (try (refine Run.p rfl rfl rfl (OpP.asA rfl) ?_)) <;> (try refine Run.fin rfl ?_)) | (refine AW.region (id := 1) ?_ <;> (try (refine Run.p rfl rfl rfl (OpP.mvA rfl) ?_)) <;> (try (refine Run.p rfl rfl rfl (OpP.mvA rfl) ?_)) <;> (try (refine Run.p rfl rfl rfl (OpP.mvA rfl) ?_)) <;> (try (refine Run.p rfl rfl rfl (OpP.mvA rfl) ?_)) <;> (try (refine Run.p rfl rfl rfl (OpP.subA rfl rfl rfl) ?_)) <;> (try (refine Run.p rfl rfl rfl (OpP.addA rfl rfl rfl) ?_)) <;> (try (refine Run.cSA [0] hN rfl rfl rfl rfl rfl rfl rfl rfl rfl rfl rfl rfl ?_)) <;> (try (refine Run.p rfl rfl rfl (OpP.addA rfl rfl rfl) ?_)) <;> (try (refine Run.p rfl rfl rfl (OpP.asA rfl) ?_)) <;> (try refine Run.fin rfl ?_)))))
  ((first | refine RetOk.tupS [0] rfl rfl rfl rfl rfl ?_ ?_ | refine RetOk.oneS [0] rfl rfl rfl rfl ?_ ?_) <;> (repeat' (first | exact Cv.nil | exact Cv.rowf rfl rfl | exact RetC.nil | exact CvL.refl _ | exact Cv.full | exact Cv.refl | exact Crs.nil | refine Crs.cons ?_ rfl ?_ | exact Cr.no | refine Cr.row ?_ | refine Cr.box ?_ | refine RetC.tmp (by (conv => lhs; whnf) <;> rfl) ?_ ?_ | refine RetC.cell1 rfl rfl rfl rfl ?_ ?_ | refine RetC.cellN rfl rfl rfl (by repeat constructor) ?_ ?_ | refine Cv.rowE rfl rfl ?_ | exact CvL.nil | refine CvL.cons ?_ ?_)))
def roleT : List (List UInt8) := [[109, 117, 115, 105, 99], [118, 111, 105, 99, 101], [97, 108, 97, 114, 109], [103, 97, 109, 101]]
def roleQ (k : Int) : List UInt8 := if k = 0 then [109, 117, 115, 105, 99] else if k = 1 then [118, 111, 105, 99, 101] else if k = 2 then [97, 108, 97, 114, 109] else [103, 97, 109, 101]
theorem roleQ_le (k : Int) : (roleQ k).length ≤ 5 := by
  unfold roleQ
  (repeat' split) <;> simp
theorem Role_c (l : List Int) (hl : Fits l) (a : Nat) (ha : a ≤ l.length) : ACalls Tryd.prog 35 [.ptr 0 0] [dkR l a] (.v (.string (bs (roleQ (dkN l a 4))))) [dkR l (dkA l a)] := by
  have hN := Next_c l hl a ha 4 (by decide)
  have hb := dkN_rng l a 4 (by decide)
  generalize dkN l a 4 = k at hN hb
  have hA : At [[PV.v (.string (bs [109, 117, 115, 105, 99]))], [PV.v (.string (bs [118, 111, 105, 99, 101]))], [PV.v (.string (bs [97, 108, 97, 114, 109]))], [PV.v (.string (bs [103, 97, 109, 101]))]] k [PV.v (.string (bs (roleQ k)))] := by
    have : k = 0 ∨ k = 1 ∨ k = 2 ∨ k = 3 := by omega
    rcases this with rfl | rfl | rfl | rfl
    · exact At.mk 0 rfl rfl
    · exact At.mk 1 rfl rfl
    · exact At.mk 2 rfl rfl
    · exact At.mk 3 rfl rfl
  generalize roleQ k = w0 at hA
  refine (ACalls.of (fn := Tryd.f35) Tryd.func35 rfl rfl Tryd.ntmps35 (fun I M w own => ?_))
  (repeat' (first | refine AW.seq_k (fun K hK => ?_) | (refine hK _ ?_; clear hK) | refine AW.ret ?_ | (first | (refine AW.region (id := 0) ?_ <;> (try (refine Run.p rfl rfl rfl (OpP.asA rfl) ?_)) <;> (try refine Run.fin rfl ?_)) | (refine AW.region (id := 1) ?_ <;> (try (refine Run.bsA rfl rfl rfl rfl rfl rfl ?_)) <;> (try (refine Run.p rfl rfl rfl (OpP.mvA rfl) ?_)) <;> (try (refine Run.cSA [0] hN rfl rfl rfl rfl rfl rfl rfl rfl rfl rfl rfl rfl ?_)) <;> (try (refine Run.ri rfl rfl rfl (OpRI.indexAddrA rfl rfl) rfl ?_)) <;> (try (refine Run.p rfl rfl rfl (OpP.loadE1 rfl rfl rfl rfl (by (conv => lhs; whnf) <;> rfl)) ?_)) <;> (try (refine Run.p rfl rfl rfl (OpP.asA rfl) ?_)) <;> (try refine Run.fin rfl ?_)))))
  ((first | refine RetOk.tupS [0] rfl rfl rfl rfl rfl ?_ ?_ | refine RetOk.oneS [0] rfl rfl rfl rfl ?_ ?_) <;> (repeat' (first | exact Cv.nil | exact Cv.rowf rfl rfl | exact RetC.nil | exact CvL.refl _ | exact Cv.full | exact Cv.refl | exact Crs.nil | refine Crs.cons ?_ rfl ?_ | exact Cr.no | refine Cr.row ?_ | refine Cr.box ?_ | refine RetC.tmp (by (conv => lhs; whnf) <;> rfl) ?_ ?_ | refine RetC.cell1 rfl rfl rfl rfl ?_ ?_ | refine RetC.cellN rfl rfl rfl (by repeat constructor) ?_ ?_ | refine Cv.rowE rfl rfl ?_ | exact CvL.nil | refine CvL.cons ?_ ?_)))
end Go.Proofs.YthogjnckkmfhnaaDoor
