/-
  Walks of chapter 35: the requests that the statements make.
-/
import Derived.Test.YthogjnckkmfhnaaDoorPrI
namespace Go.Proofs.YthogjnckkmfhnaaDoor
set_option linter.unusedVariables false
set_option linter.unusedSimpArgs false
def datQ (l : List Int) : Nat → Nat → List UInt8 → List UInt8 × Nat
  | 0, a, xs => (xs, a)
  | k + 1, a, xs => datQ l k (dkA l a) (xs ++ [UInt8.ofNat (dkN l a 256).toNat])
def textT : List (List UInt8) := [[], [114, 111, 117, 116, 101, 32, 97, 110, 121, 32, 104, 101, 97, 100, 115, 101, 116, 10], [100, 117, 99, 107, 32, 109, 117, 115, 105, 99, 32, 50, 48, 32, 119, 104, 101, 110, 32, 97, 99, 116, 105, 118, 101, 32, 118, 111, 105, 99, 101, 10], [109, 117, 116, 101, 32, 103, 97, 109, 101, 10, 114, 111, 117, 116, 101, 32, 118, 111, 105, 99, 101, 32, 115, 112, 101, 97, 107, 101, 114], [114, 111, 117, 116, 101, 32, 109, 117, 115, 105, 99], [35, 32, 110, 111, 110, 101, 10, 10, 100, 117, 99, 107, 32, 97, 110, 121, 32, 53, 48, 32, 119, 104, 101, 110, 32, 110, 111, 116, 32, 112, 114, 101, 115, 101, 110, 116, 32, 109, 105, 99]]
def textQ (k : Int) : List UInt8 := textT.getD k.toNat []
def rateQ (k : Int) : Int := if k = 0 then 48000 else if k = 1 then 44100 else 24000
def latQ (k : Int) : Int := if k = 0 then 20000 else if k = 1 then 100000 else 500
def reqK (l : List Int) : Int := 1 + dkN l 0 12
def reqB (l : List Int) : Nat := if ¬ reqK l = 11 ∧ ¬ reqK l = 12 then dkA l (dkA l 0) else dkA l 0
def reqA (l : List Int) : Rq := if ¬ reqK l = 11 ∧ ¬ reqK l = 12 then { kind := reqK l, id := 1 + dkN l (dkA l 0) 4 } else { kind := reqK l }
def reqQ (l : List Int) : Rq × Nat :=
  if reqK l = 1 then ({ reqA l with role := roleQ (dkN l (reqB l) 4), dir := 1 + dkN l (dkA l (reqB l)) 4 / 3, ch := 1 + dkN l (dkA l (dkA l (reqB l))) 3, rate := rateQ (dkN l (dkA l (dkA l (dkA l (reqB l)))) 3), lat := latQ (dkN l (dkA l (dkA l (dkA l (dkA l (reqB l))))) 3) }, dkA l (dkA l (dkA l (dkA l (dkA l (reqB l))))))
  else if reqK l = 6 then ({ reqA l with n := dkN l (reqB l) 101 }, dkA l (reqB l))
  else if reqK l = 7 then ({ reqA l with n := dkN l (reqB l) 2 }, dkA l (reqB l))
  else if reqK l = 8 then ({ reqA l with data := (datQ l (dkN l (reqB l) 80).toNat (dkA l (reqB l)) []).1 }, (datQ l (dkN l (reqB l) 80).toNat (dkA l (reqB l)) []).2)
  else if reqK l = 9 then ({ reqA l with n := dkN l (reqB l) 100 }, dkA l (reqB l))
  else if reqK l = 10 then ({ reqA l with dev := dkN l (reqB l) 5 }, dkA l (reqB l))
  else if reqK l = 11 then ({ reqA l with text := textQ (dkN l (reqB l) 6) }, dkA l (reqB l))
  else (reqA l, reqB l)
set_option maxHeartbeats 2000000 in
theorem Request_c (l : List Int) (hl : Fits l) : ACalls Tryd.prog 13 [.ptr 0 0] [dkR l 0] (.agg ((reqQ l).1.cs false)) [dkR l (reqQ l).2] := by
  have r1 := Range_c l hl 0 (by omega) 1 12 (by decide) (by decide)
  rw [show (12 : Int) - 1 + 1 = 12 by decide] at r1
  have e1 : dkA l 0 ≤ l.length := dkA_le (by omega)
  have r2 := Range_c l hl (dkA l 0) e1 1 4 (by decide) (by decide)
  rw [show (4 : Int) - 1 + 1 = 4 by decide] at r2
  have hkb := dkN_rng l 0 12 (by decide)
  have e2 : reqB l ≤ l.length := by unfold reqB; split; exact dkA_le e1; exact e1
  have e3 := dkA_le e2
  have e4 := dkA_le e3
  have e5 := dkA_le e4
  have e6 := dkA_le e5
  have e7 := dkA_le e6
  have c1 := Role_c l hl _ e2
  have c2 := Next_c l hl _ e3 4 (by decide)
  have c3 := Range_c l hl _ e4 1 3 (by decide) (by decide)
  rw [show (3 : Int) - 1 + 1 = 3 by decide] at c3
  have c4 := Next_c l hl _ e5 3 (by decide)
  have c5 := Next_c l hl _ e6 3 (by decide)
  have b2 := dkN_rng l (dkA l (reqB l)) 4 (by decide)
  have b4 := dkN_rng l (dkA l (dkA l (dkA l (reqB l)))) 3 (by decide)
  have b5 := dkN_rng l (dkA l (dkA l (dkA l (dkA l (reqB l))))) 3 (by decide)
  have c6 := Next_c l hl _ e2 101 (by decide)
  have c7 := Next_c l hl _ e2 2 (by decide)
  have c8 := Next_c l hl _ e2 80 (by decide)
  have c9 := Next_c l hl _ e2 100 (by decide)
  have c10 := Next_c l hl _ e2 5 (by decide)
  have c11 := Next_c l hl _ e2 6 (by decide)
  have b8 := dkN_rng l (reqB l) 80 (by decide)
  have b10 := dkN_rng l (reqB l) 5 (by decide)
  have b11 := dkN_rng l (reqB l) 6 (by decide)
  have rB : reqB l = if ¬ reqK l = 11 ∧ ¬ reqK l = 12 then dkA l (dkA l 0) else dkA l 0 := rfl
  have rK : 1 + dkN l 0 12 = reqK l := rfl
  have hkk : 1 ≤ reqK l ∧ reqK l ≤ 12 := by omega
  rw [rK] at r1
  generalize hR : reqQ l = R
  rw [reqQ, reqA] at hR
  generalize reqB l = aB at *
  generalize reqK l = kk at *
  generalize dkN l (dkA l 0) 4 = i1 at *
  generalize dkN l (dkA l aB) 4 = i2 at *
  generalize dkN l (dkA l (dkA l aB)) 3 = i3 at *
  generalize dkN l (dkA l (dkA l (dkA l aB))) 3 = i4 at *
  generalize dkN l (dkA l (dkA l (dkA l (dkA l aB)))) 3 = i5 at *
  generalize dkN l aB 101 = i6 at *
  generalize dkN l aB 2 = i7 at *
  generalize dkN l aB 80 = i8 at *
  generalize dkN l aB 100 = i9 at *
  generalize dkN l aB 5 = i10 at *
  generalize dkN l aB 6 = i11 at *
  have hq1 : IntKind.i64.wrap (i2 / 3) = i2 / 3 := IntWalk.i64_in _ (by omega)
  have hq2 : IntKind.i64.wrap (1 + i2 / 3) = 1 + i2 / 3 := IntWalk.i64_in _ (by omega)
  have hA4 : At [[PV.v (.int .i64 48000)], [PV.v (.int .i64 44100)], [PV.v (.int .i64 24000)]] i4 [PV.v (.int .i64 (rateQ i4))] := by
    have : i4 = 0 ∨ i4 = 1 ∨ i4 = 2 := by omega
    rcases this with rfl | rfl | rfl
    · exact At.mk 0 rfl rfl
    · exact At.mk 1 rfl rfl
    · exact At.mk 2 rfl rfl
  have hA5 : At [[PV.v (.int .i64 20000)], [PV.v (.int .i64 100000)], [PV.v (.int .i64 500)]] i5 [PV.v (.int .i64 (latQ i5))] := by
    have : i5 = 0 ∨ i5 = 1 ∨ i5 = 2 := by omega
    rcases this with rfl | rfl | rfl
    · exact At.mk 0 rfl rfl
    · exact At.mk 1 rfl rfl
    · exact At.mk 2 rfl rfl
  have hA11 : At (wdsP textT) i11 [PV.v (.string (bs (textQ i11)))] := by
    have : i11 = 0 ∨ i11 = 1 ∨ i11 = 2 ∨ i11 = 3 ∨ i11 = 4 ∨ i11 = 5 := by omega
    rcases this with rfl | rfl | rfl | rfl | rfl | rfl
    · exact At.mk 0 rfl rfl
    · exact At.mk 1 rfl rfl
    · exact At.mk 2 rfl rfl
    · exact At.mk 3 rfl rfl
    · exact At.mk 4 rfl rfl
    · exact At.mk 5 rfl rfl
  generalize rateQ i4 = v4 at *
  generalize latQ i5 = v5 at *
  generalize textQ i11 = v11 at *
  unfold textT at hA11
  simp only [wdsP, List.map_cons, List.map_nil] at hA11
  by_cases hk : ¬ kk = 11 ∧ ¬ kk = 12
  · rw [if_pos hk] at rB hR
    subst rB
    by_cases h8 : kk = 8
    · subst h8
      rw [if_neg (by decide), if_neg (by decide), if_neg (by decide), if_pos rfl] at hR
      refine (ACalls.of (fn := Tryd.f13) Tryd.func13 rfl rfl Tryd.ntmps13 (fun I M w own => ?_))
      (repeat' (first | refine AW.seq_k (fun K hK => ?_) | (refine hK _ ?_; clear hK) | (refine AW.condD rfl (fun hc => ?_) (fun hc => ?_) <;> try (first | (exfalso; omega) | (cases hc; done))) | refine AW.block ?_ | (first | (refine AW.region (id := 0) ?_ <;> (try (refine Run.alA rfl rfl rfl rfl ?_)) <;> (try refine Run.fin rfl ?_)) | (refine AW.region (id := 1) ?_ <;> (try (refine Run.p rfl rfl rfl (OpP.mvA rfl) ?_)) <;> (try (refine Run.cSA [0] r1 rfl rfl rfl rfl rfl rfl rfl rfl rfl rfl rfl rfl ?_)) <;> (try (refine Run.p rfl rfl rfl (OpP.buildSA rfl) ?_)) <;> (try (refine Run.alA rfl rfl rfl rfl ?_)) <;> (try (refine Run.stA rfl rfl rfl rfl rfl ?_)) <;> (try refine Run.fin rfl ?_)) | (refine AW.region (id := 2) ?_ <;> (try (refine Run.p rfl rfl rfl (OpP.fieldAddrA rfl rfl) ?_)) <;> (try (refine Run.ld1 rfl rfl rfl rfl rfl rfl rfl rfl ?_)) <;> (try (refine Run.p rfl rfl rfl (OpP.ne rfl rfl rfl) ?_)) <;> (try (refine Run.p rfl rfl rfl (OpP.mvA rfl) ?_)) <;> (try (refine Run.p rfl rfl rfl (OpP.fieldAddrA rfl rfl) ?_)) <;> (try (refine Run.ld1 rfl rfl rfl rfl rfl rfl rfl rfl ?_)) <;> (try (refine Run.p rfl rfl rfl (OpP.ne rfl rfl rfl) ?_)) <;> (try (refine Run.p rfl rfl rfl (OpP.pickA rfl rfl) ?_)) <;> (try refine Run.fin rfl ?_)) | (refine AW.region (id := 3) ?_ <;> (try (refine Run.p rfl rfl rfl (OpP.mvA rfl) ?_)) <;> (try (refine Run.cSA [0] r2 rfl rfl rfl rfl rfl rfl rfl rfl rfl rfl rfl rfl ?_)) <;> (try (refine Run.p rfl rfl rfl (OpP.fieldAddrA rfl rfl) ?_)) <;> (try (refine Run.stA rfl rfl rfl rfl rfl ?_)) <;> (try refine Run.fin rfl ?_)) | (refine AW.region (id := 4) ?_ <;> (try (refine Run.p rfl rfl rfl (OpP.fieldAddrA rfl rfl) ?_)) <;> (try (refine Run.ld1 rfl rfl rfl rfl rfl rfl rfl rfl ?_)) <;> (try refine Run.fin rfl ?_)) | (refine AW.region (id := 5) ?_ <;> (try (refine Run.p rfl rfl rfl (OpP.eq rfl rfl rfl) ?_)) <;> (try (refine Run.p rfl rfl rfl (OpP.asA rfl) ?_)) <;> (try refine Run.fin rfl ?_)) | (refine AW.region (id := 7) ?_ <;> (try (refine Run.p rfl rfl rfl (OpP.eq rfl rfl rfl) ?_)) <;> (try (refine Run.p rfl rfl rfl (OpP.asA rfl) ?_)) <;> (try refine Run.fin rfl ?_)) | (refine AW.region (id := 9) ?_ <;> (try (refine Run.p rfl rfl rfl (OpP.eq rfl rfl rfl) ?_)) <;> (try (refine Run.p rfl rfl rfl (OpP.asA rfl) ?_)) <;> (try refine Run.fin rfl ?_)) | (refine AW.region (id := 11) ?_ <;> (try (refine Run.p rfl rfl rfl (OpP.eq rfl rfl rfl) ?_)) <;> (try (refine Run.p rfl rfl rfl (OpP.asA rfl) ?_)) <;> (try refine Run.fin rfl ?_)) | (refine AW.region (id := 12) ?_ <;> (try (refine Run.p rfl rfl rfl (OpP.mvA rfl) ?_)) <;> (try (refine Run.cSA [0] c8 rfl rfl rfl rfl rfl rfl rfl rfl rfl rfl rfl rfl ?_)) <;> (try (refine Run.p rfl rfl rfl (OpP.asA rfl) ?_)) <;> (try refine Run.fin rfl ?_)))))
      refine AW.loopF (X := Nat × Nat × List UInt8) (fun x => ⟨[(0, .ptr 0 0), (2, .ptr 1 0), (3, .ptr 2 0), (4, .v (.int .i64 (x.1 : Int)))], [dkR l x.2.1, .box ((({} : Rq)).cs false), .box [.v (.int .i64 8), .v (.int .i64 (1 + i1)), .v (.string (bs [])), .v (.int .i64 0), .v (.int .i64 0), .v (.int .i64 0), .v (.int .i64 0), .v (.int .i64 0), .v (.int .u64 0), .row 3 (bsP x.2.2).length, .v (.string (bs []))], .row 1 (bsP x.2.2)]⟩)
        (fun x => x.1 + x.2.2.length ≤ 79 ∧ x.2.1 ≤ l.length ∧ datQ l x.1 x.2.1 x.2.2 = datQ l i8.toNat (dkA l (dkA l (dkA l 0))) []) (fun x => x.1) (i8.toNat, dkA l (dkA l (dkA l 0)), []) ?_ ?_ ?_
      · apply Conv.ownB 2 9 1 [] rfl rfl (Or.inr ⟨rfl, rfl⟩)
        · repeat constructor
        · repeat constructor
        · refine Conv.mk [0, 1, 2, 3] rfl rfl rfl ?_ rfl ?_
          (repeat' (first | exact Cf.nil | exact Cv.refl | exact CvL.refl _ | exact Cv.rowf rfl rfl | exact Crs.nil | refine Cf.cons' (by (conv => lhs; whnf) <;> rfl) ?_ ?_ | refine Crs.cons ?_ rfl ?_ | exact Cr.no | refine Cr.row ?_ | refine Cr.box ?_ | exact Cv.nil | exact Cv.full | exact CvL.nil | refine CvL.cons ?_ ?_))
          (all_goals (try (first | refine CvL.eq ?_ | refine Cv.eq ?_)))
          all_goals first | rfl | (simp only [AV.ren, AV.v.injEq, Value.int.injEq, true_and]; omega) | simp [AV.ren]
      · exact ⟨by simp only [List.length_nil]; omega, e3, rfl⟩
      · rintro ⟨k, a, xs⟩ ⟨h1, h2, h3⟩
        simp only at h1 h2 h3 ⊢
        have hxl : (bsP xs).length = xs.length := by simp
        rcases k with _ | k
        · rw [datQ] at h3
          have hz : ¬ ((((0 : Nat) : Int)) > 0) := by decide
          (repeat' (first | refine AW.seq_k (fun K hK => ?_) | (refine hK _ ?_; clear hK) | (refine AW.cond rfl (fun hc => ?_) (fun hc => ?_) <;> (try simp only [Bool.and_eq_true, Bool.or_eq_true, Bool.not_eq_true', Bool.not_eq_false', Bool.and_eq_false_iff, Bool.or_eq_false_iff, Bool.and_eq_false_imp, decide_eq_true_eq, decide_eq_false_iff_not, Decidable.not_not, Int.not_lt, Int.not_le, ne_eq, Bool.not_not] at hc) <;> try (first | (exfalso; omega) | (cases hc; done))) | refine AW.exit ?_ | refine AW.ret ?_ | (clear hK; refine hK _ ?_; clear hK) | (first | (refine AW.region (id := 13) ?_ <;> (try (refine Run.p rfl rfl rfl (OpP.mvA rfl) ?_)) <;> (try (refine Run.p rfl rfl rfl (OpP.decF (OpP.gtt rfl rfl rfl) (by assumption)) ?_)) <;> (try refine Run.fin rfl ?_)) | (refine AW.region (id := 22) ?_ <;> (try (refine Run.ldNA rfl rfl rfl rfl rfl rfl rfl ?_)) <;> (try (refine Run.stA rfl rfl rfl rfl rfl ?_)) <;> (try refine Run.fin rfl ?_)))))
          rw [← h3] at hR
          subst hR
          ((first | refine RetOk.tupS [0] rfl rfl rfl rfl rfl ?_ ?_ | refine RetOk.oneS [0] rfl rfl rfl rfl ?_ ?_) <;> (repeat' (first | exact Cv.nil | exact Cv.rowf rfl rfl | exact RetC.nil | exact CvL.refl _ | exact Cv.full | exact Cv.refl | exact Crs.nil | refine Crs.cons ?_ rfl ?_ | exact Cr.no | refine Cr.row ?_ | refine Cr.box ?_ | refine RetC.tmp (by (conv => lhs; whnf) <;> rfl) ?_ ?_ | refine RetC.cell1 rfl rfl rfl rfl ?_ ?_ | refine RetC.cellN rfl rfl rfl (by repeat constructor) ?_ ?_ | refine Cv.rowE rfl rfl ?_ | exact CvL.nil | refine CvL.cons ?_ ?_)))
          (all_goals (try (first | refine CvL.eq ?_ | refine Cv.eq ?_)))
          all_goals first | rfl | simp [AV.ren]
        · rw [datQ] at h3
          have m1 := Next_c l hl a h2 256 (by decide)
          have f1 := dkN_rng l a 256 (by decide)
          have f2 := dkA_le h2
          generalize dkN l a 256 = v at *
          have hb : bsP xs ++ [[PV.v (.int .u8 v)]] = bsP (xs ++ [UInt8.ofNat v.toNat]) := by
            have : (UInt8.ofNat v.toNat).toNat = v.toNat := by rw [UInt8.toNat_ofNat']; omega
            simp only [List.map_append, List.map_cons, List.map_nil, this]
            congr 5; omega
          (repeat' (first | refine AW.seq_k (fun K hK => ?_) | (refine hK _ ?_; clear hK) | (refine AW.condD rfl (fun hc => ?_) (fun hc => ?_) <;> try (first | (exfalso; omega) | (cases hc; done))) | refine AW.block ?_ | refine AW.skip ?_ | (first | (refine AW.region (id := 13) ?_ <;> (try (refine Run.p rfl rfl rfl (OpP.mvA rfl) ?_)) <;> (try (refine Run.p rfl rfl rfl (OpP.gtt rfl rfl rfl) ?_)) <;> (try refine Run.fin rfl ?_)) | (refine AW.draw (id := 15) (by kernel_rfl) ?_ <;> (try (refine Run.p rfl rfl rfl (OpP.fieldAddrA rfl rfl) ?_)) <;> (try (refine Run.ld1 rfl rfl rfl rfl rfl rfl rfl rfl ?_)) <;> (try (refine Run.p rfl rfl rfl (OpP.mvA rfl) ?_)) <;> (try (refine Run.cSA [0] m1 rfl rfl rfl rfl rfl rfl rfl rfl rfl rfl rfl rfl ?_)) <;> (try (refine Run.p rfl rfl rfl (OpP.convA rfl rfl) ?_)) <;> (try (refine Run.bsA rfl rfl rfl rfl rfl rfl ?_)) <;> (try (refine Run.apRA rfl rfl rfl rfl rfl rfl rfl rfl rfl ?_)) <;> (try (refine Run.p rfl rfl rfl (OpP.fieldAddrA rfl rfl) ?_)) <;> (try (refine Run.stA rfl rfl rfl rfl rfl ?_)) <;> (try refine Run.fin (by kernel_rfl) ?_)) | (refine AW.region (id := 14) ?_ <;> (try (refine Run.p rfl rfl rfl (OpP.mvA rfl) ?_)) <;> (try (refine Run.p rfl rfl rfl (OpP.subA rfl rfl rfl) ?_)) <;> (try (refine Run.p rfl rfl rfl (OpP.asA rfl) ?_)) <;> (try refine Run.fin rfl ?_)))))
          ((repeat (with_reducible refine inB_n ?_)); refine thenA_n ?_)
          refine ⟨(k, dkA l a, xs ++ [UInt8.ofNat v.toNat]), ⟨by simp only [List.length_append, List.length_cons, List.length_nil]; omega, f2, h3⟩, by simp only; omega, ?_⟩
          refine Conv.mk [0, 1, 2, 3] rfl rfl rfl ?_ rfl ?_
          (repeat' (first | exact Cf.nil | exact Cv.refl | exact CvL.refl _ | exact Cv.rowf rfl rfl | exact Crs.nil | refine Cf.cons' (by (conv => lhs; whnf) <;> rfl) ?_ ?_ | refine Crs.cons ?_ rfl ?_ | exact Cr.no | refine Cr.row ?_ | refine Cr.box ?_ | exact Cv.nil | exact Cv.full | exact CvL.nil | refine CvL.cons ?_ ?_))
          (all_goals (try (first | refine CvL.eq ?_ | refine Cv.eq ?_)))
          all_goals first | rfl | (simp only [AV.ren, AV.v.injEq, Value.int.injEq, true_and]; omega) | (simp only [AV.ren, ← hb]; rfl) | exact hb
    · refine (ACalls.of (fn := Tryd.f13) Tryd.func13 rfl rfl Tryd.ntmps13 (fun I M w own => ?_))
      (repeat' (first | refine AW.seq_k (fun K hK => ?_) | (refine hK _ ?_; clear hK) | (refine AW.condD rfl (fun hc => ?_) (fun hc => ?_) <;> try (first | (exfalso; omega) | (cases hc; done))) | (refine AW.cond rfl (fun hc => ?_) (fun hc => ?_) <;> (try simp only [Bool.and_eq_true, Bool.or_eq_true, Bool.not_eq_true', Bool.not_eq_false', Bool.and_eq_false_iff, Bool.or_eq_false_iff, Bool.and_eq_false_imp, decide_eq_true_eq, decide_eq_false_iff_not, Decidable.not_not, Int.not_lt, Int.not_le, ne_eq, Bool.not_not] at hc) <;> try (first | (exfalso; omega) | (cases hc; done))) | refine AW.block ?_ | refine AW.ret ?_ | refine AW.skip ?_ | (first | (refine AW.region (id := 0) ?_ <;> (try (refine Run.alA rfl rfl rfl rfl ?_)) <;> (try refine Run.fin rfl ?_)) | (refine AW.region (id := 1) ?_ <;> (try (refine Run.p rfl rfl rfl (OpP.mvA rfl) ?_)) <;> (try (refine Run.cSA [0] r1 rfl rfl rfl rfl rfl rfl rfl rfl rfl rfl rfl rfl ?_)) <;> (try (refine Run.p rfl rfl rfl (OpP.buildSA rfl) ?_)) <;> (try (refine Run.alA rfl rfl rfl rfl ?_)) <;> (try (refine Run.stA rfl rfl rfl rfl rfl ?_)) <;> (try refine Run.fin rfl ?_)) | (refine AW.region (id := 2) ?_ <;> (try (refine Run.p rfl rfl rfl (OpP.fieldAddrA rfl rfl) ?_)) <;> (try (refine Run.ld1 rfl rfl rfl rfl rfl rfl rfl rfl ?_)) <;> (try (refine Run.p rfl rfl rfl (OpP.ne rfl rfl rfl) ?_)) <;> (try (refine Run.p rfl rfl rfl (OpP.mvA rfl) ?_)) <;> (try (refine Run.gpc (by first | exact Gd.t rfl rfl rfl rfl | exact Gd.t2 rfl rfl rfl rfl) rfl rfl (fun hg => ⟨OpP.fieldAddrA rfl rfl, (by repeat (first | exact trivial | assumption | refine ⟨?_, ?_⟩))⟩) ?_)) <;> (try (refine Run.glcA (by first | exact Gd.t rfl rfl rfl rfl | exact Gd.t2 rfl rfl rfl rfl) rfl rfl rfl rfl rfl rfl rfl ?_)) <;> (try (refine Run.gpc (by first | exact Gd.t rfl rfl rfl rfl | exact Gd.t2 rfl rfl rfl rfl) rfl rfl (fun hg => ⟨OpP.ne rfl rfl rfl, (by repeat (first | exact trivial | assumption | refine ⟨?_, ?_⟩))⟩) ?_)) <;> (try (refine Run.p rfl rfl rfl (OpP.pickAnd rfl rfl rfl rfl) ?_)) <;> (try refine Run.fin rfl ?_)) | (refine AW.region (id := 3) ?_ <;> (try (refine Run.p rfl rfl rfl (OpP.mvA rfl) ?_)) <;> (try (refine Run.cSA [0] r2 rfl rfl rfl rfl rfl rfl rfl rfl rfl rfl rfl rfl ?_)) <;> (try (refine Run.p rfl rfl rfl (OpP.fieldAddrA rfl rfl) ?_)) <;> (try (refine Run.stA rfl rfl rfl rfl rfl ?_)) <;> (try refine Run.fin rfl ?_)) | (refine AW.region (id := 4) ?_ <;> (try (refine Run.p rfl rfl rfl (OpP.fieldAddrA rfl rfl) ?_)) <;> (try (refine Run.ld1 rfl rfl rfl rfl rfl rfl rfl rfl ?_)) <;> (try refine Run.fin rfl ?_)) | (refine AW.region (id := 5) ?_ <;> (try (refine Run.p rfl rfl rfl (OpP.eq rfl rfl rfl) ?_)) <;> (try (refine Run.p rfl rfl rfl (OpP.asA rfl) ?_)) <;> (try refine Run.fin rfl ?_)) | (refine AW.draw (id := 6) (by kernel_rfl) ?_ <;> (try (refine Run.p rfl rfl rfl (OpP.mvA rfl) ?_)) <;> (try (refine Run.cSA [0] c1 rfl rfl rfl rfl rfl rfl rfl rfl rfl rfl rfl rfl ?_)) <;> (try (refine Run.p rfl rfl rfl (OpP.mvA rfl) ?_)) <;> (try (refine Run.cSA [0] c2 rfl rfl rfl rfl rfl rfl rfl rfl rfl rfl rfl rfl ?_)) <;> (try (refine Run.p rfl rfl rfl (OpP.quoN rfl rfl rfl (by omega) (by omega) rfl) ?_)) <;> (try (refine Run.p rfl rfl rfl (OpP.addA rfl rfl rfl) ?_)) <;> (try (refine Run.p rfl rfl rfl (OpP.mvA rfl) ?_)) <;> (try (refine Run.cSA [0] c3 rfl rfl rfl rfl rfl rfl rfl rfl rfl rfl rfl rfl ?_)) <;> (try (refine Run.bsA rfl rfl rfl rfl rfl rfl ?_)) <;> (try (refine Run.p rfl rfl rfl (OpP.mvA rfl) ?_)) <;> (try (refine Run.cSA [0] c4 rfl rfl rfl rfl rfl rfl rfl rfl rfl rfl rfl rfl ?_)) <;> (try (refine Run.ri rfl rfl rfl (OpRI.indexAddrA rfl rfl) rfl ?_)) <;> (try (refine Run.p rfl rfl rfl (OpP.loadE1 rfl rfl rfl rfl (by (conv => lhs; whnf) <;> rfl)) ?_)) <;> (try (refine Run.bsA rfl rfl rfl rfl rfl rfl ?_)) <;> (try (refine Run.p rfl rfl rfl (OpP.mvA rfl) ?_)) <;> (try (refine Run.cSA [0] c5 rfl rfl rfl rfl rfl rfl rfl rfl rfl rfl rfl rfl ?_)) <;> (try (refine Run.ri rfl rfl rfl (OpRI.indexAddrA rfl rfl) rfl ?_)) <;> (try (refine Run.p rfl rfl rfl (OpP.loadE1 rfl rfl rfl rfl (by (conv => lhs; whnf) <;> rfl)) ?_)) <;> (try (refine Run.p rfl rfl rfl (OpP.fieldAddrA rfl rfl) ?_)) <;> (try (refine Run.stA rfl rfl rfl rfl rfl ?_)) <;> (try (refine Run.p rfl rfl rfl (OpP.fieldAddrA rfl rfl) ?_)) <;> (try (refine Run.stA rfl rfl rfl rfl rfl ?_)) <;> (try (refine Run.p rfl rfl rfl (OpP.fieldAddrA rfl rfl) ?_)) <;> (try (refine Run.stA rfl rfl rfl rfl rfl ?_)) <;> (try (refine Run.p rfl rfl rfl (OpP.fieldAddrA rfl rfl) ?_)) <;> (try (refine Run.stA rfl rfl rfl rfl rfl ?_)) <;> (try (refine Run.p rfl rfl rfl (OpP.fieldAddrA rfl rfl) ?_)) <;> (try (refine Run.stA rfl rfl rfl rfl rfl ?_)) <;> (try refine Run.fin (by kernel_rfl) ?_)) | (refine AW.region (id := 7) ?_ <;> (try (refine Run.p rfl rfl rfl (OpP.eq rfl rfl rfl) ?_)) <;> (try (refine Run.p rfl rfl rfl (OpP.asA rfl) ?_)) <;> (try refine Run.fin rfl ?_)) | (refine AW.region (id := 8) ?_ <;> (try (refine Run.p rfl rfl rfl (OpP.mvA rfl) ?_)) <;> (try (refine Run.cSA [0] c6 rfl rfl rfl rfl rfl rfl rfl rfl rfl rfl rfl rfl ?_)) <;> (try (refine Run.p rfl rfl rfl (OpP.fieldAddrA rfl rfl) ?_)) <;> (try (refine Run.stA rfl rfl rfl rfl rfl ?_)) <;> (try refine Run.fin rfl ?_)) | (refine AW.region (id := 9) ?_ <;> (try (refine Run.p rfl rfl rfl (OpP.eq rfl rfl rfl) ?_)) <;> (try (refine Run.p rfl rfl rfl (OpP.asA rfl) ?_)) <;> (try refine Run.fin rfl ?_)) | (refine AW.region (id := 10) ?_ <;> (try (refine Run.p rfl rfl rfl (OpP.mvA rfl) ?_)) <;> (try (refine Run.cSA [0] c7 rfl rfl rfl rfl rfl rfl rfl rfl rfl rfl rfl rfl ?_)) <;> (try (refine Run.p rfl rfl rfl (OpP.fieldAddrA rfl rfl) ?_)) <;> (try (refine Run.stA rfl rfl rfl rfl rfl ?_)) <;> (try refine Run.fin rfl ?_)) | (refine AW.region (id := 11) ?_ <;> (try (refine Run.p rfl rfl rfl (OpP.eq rfl rfl rfl) ?_)) <;> (try (refine Run.p rfl rfl rfl (OpP.asA rfl) ?_)) <;> (try refine Run.fin rfl ?_)) | (refine AW.region (id := 16) ?_ <;> (try (refine Run.p rfl rfl rfl (OpP.eq rfl rfl rfl) ?_)) <;> (try (refine Run.p rfl rfl rfl (OpP.asA rfl) ?_)) <;> (try refine Run.fin rfl ?_)) | (refine AW.region (id := 17) ?_ <;> (try (refine Run.p rfl rfl rfl (OpP.mvA rfl) ?_)) <;> (try (refine Run.cSA [0] c9 rfl rfl rfl rfl rfl rfl rfl rfl rfl rfl rfl rfl ?_)) <;> (try (refine Run.p rfl rfl rfl (OpP.fieldAddrA rfl rfl) ?_)) <;> (try (refine Run.stA rfl rfl rfl rfl rfl ?_)) <;> (try refine Run.fin rfl ?_)) | (refine AW.region (id := 18) ?_ <;> (try (refine Run.p rfl rfl rfl (OpP.eq rfl rfl rfl) ?_)) <;> (try (refine Run.p rfl rfl rfl (OpP.asA rfl) ?_)) <;> (try refine Run.fin rfl ?_)) | (refine AW.region (id := 19) ?_ <;> (try (refine Run.p rfl rfl rfl (OpP.mvA rfl) ?_)) <;> (try (refine Run.cSA [0] c10 rfl rfl rfl rfl rfl rfl rfl rfl rfl rfl rfl rfl ?_)) <;> (try (refine Run.p rfl rfl rfl (OpP.convA rfl rfl) ?_)) <;> (try (refine Run.p rfl rfl rfl (OpP.fieldAddrA rfl rfl) ?_)) <;> (try (refine Run.stA rfl rfl rfl rfl rfl ?_)) <;> (try refine Run.fin rfl ?_)) | (refine AW.region (id := 20) ?_ <;> (try (refine Run.p rfl rfl rfl (OpP.eq rfl rfl rfl) ?_)) <;> (try (refine Run.p rfl rfl rfl (OpP.asA rfl) ?_)) <;> (try refine Run.fin rfl ?_)) | (refine AW.region (id := 22) ?_ <;> (try (refine Run.ldNA rfl rfl rfl rfl rfl rfl rfl ?_)) <;> (try (refine Run.stA rfl rfl rfl rfl rfl ?_)) <;> (try refine Run.fin rfl ?_)))))
      all_goals (clear r1 r2 c1 c2 c3 c4 c5 c6 c7 c8 c9 c10 c11)
      all_goals (try (exfalso; omega))
      all_goals ((repeat (first | rw [if_pos (by omega)] at hR | rw [if_neg (by omega)] at hR)); subst hR; ((first | refine RetOk.tupS [0] rfl rfl rfl rfl rfl ?_ ?_ | refine RetOk.oneS [0] rfl rfl rfl rfl ?_ ?_) <;> (repeat' (first | exact Cv.nil | exact Cv.rowf rfl rfl | exact RetC.nil | exact CvL.refl _ | exact Cv.full | exact Cv.refl | exact Crs.nil | refine Crs.cons ?_ rfl ?_ | exact Cr.no | refine Cr.row ?_ | refine Cr.box ?_ | refine RetC.tmp (by (conv => lhs; whnf) <;> rfl) ?_ ?_ | refine RetC.cell1 rfl rfl rfl rfl ?_ ?_ | refine RetC.cellN rfl rfl rfl (by repeat constructor) ?_ ?_ | refine Cv.rowE rfl rfl ?_ | exact CvL.nil | refine CvL.cons ?_ ?_))))
      (all_goals (try (first | refine CvL.eq ?_ | refine Cv.eq ?_)))
      all_goals first | rfl | (simp only [hq1, hq2]; rfl) | simp [AV.ren]
  · rw [if_neg hk] at rB hR
    subst rB
    refine (ACalls.of (fn := Tryd.f13) Tryd.func13 rfl rfl Tryd.ntmps13 (fun I M w own => ?_))
    (repeat' (first | refine AW.seq_k (fun K hK => ?_) | (refine hK _ ?_; clear hK) | (refine AW.condD rfl (fun hc => ?_) (fun hc => ?_) <;> try (first | (exfalso; omega) | (cases hc; done))) | (refine AW.cond rfl (fun hc => ?_) (fun hc => ?_) <;> (try simp only [Bool.and_eq_true, Bool.or_eq_true, Bool.not_eq_true', Bool.not_eq_false', Bool.and_eq_false_iff, Bool.or_eq_false_iff, Bool.and_eq_false_imp, decide_eq_true_eq, decide_eq_false_iff_not, Decidable.not_not, Int.not_lt, Int.not_le, ne_eq, Bool.not_not] at hc) <;> try (first | (exfalso; omega) | (cases hc; done))) | refine AW.block ?_ | refine AW.ret ?_ | refine AW.skip ?_ | (first | (refine AW.region (id := 0) ?_ <;> (try (refine Run.alA rfl rfl rfl rfl ?_)) <;> (try refine Run.fin rfl ?_)) | (refine AW.region (id := 1) ?_ <;> (try (refine Run.p rfl rfl rfl (OpP.mvA rfl) ?_)) <;> (try (refine Run.cSA [0] r1 rfl rfl rfl rfl rfl rfl rfl rfl rfl rfl rfl rfl ?_)) <;> (try (refine Run.p rfl rfl rfl (OpP.buildSA rfl) ?_)) <;> (try (refine Run.alA rfl rfl rfl rfl ?_)) <;> (try (refine Run.stA rfl rfl rfl rfl rfl ?_)) <;> (try refine Run.fin rfl ?_)) | (refine AW.region (id := 2) ?_ <;> (try (refine Run.p rfl rfl rfl (OpP.fieldAddrA rfl rfl) ?_)) <;> (try (refine Run.ld1 rfl rfl rfl rfl rfl rfl rfl rfl ?_)) <;> (try (refine Run.p rfl rfl rfl (OpP.ne rfl rfl rfl) ?_)) <;> (try (refine Run.p rfl rfl rfl (OpP.mvA rfl) ?_)) <;> (try (refine Run.gpc (by first | exact Gd.t rfl rfl rfl rfl | exact Gd.t2 rfl rfl rfl rfl) rfl rfl (fun hg => ⟨OpP.fieldAddrA rfl rfl, (by repeat (first | exact trivial | assumption | refine ⟨?_, ?_⟩))⟩) ?_)) <;> (try (refine Run.glcA (by first | exact Gd.t rfl rfl rfl rfl | exact Gd.t2 rfl rfl rfl rfl) rfl rfl rfl rfl rfl rfl rfl ?_)) <;> (try (refine Run.gpc (by first | exact Gd.t rfl rfl rfl rfl | exact Gd.t2 rfl rfl rfl rfl) rfl rfl (fun hg => ⟨OpP.ne rfl rfl rfl, (by repeat (first | exact trivial | assumption | refine ⟨?_, ?_⟩))⟩) ?_)) <;> (try (refine Run.p rfl rfl rfl (OpP.pickAnd rfl rfl rfl rfl) ?_)) <;> (try refine Run.fin rfl ?_)) | (refine AW.region (id := 4) ?_ <;> (try (refine Run.p rfl rfl rfl (OpP.fieldAddrA rfl rfl) ?_)) <;> (try (refine Run.ld1 rfl rfl rfl rfl rfl rfl rfl rfl ?_)) <;> (try refine Run.fin rfl ?_)) | (refine AW.region (id := 5) ?_ <;> (try (refine Run.p rfl rfl rfl (OpP.eq rfl rfl rfl) ?_)) <;> (try (refine Run.p rfl rfl rfl (OpP.asA rfl) ?_)) <;> (try refine Run.fin rfl ?_)) | (refine AW.region (id := 7) ?_ <;> (try (refine Run.p rfl rfl rfl (OpP.eq rfl rfl rfl) ?_)) <;> (try (refine Run.p rfl rfl rfl (OpP.asA rfl) ?_)) <;> (try refine Run.fin rfl ?_)) | (refine AW.region (id := 9) ?_ <;> (try (refine Run.p rfl rfl rfl (OpP.eq rfl rfl rfl) ?_)) <;> (try (refine Run.p rfl rfl rfl (OpP.asA rfl) ?_)) <;> (try refine Run.fin rfl ?_)) | (refine AW.region (id := 11) ?_ <;> (try (refine Run.p rfl rfl rfl (OpP.eq rfl rfl rfl) ?_)) <;> (try (refine Run.p rfl rfl rfl (OpP.asA rfl) ?_)) <;> (try refine Run.fin rfl ?_)) | (refine AW.region (id := 16) ?_ <;> (try (refine Run.p rfl rfl rfl (OpP.eq rfl rfl rfl) ?_)) <;> (try (refine Run.p rfl rfl rfl (OpP.asA rfl) ?_)) <;> (try refine Run.fin rfl ?_)) | (refine AW.region (id := 18) ?_ <;> (try (refine Run.p rfl rfl rfl (OpP.eq rfl rfl rfl) ?_)) <;> (try (refine Run.p rfl rfl rfl (OpP.asA rfl) ?_)) <;> (try refine Run.fin rfl ?_)) | (refine AW.region (id := 20) ?_ <;> (try (refine Run.p rfl rfl rfl (OpP.eq rfl rfl rfl) ?_)) <;> (try (refine Run.p rfl rfl rfl (OpP.asA rfl) ?_)) <;> (try refine Run.fin rfl ?_)) | (refine AW.region (id := 21) ?_ <;> (try (refine Run.bsA rfl rfl rfl rfl rfl rfl ?_)) <;> (try (refine Run.p rfl rfl rfl (OpP.mvA rfl) ?_)) <;> (try (refine Run.cSA [0] c11 rfl rfl rfl rfl rfl rfl rfl rfl rfl rfl rfl rfl ?_)) <;> (try (refine Run.ri rfl rfl rfl (OpRI.indexAddrA rfl rfl) rfl ?_)) <;> (try (refine Run.p rfl rfl rfl (OpP.loadE1 rfl rfl rfl rfl (by (conv => lhs; whnf) <;> rfl)) ?_)) <;> (try (refine Run.p rfl rfl rfl (OpP.fieldAddrA rfl rfl) ?_)) <;> (try (refine Run.stA rfl rfl rfl rfl rfl ?_)) <;> (try refine Run.fin rfl ?_)) | (refine AW.region (id := 22) ?_ <;> (try (refine Run.ldNA rfl rfl rfl rfl rfl rfl rfl ?_)) <;> (try (refine Run.stA rfl rfl rfl rfl rfl ?_)) <;> (try refine Run.fin rfl ?_)))))
    all_goals (clear r1 r2 c1 c2 c3 c4 c5 c6 c7 c8 c9 c10 c11)
    all_goals (try (exfalso; omega))
    all_goals ((repeat (first | rw [if_pos (by omega)] at hR | rw [if_neg (by omega)] at hR)); subst hR; ((first | refine RetOk.tupS [0] rfl rfl rfl rfl rfl ?_ ?_ | refine RetOk.oneS [0] rfl rfl rfl rfl ?_ ?_) <;> (repeat' (first | exact Cv.nil | exact Cv.rowf rfl rfl | exact RetC.nil | exact CvL.refl _ | exact Cv.full | exact Cv.refl | exact Crs.nil | refine Crs.cons ?_ rfl ?_ | exact Cr.no | refine Cr.row ?_ | refine Cr.box ?_ | refine RetC.tmp (by (conv => lhs; whnf) <;> rfl) ?_ ?_ | refine RetC.cell1 rfl rfl rfl rfl ?_ ?_ | refine RetC.cellN rfl rfl rfl (by repeat constructor) ?_ ?_ | refine Cv.rowE rfl rfl ?_ | exact CvL.nil | refine CvL.cons ?_ ?_))))
    (all_goals (try (first | refine CvL.eq ?_ | refine Cv.eq ?_)))
    all_goals first | rfl | simp [AV.ren]
end Go.Proofs.YthogjnckkmfhnaaDoor
