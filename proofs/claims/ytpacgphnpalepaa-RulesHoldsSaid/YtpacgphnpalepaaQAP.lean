/-
  Walks of the dice: a role, a class, a condition.
-/
import Derived.Test.YtpacgphnpalepaaQAO
namespace Go.Proofs.Ytpacgphnpalepaa
set_option linter.unusedVariables false
set_option linter.unusedSimpArgs false
def roleL : List (List UInt8) := [[109, 117, 115, 105, 99], [118, 111, 105, 99, 101], [97, 108, 97, 114, 109], [103, 97, 109, 101]]
def roleAt (n : Int) : List UInt8 := roleL.getD n.toNat []
theorem Role_c (l : List Int) (hl : Fits l) (a : Nat) (ha : a ≤ l.length) : ACalls Try.prog 16 [.ptr 0 0] [dkR l a] (.v (.string (bs (roleAt (dkN l a 4))))) [dkR l (dkA l a)] := by
  have hN := Next_c l hl a ha 4 (by decide)
  obtain ⟨g1, g2⟩ := dkN_rng l a 4 (by decide)
  obtain ⟨n, hn⟩ : ∃ n : Nat, dkN l a 4 = (n : Int) := ⟨(dkN l a 4).toNat, by omega⟩
  rw [hn] at hN g1 g2 ⊢
  have hA : At [[PV.v (.string (bs [109, 117, 115, 105, 99]))], [PV.v (.string (bs [118, 111, 105, 99, 101]))], [PV.v (.string (bs [97, 108, 97, 114, 109]))], [PV.v (.string (bs [103, 97, 109, 101]))]] (n : Int) [PV.v (.string (bs (roleAt n)))] := by
    rcases n with _ | _ | _ | _ | n
    · exact At.mk 0 rfl rfl
    · exact At.mk 1 rfl rfl
    · exact At.mk 2 rfl rfl
    · exact At.mk 3 rfl rfl
    · omega
  refine (ACalls.of (fn := Try.f16) Try.func16 rfl rfl Try.ntmps16 (fun I M w own => ?_))
  (repeat' (first | refine AW.seq_k (fun K hK => ?_) | (refine hK _ ?_; clear hK) | refine AW.ret ?_ | refine AW.region (id := 0) ?_ | refine AW.region (id := 1) ?_ | refine Run.p rfl rfl rfl (OpP.asA rfl) ?_ | refine Run.bsA rfl rfl rfl rfl rfl rfl ?_ | refine Run.p rfl rfl rfl (OpP.mvA rfl) ?_ | refine Run.cSA [0] hN rfl rfl rfl rfl rfl rfl rfl rfl rfl rfl rfl rfl ?_ | refine Run.ri rfl rfl rfl (OpRI.indexAddrA rfl rfl) rfl ?_ | refine Run.p rfl rfl rfl (OpP.loadE1 rfl rfl rfl rfl (by (conv => lhs; whnf) <;> rfl)) ?_ | refine Run.fin rfl ?_))
  ((first | refine RetOk.tupS [0] rfl rfl rfl rfl rfl ?_ ?_ | refine RetOk.oneS [0] rfl rfl rfl rfl ?_ ?_) <;> (repeat' (first | exact RetC.nil | exact CvL.refl _ | exact Cv.refl | exact Crs.nil | refine Crs.cons ?_ rfl ?_ | refine Cr.box ?_ | refine RetC.tmp (by (conv => lhs; whnf) <;> rfl) ?_ ?_)))
def classL : List (List UInt8) := [[115, 112, 101, 97, 107, 101, 114], [104, 101, 97, 100, 115, 101, 116], [109, 105, 99], [97, 110, 121]]
def classAt (n : Int) : List UInt8 := classL.getD n.toNat []
theorem Class_c (l : List Int) (hl : Fits l) (a : Nat) (ha : a ≤ l.length) : ACalls Try.prog 17 [.ptr 0 0] [dkR l a] (.v (.string (bs (classAt (dkN l a 4))))) [dkR l (dkA l a)] := by
  have hN := Next_c l hl a ha 4 (by decide)
  obtain ⟨g1, g2⟩ := dkN_rng l a 4 (by decide)
  obtain ⟨n, hn⟩ : ∃ n : Nat, dkN l a 4 = (n : Int) := ⟨(dkN l a 4).toNat, by omega⟩
  rw [hn] at hN g1 g2 ⊢
  have hA : At [[PV.v (.string (bs [115, 112, 101, 97, 107, 101, 114]))], [PV.v (.string (bs [104, 101, 97, 100, 115, 101, 116]))], [PV.v (.string (bs [109, 105, 99]))], [PV.v (.string (bs [97, 110, 121]))]] (n : Int) [PV.v (.string (bs (classAt n)))] := by
    rcases n with _ | _ | _ | _ | n
    · exact At.mk 0 rfl rfl
    · exact At.mk 1 rfl rfl
    · exact At.mk 2 rfl rfl
    · exact At.mk 3 rfl rfl
    · omega
  refine (ACalls.of (fn := Try.f17) Try.func17 rfl rfl Try.ntmps17 (fun I M w own => ?_))
  (repeat' (first | refine AW.seq_k (fun K hK => ?_) | (refine hK _ ?_; clear hK) | refine AW.ret ?_ | refine AW.region (id := 0) ?_ | refine AW.region (id := 1) ?_ | refine Run.p rfl rfl rfl (OpP.asA rfl) ?_ | refine Run.bsA rfl rfl rfl rfl rfl rfl ?_ | refine Run.p rfl rfl rfl (OpP.mvA rfl) ?_ | refine Run.cSA [0] hN rfl rfl rfl rfl rfl rfl rfl rfl rfl rfl rfl rfl ?_ | refine Run.ri rfl rfl rfl (OpRI.indexAddrA rfl rfl) rfl ?_ | refine Run.p rfl rfl rfl (OpP.loadE1 rfl rfl rfl rfl (by (conv => lhs; whnf) <;> rfl)) ?_ | refine Run.fin rfl ?_))
  ((first | refine RetOk.tupS [0] rfl rfl rfl rfl rfl ?_ ?_ | refine RetOk.oneS [0] rfl rfl rfl rfl ?_ ?_) <;> (repeat' (first | exact RetC.nil | exact CvL.refl _ | exact Cv.refl | exact Crs.nil | refine Crs.cons ?_ rfl ?_ | refine Cr.box ?_ | refine RetC.tmp (by (conv => lhs; whnf) <;> rfl) ?_ ?_)))
/-- how far the deck is, the terms, the depth -/
structure Cs where
  a : Nat
  out : List Tm
  dep : Nat
def stepC (l : List Int) (s : Cs) : Cs :=
  if dkN l s.a 5 = 0 ∧ 1 ≤ s.dep then ⟨dkA l s.a, s.out ++ [(3, [])], s.dep⟩
  else if dkN l s.a 5 ≤ 2 ∧ 2 ≤ s.dep then ⟨dkA l s.a, s.out ++ [(4 + dkN l s.a 5 - 1, [])], s.dep - 1⟩
  else if dkN l s.a 5 = 3 then ⟨dkA l (dkA l s.a), s.out ++ [(2, classAt (dkN l (dkA l s.a) 4))], s.dep + 1⟩
  else ⟨dkA l (dkA l s.a), s.out ++ [(1, roleAt (dkN l (dkA l s.a) 4))], s.dep + 1⟩
def runC (l : List Int) : Nat → Cs → Cs
  | 0, s => s
  | k + 1, s => runC l k (stepC l s)
def endC (l : List Int) : Nat → Cs → Cs
  | 0, s => s
  | k + 1, s => endC l k ⟨dkA l s.a, s.out ++ [(4 + dkN l s.a 2, [])], s.dep - 1⟩
def fullC (l : List Int) (a : Nat) : Cs :=
  let s := runC l (dkN l a 9).toNat ⟨dkA l a, [], 0⟩
  endC l (s.dep - 1) s
def condL (l : List Int) (a : Nat) : List Tm := if 16 < (fullC l a).out.length then [] else (fullC l a).out
def condA (l : List Int) (a : Nat) : Nat := (fullC l a).a
theorem tmP_snoc (o : List Tm) (k : Int) (n : Wd) : tmP (o ++ [(k, n)]) = tmP o ++ [[PV.v (.int .i64 k), PV.v (.string (bs n))]] := by simp
set_option maxHeartbeats 4000000 in
theorem Cond_c (l : List Int) (hl : Fits l) (a : Nat) (ha : a ≤ l.length) : ACalls Try.prog 14 [.ptr 0 0] [dkR l a] (.sl 2 (tmP (condL l a)) false) [dkR l (condA l a)] := by
  have hN := Next_c l hl a ha 9 (by decide)
  obtain ⟨g1, g2⟩ := dkN_rng l a 9 (by decide)
  obtain ⟨k, hk⟩ : ∃ k : Nat, dkN l a 9 = (k : Int) := ⟨(dkN l a 9).toNat, by omega⟩
  generalize hS : fullC l a = S
  rw [fullC, hk] at hS
  rw [condL, condA]
  rw [show fullC l a = S by rw [fullC, hk]; exact hS]
  rw [hk] at hN g1 g2
  simp only [Int.toNat_natCast] at hS
  generalize hL : (if 16 < S.out.length then ([] : List Tm) else S.out) = L
  refine (ACalls.of (fn := Try.f14) Try.func14 rfl rfl Try.ntmps14 (fun I M w own => ?_))
  (repeat' (first | refine AW.seq_k (fun K hK => ?_) | (refine hK _ ?_; clear hK) | refine AW.block ?_ | refine AW.region (id := 0) ?_ | refine AW.region (id := 1) ?_ | refine AW.region (id := 2) ?_ | refine AW.region (id := 3) ?_ | refine Run.p rfl rfl rfl (OpP.asA rfl) ?_ | refine Run.p rfl rfl rfl (OpP.mvA rfl) ?_ | refine Run.cSA [0] hN rfl rfl rfl rfl rfl rfl rfl rfl rfl rfl rfl rfl ?_ | refine Run.fin rfl ?_))
  obtain ⟨S1, hS1⟩ : ∃ S1, runC l k ⟨dkA l a, [], 0⟩ = S1 := ⟨_, rfl⟩
  rw [hS1] at hS
  refine AW.loopF (X := Nat × Cs) (fun x => ⟨[(0, .ptr 0 0), (3, .row 1 (tmP x.2.out).length), (4, .v (.int .i64 (x.2.dep : Int))), (5, .v (.int .i64 (x.1 : Int)))], [dkR l x.2.a, .row 2 (tmP x.2.out)]⟩)
    (fun x => x.2.a ≤ l.length ∧ x.2.dep + x.1 ≤ 9 ∧ x.2.out.length + x.1 ≤ 9 ∧ runC l x.1 x.2 = S1) (fun x => x.1) (k, ⟨dkA l a, [], 0⟩) ?_ ?_ ?_
  · refine Conv.own 3 2 [] (Or.inr ⟨rfl, rfl⟩) ?_
    refine Conv.mk [0, 1] rfl rfl rfl ?_ rfl ?_
    · (repeat' (first | exact Cf.nil | exact Cv.refl | refine Cf.cons' (by (conv => lhs; whnf) <;> rfl) ?_ ?_))
    · (repeat' (first | exact CvL.refl _ | exact Crs.nil | refine Crs.cons ?_ rfl ?_ | refine Cr.row ?_ | refine Cr.box ?_))
      all_goals rfl
  · exact ⟨dkA_le ha, by simp only; omega, by simp only [List.length_nil]; omega, hS1⟩
  rintro ⟨kx, ⟨sa, so, sd⟩⟩ ⟨hs, hd, ho, hrun⟩
  simp only at hs hd ho hrun ⊢
  have hol : (tmP so).length = so.length := by simp
  cases kx with
  | zero =>
    rw [runC] at hrun
    subst hrun
    (repeat' (first | refine AW.seq_k (fun K hK => ?_) | (refine hK _ ?_; clear hK) | (refine AW.condD rfl (fun hc => ?_) (fun hc => ?_) <;> try (first | (exfalso; omega) | (cases hc; done))) | refine AW.block ?_ | refine AW.exit ?_ | (clear hK; refine hK _ ?_; clear hK) | refine AW.region (id := 4) ?_ | refine Run.p rfl rfl rfl (OpP.mvA rfl) ?_ | refine Run.p rfl rfl rfl (OpP.gtt rfl rfl rfl) ?_ | refine Run.fin rfl ?_))
    refine AW.loopF (X := Nat × Cs) (fun x => ⟨[(0, .ptr 0 0), (3, .row 1 (tmP x.2.out).length), (4, .v (.int .i64 (x.2.dep : Int)))], [dkR l x.2.a, .row 2 (tmP x.2.out)]⟩)
      (fun x => x.2.a ≤ l.length ∧ x.1 = x.2.dep - 1 ∧ x.2.dep ≤ 9 ∧ x.2.out.length + x.1 ≤ 18 ∧ endC l x.1 x.2 = S) (fun x => x.1) (sd - 1, ⟨sa, so, sd⟩) ?_ ?_ ?_
    · refine Conv.mk [0, 1] rfl rfl rfl ?_ rfl ?_
      · (repeat' (first | exact Cf.nil | exact Cv.refl | refine Cf.cons' (by (conv => lhs; whnf) <;> rfl) ?_ ?_))
      · (repeat' (first | exact CvL.refl _ | exact Crs.nil | refine Crs.cons ?_ rfl ?_ | refine Cr.row ?_ | refine Cr.box ?_))
        all_goals rfl
    · exact ⟨hs, rfl, by simp only; omega, by simp only; omega, hS⟩
    rintro ⟨kx, ⟨ta, to, td⟩⟩ ⟨hs, hk1, hd, ho, hrun⟩
    simp only at hs hk1 hd ho hrun ⊢
    have hol : (tmP to).length = to.length := by simp
    cases kx with
    | succ kk =>
      rw [endC] at hrun
      simp only at hrun
      have hN2 := Next_c l hl ta hs 2 (by decide)
      obtain ⟨c1, c2⟩ := dkN_rng l ta 2 (by decide)
      generalize dkN l ta 2 = c at hN2 hrun c1 c2
      (repeat' (first | refine AW.seq_k (fun K hK => ?_) | (refine hK _ ?_; clear hK) | (refine AW.condD rfl (fun hc => ?_) (fun hc => ?_) <;> try (first | (exfalso; omega) | (cases hc; done))) | refine AW.block ?_ | refine AW.skip ?_ | refine AW.region (id := 14) ?_ | refine AW.region (id := 16) ?_ | refine AW.region (id := 15) ?_ | refine Run.p rfl rfl rfl (OpP.mvA rfl) ?_ | refine Run.cSA [0] hN2 rfl rfl rfl rfl rfl rfl rfl rfl rfl rfl rfl rfl ?_ | refine Run.p rfl rfl rfl (OpP.addA rfl rfl rfl) ?_ | refine Run.p rfl rfl rfl (OpP.buildSA rfl) ?_ | refine Run.bsA rfl rfl rfl rfl rfl rfl ?_ | refine Run.apRA rfl rfl rfl rfl rfl rfl rfl rfl rfl ?_ | refine Run.p rfl rfl rfl (OpP.asA rfl) ?_ | refine Run.p rfl rfl rfl (OpP.subA rfl rfl rfl) ?_ | refine Run.p rfl rfl rfl (OpP.gtt rfl rfl rfl) ?_ | refine Run.fin rfl ?_))
      all_goals first | (exfalso; omega) | skip
      ((repeat (with_reducible refine inB_n ?_)); refine thenA_n ?_)
      refine ⟨(kk, ⟨dkA l ta, to ++ [(4 + c, [])], td - 1⟩), ⟨?_, ?_, ?_, ?_, ?_⟩, by simp, ?_⟩
      · exact dkA_le hs
      · simp only; omega
      · simp only; omega
      · simp only [List.length_append, List.length_cons, List.length_nil]; omega
      · exact hrun
      · simp only
        rw [tmP_snoc]
        refine Conv.mk [0, 1] rfl rfl rfl ?_ rfl ?_
        · (repeat' (first | exact Cf.nil | exact Cv.refl | refine Cf.cons' (by (conv => lhs; whnf) <;> rfl) ?_ ?_))
          all_goals first | rfl | (refine Cv.eq ?_; simp [AV.ren, AV.rens, renL]; done) | (refine Cv.eq ?_; simp [AV.ren, AV.rens, renL]; omega)
        · (repeat' (first | exact CvL.refl _ | exact Crs.nil | refine Crs.cons ?_ rfl ?_ | refine Cr.row ?_ | refine Cr.box ?_))
          all_goals rfl
    | zero =>
      rw [endC] at hrun
      subst hrun
      simp only
      by_cases hbig : 16 < to.length
      · obtain rfl : [] = L := by rw [← hL]; exact (if_pos hbig).symm
        (repeat' (first | refine AW.seq_k (fun K hK => ?_) | (refine hK _ ?_; clear hK) | (refine AW.condD rfl (fun hc => ?_) (fun hc => ?_) <;> try (first | (exfalso; omega) | (cases hc; done))) | refine AW.exit ?_ | refine AW.ret ?_ | (clear hK; refine hK _ ?_; clear hK) | refine AW.region (id := 14) ?_ | refine AW.region (id := 17) ?_ | refine AW.region (id := 18) ?_ | refine Run.p rfl rfl rfl (OpP.mvA rfl) ?_ | refine Run.ri rfl rfl rfl (OpRI.lenA rfl rfl) rfl ?_ | refine Run.p rfl rfl rfl (OpP.asA rfl) ?_ | refine Run.p rfl rfl rfl (OpP.gtt rfl rfl rfl) ?_ | refine Run.fin rfl ?_))
        all_goals first | (exfalso; simp only [List.length_map] at *; omega) | skip
        ((first | refine RetOk.tupS [0] rfl rfl rfl rfl rfl ?_ ?_ | refine RetOk.oneS [0] rfl rfl rfl rfl ?_ ?_) <;> (repeat' (first | exact Cv.nil | exact RetC.nil | exact CvL.refl _ | exact Crs.nil | refine Crs.cons ?_ rfl ?_ | refine Cr.box ?_ | refine RetC.tmp (by (conv => lhs; whnf) <;> rfl) ?_ ?_)))
      · obtain rfl : to = L := by rw [← hL]; exact (if_neg hbig).symm
        (repeat' (first | refine AW.seq_k (fun K hK => ?_) | (refine hK _ ?_; clear hK) | (refine AW.condD rfl (fun hc => ?_) (fun hc => ?_) <;> try (first | (exfalso; omega) | (cases hc; done))) | refine AW.exit ?_ | refine AW.ret ?_ | refine AW.skip ?_ | (clear hK; refine hK _ ?_; clear hK) | refine AW.region (id := 14) ?_ | refine AW.region (id := 17) ?_ | refine AW.region (id := 19) ?_ | refine Run.p rfl rfl rfl (OpP.mvA rfl) ?_ | refine Run.ri rfl rfl rfl (OpRI.lenA rfl rfl) rfl ?_ | refine Run.p rfl rfl rfl (OpP.asA rfl) ?_ | refine Run.p rfl rfl rfl (OpP.gtt rfl rfl rfl) ?_ | refine Run.fin rfl ?_))
        all_goals first | (exfalso; simp only [List.length_map] at *; omega) | skip
        ((first | refine RetOk.tupS [0] rfl rfl rfl rfl rfl ?_ ?_ | refine RetOk.oneS [0] rfl rfl rfl rfl ?_ ?_) <;> (repeat' (first | exact Cv.rowf rfl rfl | exact RetC.nil | exact CvL.refl _ | exact Crs.nil | refine Crs.cons ?_ rfl ?_ | refine Cr.box ?_ | refine RetC.tmp (by (conv => lhs; whnf) <;> rfl) ?_ ?_)))
  | succ kk =>
    rw [runC, stepC] at hrun
    simp only at hrun
    have hN5 := Next_c l hl sa hs 5 (by decide)
    have hRo := Role_c l hl (dkA l sa) (dkA_le hs)
    have hCl := Class_c l hl (dkA l sa) (dkA_le hs)
    obtain ⟨c1, c2⟩ := dkN_rng l sa 5 (by decide)
    generalize dkN l sa 5 = c at hN5 hrun c1 c2
    by_cases hA : c = 0 ∧ 1 ≤ sd
    · rw [if_pos hA] at hrun
      obtain ⟨rfl, hA2⟩ := hA
      · (repeat' (first | refine AW.seq_k (fun K hK => ?_) | (refine hK _ ?_; clear hK) | (refine AW.condD rfl (fun hc => ?_) (fun hc => ?_) <;> try (first | (exfalso; omega) | (cases hc; done))) | refine AW.block ?_ | refine AW.skip ?_ | refine AW.region (id := 4) ?_ | refine AW.region (id := 6) ?_ | refine AW.region (id := 8) ?_ | refine AW.region (id := 9) ?_ | refine AW.region (id := 5) ?_ | refine Run.p rfl rfl rfl (OpP.mvA rfl) ?_ | refine Run.cSA [0] hN5 rfl rfl rfl rfl rfl rfl rfl rfl rfl rfl rfl rfl ?_ | refine Run.p rfl rfl rfl (OpP.asA rfl) ?_ | refine Run.p rfl rfl rfl (OpP.buildSA rfl) ?_ | refine Run.bsA rfl rfl rfl rfl rfl rfl ?_ | refine Run.apRA rfl rfl rfl rfl rfl rfl rfl rfl rfl ?_ | refine Run.p rfl rfl rfl (OpP.subA rfl rfl rfl) ?_ | refine Run.p rfl rfl rfl (OpP.gtt rfl rfl rfl) ?_ | refine Run.p rfl rfl rfl (OpP.eq rfl rfl rfl) ?_ | refine Run.p rfl rfl rfl (OpP.gee rfl rfl rfl) ?_ | refine Run.p rfl rfl rfl (OpP.pickA rfl rfl) ?_ | refine Run.fin rfl ?_))
        all_goals first | (exfalso; omega) | skip
        ((repeat (with_reducible refine inB_n ?_)); refine thenA_n ?_)
        refine ⟨(kk, ⟨dkA l sa, so ++ [(3, [])], sd⟩), ⟨?_, ?_, ?_, ?_⟩, by simp, ?_⟩
        · simp only; first | exact dkA_le hs | exact dkA_le (dkA_le hs)
        · simp only; omega
        · simp only [List.length_append, List.length_cons, List.length_nil]; omega
        · exact hrun
        · simp only
          rw [tmP_snoc]
          refine Conv.mk [0, 1] rfl rfl rfl ?_ rfl ?_
          · (repeat' (first | exact Cf.nil | exact Cv.refl | refine Cf.cons' (by (conv => lhs; whnf) <;> rfl) ?_ ?_))
            all_goals first | rfl | (refine Cv.eq ?_; simp [AV.ren, AV.rens, renL]; done) | (refine Cv.eq ?_; simp [AV.ren, AV.rens, renL]; omega)
          · (repeat' (first | exact CvL.refl _ | exact Crs.nil | refine Crs.cons ?_ rfl ?_ | refine Cr.row ?_ | refine Cr.box ?_))
            all_goals rfl
    rw [if_neg hA] at hrun
    by_cases hB : c ≤ 2 ∧ 2 ≤ sd
    · rw [if_pos hB] at hrun
      have hA3 : ¬ c = 0 := by omega
      · (repeat' (first | refine AW.seq_k (fun K hK => ?_) | (refine hK _ ?_; clear hK) | (refine AW.condD rfl (fun hc => ?_) (fun hc => ?_) <;> try (first | (exfalso; omega) | (cases hc; done))) | (refine AW.cond rfl (fun hc => ?_) (fun hc => ?_) <;> (try simp only [Bool.and_eq_true, Bool.or_eq_true, Bool.not_eq_true', Bool.not_eq_false', Bool.and_eq_false_iff, Bool.or_eq_false_iff, Bool.and_eq_false_imp, decide_eq_true_eq, decide_eq_false_iff_not, Decidable.not_not, Int.not_lt, Int.not_le, ne_eq, Bool.not_not] at hc) <;> try (first | (exfalso; omega) | (cases hc; done))) | refine AW.block ?_ | refine AW.skip ?_ | refine AW.region (id := 4) ?_ | refine AW.region (id := 6) ?_ | refine AW.region (id := 8) ?_ | refine AW.region (id := 10) ?_ | refine AW.region (id := 11) ?_ | refine AW.region (id := 5) ?_ | refine Run.p rfl rfl rfl (OpP.mvA rfl) ?_ | refine Run.cSA [0] hN5 rfl rfl rfl rfl rfl rfl rfl rfl rfl rfl rfl rfl ?_ | refine Run.p rfl rfl rfl (OpP.asA rfl) ?_ | refine Run.p rfl rfl rfl (OpP.pickAnd rfl rfl rfl rfl) ?_ | refine Run.p rfl rfl rfl (OpP.addA rfl rfl rfl) ?_ | refine Run.p rfl rfl rfl (OpP.subA rfl rfl rfl) ?_ | refine Run.p rfl rfl rfl (OpP.buildSA rfl) ?_ | refine Run.bsA rfl rfl rfl rfl rfl rfl ?_ | refine Run.apRA rfl rfl rfl rfl rfl rfl rfl rfl rfl ?_ | refine Run.p rfl rfl rfl (OpP.decF (OpP.eq rfl rfl rfl) (by assumption)) ?_ | refine Run.p rfl rfl rfl (OpP.gtt rfl rfl rfl) ?_ | refine Run.p rfl rfl rfl (OpP.pickA rfl rfl) ?_ | refine Run.p rfl rfl rfl (OpP.lee rfl rfl rfl) ?_ | refine Run.gpc (by first | exact Gd.t rfl rfl rfl rfl | exact Gd.t2 rfl rfl rfl rfl) rfl rfl (fun hg => ⟨OpP.mvA rfl, (by repeat (first | exact trivial | assumption | refine ⟨?_, ?_⟩))⟩) ?_ | refine Run.sk rfl rfl rfl ?_ | refine Run.gpc (by first | exact Gd.t rfl rfl rfl rfl | exact Gd.t2 rfl rfl rfl rfl) rfl rfl (fun hg => ⟨OpP.gee rfl rfl rfl, (by repeat (first | exact trivial | assumption | refine ⟨?_, ?_⟩))⟩) ?_ | refine Run.fin rfl ?_))
        all_goals first | (exfalso; omega) | skip
        ((repeat (with_reducible refine inB_n ?_)); refine thenA_n ?_)
        refine ⟨(kk, ⟨dkA l sa, so ++ [(4 + c - 1, [])], sd - 1⟩), ⟨?_, ?_, ?_, ?_⟩, by simp, ?_⟩
        · simp only; first | exact dkA_le hs | exact dkA_le (dkA_le hs)
        · simp only; omega
        · simp only [List.length_append, List.length_cons, List.length_nil]; omega
        · exact hrun
        · simp only
          rw [tmP_snoc]
          refine Conv.mk [0, 1] rfl rfl rfl ?_ rfl ?_
          · (repeat' (first | exact Cf.nil | exact Cv.refl | refine Cf.cons' (by (conv => lhs; whnf) <;> rfl) ?_ ?_))
            all_goals first | rfl | (refine Cv.eq ?_; simp [AV.ren, AV.rens, renL]; done) | (refine Cv.eq ?_; simp [AV.ren, AV.rens, renL]; omega)
          · (repeat' (first | exact CvL.refl _ | exact Crs.nil | refine Crs.cons ?_ rfl ?_ | refine Cr.row ?_ | refine Cr.box ?_))
            all_goals rfl
    rw [if_neg hB] at hrun
    by_cases hC : c = 3
    · rw [if_pos hC] at hrun
      · (repeat' (first | refine AW.seq_k (fun K hK => ?_) | (refine hK _ ?_; clear hK) | (refine AW.condD rfl (fun hc => ?_) (fun hc => ?_) <;> try (first | (exfalso; omega) | (cases hc; done))) | (refine AW.cond rfl (fun hc => ?_) (fun hc => ?_) <;> (try simp only [Bool.and_eq_true, Bool.or_eq_true, Bool.not_eq_true', Bool.not_eq_false', Bool.and_eq_false_iff, Bool.or_eq_false_iff, Bool.and_eq_false_imp, decide_eq_true_eq, decide_eq_false_iff_not, Decidable.not_not, Int.not_lt, Int.not_le, ne_eq, Bool.not_not] at hc) <;> try (first | (exfalso; omega) | (cases hc; done))) | refine AW.block ?_ | refine AW.skip ?_ | refine AW.region (id := 4) ?_ | refine AW.region (id := 6) ?_ | refine AW.region (id := 8) ?_ | refine AW.region (id := 10) ?_ | refine AW.region (id := 12) ?_ | refine AW.region (id := 13) ?_ | refine AW.region (id := 5) ?_ | refine Run.p rfl rfl rfl (OpP.mvA rfl) ?_ | refine Run.cSA [0] hN5 rfl rfl rfl rfl rfl rfl rfl rfl rfl rfl rfl rfl ?_ | refine Run.p rfl rfl rfl (OpP.asA rfl) ?_ | refine Run.p rfl rfl rfl (OpP.pickAnd rfl rfl rfl rfl) ?_ | refine Run.p rfl rfl rfl (OpP.decT (OpP.eq rfl rfl rfl) (by assumption)) ?_ | refine Run.cSA [0] hCl rfl rfl rfl rfl rfl rfl rfl rfl rfl rfl rfl rfl ?_ | refine Run.p rfl rfl rfl (OpP.buildSA rfl) ?_ | refine Run.bsA rfl rfl rfl rfl rfl rfl ?_ | refine Run.apRA rfl rfl rfl rfl rfl rfl rfl rfl rfl ?_ | refine Run.p rfl rfl rfl (OpP.addA rfl rfl rfl) ?_ | refine Run.p rfl rfl rfl (OpP.subA rfl rfl rfl) ?_ | refine Run.p rfl rfl rfl (OpP.gtt rfl rfl rfl) ?_ | refine Run.p rfl rfl rfl (OpP.eq rfl rfl rfl) ?_ | refine Run.p rfl rfl rfl (OpP.lee rfl rfl rfl) ?_ | refine Run.gpc (by first | exact Gd.t rfl rfl rfl rfl | exact Gd.t2 rfl rfl rfl rfl) rfl rfl (fun hg => ⟨OpP.mvA rfl, (by repeat (first | exact trivial | assumption | refine ⟨?_, ?_⟩))⟩) ?_ | refine Run.gpc (by first | exact Gd.t rfl rfl rfl rfl | exact Gd.t2 rfl rfl rfl rfl) rfl rfl (fun hg => ⟨OpP.gee rfl rfl rfl, (by repeat (first | exact trivial | assumption | refine ⟨?_, ?_⟩))⟩) ?_ | refine Run.fin rfl ?_))
        all_goals first | (exfalso; omega) | skip
        ((repeat (with_reducible refine inB_n ?_)); refine thenA_n ?_)
        refine ⟨(kk, ⟨dkA l (dkA l sa), so ++ [(2, classAt (dkN l (dkA l sa) 4))], sd + 1⟩), ⟨?_, ?_, ?_, ?_⟩, by simp, ?_⟩
        · simp only; first | exact dkA_le hs | exact dkA_le (dkA_le hs)
        · simp only; omega
        · simp only [List.length_append, List.length_cons, List.length_nil]; omega
        · exact hrun
        · simp only
          rw [tmP_snoc]
          refine Conv.mk [0, 1] rfl rfl rfl ?_ rfl ?_
          · (repeat' (first | exact Cf.nil | exact Cv.refl | refine Cf.cons' (by (conv => lhs; whnf) <;> rfl) ?_ ?_))
            all_goals first | rfl | (refine Cv.eq ?_; simp [AV.ren, AV.rens, renL]; done) | (refine Cv.eq ?_; simp [AV.ren, AV.rens, renL]; omega)
          · (repeat' (first | exact CvL.refl _ | exact Crs.nil | refine Crs.cons ?_ rfl ?_ | refine Cr.row ?_ | refine Cr.box ?_))
            all_goals rfl
    · rw [if_neg hC] at hrun
      · (repeat' (first | refine AW.seq_k (fun K hK => ?_) | (refine hK _ ?_; clear hK) | (refine AW.condD rfl (fun hc => ?_) (fun hc => ?_) <;> try (first | (exfalso; omega) | (cases hc; done))) | (refine AW.cond rfl (fun hc => ?_) (fun hc => ?_) <;> (try simp only [Bool.and_eq_true, Bool.or_eq_true, Bool.not_eq_true', Bool.not_eq_false', Bool.and_eq_false_iff, Bool.or_eq_false_iff, Bool.and_eq_false_imp, decide_eq_true_eq, decide_eq_false_iff_not, Decidable.not_not, Int.not_lt, Int.not_le, ne_eq, Bool.not_not] at hc) <;> try (first | (exfalso; omega) | (cases hc; done))) | refine AW.block ?_ | refine AW.skip ?_ | refine AW.region (id := 4) ?_ | refine AW.region (id := 6) ?_ | refine AW.region (id := 8) ?_ | refine AW.region (id := 10) ?_ | refine AW.region (id := 12) ?_ | refine AW.region (id := 7) ?_ | refine AW.region (id := 5) ?_ | refine Run.p rfl rfl rfl (OpP.mvA rfl) ?_ | refine Run.cSA [0] hN5 rfl rfl rfl rfl rfl rfl rfl rfl rfl rfl rfl rfl ?_ | refine Run.p rfl rfl rfl (OpP.asA rfl) ?_ | refine Run.p rfl rfl rfl (OpP.pickAnd rfl rfl rfl rfl) ?_ | refine Run.cSA [0] hRo rfl rfl rfl rfl rfl rfl rfl rfl rfl rfl rfl rfl ?_ | refine Run.p rfl rfl rfl (OpP.buildSA rfl) ?_ | refine Run.bsA rfl rfl rfl rfl rfl rfl ?_ | refine Run.apRA rfl rfl rfl rfl rfl rfl rfl rfl rfl ?_ | refine Run.p rfl rfl rfl (OpP.addA rfl rfl rfl) ?_ | refine Run.p rfl rfl rfl (OpP.subA rfl rfl rfl) ?_ | refine Run.p rfl rfl rfl (OpP.decF (OpP.eq rfl rfl rfl) (by assumption)) ?_ | refine Run.p rfl rfl rfl (OpP.gtt rfl rfl rfl) ?_ | refine Run.p rfl rfl rfl (OpP.eq rfl rfl rfl) ?_ | refine Run.p rfl rfl rfl (OpP.lee rfl rfl rfl) ?_ | refine Run.gpc (by first | exact Gd.t rfl rfl rfl rfl | exact Gd.t2 rfl rfl rfl rfl) rfl rfl (fun hg => ⟨OpP.mvA rfl, (by repeat (first | exact trivial | assumption | refine ⟨?_, ?_⟩))⟩) ?_ | refine Run.gpc (by first | exact Gd.t rfl rfl rfl rfl | exact Gd.t2 rfl rfl rfl rfl) rfl rfl (fun hg => ⟨OpP.gee rfl rfl rfl, (by repeat (first | exact trivial | assumption | refine ⟨?_, ?_⟩))⟩) ?_ | refine Run.fin rfl ?_))
        all_goals first | (exfalso; omega) | skip
        ((repeat (with_reducible refine inB_n ?_)); refine thenA_n ?_)
        refine ⟨(kk, ⟨dkA l (dkA l sa), so ++ [(1, roleAt (dkN l (dkA l sa) 4))], sd + 1⟩), ⟨?_, ?_, ?_, ?_⟩, by simp, ?_⟩
        · simp only; first | exact dkA_le hs | exact dkA_le (dkA_le hs)
        · simp only; omega
        · simp only [List.length_append, List.length_cons, List.length_nil]; omega
        · exact hrun
        · simp only
          rw [tmP_snoc]
          refine Conv.mk [0, 1] rfl rfl rfl ?_ rfl ?_
          · (repeat' (first | exact Cf.nil | exact Cv.refl | refine Cf.cons' (by (conv => lhs; whnf) <;> rfl) ?_ ?_))
            all_goals first | rfl | (refine Cv.eq ?_; simp [AV.ren, AV.rens, renL]; done) | (refine Cv.eq ?_; simp [AV.ren, AV.rens, renL]; omega)
          · (repeat' (first | exact CvL.refl _ | exact Crs.nil | refine Crs.cons ?_ rfl ?_ | refine Cr.row ?_ | refine Cr.box ?_))
            all_goals rfl
end Go.Proofs.Ytpacgphnpalepaa
/-
  Plain laws of conditions.
-/
namespace Go.Proofs.Ytpacgphnpalepaa
set_option linter.unusedVariables false
set_option linter.unusedSimpArgs false
theorem foldN_app : ∀ (x : List Tm) (n : Nat) (y : List Tm), foldN n (x ++ y) = (foldN n x).bind fun d => foldN d y
  | [], n, y => rfl
  | t :: x, n, y => by
    rw [List.cons_append, foldN, foldN]
    split
    · rfl
    · exact foldN_app x _ y
theorem foldB_len (rs ds : List Wd) : ∀ (x : List Tm) (st : List Bool), (foldB rs ds st x).map List.length = foldN st.length x
  | [], st => rfl
  | t :: x, st => by
    rw [foldB, foldN]
    split
    · rfl
    · rw [foldB_len rs ds x]
      congr 1
      simp only [List.length_append, List.length_take, List.length_cons, List.length_nil]
      omega
theorem badT_false {n : Nat} {t : Tm} (h : ¬ badT n t = true) : 0 ≤ arityF t.1 ∧ arityF t.1 ≤ n ∧ (arityF t.1 = 0 → nameB t.2 = true) ∧ (0 < arityF t.1 → t.2 = []) := by
  simp only [badT, decide_eq_true_eq, not_or, not_and, Bool.not_eq_false, Decidable.not_not] at h
  exact ⟨by omega, by omega, h.2.2.1, h.2.2.2⟩
/-- a condition that is proper, and not empty -/
def Prop1 (c : List Tm) : Prop := foldN 0 c = some 1
theorem Prop1.val {c : List Tm} (h : Prop1 c) (rs ds : List Wd) : ∃ v, foldB rs ds [] c = some [v] := by
  have hl := foldB_len rs ds c []
  rw [show ([] : List Bool).length = 0 from rfl, h] at hl
  cases he : foldB rs ds [] c with
  | none => rw [he] at hl; cases hl
  | some st =>
    rw [he] at hl
    obtain ⟨v, hv⟩ := List.length_eq_one_iff.1 (Option.some.inj hl)
    exact ⟨v, by rw [hv]⟩
theorem holdsF_val {rs ds : List Wd} {c : List Tm} {v : Bool} (h : foldB rs ds [] c = some [v]) (hl : c.length ≤ 16) : holdsF rs ds c = v := by
  have hne : c ≠ [] := by rintro rfl; rw [foldB] at h; simp at h
  rw [holdsF, if_neg hne, foldE, if_neg (by omega), h]
  simp
end Go.Proofs.Ytpacgphnpalepaa
/-
  Walks of the law of logic: a condition with one more term.
-/
namespace Go.Proofs.Ytpacgphnpalepaa
set_option linter.unusedVariables false
set_option linter.unusedSimpArgs false
end Go.Proofs.Ytpacgphnpalepaa
/-
  Plain laws of the conditions that the dice make.
-/
namespace Go.Proofs.Ytpacgphnpalepaa
set_option linter.unusedVariables false
set_option linter.unusedSimpArgs false
structure OkC (s : Cs) : Prop where
  fold : foldN 0 s.out = some s.dep
  nil : s.dep = 0 → s.out = []
  nms : ∀ t ∈ s.out, t.2.length ≤ 100
theorem foldN_snoc {x : List Tm} {d : Nat} {t : Tm} (h : foldN 0 x = some d) (hb : ¬ badT d t = true) : foldN 0 (x ++ [t]) = some (d - (arityF t.1).toNat + 1) := by
  rw [foldN_app, h, Option.bind_some, foldN, if_neg hb, foldN]
theorem nms_snoc {x : List Tm} {t : Tm} (h : ∀ t ∈ x, t.2.length ≤ 100) (ht : t.2.length ≤ 100) : ∀ u ∈ x ++ [t], u.2.length ≤ 100 := by
  intro u hu
  rcases List.mem_append.1 hu with q | q
  · exact h u q
  · obtain rfl := List.mem_singleton.1 q; exact ht
theorem role_ok {n : Int} (h : 0 ≤ n ∧ n < 4) : nameB (roleAt n) = true ∧ (roleAt n).length ≤ 100 := by
  obtain ⟨m, rfl⟩ : ∃ m : Nat, n = m := ⟨n.toNat, by omega⟩
  rcases m with _ | _ | _ | _ | m
  · exact ⟨by decide, by decide⟩
  · exact ⟨by decide, by decide⟩
  · exact ⟨by decide, by decide⟩
  · exact ⟨by decide, by decide⟩
  · omega
theorem class_ok {n : Int} (h : 0 ≤ n ∧ n < 4) : nameB (classAt n) = true ∧ (classAt n).length ≤ 100 := by
  obtain ⟨m, rfl⟩ : ∃ m : Nat, n = m := ⟨n.toNat, by omega⟩
  rcases m with _ | _ | _ | _ | m
  · exact ⟨by decide, by decide⟩
  · exact ⟨by decide, by decide⟩
  · exact ⟨by decide, by decide⟩
  · exact ⟨by decide, by decide⟩
  · omega
theorem stepC_ok {l : List Int} {s : Cs} (h : OkC s) : OkC (stepC l s) := by
  obtain ⟨c1, c2⟩ := dkN_rng l s.a 5 (by decide)
  have r4 := dkN_rng l (dkA l s.a) 4 (by decide)
  have hR := role_ok r4
  have hC := class_ok r4
  rw [stepC]
  generalize dkN l s.a 5 = c at c1 c2 ⊢
  split
  · rename_i hA
    have hb : ¬ badT s.dep (3, []) = true := by simp [badT, arityF]; omega
    refine ⟨?_, fun h0 => by simp only at h0; omega, nms_snoc h.nms (by simp)⟩
    have := foldN_snoc h.fold hb
    simp only
    rw [this]
    simp [arityF]
    omega
  split
  · rename_i hA hB
    have hk : c = 1 ∨ c = 2 := by omega
    have har : arityF (4 + c - 1) = 2 := by rcases hk with rfl | rfl <;> rfl
    have hb : ¬ badT s.dep (4 + c - 1, []) = true := by simp [badT, har]; omega
    refine ⟨?_, fun h0 => by simp only at h0; omega, nms_snoc h.nms (by simp)⟩
    have := foldN_snoc h.fold hb
    simp only at this ⊢
    rw [this, har]
    congr 1
    omega
  split
  · have hb : ¬ badT s.dep (2, classAt (dkN l (dkA l s.a) 4)) = true := by simp [badT, arityF, hC.1]
    refine ⟨?_, fun h0 => by simp only at h0; omega, nms_snoc h.nms hC.2⟩
    have := foldN_snoc h.fold hb
    simp only at this ⊢
    rw [this]
    rfl
  · have hb : ¬ badT s.dep (1, roleAt (dkN l (dkA l s.a) 4)) = true := by simp [badT, arityF, hR.1]
    refine ⟨?_, fun h0 => by simp only at h0; omega, nms_snoc h.nms hR.2⟩
    have := foldN_snoc h.fold hb
    simp only at this ⊢
    rw [this]
    rfl
theorem runC_ok {l : List Int} : ∀ (k : Nat) (s : Cs), OkC s → OkC (runC l k s)
  | 0, s, h => h
  | k + 1, s, h => runC_ok k _ (stepC_ok h)
theorem endC_ok {l : List Int} : ∀ (k : Nat) (s : Cs), OkC s → k = s.dep - 1 → OkC (endC l k s) ∧ (endC l k s).dep ≤ 1
  | 0, s, h, hk => ⟨h, by rw [endC]; omega⟩
  | k + 1, s, h, hk => by
    obtain ⟨c1, c2⟩ := dkN_rng l s.a 2 (by decide)
    rw [endC]
    generalize dkN l s.a 2 = c at c1 c2 ⊢
    have hk2 : c = 0 ∨ c = 1 := by omega
    have har : arityF (4 + c) = 2 := by rcases hk2 with rfl | rfl <;> rfl
    have hb : ¬ badT s.dep (4 + c, []) = true := by simp [badT, har]; omega
    refine endC_ok k _ ⟨?_, fun h0 => by simp only at h0; omega, nms_snoc h.nms (by simp)⟩ (by simp only; omega)
    have := foldN_snoc h.fold hb
    simp only at this ⊢
    rw [this, har]
    congr 1
    omega
theorem condL_ok (l : List Int) (a : Nat) : (condL l a = [] ∨ Prop1 (condL l a)) ∧ (condL l a).length ≤ 16 ∧ ∀ t ∈ condL l a, t.2.length ≤ 100 := by
  have h0 : OkC ⟨dkA l a, [], 0⟩ := ⟨rfl, fun _ => rfl, fun t ht => by simp at ht⟩
  have h1 := runC_ok (l := l) (dkN l a 9).toNat _ h0
  obtain ⟨h2, h3⟩ := endC_ok (l := l) _ _ h1 rfl
  have h4 : fullC l a = endC l ((runC l (dkN l a 9).toNat ⟨dkA l a, [], 0⟩).dep - 1) (runC l (dkN l a 9).toNat ⟨dkA l a, [], 0⟩) := rfl
  rw [← h4] at h2 h3
  rw [condL]
  split
  · exact ⟨.inl rfl, by simp, fun t ht => by simp at ht⟩
  · refine ⟨?_, by omega, h2.nms⟩
    rcases Nat.eq_zero_or_pos (fullC l a).dep with q | q
    · exact .inl (h2.nil q)
    · refine .inr ?_
      rw [Prop1, h2.fold]
      congr 1
      omega
end Go.Proofs.Ytpacgphnpalepaa
