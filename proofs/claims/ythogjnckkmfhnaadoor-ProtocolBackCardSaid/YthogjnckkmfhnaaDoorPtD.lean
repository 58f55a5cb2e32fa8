/-
  The law ProtocolBack: the walk.
-/
import Derived.Test.YthogjnckkmfhnaaDoorPtC
import Derived.Test.YthogjnckkmfhnaaDoorNil
namespace Go.Proofs.YthogjnckkmfhnaaDoor
set_option linter.unusedVariables false
set_option linter.unusedSimpArgs false
theorem roleQ_nm (k : Int) : nameB (roleQ k) = true := by unfold roleQ; (repeat' split) <;> decide
theorem reqQ_valid (l : List Int) : rvalidQ (reqQ l).1 = true := by
  have b0 := dkN_rng l 0 12 (by decide)
  have b1 := dkN_rng l (dkA l 0) 4 (by decide)
  have b2 := dkN_rng l (dkA l (reqB l)) 4 (by decide)
  have b3 := dkN_rng l (dkA l (dkA l (reqB l))) 3 (by decide)
  have b6 := dkN_rng l (reqB l) 101 (by decide)
  have b7 := dkN_rng l (reqB l) 2 (by decide)
  have b8 := dkN_rng l (reqB l) 80 (by decide)
  have b9 := dkN_rng l (reqB l) 100 (by decide)
  have b10 := dkN_rng l (reqB l) 5 (by decide)
  have hr := roleQ_nm (dkN l (reqB l) 4)
  have hra : ∀ k, 1000 ≤ rateQ k ∧ rateQ k ≤ 768000 := by intro k; unfold rateQ; (repeat' split) <;> omega
  have hla : ∀ k, 0 ≤ latQ k ∧ latQ k ≤ 1099511627776 := by intro k; unfold latQ; (repeat' split) <;> omega
  have hdl := datQ_len l (dkN l (reqB l) 80).toNat (dkA l (reqB l)) []
  have htx : ∀ k, (textQ k).length ≤ 64 := by
    intro k
    unfold textQ
    have hT : ∀ v ∈ textT, v.length ≤ 64 := by decide
    rcases Nat.lt_or_ge k.toNat textT.length with h | h
    · simp only [List.getD_eq_getElem?_getD, h, List.getElem?_eq_getElem, Option.getD_some]
      exact hT _ (List.getElem_mem _)
    · simp [h]
  have e1 := hra (dkN l (dkA l (dkA l (dkA l (reqB l)))) 3)
  have e2 := hla (dkN l (dkA l (dkA l (dkA l (dkA l (reqB l))))) 3)
  have e3 := htx (dkN l (reqB l) 6)
  simp only [List.length_nil] at hdl
  have hK : reqK l = 1 + dkN l 0 12 := rfl
  have hk : reqK l = 1 ∨ reqK l = 2 ∨ reqK l = 3 ∨ reqK l = 4 ∨ reqK l = 5 ∨ reqK l = 6 ∨ reqK l = 7 ∨ reqK l = 8 ∨ reqK l = 9 ∨ reqK l = 10 ∨ reqK l = 11 ∨ reqK l = 12 := by omega
  clear hK b0 hra hla htx
  rcases hk with h | h | h | h | h | h | h | h | h | h | h | h
  all_goals (simp only [reqQ, reqA, h]; simp [rvalidQ, sameB, cleanQ, cleanA, wiB, opensB, hr]; try omega)
theorem ProtocolBack_c (ls : List Int) (fl : Bool) (hl : Fits ls) (data : List UInt8) (fd : Bool) (hd : data.length ≤ 9223372036854775807) (text : List UInt8) (ht : text.length ≤ 9223372036854775807) (code : Int) (hc0 : -9223372036854775808 ≤ code ∧ code ≤ 9223372036854775807) :
    ACalls Tryd.prog 5 [.sl 1 (ivs ls) fl, .sl 1 (bsP data) fd, .v (.string (bs text)), .v (.int .i64 code)] [] (.v (.bool true)) [] := by
  have hdl : (bsP data).length = data.length := by simp
  have hN := New_c ls fl
  have hQ := Request_c ls hl
  have o5 := reqQ_fit ls
  have o6 := reqQ_valid ls
  generalize (reqQ ls).1 = rq at hQ o5 o6
  have hM := Mod_c code 1000 hc0 (by decide)
  have hm : 0 ≤ code % 1000 ∧ code % 1000 < 1000 := ⟨Int.emod_nonneg _ (by omega), Int.emod_lt_of_pos _ (by omega)⟩
  generalize code % 1000 = cd at hM hm
  obtain ⟨L, hL⟩ : ∃ L : List Rq, L = [rq, { kind := 8, id := 7, data := data.take 1024 }, { kind := 11, text := text.take 1500 }] := ⟨_, rfl⟩
  have hLl : L.length = 3 := by rw [hL]; rfl
  have hLb : ∀ x ∈ L, rvalidQ x = true ∧ x.fit := by
    rw [hL]; intro x hx
    simp only [List.mem_cons, List.not_mem_nil, or_false] at hx
    rcases hx with rfl | rfl | rfl
    · exact ⟨o6, o5⟩
    · refine ⟨?_, by simp [Rq.fit]⟩
      simp [rvalidQ, sameB, cleanQ, cleanA, wiB]; omega
    · refine ⟨?_, by simp [Rq.fit]⟩
      simp [rvalidQ, sameB, cleanQ, cleanA, wiB]; omega
  obtain ⟨L2, hL2⟩ : ∃ L : List An, L = [{ code := cd }, { data := data.take 1024 }, { text := text.take 1500 }] := ⟨_, rfl⟩
  have hLl2 : L2.length = 3 := by rw [hL2]; rfl
  have hLb2 : ∀ x ∈ L2, validA x = true := by
    rw [hL2]; intro x hx
    simp only [List.mem_cons, List.not_mem_nil, or_false] at hx
    rcases hx with rfl | rfl | rfl
    · unfold validA; rw [if_neg (by simp; omega)]; simp
    · unfold validA; rw [if_neg (by simp; omega)]; simp
    · unfold validA; rw [if_neg (by simp; omega)]; simp
  have hd0 : ¬ ((0 : Int) ≠ 0) := by decide
  refine (ACalls.of (fn := Tryd.f5) Tryd.func5 rfl rfl Tryd.ntmps5 (fun I M w own => ?_))
  (repeat' (first | refine AW.seq_k (fun K hK => ?_) | (refine hK _ ?_; clear hK) | (refine AW.cond rfl (fun hc => ?_) (fun hc => ?_) <;> (try simp only [Bool.and_eq_true, Bool.or_eq_true, Bool.not_eq_true', Bool.not_eq_false', Bool.and_eq_false_iff, Bool.or_eq_false_iff, Bool.and_eq_false_imp, decide_eq_true_eq, decide_eq_false_iff_not, Decidable.not_not, Int.not_lt, Int.not_le, ne_eq, Bool.not_not] at hc) <;> try (first | (exfalso; omega) | (cases hc; done))) | refine AW.skip ?_ | (first | (refine AW.region (id := 0) ?_ <;> (try (refine Run.p rfl rfl rfl (OpP.asA rfl) ?_)) <;> (try refine Run.fin rfl ?_)) | (refine AW.region (id := 1) ?_ <;> (try (refine Run.c0 sane_c rfl rfl rfl rfl rfl rfl rfl rfl ?_)) <;> (try (refine Run.p rfl rfl rfl (OpP.not rfl rfl) ?_)) <;> (try refine Run.fin rfl ?_)) | (refine AW.region (id := 3) ?_ <;> (try (refine Run.p rfl rfl rfl (OpP.mvA rfl) ?_)) <;> (try (refine Run.cSA [] hN rfl rfl rfl rfl rfl rfl rfl rfl rfl rfl rfl rfl ?_)) <;> (try (refine Run.cSA [0] hQ rfl rfl rfl rfl rfl rfl rfl rfl rfl rfl rfl rfl ?_)) <;> (try (refine Run.alA rfl rfl rfl rfl ?_)) <;> (try (refine Run.stA rfl rfl rfl rfl rfl ?_)) <;> (try refine Run.fin rfl ?_)) | (refine AW.draw (id := 4) (by kernel_rfl) ?_ <;> (try (refine Run.ldNA rfl rfl rfl rfl rfl rfl rfl ?_)) <;> (try (refine Run.p rfl rfl rfl (OpP.mvA rfl) ?_)) <;> (try (refine Run.p rfl rfl rfl (OpP.mvA rfl) ?_)) <;> (try (refine Run.ri rfl rfl rfl (OpRI.lenA rfl rfl) rfl ?_)) <;> (try (refine Run.p rfl rfl rfl (OpP.min rfl rfl rfl) ?_)) <;> (try (refine Run.ri rfl rfl rfl (OpRI.sliceHA rfl rfl rfl) rfl ?_)) <;> (try (refine Run.p rfl rfl rfl (OpP.buildSA rfl) ?_)) <;> (try (refine Run.p rfl rfl rfl (OpP.mvA rfl) ?_)) <;> (try (refine Run.p rfl rfl rfl (OpP.mvA rfl) ?_)) <;> (try (refine Run.p rfl rfl rfl (OpP.lenStr rfl rfl) ?_)) <;> (try (refine Run.p rfl rfl rfl (OpP.min rfl rfl rfl) ?_)) <;> (try (refine Run.p rfl rfl rfl (OpP.sliceStrHA rfl rfl rfl rfl) ?_)) <;> (try (refine Run.p rfl rfl rfl (OpP.buildSA rfl) ?_)) <;> (try (refine Run.bsA rfl rfl rfl rfl rfl rfl ?_)) <;> (try (refine Run.ri rfl rfl rfl (OpRI.lenA rfl rfl) rfl ?_)) <;> (try (refine Run.p rfl rfl rfl (OpP.mvA rfl) ?_)) <;> (try refine Run.fin (by kernel_rfl) ?_)))))
  refine AW.block ?_
  refine AW.loopF (X := Nat) (fun x => ⟨[(1, .sl 1 (bsP data) fd), (2, .v (.string (bs text))), (3, .v (.int .i64 code)), (40, .sl 11 (rqP L) true), (41, .v (.int .i64 3)), (42, .v (.int .i64 (x : Int)))], []⟩)
    (fun x => x ≤ 3) (fun x => 3 - x) 0 ?_ ?_ ?_
  · refine Conv.mk [] rfl rfl rfl ?_ rfl ?_
    (repeat' (first | exact Cf.nil | exact Cv.refl | exact CvL.refl _ | exact Cv.rowf rfl rfl | exact Crs.nil | refine Cf.cons' (by (conv => lhs; whnf) <;> rfl) ?_ ?_ | refine Crs.cons ?_ rfl ?_ | exact Cr.no | refine Cr.row ?_ | refine Cr.box ?_ | exact Cv.nil | exact Cv.full | exact CvL.nil | refine CvL.cons ?_ ?_))
    rw [hL]
    refine Cv.slN ?_
    rw [show (min ((bsP data).length : Int) 1024).toNat = min 1024 data.length by omega, show (min (text.length : Int) 1500).toNat = min 1500 text.length by omega]
    (repeat' (first | exact NilRows.nil | refine NilRows.cons ?_ ?_ | exact NilRow.nil | refine NilRow.cons ?_ ?_ | exact NilAs.nil | exact NilAs.same rfl))
    · exact NilAs.same (by simp [List.map_take])
    · exact NilAs.same (by simp [List.map_take])
  · simp
  · intro i hi
    rcases Nat.lt_or_ge i 3 with h | h
    · have hil : i < L.length := by omega
      have hA : At (rqP L) (i : Int) [PV.v (.int .i64 L[i].kind), PV.v (.int .i64 L[i].id), PV.v (.string (bs L[i].role)), PV.v (.int .i64 L[i].dir), PV.v (.int .i64 L[i].ch), PV.v (.int .i64 L[i].rate), PV.v (.int .i64 L[i].lat), PV.v (.int .i64 L[i].n), PV.v (.int .u64 L[i].dev), PV.sl 1 (bsP L[i].data), PV.v (.string (bs L[i].text))] := At.mk i rfl (by simp [hil])
      have hx := hLb L[i] (List.getElem_mem _)
      generalize L[i] = x at hA hx
      obtain ⟨x1, x2⟩ := hx
      obtain ⟨g1, g2, g3, _⟩ := rvalid_sizes x x1
      have q1 := pFormat_c x false ⟨by omega, by omega⟩ (fun h => (rvalid_rng x x2 (by rw [← valid_eq]; exact h)).1)
      obtain ⟨e1, e2, e3⟩ := back_rq x x2 x1
      rw [e1] at q1
      generalize J (wkQ x) = s at q1 e2 e3
      have q2 := Parse_c s
      rw [e3] at q2
      have q3 := rSame_c x x false false (by omega) (by omega)
      rw [show sameB x x = true by simp [sameB]] at q3
      simp only at q1 q2
      (repeat' (first | refine AW.seq_k (fun K hK => ?_) | (refine hK _ ?_; clear hK) | (refine AW.condD rfl (fun hc => ?_) (fun hc => ?_) <;> try (first | (exfalso; omega) | (cases hc; done))) | refine AW.block ?_ | refine AW.skip ?_ | (first | (refine AW.region (id := 5) ?_ <;> (try (refine Run.p rfl rfl rfl (OpP.ltt rfl rfl rfl) ?_)) <;> (try refine Run.fin rfl ?_)) | (refine AW.region (id := 6) ?_ <;> (try (refine Run.ri rfl rfl rfl (OpRI.indexAddrA rfl rfl) rfl ?_)) <;> (try (refine Run.p rfl rfl rfl (OpP.loadES rfl rfl rfl (by repeat constructor)) ?_)) <;> (try (refine Run.alA rfl rfl rfl rfl ?_)) <;> (try (refine Run.stA rfl rfl rfl rfl rfl ?_)) <;> (try refine Run.fin rfl ?_)) | (refine AW.region (id := 7) ?_ <;> (try (refine Run.ldNA rfl rfl rfl rfl rfl rfl rfl ?_)) <;> (try (refine Run.c0 q1 rfl rfl rfl rfl rfl rfl rfl rfl ?_)) <;> (try (refine Run.p rfl rfl rfl (OpP.mvA rfl) ?_)) <;> (try (refine Run.p rfl rfl rfl (OpP.extract rfl rfl rfl) ?_)) <;> (try (refine Run.p rfl rfl rfl (OpP.extract rfl rfl rfl) ?_)) <;> (try (refine Run.p rfl rfl rfl (OpP.asA rfl) ?_)) <;> (try (refine Run.p rfl rfl rfl (OpP.asA rfl) ?_)) <;> (try refine Run.fin rfl ?_)) | (refine AW.region (id := 8) ?_ <;> (try (refine Run.p rfl rfl rfl (OpP.mvA rfl) ?_)) <;> (try (refine Run.c0 q2 rfl rfl rfl rfl rfl rfl rfl rfl ?_)) <;> (try (refine Run.p rfl rfl rfl (OpP.mvA rfl) ?_)) <;> (try (refine Run.p rfl rfl rfl (OpP.extract rfl rfl rfl) ?_)) <;> (try (refine Run.p rfl rfl rfl (OpP.extract rfl rfl rfl) ?_)) <;> (try (refine Run.alA rfl rfl rfl rfl ?_)) <;> (try (refine Run.stA rfl rfl rfl rfl rfl ?_)) <;> (try (refine Run.p rfl rfl rfl (OpP.asA rfl) ?_)) <;> (try refine Run.fin rfl ?_)) | (refine AW.region (id := 9) ?_ <;> (try (refine Run.p rfl rfl rfl (OpP.mvA rfl) ?_)) <;> (try (refine Run.p rfl rfl rfl (OpP.decF (OpP.ne rfl rfl rfl) (by assumption)) ?_)) <;> (try (refine Run.p rfl rfl rfl (OpP.mvA rfl) ?_)) <;> (try (refine Run.p rfl rfl rfl (OpP.mvA rfl) ?_)) <;> (try (refine Run.p rfl rfl rfl (OpP.decF (OpP.ne rfl rfl rfl) (by assumption)) ?_)) <;> (try (refine Run.p rfl rfl rfl (OpP.pickA rfl rfl) ?_)) <;> (try (refine Run.p rfl rfl rfl (OpP.mvA rfl) ?_)) <;> (try (refine Run.ldNA rfl rfl rfl rfl rfl rfl rfl ?_)) <;> (try (refine Run.ldNA rfl rfl rfl rfl rfl rfl rfl ?_)) <;> (try (refine Run.c0 q3 rfl rfl rfl rfl rfl rfl rfl rfl ?_)) <;> (try (refine Run.p rfl rfl rfl (OpP.not rfl rfl) ?_)) <;> (try (refine Run.p rfl rfl rfl (OpP.pickA rfl rfl) ?_)) <;> (try (refine Run.p rfl rfl rfl (OpP.mvA rfl) ?_)) <;> (try (refine Run.p rfl rfl rfl (OpP.mvA rfl) ?_)) <;> (try (refine Run.p rfl rfl rfl (OpP.lenStr rfl rfl) ?_)) <;> (try (refine Run.p rfl rfl rfl (OpP.gtt rfl rfl rfl) ?_)) <;> (try (refine Run.p rfl rfl rfl (OpP.pickA rfl rfl) ?_)) <;> (try refine Run.fin rfl ?_)) | (refine AW.region (id := 11) ?_ <;> (try (refine Run.p rfl rfl rfl (OpP.addA rfl rfl rfl) ?_)) <;> (try (refine Run.p rfl rfl rfl (OpP.mvA rfl) ?_)) <;> (try refine Run.fin rfl ?_)))))
      ((repeat (with_reducible refine inB_n ?_)); refine thenA_n ?_)
      refine ⟨i + 1, by omega, by omega, ?_⟩
      refine Conv.mk [] rfl rfl rfl ?_ rfl ?_
      (repeat' (first | exact Cf.nil | exact Cv.refl | exact CvL.refl _ | exact Cv.rowf rfl rfl | exact Crs.nil | refine Cf.cons' (by (conv => lhs; whnf) <;> rfl) ?_ ?_ | refine Crs.cons ?_ rfl ?_ | exact Cr.no | refine Cr.row ?_ | refine Cr.box ?_ | exact Cv.nil | exact Cv.full | exact CvL.nil | refine CvL.cons ?_ ?_))
      (all_goals (try (first | refine CvL.eq ?_ | refine Cv.eq ?_)))
      all_goals first | rfl | simp [AV.ren]
    · (repeat' (first | refine AW.seq_k (fun K hK => ?_) | (refine hK _ ?_; clear hK) | (refine AW.condD rfl (fun hc => ?_) (fun hc => ?_) <;> try (first | (exfalso; omega) | (cases hc; done))) | refine AW.exit ?_ | (clear hK; refine hK _ ?_; clear hK) | (first | (refine AW.region (id := 5) ?_ <;> (try (refine Run.p rfl rfl rfl (OpP.ltt rfl rfl rfl) ?_)) <;> (try refine Run.fin rfl ?_)) | (refine AW.draw (id := 12) (by kernel_rfl) ?_ <;> (try (refine Run.p rfl rfl rfl (OpP.mvA rfl) ?_)) <;> (try (refine Run.c0 hM rfl rfl rfl rfl rfl rfl rfl rfl ?_)) <;> (try (refine Run.p rfl rfl rfl (OpP.buildSA rfl) ?_)) <;> (try (refine Run.p rfl rfl rfl (OpP.mvA rfl) ?_)) <;> (try (refine Run.p rfl rfl rfl (OpP.mvA rfl) ?_)) <;> (try (refine Run.ri rfl rfl rfl (OpRI.lenA rfl rfl) rfl ?_)) <;> (try (refine Run.p rfl rfl rfl (OpP.min rfl rfl rfl) ?_)) <;> (try (refine Run.ri rfl rfl rfl (OpRI.sliceHA rfl rfl rfl) rfl ?_)) <;> (try (refine Run.p rfl rfl rfl (OpP.buildSA rfl) ?_)) <;> (try (refine Run.p rfl rfl rfl (OpP.mvA rfl) ?_)) <;> (try (refine Run.p rfl rfl rfl (OpP.mvA rfl) ?_)) <;> (try (refine Run.p rfl rfl rfl (OpP.lenStr rfl rfl) ?_)) <;> (try (refine Run.p rfl rfl rfl (OpP.min rfl rfl rfl) ?_)) <;> (try (refine Run.p rfl rfl rfl (OpP.sliceStrHA rfl rfl rfl rfl) ?_)) <;> (try (refine Run.p rfl rfl rfl (OpP.buildSA rfl) ?_)) <;> (try (refine Run.bsA rfl rfl rfl rfl rfl rfl ?_)) <;> (try (refine Run.ri rfl rfl rfl (OpRI.lenA rfl rfl) rfl ?_)) <;> (try (refine Run.p rfl rfl rfl (OpP.mvA rfl) ?_)) <;> (try refine Run.fin (by kernel_rfl) ?_)))))
      refine AW.block ?_
      refine AW.loopF (X := Nat) (fun x => ⟨[(89, .sl 3 (anP L2) true), (90, .v (.int .i64 3)), (91, .v (.int .i64 (x : Int)))], []⟩)
        (fun x => x ≤ 3) (fun x => 3 - x) 0 ?_ ?_ ?_
      · refine Conv.mk [] rfl rfl rfl ?_ rfl ?_
        (repeat' (first | exact Cf.nil | exact Cv.refl | exact CvL.refl _ | exact Cv.rowf rfl rfl | exact Crs.nil | refine Cf.cons' (by (conv => lhs; whnf) <;> rfl) ?_ ?_ | refine Crs.cons ?_ rfl ?_ | exact Cr.no | refine Cr.row ?_ | refine Cr.box ?_ | exact Cv.nil | exact Cv.full | exact CvL.nil | refine CvL.cons ?_ ?_))
        rw [hL2]
        refine Cv.slN ?_
        rw [show (min ((bsP data).length : Int) 1024).toNat = min 1024 data.length by omega, show (min (text.length : Int) 1500).toNat = min 1500 text.length by omega]
        (repeat' (first | exact NilRows.nil | refine NilRows.cons ?_ ?_ | exact NilRow.nil | refine NilRow.cons ?_ ?_ | exact NilAs.nil | exact NilAs.same rfl))
        · exact NilAs.same (by simp [List.map_take])
        · exact NilAs.same (by simp [List.map_take])
      · simp
      · intro i hi
        rcases Nat.lt_or_ge i 3 with h | h
        · have hil : i < L2.length := by omega
          have hA : At (anP L2) (i : Int) [PV.v (.int .i64 L2[i].code), PV.sl 1 (bsP L2[i].data), PV.v (.string (bs L2[i].text))] := At.mk i rfl (by simp [hil])
          have x1 := hLb2 L2[i] (List.getElem_mem _)
          generalize L2[i] = x at hA x1
          have g := validA_bd x x1
          have q1 := Reply_c x false (by omega) (by omega) (by omega)
          obtain ⟨e1, e2, e3⟩ := back_an x x1
          rw [e1] at q1
          generalize J (replyL x) = s at q1 e2 e3
          have q2 := Read_c s
          rw [e3] at q2
          have q3 := SameAnswer_c x x false false (by omega) (by omega)
          rw [show (decide (x.code = x.code) && decide (x.data = x.data) && decide (x.text = x.text)) = true by simp] at q3
          simp only at q1 q2
          (repeat' (first | refine AW.seq_k (fun K hK => ?_) | (refine hK _ ?_; clear hK) | (refine AW.condD rfl (fun hc => ?_) (fun hc => ?_) <;> try (first | (exfalso; omega) | (cases hc; done))) | refine AW.block ?_ | refine AW.skip ?_ | (first | (refine AW.region (id := 13) ?_ <;> (try (refine Run.p rfl rfl rfl (OpP.ltt rfl rfl rfl) ?_)) <;> (try refine Run.fin rfl ?_)) | (refine AW.region (id := 14) ?_ <;> (try (refine Run.ri rfl rfl rfl (OpRI.indexAddrA rfl rfl) rfl ?_)) <;> (try (refine Run.p rfl rfl rfl (OpP.loadES rfl rfl rfl (by repeat constructor)) ?_)) <;> (try (refine Run.alA rfl rfl rfl rfl ?_)) <;> (try (refine Run.stA rfl rfl rfl rfl rfl ?_)) <;> (try refine Run.fin rfl ?_)) | (refine AW.region (id := 15) ?_ <;> (try (refine Run.ldNA rfl rfl rfl rfl rfl rfl rfl ?_)) <;> (try (refine Run.c0 q1 rfl rfl rfl rfl rfl rfl rfl rfl ?_)) <;> (try (refine Run.p rfl rfl rfl (OpP.mvA rfl) ?_)) <;> (try (refine Run.p rfl rfl rfl (OpP.extract rfl rfl rfl) ?_)) <;> (try (refine Run.p rfl rfl rfl (OpP.extract rfl rfl rfl) ?_)) <;> (try (refine Run.p rfl rfl rfl (OpP.asA rfl) ?_)) <;> (try (refine Run.p rfl rfl rfl (OpP.asA rfl) ?_)) <;> (try refine Run.fin rfl ?_)) | (refine AW.region (id := 16) ?_ <;> (try (refine Run.p rfl rfl rfl (OpP.mvA rfl) ?_)) <;> (try (refine Run.c0 q2 rfl rfl rfl rfl rfl rfl rfl rfl ?_)) <;> (try (refine Run.p rfl rfl rfl (OpP.mvA rfl) ?_)) <;> (try (refine Run.p rfl rfl rfl (OpP.extract rfl rfl rfl) ?_)) <;> (try (refine Run.p rfl rfl rfl (OpP.extract rfl rfl rfl) ?_)) <;> (try (refine Run.alA rfl rfl rfl rfl ?_)) <;> (try (refine Run.stA rfl rfl rfl rfl rfl ?_)) <;> (try (refine Run.p rfl rfl rfl (OpP.asA rfl) ?_)) <;> (try refine Run.fin rfl ?_)) | (refine AW.region (id := 17) ?_ <;> (try (refine Run.p rfl rfl rfl (OpP.mvA rfl) ?_)) <;> (try (refine Run.p rfl rfl rfl (OpP.decF (OpP.ne rfl rfl rfl) (by assumption)) ?_)) <;> (try (refine Run.p rfl rfl rfl (OpP.mvA rfl) ?_)) <;> (try (refine Run.p rfl rfl rfl (OpP.mvA rfl) ?_)) <;> (try (refine Run.p rfl rfl rfl (OpP.decF (OpP.ne rfl rfl rfl) (by assumption)) ?_)) <;> (try (refine Run.p rfl rfl rfl (OpP.pickA rfl rfl) ?_)) <;> (try (refine Run.p rfl rfl rfl (OpP.mvA rfl) ?_)) <;> (try (refine Run.ldNA rfl rfl rfl rfl rfl rfl rfl ?_)) <;> (try (refine Run.ldNA rfl rfl rfl rfl rfl rfl rfl ?_)) <;> (try (refine Run.c0 q3 rfl rfl rfl rfl rfl rfl rfl rfl ?_)) <;> (try (refine Run.p rfl rfl rfl (OpP.not rfl rfl) ?_)) <;> (try (refine Run.p rfl rfl rfl (OpP.pickA rfl rfl) ?_)) <;> (try (refine Run.p rfl rfl rfl (OpP.mvA rfl) ?_)) <;> (try (refine Run.p rfl rfl rfl (OpP.mvA rfl) ?_)) <;> (try (refine Run.p rfl rfl rfl (OpP.lenStr rfl rfl) ?_)) <;> (try (refine Run.p rfl rfl rfl (OpP.gtt rfl rfl rfl) ?_)) <;> (try (refine Run.p rfl rfl rfl (OpP.pickA rfl rfl) ?_)) <;> (try refine Run.fin rfl ?_)) | (refine AW.region (id := 19) ?_ <;> (try (refine Run.p rfl rfl rfl (OpP.addA rfl rfl rfl) ?_)) <;> (try (refine Run.p rfl rfl rfl (OpP.mvA rfl) ?_)) <;> (try refine Run.fin rfl ?_)))))
          ((repeat (with_reducible refine inB_n ?_)); refine thenA_n ?_)
          refine ⟨i + 1, by omega, by omega, ?_⟩
          refine Conv.mk [] rfl rfl rfl ?_ rfl ?_
          (repeat' (first | exact Cf.nil | exact Cv.refl | exact CvL.refl _ | exact Cv.rowf rfl rfl | exact Crs.nil | refine Cf.cons' (by (conv => lhs; whnf) <;> rfl) ?_ ?_ | refine Crs.cons ?_ rfl ?_ | exact Cr.no | refine Cr.row ?_ | refine Cr.box ?_ | exact Cv.nil | exact Cv.full | exact CvL.nil | refine CvL.cons ?_ ?_))
          (all_goals (try (first | refine CvL.eq ?_ | refine Cv.eq ?_)))
          all_goals first | rfl | simp [AV.ren]
        · (repeat' (first | refine AW.seq_k (fun K hK => ?_) | (refine hK _ ?_; clear hK) | (refine AW.condD rfl (fun hc => ?_) (fun hc => ?_) <;> try (first | (exfalso; omega) | (cases hc; done))) | refine AW.exit ?_ | refine AW.ret ?_ | (clear hK; refine hK _ ?_; clear hK) | (first | (refine AW.region (id := 13) ?_ <;> (try (refine Run.p rfl rfl rfl (OpP.ltt rfl rfl rfl) ?_)) <;> (try refine Run.fin rfl ?_)) | (refine AW.region (id := 20) ?_ <;> (try (refine Run.p rfl rfl rfl (OpP.asA rfl) ?_)) <;> (try refine Run.fin rfl ?_)))))
          ((first | refine RetOk.tup rfl rfl ?_ | refine RetOk.one rfl ?_) <;> (repeat' (first | exact Cv.nil | exact Cv.rowf rfl rfl | exact RetC.nil | exact CvL.refl _ | exact Cv.refl | refine RetC.tmp (by (conv => lhs; whnf) <;> rfl) ?_ ?_ | refine RetC.cell1 rfl rfl rfl rfl ?_ ?_ | refine RetC.cellN rfl rfl rfl (by repeat constructor) ?_ ?_ | refine Cv.rowE rfl rfl ?_ | exact Cv.full | exact CvL.nil | refine CvL.cons ?_ ?_)))
end Go.Proofs.YthogjnckkmfhnaaDoor
