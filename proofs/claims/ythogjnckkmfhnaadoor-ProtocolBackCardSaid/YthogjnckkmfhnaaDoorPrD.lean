/-
  Walk of chapter 35: which request a line is; the program; the examples.
-/
import Derived.Test.YthogjnckkmfhnaaDoorPrC
namespace Go.Proofs.YthogjnckkmfhnaaDoor
set_option linter.unusedVariables false
set_option linter.unusedSimpArgs false
theorem J_ge : ∀ (ws : List (List UInt8)), ∀ w ∈ ws, w.length ≤ (J ws).length
  | [], w, h => by simp at h
  | [v], w, h => by
    obtain rfl := List.mem_singleton.1 h
    rw [J]; exact writtenL_ge w
  | v :: u :: ws, w, h => by
    rw [J, List.length_append, List.length_cons]
    rcases List.mem_cons.1 h with rfl | h
    · have := writtenL_ge w; omega
    · have := J_ge (u :: ws) w h; omega
theorem split_wd (s : List UInt8) : ∀ w ∈ (splitP s).1, w.length ≤ 4096 := by
  intro w hw
  by_cases h : (splitP s).2 = 0
  · obtain ⟨_, h2, h3⟩ := split_join s h
    have := J_ge _ w hw; omega
  · rw [split_err s h] at hw; simp at hw
theorem split_ct (s : List UInt8) : (splitP s).1.length ≤ 64 := by
  by_cases h : (splitP s).2 = 0
  · exact (split_join s h).1
  · rw [split_err s h]; simp
def readL : List UInt8 → List (List UInt8) → Rq → Bool → Rq × Bool
  | [], _, r, ok => (r, ok)
  | _ :: _, [], r, ok => (r, ok)
  | c :: cs, w :: ws, r, ok => if ok = true then readL cs ws (readQ r c.toNat w).1 (readQ r c.toNat w).2 else readL cs ws r false
def parseL : List Fm → List (List UInt8) → Option Rq
  | [], _ => none
  | f :: L, l => if l.length = f.2.2.length + 1 ∧ l.head? = some f.2.1 then
      (if (readL f.2.2 (l.drop 1) { kind := f.1 } true).2 = true ∧ validQ (readL f.2.2 (l.drop 1) { kind := f.1 } true).1 = true then some (readL f.2.2 (l.drop 1) { kind := f.1 } true).1 else parseL L l) else parseL L l
def parseW (l : List (List UInt8)) : Rq × Int := match parseL formsL l with | some r => (r, 0) | none => ({}, 5)
def parseP (s : List UInt8) : Rq × Int := if (splitP s).2 = 0 then parseW (splitP s).1 else ({}, (splitP s).2)
theorem readQ_ok (r : Rq) (c : Nat) (w : List UInt8) (hr : r.ok) (hw : w.length ≤ 4096) : (readQ r c w).1.ok := by
  obtain ⟨h1, h2⟩ := hr
  unfold readQ Rq.ok
  (repeat' split) <;> simp only <;> omega
theorem Parse_c (s : List UInt8) : ACalls Tryd.prog 20 [.v (.string (bs s))] [] (.tup [.agg ((parseP s).1.cs false), .v (.int .i64 (parseP s).2)]) [] := by
  have hS := Split_c s
  have hwd := split_wd s
  have hct := split_ct s
  generalize hR : parseP s = R
  rw [parseP] at hR
  generalize splitP s = SP at hS hwd hct hR
  obtain ⟨l, e⟩ := SP
  simp only at hS hwd hct hR
  have hwl : (wdsP l).length = l.length := by simp
  have hfl : (fmP formsL).length = 12 := rfl
  have hfl2 : formsL.length = 12 := rfl
  by_cases he : e = 0
  · subst he
    rw [if_pos rfl, parseW] at hR
    have hd0 : ¬ ((0 : Int) ≠ 0) := by decide
    refine (ACalls.of (fn := Tryd.f20) Tryd.func20 rfl rfl Tryd.ntmps20 (fun I M w own => ?_))
    (repeat' (first | refine AW.seq_k (fun K hK => ?_) | (refine hK _ ?_; clear hK) | (refine AW.cond rfl (fun hc => ?_) (fun hc => ?_) <;> (try simp only [Bool.and_eq_true, Bool.or_eq_true, Bool.not_eq_true', Bool.not_eq_false', Bool.and_eq_false_iff, Bool.or_eq_false_iff, Bool.and_eq_false_imp, decide_eq_true_eq, decide_eq_false_iff_not, Decidable.not_not, Int.not_lt, Int.not_le, ne_eq, Bool.not_not] at hc) <;> try (first | (exfalso; omega) | (cases hc; done))) | refine AW.block ?_ | refine AW.skip ?_ | (first | (refine AW.region (id := 0) ?_ <;> (try (refine Run.alA rfl rfl rfl rfl ?_)) <;> (try (refine Run.p rfl rfl rfl (OpP.asA rfl) ?_)) <;> (try refine Run.fin rfl ?_)) | (refine AW.region (id := 1) ?_ <;> (try (refine Run.p rfl rfl rfl (OpP.mvA rfl) ?_)) <;> (try (refine Run.c0 hS rfl rfl rfl rfl rfl rfl rfl rfl ?_)) <;> (try (refine Run.p rfl rfl rfl (OpP.mvA rfl) ?_)) <;> (try (refine Run.p rfl rfl rfl (OpP.extract rfl rfl rfl) ?_)) <;> (try (refine Run.p rfl rfl rfl (OpP.extract rfl rfl rfl) ?_)) <;> (try (refine Run.p rfl rfl rfl (OpP.asA rfl) ?_)) <;> (try (refine Run.p rfl rfl rfl (OpP.asA rfl) ?_)) <;> (try refine Run.fin rfl ?_)) | (refine AW.region (id := 2) ?_ <;> (try (refine Run.p rfl rfl rfl (OpP.mvA rfl) ?_)) <;> (try (refine Run.p rfl rfl rfl (OpP.decF (OpP.ne rfl rfl rfl) (by assumption)) ?_)) <;> (try refine Run.fin rfl ?_)) | (refine AW.region (id := 4) ?_ <;> (try (refine Run.c0 forms_c rfl rfl rfl rfl rfl rfl rfl rfl ?_)) <;> (try (refine Run.ri rfl rfl rfl (OpRI.lenA rfl rfl) rfl ?_)) <;> (try (refine Run.p rfl rfl rfl (OpP.mvA rfl) ?_)) <;> (try refine Run.fin rfl ?_)))))
    generalize hL : formsL = L at hR hfl hfl2
    have hLc : ∀ g ∈ L, g.2.2.length ≤ 6 := by rw [← hL]; decide
    refine AW.loopF (X := Nat) (fun x => ⟨[(2, .ptr 0 0), (4, .sl 1 (wdsP l) false), (20, .sl 3 (fmP L) true), (21, .v (.int .i64 12)), (22, .v (.int .i64 (x : Int)))], [.box ((({} : Rq)).cs false)]⟩)
      (fun x => x ≤ 12 ∧ (match parseL (L.drop x) l with | some r => (r, 0) | none => (({} : Rq), (5 : Int))) = R) (fun x => 12 - x) 0 ?_ ?_ ?_
    · refine Conv.mk [0] rfl rfl rfl ?_ rfl ?_
      (repeat' (first | exact Cf.nil | exact Cv.refl | exact CvL.refl _ | exact Cv.rowf rfl rfl | exact Crs.nil | refine Cf.cons' (by (conv => lhs; whnf) <;> rfl) ?_ ?_ | refine Crs.cons ?_ rfl ?_ | exact Cr.no | refine Cr.row ?_ | refine Cr.box ?_ | exact Cv.nil | exact Cv.full | exact CvL.nil | refine CvL.cons ?_ ?_))
      (all_goals (try (first | refine CvL.eq ?_ | refine Cv.eq ?_)))
      all_goals first | rfl | (rw [hfl]; rfl)
    · exact ⟨Nat.zero_le _, hR⟩
    · rintro i ⟨h1, h2⟩
      rcases Nat.lt_or_ge i 12 with h | h
      · have hil : i < L.length := by omega
        have hA : At (fmP L) (i : Int) [PV.v (.int .i64 L[i].1), PV.v (.string (bs L[i].2.1)), PV.v (.string (bs L[i].2.2))] := At.mk i rfl (by simp [hil])
        rw [List.drop_eq_getElem_cons hil, parseL] at h2
        have hgc := hLc L[i] (List.getElem_mem _)
        generalize L[i] = G at hA h2 hgc
        obtain ⟨k, wd, fs⟩ := G
        simp only at hA h2 hgc
        by_cases hlen : l.length = fs.length + 1
        · obtain ⟨w0, l', rfl⟩ : ∃ w0 l', l = w0 :: l' := by
            cases l with
            | nil => simp at hlen
            | cons a t => exact ⟨a, t, rfl⟩
          have hn1 : ¬ (((wdsP (w0 :: l')).length : Int) ≠ (fs.length : Int) + 1) := by rw [hwl]; omega
          have hA0 : At (wdsP (w0 :: l')) 0 [PV.v (.string (bs w0))] := At.mk 0 rfl rfl
          by_cases hw0 : w0 = wd
          · subst hw0
            have hn2 : ¬ (w0 ≠ w0) := fun h => h rfl
            rw [if_pos ⟨hlen, rfl⟩] at h2
            have hll' : l'.length = fs.length := by simpa using hlen
            rw [List.drop_one, List.tail_cons] at h2
            generalize hQ : readL fs l' { kind := k } true = Q at h2
            (repeat' (first | refine AW.seq_k (fun K hK => ?_) | (refine hK _ ?_; clear hK) | (refine AW.condD rfl (fun hc => ?_) (fun hc => ?_) <;> try (first | (exfalso; omega) | (cases hc; done))) | (refine AW.cond rfl (fun hc => ?_) (fun hc => ?_) <;> (try simp only [Bool.and_eq_true, Bool.or_eq_true, Bool.not_eq_true', Bool.not_eq_false', Bool.and_eq_false_iff, Bool.or_eq_false_iff, Bool.and_eq_false_imp, decide_eq_true_eq, decide_eq_false_iff_not, Decidable.not_not, Int.not_lt, Int.not_le, ne_eq, Bool.not_not] at hc) <;> try (first | (exfalso; omega) | (cases hc; done))) | refine AW.block ?_ | refine AW.skip ?_ | (first | (refine AW.region (id := 5) ?_ <;> (try (refine Run.p rfl rfl rfl (OpP.ltt rfl rfl rfl) ?_)) <;> (try refine Run.fin rfl ?_)) | (refine AW.region (id := 6) ?_ <;> (try (refine Run.ri rfl rfl rfl (OpRI.indexAddrA rfl rfl) rfl ?_)) <;> (try (refine Run.p rfl rfl rfl (OpP.loadES rfl rfl rfl (by repeat constructor)) ?_)) <;> (try (refine Run.alA rfl rfl rfl rfl ?_)) <;> (try (refine Run.stA rfl rfl rfl rfl rfl ?_)) <;> (try refine Run.fin rfl ?_)) | (refine AW.draw (id := 7) (by kernel_rfl) ?_ <;> (try (refine Run.p rfl rfl rfl (OpP.mvA rfl) ?_)) <;> (try (refine Run.ri rfl rfl rfl (OpRI.lenA rfl rfl) rfl ?_)) <;> (try (refine Run.p rfl rfl rfl (OpP.fieldAddrA rfl rfl) ?_)) <;> (try (refine Run.ld1 rfl rfl rfl rfl rfl rfl rfl rfl ?_)) <;> (try (refine Run.p rfl rfl rfl (OpP.lenStr rfl rfl) ?_)) <;> (try (refine Run.p rfl rfl rfl (OpP.addA rfl rfl rfl) ?_)) <;> (try (refine Run.p rfl rfl rfl (OpP.decF (OpP.ne rfl rfl rfl) (by assumption)) ?_)) <;> (try (refine Run.p rfl rfl rfl (OpP.mvA rfl) ?_)) <;> (try (refine Run.p rfl rfl rfl (OpP.mvA rfl) ?_)) <;> (try (refine Run.ri rfl rfl rfl (OpRI.indexAddrA rfl rfl) rfl ?_)) <;> (try (refine Run.p rfl rfl rfl (OpP.loadE1 rfl rfl rfl rfl (by (conv => lhs; whnf) <;> rfl)) ?_)) <;> (try (refine Run.p rfl rfl rfl (OpP.fieldAddrA rfl rfl) ?_)) <;> (try (refine Run.ld1 rfl rfl rfl rfl rfl rfl rfl rfl ?_)) <;> (try (refine Run.p rfl rfl rfl (OpP.decF (OpP.sne rfl rfl rfl) (by assumption)) ?_)) <;> (try (refine Run.p rfl rfl rfl (OpP.pickA rfl rfl) ?_)) <;> (try refine Run.fin (by kernel_rfl) ?_)) | (refine AW.region (id := 8) ?_ <;> (try (refine Run.p rfl rfl rfl (OpP.fieldAddrA rfl rfl) ?_)) <;> (try (refine Run.ld1 rfl rfl rfl rfl rfl rfl rfl rfl ?_)) <;> (try (refine Run.p rfl rfl rfl (OpP.buildSA rfl) ?_)) <;> (try (refine Run.alA rfl rfl rfl rfl ?_)) <;> (try (refine Run.stA rfl rfl rfl rfl rfl ?_)) <;> (try refine Run.fin rfl ?_)) | (refine AW.region (id := 9) ?_ <;> (try (refine Run.p rfl rfl rfl (OpP.asA rfl) ?_)) <;> (try refine Run.fin rfl ?_)) | (refine AW.region (id := 10) ?_ <;> (try (refine Run.p rfl rfl rfl (OpP.fieldAddrA rfl rfl) ?_)) <;> (try (refine Run.ld1 rfl rfl rfl rfl rfl rfl rfl rfl ?_)) <;> (try (refine Run.p rfl rfl rfl (OpP.lenStr rfl rfl) ?_)) <;> (try (refine Run.p rfl rfl rfl (OpP.mvA rfl) ?_)) <;> (try refine Run.fin rfl ?_)))))
            refine AW.loopF (X := Nat × Rq × Bool) (fun x => ⟨[(2, .ptr 0 0), (4, .sl 1 (wdsP (w0 :: l')) false), (7, .ptr 1 0), (8, .ptr 2 0), (9, .v (.bool x.2.2)), (20, .sl 3 (fmP L) true), (21, .v (.int .i64 12)), (22, .v (.int .i64 (i : Int))), (46, .v (.int .i64 (fs.length : Int))), (47, .v (.int .i64 (x.1 : Int)))], [.box ((({} : Rq)).cs false), .box [.v (.int .i64 k), .v (.string (bs w0)), .v (.string (bs fs))], .box (x.2.1.cs false)]⟩)
              (fun x => x.1 ≤ fs.length ∧ x.2.1.ok ∧ readL (fs.drop x.1) (l'.drop x.1) x.2.1 x.2.2 = Q) (fun x => fs.length - x.1) (0, { kind := k }, true) ?_ ?_ ?_
            · refine Conv.mk [0, 1, 2] rfl rfl rfl ?_ rfl ?_
              (repeat' (first | exact Cf.nil | exact Cv.refl | exact CvL.refl _ | exact Cv.rowf rfl rfl | exact Crs.nil | refine Cf.cons' (by (conv => lhs; whnf) <;> rfl) ?_ ?_ | refine Crs.cons ?_ rfl ?_ | exact Cr.no | refine Cr.row ?_ | refine Cr.box ?_ | exact Cv.nil | exact Cv.full | exact CvL.nil | refine CvL.cons ?_ ?_))
              (all_goals (try (first | refine CvL.eq ?_ | refine Cv.eq ?_)))
              all_goals rfl
            · exact ⟨Nat.zero_le _, ⟨by simp, by simp⟩, hQ⟩
            · rintro ⟨j, r, ok⟩ ⟨g1, g2, g3⟩
              simp only at g1 g2 g3 ⊢
              rcases Nat.lt_or_ge j fs.length with hj | hj
              · have hj' : j < l'.length := by omega
                have hS : fs[Int.toNat (j : Int)]? = some fs[j] := by simp [hj]
                have hB : At (wdsP (w0 :: l')) ((j : Int) + 1) [PV.v (.string (bs l'[j]))] := At.mk (j + 1) (by omega) (by simp [hj'])
                have hwl' := hwd l'[j] (List.mem_cons_of_mem _ (List.getElem_mem _))
                rw [List.drop_eq_getElem_cons hj, List.drop_eq_getElem_cons hj', readL] at g3
                generalize fs[j] = c at hS g3
                generalize l'[j] = wj at hB hwl' g3
                cases ok with
                | true =>
                  rw [if_pos rfl] at g3
                  have q1 := read_c r c.toNat wj (by omega)
                  have q2 := readQ_ok r c.toNat wj g2 hwl'
                  generalize readQ r c.toNat wj = V at q1 q2 g3
                  obtain ⟨r2, ok2⟩ := V
                  simp only at q1 q2 g3
                  (repeat' (first | refine AW.seq_k (fun K hK => ?_) | (refine hK _ ?_; clear hK) | (refine AW.condD rfl (fun hc => ?_) (fun hc => ?_) <;> try (first | (exfalso; omega) | (cases hc; done))) | refine AW.block ?_ | refine AW.skip ?_ | (first | (refine AW.region (id := 11) ?_ <;> (try (refine Run.p rfl rfl rfl (OpP.ltt rfl rfl rfl) ?_)) <;> (try refine Run.fin rfl ?_)) | (refine AW.region (id := 12) ?_ <;> (try (refine Run.p rfl rfl rfl (OpP.mvA rfl) ?_)) <;> (try (refine Run.p rfl rfl rfl (OpP.asA rfl) ?_)) <;> (try refine Run.fin rfl ?_)) | (refine AW.draw (id := 13) (by kernel_rfl) ?_ <;> (try (refine Run.p rfl rfl rfl (OpP.mvA rfl) ?_)) <;> (try (refine Run.p rfl rfl rfl (OpP.mvA rfl) ?_)) <;> (try (refine Run.p rfl rfl rfl (OpP.fieldAddrA rfl rfl) ?_)) <;> (try (refine Run.ld1 rfl rfl rfl rfl rfl rfl rfl rfl ?_)) <;> (try (refine Run.p rfl rfl rfl (OpP.mvA rfl) ?_)) <;> (try (refine Run.p rfl rfl rfl (OpP.indexStrA rfl rfl rfl) ?_)) <;> (try (refine Run.p rfl rfl rfl (OpP.mvA rfl) ?_)) <;> (try (refine Run.p rfl rfl rfl (OpP.mvA rfl) ?_)) <;> (try (refine Run.p rfl rfl rfl (OpP.addA rfl rfl rfl) ?_)) <;> (try (refine Run.ri rfl rfl rfl (OpRI.indexAddrA rfl rfl) rfl ?_)) <;> (try (refine Run.p rfl rfl rfl (OpP.loadE1 rfl rfl rfl rfl (by (conv => lhs; whnf) <;> rfl)) ?_)) <;> (try (refine Run.cSA [2] q1 rfl rfl rfl rfl rfl rfl rfl rfl rfl rfl rfl rfl ?_)) <;> (try (refine Run.p rfl rfl rfl (OpP.pickA rfl rfl) ?_)) <;> (try (refine Run.p rfl rfl rfl (OpP.asA rfl) ?_)) <;> (try refine Run.fin (by kernel_rfl) ?_)) | (refine AW.region (id := 14) ?_ <;> (try (refine Run.p rfl rfl rfl (OpP.addA rfl rfl rfl) ?_)) <;> (try (refine Run.p rfl rfl rfl (OpP.mvA rfl) ?_)) <;> (try refine Run.fin rfl ?_)))))
                  ((repeat (with_reducible refine inB_n ?_)); refine thenA_n ?_)
                  refine ⟨(j + 1, r2, ok2), ⟨hj, q2, g3⟩, by simp only; omega, ?_⟩
                  refine Conv.mk [0, 1, 2] rfl rfl rfl ?_ rfl ?_
                  (repeat' (first | exact Cf.nil | exact Cv.refl | exact CvL.refl _ | exact Cv.rowf rfl rfl | exact Crs.nil | refine Cf.cons' (by (conv => lhs; whnf) <;> rfl) ?_ ?_ | refine Crs.cons ?_ rfl ?_ | exact Cr.no | refine Cr.row ?_ | refine Cr.box ?_ | exact Cv.nil | exact Cv.full | exact CvL.nil | refine CvL.cons ?_ ?_))
                  (all_goals (try (first | refine CvL.eq ?_ | refine Cv.eq ?_)))
                  all_goals first | rfl | simp [AV.ren]
                | false =>
                  rw [if_neg (by decide)] at g3
                  (repeat' (first | refine AW.seq_k (fun K hK => ?_) | (refine hK _ ?_; clear hK) | (refine AW.condD rfl (fun hc => ?_) (fun hc => ?_) <;> try (first | (exfalso; omega) | (cases hc; done))) | refine AW.block ?_ | refine AW.skip ?_ | (first | (refine AW.region (id := 11) ?_ <;> (try (refine Run.p rfl rfl rfl (OpP.ltt rfl rfl rfl) ?_)) <;> (try refine Run.fin rfl ?_)) | (refine AW.region (id := 12) ?_ <;> (try (refine Run.p rfl rfl rfl (OpP.mvA rfl) ?_)) <;> (try (refine Run.p rfl rfl rfl (OpP.asA rfl) ?_)) <;> (try refine Run.fin rfl ?_)) | (refine AW.draw (id := 13) (by kernel_rfl) ?_ <;> (try (refine Run.p rfl rfl rfl (OpP.mvA rfl) ?_)) <;> (try (refine Run.p rfl rfl rfl (OpP.mvA rfl) ?_)) <;> (try (refine Run.sk rfl rfl rfl ?_)) <;> (try (refine Run.sk rfl rfl rfl ?_)) <;> (try (refine Run.sk rfl rfl rfl ?_)) <;> (try (refine Run.sk rfl rfl rfl ?_)) <;> (try (refine Run.sk rfl rfl rfl ?_)) <;> (try (refine Run.sk rfl rfl rfl ?_)) <;> (try (refine Run.sk rfl rfl rfl ?_)) <;> (try (refine Run.sk rfl rfl rfl ?_)) <;> (try (refine Run.sk rfl rfl rfl ?_)) <;> (try (refine Run.sk rfl rfl rfl ?_)) <;> (try (refine Run.p rfl rfl rfl (OpP.pickA rfl rfl) ?_)) <;> (try (refine Run.p rfl rfl rfl (OpP.asA rfl) ?_)) <;> (try refine Run.fin (by kernel_rfl) ?_)) | (refine AW.region (id := 14) ?_ <;> (try (refine Run.p rfl rfl rfl (OpP.addA rfl rfl rfl) ?_)) <;> (try (refine Run.p rfl rfl rfl (OpP.mvA rfl) ?_)) <;> (try refine Run.fin rfl ?_)))))
                  ((repeat (with_reducible refine inB_n ?_)); refine thenA_n ?_)
                  refine ⟨(j + 1, r, false), ⟨hj, g2, g3⟩, by simp only; omega, ?_⟩
                  refine Conv.mk [0, 1, 2] rfl rfl rfl ?_ rfl ?_
                  (repeat' (first | exact Cf.nil | exact Cv.refl | exact CvL.refl _ | exact Cv.rowf rfl rfl | exact Crs.nil | refine Cf.cons' (by (conv => lhs; whnf) <;> rfl) ?_ ?_ | refine Crs.cons ?_ rfl ?_ | exact Cr.no | refine Cr.row ?_ | refine Cr.box ?_ | exact Cv.nil | exact Cv.full | exact CvL.nil | refine CvL.cons ?_ ?_))
                  (all_goals (try (first | refine CvL.eq ?_ | refine Cv.eq ?_)))
                  all_goals first | rfl | simp [AV.ren]
              · rw [List.drop_eq_nil_of_le hj, readL] at g3
                subst g3
                have q1 := Valid_c r false g2
                simp only at h2
                cases ok with
                | false =>
                  rw [if_neg (by simp)] at h2
                  (repeat' (first | refine AW.seq_k (fun K hK => ?_) | (refine hK _ ?_; clear hK) | (refine AW.condD rfl (fun hc => ?_) (fun hc => ?_) <;> try (first | (exfalso; omega) | (cases hc; done))) | (refine AW.cond rfl (fun hc => ?_) (fun hc => ?_) <;> (try simp only [Bool.and_eq_true, Bool.or_eq_true, Bool.not_eq_true', Bool.not_eq_false', Bool.and_eq_false_iff, Bool.or_eq_false_iff, Bool.and_eq_false_imp, decide_eq_true_eq, decide_eq_false_iff_not, Decidable.not_not, Int.not_lt, Int.not_le, ne_eq, Bool.not_not] at hc) <;> try (first | (exfalso; omega) | (cases hc; done))) | refine AW.exit ?_ | refine AW.skip ?_ | (clear hK; refine hK _ ?_; clear hK) | (first | (refine AW.region (id := 11) ?_ <;> (try (refine Run.p rfl rfl rfl (OpP.ltt rfl rfl rfl) ?_)) <;> (try refine Run.fin rfl ?_)) | (refine AW.region (id := 15) ?_ <;> (try (refine Run.p rfl rfl rfl (OpP.mvA rfl) ?_)) <;> (try (refine Run.p rfl rfl rfl (OpP.mvA rfl) ?_)) <;> (try (refine Run.sk rfl rfl rfl ?_)) <;> (try (refine Run.sk rfl rfl rfl ?_)) <;> (try (refine Run.p rfl rfl rfl (OpP.pickA rfl rfl) ?_)) <;> (try refine Run.fin rfl ?_)) | (refine AW.region (id := 17) ?_ <;> (try (refine Run.p rfl rfl rfl (OpP.addA rfl rfl rfl) ?_)) <;> (try (refine Run.p rfl rfl rfl (OpP.mvA rfl) ?_)) <;> (try refine Run.fin rfl ?_)))))
                  ((repeat (with_reducible refine inB_n ?_)); refine thenA_n ?_)
                  refine ⟨i + 1, ⟨h, h2⟩, by omega, ?_⟩
                  refine Conv.mk [0] rfl rfl rfl ?_ rfl ?_
                  (repeat' (first | exact Cf.nil | exact Cv.refl | exact CvL.refl _ | exact Cv.rowf rfl rfl | exact Crs.nil | refine Cf.cons' (by (conv => lhs; whnf) <;> rfl) ?_ ?_ | refine Crs.cons ?_ rfl ?_ | exact Cr.no | refine Cr.row ?_ | refine Cr.box ?_ | exact Cv.nil | exact Cv.full | exact CvL.nil | refine CvL.cons ?_ ?_))
                  (all_goals (try (first | refine CvL.eq ?_ | refine Cv.eq ?_)))
                  all_goals first | rfl | simp [AV.ren]
                | true =>
                  cases hv : validQ r with
                  | false =>
                    rw [hv, if_neg (by simp)] at h2
                    rw [hv] at q1
                    (repeat' (first | refine AW.seq_k (fun K hK => ?_) | (refine hK _ ?_; clear hK) | (refine AW.condD rfl (fun hc => ?_) (fun hc => ?_) <;> try (first | (exfalso; omega) | (cases hc; done))) | (refine AW.cond rfl (fun hc => ?_) (fun hc => ?_) <;> (try simp only [Bool.and_eq_true, Bool.or_eq_true, Bool.not_eq_true', Bool.not_eq_false', Bool.and_eq_false_iff, Bool.or_eq_false_iff, Bool.and_eq_false_imp, decide_eq_true_eq, decide_eq_false_iff_not, Decidable.not_not, Int.not_lt, Int.not_le, ne_eq, Bool.not_not] at hc) <;> try (first | (exfalso; omega) | (cases hc; done))) | refine AW.exit ?_ | refine AW.skip ?_ | (clear hK; refine hK _ ?_; clear hK) | (first | (refine AW.region (id := 11) ?_ <;> (try (refine Run.p rfl rfl rfl (OpP.ltt rfl rfl rfl) ?_)) <;> (try refine Run.fin rfl ?_)) | (refine AW.region (id := 15) ?_ <;> (try (refine Run.p rfl rfl rfl (OpP.mvA rfl) ?_)) <;> (try (refine Run.p rfl rfl rfl (OpP.mvA rfl) ?_)) <;> (try (refine Run.ldNA rfl rfl rfl rfl rfl rfl rfl ?_)) <;> (try (refine Run.c0 q1 rfl rfl rfl rfl rfl rfl rfl rfl ?_)) <;> (try (refine Run.p rfl rfl rfl (OpP.pickA rfl rfl) ?_)) <;> (try refine Run.fin rfl ?_)) | (refine AW.region (id := 17) ?_ <;> (try (refine Run.p rfl rfl rfl (OpP.addA rfl rfl rfl) ?_)) <;> (try (refine Run.p rfl rfl rfl (OpP.mvA rfl) ?_)) <;> (try refine Run.fin rfl ?_)))))
                    ((repeat (with_reducible refine inB_n ?_)); refine thenA_n ?_)
                    refine ⟨i + 1, ⟨h, h2⟩, by omega, ?_⟩
                    refine Conv.mk [0] rfl rfl rfl ?_ rfl ?_
                    (repeat' (first | exact Cf.nil | exact Cv.refl | exact CvL.refl _ | exact Cv.rowf rfl rfl | exact Crs.nil | refine Cf.cons' (by (conv => lhs; whnf) <;> rfl) ?_ ?_ | refine Crs.cons ?_ rfl ?_ | exact Cr.no | refine Cr.row ?_ | refine Cr.box ?_ | exact Cv.nil | exact Cv.full | exact CvL.nil | refine CvL.cons ?_ ?_))
                    (all_goals (try (first | refine CvL.eq ?_ | refine Cv.eq ?_)))
                    all_goals first | rfl | simp [AV.ren]
                  | true =>
                    rw [hv, if_pos ⟨rfl, rfl⟩] at h2
                    rw [hv] at q1
                    (repeat' (first | refine AW.seq_k (fun K hK => ?_) | (refine hK _ ?_; clear hK) | (refine AW.condD rfl (fun hc => ?_) (fun hc => ?_) <;> try (first | (exfalso; omega) | (cases hc; done))) | (refine AW.cond rfl (fun hc => ?_) (fun hc => ?_) <;> (try simp only [Bool.and_eq_true, Bool.or_eq_true, Bool.not_eq_true', Bool.not_eq_false', Bool.and_eq_false_iff, Bool.or_eq_false_iff, Bool.and_eq_false_imp, decide_eq_true_eq, decide_eq_false_iff_not, Decidable.not_not, Int.not_lt, Int.not_le, ne_eq, Bool.not_not] at hc) <;> try (first | (exfalso; omega) | (cases hc; done))) | refine AW.exit ?_ | refine AW.ret ?_ | (clear hK; refine hK _ ?_; clear hK) | (first | (refine AW.region (id := 11) ?_ <;> (try (refine Run.p rfl rfl rfl (OpP.ltt rfl rfl rfl) ?_)) <;> (try refine Run.fin rfl ?_)) | (refine AW.region (id := 15) ?_ <;> (try (refine Run.p rfl rfl rfl (OpP.mvA rfl) ?_)) <;> (try (refine Run.p rfl rfl rfl (OpP.mvA rfl) ?_)) <;> (try (refine Run.ldNA rfl rfl rfl rfl rfl rfl rfl ?_)) <;> (try (refine Run.c0 q1 rfl rfl rfl rfl rfl rfl rfl rfl ?_)) <;> (try (refine Run.p rfl rfl rfl (OpP.pickA rfl rfl) ?_)) <;> (try refine Run.fin rfl ?_)) | (refine AW.region (id := 16) ?_ <;> (try (refine Run.ldNA rfl rfl rfl rfl rfl rfl rfl ?_)) <;> (try (refine Run.stA rfl rfl rfl rfl rfl ?_)) <;> (try (refine Run.p rfl rfl rfl (OpP.asA rfl) ?_)) <;> (try refine Run.fin rfl ?_)))))
                    simp only at h2
                    subst h2
                    ((first | refine RetOk.tup rfl rfl ?_ | refine RetOk.one rfl ?_) <;> (repeat' (first | exact Cv.nil | exact Cv.rowf rfl rfl | exact RetC.nil | exact CvL.refl _ | exact Cv.refl | refine RetC.tmp (by (conv => lhs; whnf) <;> rfl) ?_ ?_ | refine RetC.cell1 rfl rfl rfl rfl ?_ ?_ | refine RetC.cellN rfl rfl rfl (by repeat constructor) ?_ ?_ | refine Cv.rowE rfl rfl ?_ | exact Cv.full | exact CvL.nil | refine CvL.cons ?_ ?_)))
          · rw [if_neg (by simp [hw0])] at h2
            have hn2 : w0 ≠ wd := hw0
            (repeat' (first | refine AW.seq_k (fun K hK => ?_) | (refine hK _ ?_; clear hK) | (refine AW.condD rfl (fun hc => ?_) (fun hc => ?_) <;> try (first | (exfalso; omega) | (cases hc; done))) | (refine AW.cond rfl (fun hc => ?_) (fun hc => ?_) <;> (try simp only [Bool.and_eq_true, Bool.or_eq_true, Bool.not_eq_true', Bool.not_eq_false', Bool.and_eq_false_iff, Bool.or_eq_false_iff, Bool.and_eq_false_imp, decide_eq_true_eq, decide_eq_false_iff_not, Decidable.not_not, Int.not_lt, Int.not_le, ne_eq, Bool.not_not] at hc) <;> try (first | (exfalso; omega) | (cases hc; done))) | refine AW.block ?_ | refine AW.exit ?_ | refine AW.skip ?_ | (clear hK; refine hK _ ?_; clear hK) | (first | (refine AW.region (id := 5) ?_ <;> (try (refine Run.p rfl rfl rfl (OpP.ltt rfl rfl rfl) ?_)) <;> (try refine Run.fin rfl ?_)) | (refine AW.region (id := 6) ?_ <;> (try (refine Run.ri rfl rfl rfl (OpRI.indexAddrA rfl rfl) rfl ?_)) <;> (try (refine Run.p rfl rfl rfl (OpP.loadES rfl rfl rfl (by repeat constructor)) ?_)) <;> (try (refine Run.alA rfl rfl rfl rfl ?_)) <;> (try (refine Run.stA rfl rfl rfl rfl rfl ?_)) <;> (try refine Run.fin rfl ?_)) | (refine AW.draw (id := 7) (by kernel_rfl) ?_ <;> (try (refine Run.p rfl rfl rfl (OpP.mvA rfl) ?_)) <;> (try (refine Run.ri rfl rfl rfl (OpRI.lenA rfl rfl) rfl ?_)) <;> (try (refine Run.p rfl rfl rfl (OpP.fieldAddrA rfl rfl) ?_)) <;> (try (refine Run.ld1 rfl rfl rfl rfl rfl rfl rfl rfl ?_)) <;> (try (refine Run.p rfl rfl rfl (OpP.lenStr rfl rfl) ?_)) <;> (try (refine Run.p rfl rfl rfl (OpP.addA rfl rfl rfl) ?_)) <;> (try (refine Run.p rfl rfl rfl (OpP.decF (OpP.ne rfl rfl rfl) (by assumption)) ?_)) <;> (try (refine Run.p rfl rfl rfl (OpP.mvA rfl) ?_)) <;> (try (refine Run.p rfl rfl rfl (OpP.mvA rfl) ?_)) <;> (try (refine Run.ri rfl rfl rfl (OpRI.indexAddrA rfl rfl) rfl ?_)) <;> (try (refine Run.p rfl rfl rfl (OpP.loadE1 rfl rfl rfl rfl (by (conv => lhs; whnf) <;> rfl)) ?_)) <;> (try (refine Run.p rfl rfl rfl (OpP.fieldAddrA rfl rfl) ?_)) <;> (try (refine Run.ld1 rfl rfl rfl rfl rfl rfl rfl rfl ?_)) <;> (try (refine Run.p rfl rfl rfl (OpP.decT (OpP.sne rfl rfl rfl) (by assumption)) ?_)) <;> (try (refine Run.p rfl rfl rfl (OpP.pickA rfl rfl) ?_)) <;> (try refine Run.fin (by kernel_rfl) ?_)) | (refine AW.region (id := 17) ?_ <;> (try (refine Run.p rfl rfl rfl (OpP.addA rfl rfl rfl) ?_)) <;> (try (refine Run.p rfl rfl rfl (OpP.mvA rfl) ?_)) <;> (try refine Run.fin rfl ?_)))))
            ((repeat (with_reducible refine inB_n ?_)); refine thenA_n ?_)
            refine ⟨i + 1, ⟨h, h2⟩, by omega, ?_⟩
            refine Conv.mk [0] rfl rfl rfl ?_ rfl ?_
            (repeat' (first | exact Cf.nil | exact Cv.refl | exact CvL.refl _ | exact Cv.rowf rfl rfl | exact Crs.nil | refine Cf.cons' (by (conv => lhs; whnf) <;> rfl) ?_ ?_ | refine Crs.cons ?_ rfl ?_ | exact Cr.no | refine Cr.row ?_ | refine Cr.box ?_ | exact Cv.nil | exact Cv.full | exact CvL.nil | refine CvL.cons ?_ ?_))
            (all_goals (try (first | refine CvL.eq ?_ | refine Cv.eq ?_)))
            all_goals first | rfl | simp [AV.ren]
        · rw [if_neg (fun h => hlen h.1)] at h2
          have hn1 : ((wdsP l).length : Int) ≠ (fs.length : Int) + 1 := by rw [hwl]; omega
          (repeat' (first | refine AW.seq_k (fun K hK => ?_) | (refine hK _ ?_; clear hK) | (refine AW.condD rfl (fun hc => ?_) (fun hc => ?_) <;> try (first | (exfalso; omega) | (cases hc; done))) | (refine AW.cond rfl (fun hc => ?_) (fun hc => ?_) <;> (try simp only [Bool.and_eq_true, Bool.or_eq_true, Bool.not_eq_true', Bool.not_eq_false', Bool.and_eq_false_iff, Bool.or_eq_false_iff, Bool.and_eq_false_imp, decide_eq_true_eq, decide_eq_false_iff_not, Decidable.not_not, Int.not_lt, Int.not_le, ne_eq, Bool.not_not] at hc) <;> try (first | (exfalso; omega) | (cases hc; done))) | refine AW.block ?_ | refine AW.exit ?_ | refine AW.skip ?_ | (clear hK; refine hK _ ?_; clear hK) | (first | (refine AW.region (id := 5) ?_ <;> (try (refine Run.p rfl rfl rfl (OpP.ltt rfl rfl rfl) ?_)) <;> (try refine Run.fin rfl ?_)) | (refine AW.region (id := 6) ?_ <;> (try (refine Run.ri rfl rfl rfl (OpRI.indexAddrA rfl rfl) rfl ?_)) <;> (try (refine Run.p rfl rfl rfl (OpP.loadES rfl rfl rfl (by repeat constructor)) ?_)) <;> (try (refine Run.alA rfl rfl rfl rfl ?_)) <;> (try (refine Run.stA rfl rfl rfl rfl rfl ?_)) <;> (try refine Run.fin rfl ?_)) | (refine AW.draw (id := 7) (by kernel_rfl) ?_ <;> (try (refine Run.p rfl rfl rfl (OpP.mvA rfl) ?_)) <;> (try (refine Run.ri rfl rfl rfl (OpRI.lenA rfl rfl) rfl ?_)) <;> (try (refine Run.p rfl rfl rfl (OpP.fieldAddrA rfl rfl) ?_)) <;> (try (refine Run.ld1 rfl rfl rfl rfl rfl rfl rfl rfl ?_)) <;> (try (refine Run.p rfl rfl rfl (OpP.lenStr rfl rfl) ?_)) <;> (try (refine Run.p rfl rfl rfl (OpP.addA rfl rfl rfl) ?_)) <;> (try (refine Run.p rfl rfl rfl (OpP.decT (OpP.ne rfl rfl rfl) (by assumption)) ?_)) <;> (try (refine Run.p rfl rfl rfl (OpP.mvA rfl) ?_)) <;> (try (refine Run.sk rfl rfl rfl ?_)) <;> (try (refine Run.sk rfl rfl rfl ?_)) <;> (try (refine Run.sk rfl rfl rfl ?_)) <;> (try (refine Run.sk rfl rfl rfl ?_)) <;> (try (refine Run.sk rfl rfl rfl ?_)) <;> (try (refine Run.sk rfl rfl rfl ?_)) <;> (try (refine Run.p rfl rfl rfl (OpP.pickA rfl rfl) ?_)) <;> (try refine Run.fin (by kernel_rfl) ?_)) | (refine AW.region (id := 17) ?_ <;> (try (refine Run.p rfl rfl rfl (OpP.addA rfl rfl rfl) ?_)) <;> (try (refine Run.p rfl rfl rfl (OpP.mvA rfl) ?_)) <;> (try refine Run.fin rfl ?_)))))
          ((repeat (with_reducible refine inB_n ?_)); refine thenA_n ?_)
          refine ⟨i + 1, ⟨h, h2⟩, by omega, ?_⟩
          refine Conv.mk [0] rfl rfl rfl ?_ rfl ?_
          (repeat' (first | exact Cf.nil | exact Cv.refl | exact CvL.refl _ | exact Cv.rowf rfl rfl | exact Crs.nil | refine Cf.cons' (by (conv => lhs; whnf) <;> rfl) ?_ ?_ | refine Crs.cons ?_ rfl ?_ | exact Cr.no | refine Cr.row ?_ | refine Cr.box ?_ | exact Cv.nil | exact Cv.full | exact CvL.nil | refine CvL.cons ?_ ?_))
          (all_goals (try (first | refine CvL.eq ?_ | refine Cv.eq ?_)))
          all_goals first | rfl | simp [AV.ren]
      · obtain rfl : i = 12 := by omega
        rw [List.drop_eq_nil_of_le (by omega), parseL] at h2
        (repeat' (first | refine AW.seq_k (fun K hK => ?_) | (refine hK _ ?_; clear hK) | (refine AW.condD rfl (fun hc => ?_) (fun hc => ?_) <;> try (first | (exfalso; omega) | (cases hc; done))) | refine AW.exit ?_ | refine AW.ret ?_ | (clear hK; refine hK _ ?_; clear hK) | (first | (refine AW.region (id := 5) ?_ <;> (try (refine Run.p rfl rfl rfl (OpP.ltt rfl rfl rfl) ?_)) <;> (try refine Run.fin rfl ?_)) | (refine AW.region (id := 18) ?_ <;> (try (refine Run.p rfl rfl rfl (OpP.buildSA rfl) ?_)) <;> (try (refine Run.stA rfl rfl rfl rfl rfl ?_)) <;> (try (refine Run.p rfl rfl rfl (OpP.asA rfl) ?_)) <;> (try refine Run.fin rfl ?_)))))
        subst h2
        ((first | refine RetOk.tup rfl rfl ?_ | refine RetOk.one rfl ?_) <;> (repeat' (first | exact Cv.nil | exact Cv.rowf rfl rfl | exact RetC.nil | exact CvL.refl _ | exact Cv.refl | refine RetC.tmp (by (conv => lhs; whnf) <;> rfl) ?_ ?_ | refine RetC.cell1 rfl rfl rfl rfl ?_ ?_ | refine RetC.cellN rfl rfl rfl (by repeat constructor) ?_ ?_ | refine Cv.rowE rfl rfl ?_ | exact Cv.full | exact CvL.nil | refine CvL.cons ?_ ?_)))
  · rw [if_neg he] at hR
    have hd0 : e ≠ 0 := he
    refine (ACalls.of (fn := Tryd.f20) Tryd.func20 rfl rfl Tryd.ntmps20 (fun I M w own => ?_))
    (repeat' (first | refine AW.seq_k (fun K hK => ?_) | (refine hK _ ?_; clear hK) | (refine AW.cond rfl (fun hc => ?_) (fun hc => ?_) <;> (try simp only [Bool.and_eq_true, Bool.or_eq_true, Bool.not_eq_true', Bool.not_eq_false', Bool.and_eq_false_iff, Bool.or_eq_false_iff, Bool.and_eq_false_imp, decide_eq_true_eq, decide_eq_false_iff_not, Decidable.not_not, Int.not_lt, Int.not_le, ne_eq, Bool.not_not] at hc) <;> try (first | (exfalso; omega) | (cases hc; done))) | refine AW.ret ?_ | (first | (refine AW.region (id := 0) ?_ <;> (try (refine Run.alA rfl rfl rfl rfl ?_)) <;> (try (refine Run.p rfl rfl rfl (OpP.asA rfl) ?_)) <;> (try refine Run.fin rfl ?_)) | (refine AW.region (id := 1) ?_ <;> (try (refine Run.p rfl rfl rfl (OpP.mvA rfl) ?_)) <;> (try (refine Run.c0 hS rfl rfl rfl rfl rfl rfl rfl rfl ?_)) <;> (try (refine Run.p rfl rfl rfl (OpP.mvA rfl) ?_)) <;> (try (refine Run.p rfl rfl rfl (OpP.extract rfl rfl rfl) ?_)) <;> (try (refine Run.p rfl rfl rfl (OpP.extract rfl rfl rfl) ?_)) <;> (try (refine Run.p rfl rfl rfl (OpP.asA rfl) ?_)) <;> (try (refine Run.p rfl rfl rfl (OpP.asA rfl) ?_)) <;> (try refine Run.fin rfl ?_)) | (refine AW.region (id := 2) ?_ <;> (try (refine Run.p rfl rfl rfl (OpP.mvA rfl) ?_)) <;> (try (refine Run.p rfl rfl rfl (OpP.decT (OpP.ne rfl rfl rfl) (by assumption)) ?_)) <;> (try refine Run.fin rfl ?_)) | (refine AW.region (id := 3) ?_ <;> (try (refine Run.p rfl rfl rfl (OpP.buildSA rfl) ?_)) <;> (try (refine Run.p rfl rfl rfl (OpP.mvA rfl) ?_)) <;> (try (refine Run.stA rfl rfl rfl rfl rfl ?_)) <;> (try (refine Run.p rfl rfl rfl (OpP.asA rfl) ?_)) <;> (try refine Run.fin rfl ?_)))))
    subst hR
    ((first | refine RetOk.tup rfl rfl ?_ | refine RetOk.one rfl ?_) <;> (repeat' (first | exact Cv.nil | exact Cv.rowf rfl rfl | exact RetC.nil | exact CvL.refl _ | exact Cv.refl | refine RetC.tmp (by (conv => lhs; whnf) <;> rfl) ?_ ?_ | refine RetC.cell1 rfl rfl rfl rfl ?_ ?_ | refine RetC.cellN rfl rfl rfl (by repeat constructor) ?_ ?_ | refine Cv.rowE rfl rfl ?_ | exact Cv.full | exact CvL.nil | refine CvL.cons ?_ ?_)))
end Go.Proofs.YthogjnckkmfhnaaDoor
