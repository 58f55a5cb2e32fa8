/-
  Walks of chapter 9: spans that are joined (the reference).
-/
import Derived.Test.YtgnlohecllokhaaOfA
import Derived.Test.YtgnlohecllokhaaWya
import Derived.Test.YtgnlohecllokhaaApg
namespace Go.Proofs.Ytgnlohecllokhaa
set_option linter.unusedVariables false
set_option linter.unusedSimpArgs false
abbrev sp0 : List PV := [PV.v (.int .i64 0), PV.v (.int .i64 0)]
def SpB (l : List (Int × Int)) : Prop := ∀ x ∈ l, 0 ≤ x.1 ∧ x.1 ≤ 4294967296 ∧ 0 ≤ x.2 ∧ x.2 ≤ 4294967296
theorem insP_len (l : List (Int × Int)) (x : Int × Int) : (insP l x).length = l.length + 1 := by
  have h : insK x l l.length ≤ l.length := by
    have : ∀ k, insK x l k ≤ k := by
      intro k
      induction k with
      | zero => exact Nat.le_refl _
      | succ k ih => rw [insK]; split <;> omega
    exact this _
  simp only [insP, List.length_append, List.length_take, List.length_drop, List.length_singleton]
  omega
theorem insP_mem (l : List (Int × Int)) (x y : Int × Int) (h : y ∈ insP l x) : y ∈ l ∨ y = x := by
  simp only [insP, List.mem_append, List.mem_singleton] at h
  rcases h with (h | h) | h
  · exact Or.inl (List.mem_of_mem_take h)
  · exact Or.inr h
  · exact Or.inl (List.mem_of_mem_drop h)
theorem insF_len (l : List (Int × Int)) : ∀ acc : List (Int × Int), (l.foldl insP acc).length = acc.length + l.length := by
  induction l with
  | nil => intro acc; rfl
  | cons x l ih => intro acc; rw [List.foldl_cons, ih, insP_len, List.length_cons]; omega
theorem insF_mem (l : List (Int × Int)) : ∀ acc : List (Int × Int), ∀ y ∈ l.foldl insP acc, y ∈ acc ∨ y ∈ l := by
  induction l with
  | nil => intro acc y h; exact Or.inl h
  | cons x l ih =>
    intro acc y h
    rw [List.foldl_cons] at h
    rcases ih _ y h with h | h
    · rcases insP_mem _ _ _ h with h | h
      · exact Or.inl h
      · exact Or.inr (by simp [h])
    · exact Or.inr (List.mem_cons_of_mem _ h)
theorem bx_cons (p : List PV) (t : List (List PV)) : bxs (p :: t) = p.map PV.av ++ bxs t := by simp [bxs]
theorem spP_cons (x : Int × Int) (t : List (Int × Int)) : spP (x :: t) = [PV.v (.int .i64 x.1), PV.v (.int .i64 x.2)] :: spP t := rfl
theorem bx_sp (Z : List (List PV)) : ∀ (out : List (Int × Int)) (j : Nat) (h : j < out.length), (bxs (spP out ++ Z))[j * 2 + 1]? = some (AV.v (.int .i64 out[j].2)) := by
  intro out
  induction out with
  | nil => intro j h; simp at h
  | cons x t ih =>
    intro j h
    rw [spP_cons, List.cons_append, bx_cons]
    cases j with
    | zero => rfl
    | succ j =>
      rw [show (j + 1) * 2 + 1 = (j * 2 + 1) + 2 by omega]
      exact ih j (by simpa using h)
theorem bx_spO (Z : List (List PV)) (v : Int) : ∀ (out : List (Int × Int)) (j : Nat) (h : j < out.length), Over (bxs (spP out ++ Z)) (j * 2 + 1) [AV.v (.int .i64 v)] (bxs (spP (out.set j (out[j].1, v)) ++ Z)) := by
  intro out
  induction out with
  | nil => intro j h; simp at h
  | cons x t ih =>
    intro j h
    cases j with
    | zero =>
      rw [List.set_cons_zero, spP_cons, spP_cons, List.cons_append, List.cons_append, bx_cons, bx_cons]
      exact .skip (.at_ (.cons .nil))
    | succ j =>
      rw [List.set_cons_succ, spP_cons, spP_cons, List.cons_append, List.cons_append, bx_cons, bx_cons, show (j + 1) * 2 + 1 = (j * 2 + 1) + 1 + 1 by omega]
      exact .skip (.skip (ih j (by simpa using h)))
theorem set_last (out : List (Int × Int)) (h : 0 < out.length) (y : Int × Int) : out.dropLast ++ [y] = out.set (out.length - 1) y := by
  rcases List.eq_nil_or_concat out with rfl | ⟨t, b, rfl⟩
  · simp at h
  · simp [List.set_append]
theorem put_next (out : List (Int × Int)) (x : Int × Int) (d : Nat) : (spP out ++ List.replicate (d + 1) sp0).take out.length ++ ([[PV.v (.int .i64 x.1), PV.v (.int .i64 x.2)]] ++ (spP out ++ List.replicate (d + 1) sp0).drop (out.length + 1)) = spP (out ++ [x]) ++ List.replicate d sp0 := by
  have hl : (spP out).length = out.length := by simp
  rw [← hl, List.take_left, List.drop_length_add_append, List.replicate_succ]
  simp
theorem put_new (out : List (Int × Int)) (x : Int × Int) (d : Nat) : (spP out ++ List.replicate 0 sp0).take out.length ++ [[PV.v (.int .i64 x.1), PV.v (.int .i64 x.2)]] ++ List.replicate d sp0 = spP (out ++ [x]) ++ List.replicate d sp0 := by
  have hl : (spP out).length = out.length := by simp
  rw [← hl, List.take_left]
  simp
theorem joined_c (l : List (Int × Int)) (f : Bool) (hl : l.length ≤ 1000) (hb : SpB l) : ACalls Try.prog 102 [.sl 2 (spP l) f] [] (.sl 2 (spP (joinedP l)) false) [] := by
  have hll : (spP l).length = l.length := by simp
  refine (ACalls.of (fn := Try.f102) Try.func102 rfl rfl Try.ntmps102 (fun I M w own => ?_))
  (repeat' (first | refine AW.seq_k (fun K hK => ?_) | (refine hK _ ?_; clear hK) | refine AW.block ?_ | (first | (refine AW.region (id := 0) ?_ <;> (try (refine Run.p rfl rfl rfl (OpP.asA rfl) ?_)) <;> (try refine Run.fin rfl ?_)) | (refine AW.region (id := 1) ?_ <;> (try (refine Run.p rfl rfl rfl (OpP.asA rfl) ?_)) <;> (try (refine Run.p rfl rfl rfl (OpP.asA rfl) ?_)) <;> (try refine Run.fin rfl ?_)) | (refine AW.region (id := 2) ?_ <;> (try (refine Run.p rfl rfl rfl (OpP.mvA rfl) ?_)) <;> (try (refine Run.ri rfl rfl rfl (OpRI.lenA rfl rfl) rfl ?_)) <;> (try (refine Run.p rfl rfl rfl (OpP.mvA rfl) ?_)) <;> (try refine Run.fin rfl ?_)))))
  generalize hI : l.foldl insP [] = inn
  refine AW.loopF (X := Nat × List (Int × Int)) (fun x => ⟨[(3, .row 0 (spP x.2).length), (4, .v (.slice none 0 0)), (11, .sl 2 (spP l) f), (12, .v (.int .i64 (l.length : Int))), (13, .v (.int .i64 (x.1 : Int)))], [.row 2 (spP x.2)]⟩)
    (fun x => x.1 ≤ l.length ∧ x.2.length = x.1 ∧ (l.drop x.1).foldl insP x.2 = inn) (fun x => l.length - x.1) (0, []) ?_ ?_ ?_
  · refine Conv.own 3 2 [] (Or.inr ⟨rfl, rfl⟩) ?_
    refine Conv.mk [0] rfl rfl rfl ?_ rfl ?_
    (repeat' (first | exact Cf.nil | exact Cv.refl | exact CvL.refl _ | exact Cv.rowf rfl rfl | exact Crs.nil | refine Cf.cons' (by (conv => lhs; whnf) <;> rfl) ?_ ?_ | refine Crs.cons ?_ rfl ?_ | exact Cr.no | refine Cr.row ?_ | refine Cr.box ?_ | exact Cv.nil | exact Cv.full | exact CvL.nil | refine CvL.cons ?_ ?_))
    (all_goals (try (first | refine CvL.eq ?_ | refine Cv.eq ?_)))
    all_goals first | rfl | (simp [AV.ren, renL]; done)
  · exact ⟨Nat.zero_le _, rfl, hI⟩
  · rintro ⟨i, acc⟩ ⟨h1, h2, h3⟩
    simp only at h1 h2 h3 ⊢
    have hac : (spP acc).length = acc.length := by simp
    rcases Nat.lt_or_ge i l.length with h | h
    · have hA : At (spP l) (i : Int) [PV.v (.int .i64 l[i].1), PV.v (.int .i64 l[i].2)] := At.mk i rfl (by simp [h])
      rw [List.drop_eq_getElem_cons h, List.foldl_cons] at h3
      generalize l[i] = x at hA h3
      (repeat' (first | refine AW.seq_k (fun K hK => ?_) | (refine hK _ ?_; clear hK) | (refine AW.condD rfl (fun hc => ?_) (fun hc => ?_) <;> try (first | (exfalso; omega) | (cases hc; done))) | refine AW.block ?_ | refine AW.skip ?_ | (first | (refine AW.region (id := 3) ?_ <;> (try (refine Run.p rfl rfl rfl (OpP.ltt rfl rfl rfl) ?_)) <;> (try refine Run.fin rfl ?_)) | (refine AW.region (id := 4) ?_ <;> (try (refine Run.ri rfl rfl rfl (OpRI.indexAddrA rfl rfl) rfl ?_)) <;> (try (refine Run.p rfl rfl rfl (OpP.loadES rfl rfl rfl (by repeat constructor)) ?_)) <;> (try (refine Run.alA rfl rfl rfl rfl ?_)) <;> (try (refine Run.stA rfl rfl rfl rfl rfl ?_)) <;> (try refine Run.fin rfl ?_)) | (refine AW.region (id := 5) ?_ <;> (try (refine Run.p rfl rfl rfl (OpP.mvA rfl) ?_)) <;> (try (refine Run.ri rfl rfl rfl (OpRI.lenA rfl rfl) rfl ?_)) <;> (try (refine Run.p rfl rfl rfl (OpP.asA rfl) ?_)) <;> (try refine Run.fin rfl ?_)))))
      rw [insP] at h3
      generalize hK : insK x acc acc.length = kk at h3
      refine AW.loopF (X := Nat) (fun k => ⟨[(3, .row 0 (spP acc).length), (4, .v (.slice none 0 0)), (6, .ptr 1 0), (7, .v (.int .i64 (k : Int))), (11, .sl 2 (spP l) f), (12, .v (.int .i64 (l.length : Int))), (13, .v (.int .i64 (i : Int)))], [.row 2 (spP acc), .box [.v (.int .i64 x.1), .v (.int .i64 x.2)]]⟩)
        (fun k => k ≤ acc.length ∧ insK x acc k = kk) (fun k => k) acc.length ?_ ?_ ?_
      · refine Conv.mk [0, 1] rfl rfl rfl ?_ rfl ?_
        (repeat' (first | exact Cf.nil | exact Cv.refl | exact CvL.refl _ | exact Cv.rowf rfl rfl | exact Crs.nil | refine Cf.cons' (by (conv => lhs; whnf) <;> rfl) ?_ ?_ | refine Crs.cons ?_ rfl ?_ | exact Cr.no | refine Cr.row ?_ | refine Cr.box ?_ | exact Cv.nil | exact Cv.full | exact CvL.nil | refine CvL.cons ?_ ?_))
        (all_goals (try (first | refine CvL.eq ?_ | refine Cv.eq ?_)))
        all_goals first | rfl | (simp [AV.ren, renL]; done)
      · exact ⟨Nat.le_refl _, hK⟩
      · rintro k ⟨g1, g2⟩
        rcases k with _ | k
        · have hd : ¬ (0 < ((0 : Nat) : Int)) := by omega
          rw [insK] at g2
          subst g2
          (repeat' (first | refine AW.seq_k (fun K hK => ?_) | (refine hK _ ?_; clear hK) | (refine AW.cond rfl (fun hc => ?_) (fun hc => ?_) <;> (try simp only [Bool.and_eq_true, Bool.or_eq_true, Bool.not_eq_true', Bool.not_eq_false', Bool.and_eq_false_iff, Bool.or_eq_false_iff, Bool.and_eq_false_imp, decide_eq_true_eq, decide_eq_false_iff_not, Decidable.not_not, Int.not_lt, Int.not_le, ne_eq, Bool.not_not] at hc) <;> try (first | (exfalso; omega) | (cases hc; done))) | refine AW.exit ?_ | (clear hK; clear hK; refine hK _ ?_; clear hK) | (first | (refine AW.draw (id := 6) (by kernel_rfl) ?_ <;> (try (refine Run.p rfl rfl rfl (OpP.mvA rfl) ?_)) <;> (try (refine Run.p rfl rfl rfl (OpP.decF (OpP.gtt rfl rfl rfl) (by assumption)) ?_)) <;> (try (refine Run.p rfl rfl rfl (OpP.mvA rfl) ?_)) <;> (try (refine Run.sk rfl rfl rfl ?_)) <;> (try (refine Run.sk rfl rfl rfl ?_)) <;> (try (refine Run.sk rfl rfl rfl ?_)) <;> (try (refine Run.sk rfl rfl rfl ?_)) <;> (try (refine Run.sk rfl rfl rfl ?_)) <;> (try (refine Run.sk rfl rfl rfl ?_)) <;> (try (refine Run.sk rfl rfl rfl ?_)) <;> (try (refine Run.sk rfl rfl rfl ?_)) <;> (try (refine Run.sk rfl rfl rfl ?_)) <;> (try (refine Run.p rfl rfl rfl (OpP.pickA rfl rfl) ?_)) <;> (try refine Run.fin (by kernel_rfl) ?_)) | (refine AW.draw (id := 8) (by kernel_rfl) ?_ <;> (try (refine Run.p rfl rfl rfl (OpP.mvA rfl) ?_)) <;> (try (refine Run.p rfl rfl rfl (OpP.mvA rfl) ?_)) <;> (try (refine Run.ri rfl rfl rfl (OpRI.sliceHA rfl rfl rfl) rfl ?_)) <;> (try (refine Run.apFA rfl rfl rfl rfl rfl rfl ?_)) <;> (try (refine Run.ldNA rfl rfl rfl rfl rfl rfl rfl ?_)) <;> (try (refine Run.bsA rfl rfl rfl rfl rfl rfl ?_)) <;> (try (refine Run.apRA rfl rfl rfl rfl rfl rfl rfl rfl rfl ?_)) <;> (try (refine Run.p rfl rfl rfl (OpP.mvA rfl) ?_)) <;> (try (refine Run.p rfl rfl rfl (OpP.mvA rfl) ?_)) <;> (try (refine Run.ri rfl rfl rfl (OpRI.sliceLA rfl rfl rfl) rfl ?_)) <;> (try (refine Run.apRA rfl rfl rfl rfl rfl rfl rfl rfl rfl ?_)) <;> (try (refine Run.p rfl rfl rfl (OpP.asA rfl) ?_)) <;> (try refine Run.fin (by kernel_rfl) ?_)))))
          (repeat' (first | (refine AW.region (id := 9) ?_ <;> (try (refine Run.p rfl rfl rfl (OpP.addA rfl rfl rfl) ?_)) <;> (try (refine Run.p rfl rfl rfl (OpP.mvA rfl) ?_)) <;> (try refine Run.fin rfl ?_))))
          ((repeat (with_reducible refine inB_n ?_)); refine thenA_n ?_)
          refine ⟨(i + 1, acc.take 0 ++ [x] ++ acc.drop 0), ⟨h, by simp only [List.length_append, List.length_take, List.length_drop, List.length_singleton]; omega, h3⟩, by simp only; omega, ?_⟩
          refine Conv.mk [2] rfl rfl rfl ?_ rfl ?_
          (repeat' (first | exact Cf.nil | exact Cv.refl | exact CvL.refl _ | exact Cv.rowf rfl rfl | exact Crs.nil | refine Cf.cons' (by (conv => lhs; whnf) <;> rfl) ?_ ?_ | refine Crs.cons ?_ rfl ?_ | exact Cr.no | refine Cr.row ?_ | refine Cr.box ?_ | exact Cv.nil | exact Cv.full | exact CvL.nil | refine CvL.cons ?_ ?_))
          (all_goals (try (first | refine CvL.eq ?_ | refine Cv.eq ?_)))
          all_goals first | (simp [AV.ren, renL]; done) | (simp [AV.ren, renL, List.map_take, List.map_drop]; done) | (rw [Int.toNat_natCast]; simp [List.map_take, List.map_drop]; done)
        · have hd : 0 < ((k + 1 : Nat) : Int) := by omega
          have hkl : k < acc.length := by omega
          have hB : At (spP acc) (((k + 1 : Nat) : Int) - 1) [PV.v (.int .i64 acc[k].1), PV.v (.int .i64 acc[k].2)] := At.mk k (by omega) (by simp [hkl])
          have hg : acc.getD k (0, 0) = acc[k] := by rw [List.getD_eq_getElem?_getD, List.getElem?_eq_getElem hkl]; rfl
          rw [insK, hg] at g2
          generalize acc[k] = y at hB g2
          by_cases hc : x.1 < y.1
          · rw [if_pos hc] at g2
            (repeat' (first | refine AW.seq_k (fun K hK => ?_) | (refine hK _ ?_; clear hK) | (refine AW.cond rfl (fun hc => ?_) (fun hc => ?_) <;> (try simp only [Bool.and_eq_true, Bool.or_eq_true, Bool.not_eq_true', Bool.not_eq_false', Bool.and_eq_false_iff, Bool.or_eq_false_iff, Bool.and_eq_false_imp, decide_eq_true_eq, decide_eq_false_iff_not, Decidable.not_not, Int.not_lt, Int.not_le, ne_eq, Bool.not_not] at hc) <;> try (first | (exfalso; omega) | (cases hc; done))) | refine AW.block ?_ | refine AW.skip ?_ | (first | (refine AW.draw (id := 6) (by kernel_rfl) ?_ <;> (try (refine Run.p rfl rfl rfl (OpP.mvA rfl) ?_)) <;> (try (refine Run.p rfl rfl rfl (OpP.decT (OpP.gtt rfl rfl rfl) (by assumption)) ?_)) <;> (try (refine Run.p rfl rfl rfl (OpP.mvA rfl) ?_)) <;> (try (refine Run.p rfl rfl rfl (OpP.mvA rfl) ?_)) <;> (try (refine Run.p rfl rfl rfl (OpP.mvA rfl) ?_)) <;> (try (refine Run.p rfl rfl rfl (OpP.subA rfl rfl rfl) ?_)) <;> (try (refine Run.ri rfl rfl rfl (OpRI.indexAddrA rfl rfl) rfl ?_)) <;> (try (refine Run.p rfl rfl rfl (OpP.fieldAddrE rfl rfl (by decide) (by first | (simp only [Nat.reduceAdd, Nat.zero_add, Nat.add_zero]; rfl) | rfl) (Nat.le_of_ble_eq_true rfl)) ?_)) <;> (try (refine Run.p rfl rfl rfl (OpP.loadE1 rfl rfl rfl rfl (by (conv => lhs; whnf) <;> rfl)) ?_)) <;> (try (refine Run.p rfl rfl rfl (OpP.fieldAddrA rfl rfl) ?_)) <;> (try (refine Run.ld1 rfl rfl rfl rfl rfl rfl rfl rfl ?_)) <;> (try (refine Run.p rfl rfl rfl (OpP.decT (OpP.gtt rfl rfl rfl) (by assumption)) ?_)) <;> (try (refine Run.p rfl rfl rfl (OpP.pickA rfl rfl) ?_)) <;> (try refine Run.fin (by kernel_rfl) ?_)) | (refine AW.region (id := 7) ?_ <;> (try (refine Run.p rfl rfl rfl (OpP.mvA rfl) ?_)) <;> (try (refine Run.p rfl rfl rfl (OpP.subA rfl rfl rfl) ?_)) <;> (try (refine Run.p rfl rfl rfl (OpP.asA rfl) ?_)) <;> (try refine Run.fin rfl ?_)))))
            ((repeat (with_reducible refine inB_n ?_)); refine thenA_n ?_)
            refine ⟨k, ⟨by omega, g2⟩, by omega, ?_⟩
            refine Conv.mk [0, 1] rfl rfl rfl ?_ rfl ?_
            (repeat' (first | exact Cf.nil | exact Cv.refl | exact CvL.refl _ | exact Cv.rowf rfl rfl | exact Crs.nil | refine Cf.cons' (by (conv => lhs; whnf) <;> rfl) ?_ ?_ | refine Crs.cons ?_ rfl ?_ | exact Cr.no | refine Cr.row ?_ | refine Cr.box ?_ | exact Cv.nil | exact Cv.full | exact CvL.nil | refine CvL.cons ?_ ?_))
            (all_goals (try (first | refine CvL.eq ?_ | refine Cv.eq ?_)))
            all_goals first | (simp [AV.ren, renL]; done) | (simp only [AV.ren]; congr 2; omega)
          · rw [if_neg hc] at g2
            subst g2
            (repeat' (first | refine AW.seq_k (fun K hK => ?_) | (refine hK _ ?_; clear hK) | (refine AW.cond rfl (fun hc => ?_) (fun hc => ?_) <;> (try simp only [Bool.and_eq_true, Bool.or_eq_true, Bool.not_eq_true', Bool.not_eq_false', Bool.and_eq_false_iff, Bool.or_eq_false_iff, Bool.and_eq_false_imp, decide_eq_true_eq, decide_eq_false_iff_not, Decidable.not_not, Int.not_lt, Int.not_le, ne_eq, Bool.not_not] at hc) <;> try (first | (exfalso; omega) | (cases hc; done))) | refine AW.exit ?_ | (clear hK; clear hK; refine hK _ ?_; clear hK) | (first | (refine AW.draw (id := 6) (by kernel_rfl) ?_ <;> (try (refine Run.p rfl rfl rfl (OpP.mvA rfl) ?_)) <;> (try (refine Run.p rfl rfl rfl (OpP.decT (OpP.gtt rfl rfl rfl) (by assumption)) ?_)) <;> (try (refine Run.p rfl rfl rfl (OpP.mvA rfl) ?_)) <;> (try (refine Run.p rfl rfl rfl (OpP.mvA rfl) ?_)) <;> (try (refine Run.p rfl rfl rfl (OpP.mvA rfl) ?_)) <;> (try (refine Run.p rfl rfl rfl (OpP.subA rfl rfl rfl) ?_)) <;> (try (refine Run.ri rfl rfl rfl (OpRI.indexAddrA rfl rfl) rfl ?_)) <;> (try (refine Run.p rfl rfl rfl (OpP.fieldAddrE rfl rfl (by decide) (by first | (simp only [Nat.reduceAdd, Nat.zero_add, Nat.add_zero]; rfl) | rfl) (Nat.le_of_ble_eq_true rfl)) ?_)) <;> (try (refine Run.p rfl rfl rfl (OpP.loadE1 rfl rfl rfl rfl (by (conv => lhs; whnf) <;> rfl)) ?_)) <;> (try (refine Run.p rfl rfl rfl (OpP.fieldAddrA rfl rfl) ?_)) <;> (try (refine Run.ld1 rfl rfl rfl rfl rfl rfl rfl rfl ?_)) <;> (try (refine Run.p rfl rfl rfl (OpP.decF (OpP.gtt rfl rfl rfl) (by assumption)) ?_)) <;> (try (refine Run.p rfl rfl rfl (OpP.pickA rfl rfl) ?_)) <;> (try refine Run.fin (by kernel_rfl) ?_)) | (refine AW.draw (id := 8) (by kernel_rfl) ?_ <;> (try (refine Run.p rfl rfl rfl (OpP.mvA rfl) ?_)) <;> (try (refine Run.p rfl rfl rfl (OpP.mvA rfl) ?_)) <;> (try (refine Run.ri rfl rfl rfl (OpRI.sliceHA rfl rfl rfl) rfl ?_)) <;> (try (refine Run.apFA rfl rfl rfl rfl rfl rfl ?_)) <;> (try (refine Run.ldNA rfl rfl rfl rfl rfl rfl rfl ?_)) <;> (try (refine Run.bsA rfl rfl rfl rfl rfl rfl ?_)) <;> (try (refine Run.apRA rfl rfl rfl rfl rfl rfl rfl rfl rfl ?_)) <;> (try (refine Run.p rfl rfl rfl (OpP.mvA rfl) ?_)) <;> (try (refine Run.p rfl rfl rfl (OpP.mvA rfl) ?_)) <;> (try (refine Run.ri rfl rfl rfl (OpRI.sliceLA rfl rfl rfl) rfl ?_)) <;> (try (refine Run.apRA rfl rfl rfl rfl rfl rfl rfl rfl rfl ?_)) <;> (try (refine Run.p rfl rfl rfl (OpP.asA rfl) ?_)) <;> (try refine Run.fin (by kernel_rfl) ?_)))))
            (repeat' (first | (refine AW.region (id := 9) ?_ <;> (try (refine Run.p rfl rfl rfl (OpP.addA rfl rfl rfl) ?_)) <;> (try (refine Run.p rfl rfl rfl (OpP.mvA rfl) ?_)) <;> (try refine Run.fin rfl ?_))))
            ((repeat (with_reducible refine inB_n ?_)); refine thenA_n ?_)
            refine ⟨(i + 1, acc.take (k + 1) ++ [x] ++ acc.drop (k + 1)), ⟨h, by simp only [List.length_append, List.length_take, List.length_drop, List.length_singleton]; omega, h3⟩, by simp only; omega, ?_⟩
            refine Conv.mk [2] rfl rfl rfl ?_ rfl ?_
            (repeat' (first | exact Cf.nil | exact Cv.refl | exact CvL.refl _ | exact Cv.rowf rfl rfl | exact Crs.nil | refine Cf.cons' (by (conv => lhs; whnf) <;> rfl) ?_ ?_ | refine Crs.cons ?_ rfl ?_ | exact Cr.no | refine Cr.row ?_ | refine Cr.box ?_ | exact Cv.nil | exact Cv.full | exact CvL.nil | refine CvL.cons ?_ ?_))
            (all_goals (try (first | refine CvL.eq ?_ | refine Cv.eq ?_)))
            all_goals first | (simp [AV.ren, renL]; done) | (simp [AV.ren, renL, List.map_take, List.map_drop]; done) | (rw [Int.toNat_natCast]; simp [List.map_take, List.map_drop]; done)
    · obtain rfl : i = l.length := by omega
      rw [List.drop_length, List.foldl_nil] at h3
      subst h3
      have hin := insF_mem l []
      rw [hI] at hin
      have hab : SpB acc := fun y hy => hb y ((hin y hy).resolve_left (by simp))
      have hRR : joinedP l = acc.foldl mrgP [] := by rw [joinedP, hI]
      generalize hR : acc.foldl mrgP [] = R at hRR
      (repeat' (first | refine AW.seq_k (fun K hK => ?_) | (refine hK _ ?_; clear hK) | (refine AW.condD rfl (fun hc => ?_) (fun hc => ?_) <;> try (first | (exfalso; omega) | (cases hc; done))) | refine AW.block ?_ | refine AW.exit ?_ | (clear hK; refine hK _ ?_; clear hK) | (first | (refine AW.region (id := 3) ?_ <;> (try (refine Run.p rfl rfl rfl (OpP.ltt rfl rfl rfl) ?_)) <;> (try refine Run.fin rfl ?_)) | (refine AW.region (id := 10) ?_ <;> (try (refine Run.p rfl rfl rfl (OpP.mvA rfl) ?_)) <;> (try (refine Run.ri rfl rfl rfl (OpRI.lenA rfl rfl) rfl ?_)) <;> (try (refine Run.p rfl rfl rfl (OpP.mvA rfl) ?_)) <;> (try refine Run.fin rfl ?_)))))
      refine AW.loopF (X := Nat × List (Int × Int) × Nat) (fun x => match x.1 with
          | 0 => ⟨[(4, .v (.slice none 0 0)), (46, .sl 2 (spP acc) false), (47, .v (.int .i64 (acc.length : Int))), (48, .v (.int .i64 0))], []⟩
          | i + 1 => ⟨[(4, .bsl 0 2 0 x.2.1.length (x.2.1.length + x.2.2)), (46, .sl 2 (spP acc) false), (47, .v (.int .i64 (acc.length : Int))), (48, .v (.int .i64 ((i + 1 : Nat) : Int)))], [.box (bxs (spP x.2.1 ++ List.replicate x.2.2 sp0))]⟩)
        (fun x => x.1 ≤ acc.length ∧ (x.1 = 0 ↔ x.2.1 = []) ∧ x.2.1.length ≤ x.1 ∧ SpB x.2.1 ∧ (acc.drop x.1).foldl mrgP x.2.1 = R) (fun x => acc.length - x.1) (0, [], 0) ?_ ?_ ?_
      · refine Conv.mk [] rfl rfl rfl ?_ rfl ?_
        (repeat' (first | exact Cf.nil | exact Cv.refl | exact CvL.refl _ | exact Cv.rowf rfl rfl | exact Crs.nil | refine Cf.cons' (by (conv => lhs; whnf) <;> rfl) ?_ ?_ | refine Crs.cons ?_ rfl ?_ | exact Cr.no | refine Cr.row ?_ | refine Cr.box ?_ | exact Cv.nil | exact Cv.full | exact CvL.nil | refine CvL.cons ?_ ?_))
        (all_goals (try (first | refine CvL.eq ?_ | refine Cv.eq ?_)))
        all_goals first | rfl | (simp [AV.ren, renL]; done)
      · exact ⟨Nat.zero_le _, by simp, Nat.le_refl _, fun y hy => by simp at hy, hR⟩
      · rintro ⟨i, out, d⟩ ⟨g1, g2, g3, g4, g5⟩
        simp only at g1 g2 g3 g4 g5
        rcases Nat.lt_or_ge i acc.length with h | h
        · have hA : At (spP acc) (i : Int) [PV.v (.int .i64 acc[i].1), PV.v (.int .i64 acc[i].2)] := At.mk i rfl (by simp [h])
          have hxb := hab acc[i] (List.getElem_mem _)
          rw [List.drop_eq_getElem_cons h, List.foldl_cons] at g5
          generalize acc[i] = x at hA hxb g5
          rcases i with _ | i
          · obtain rfl : out = [] := g2.1 rfl
            simp only
            simp only [Int.natCast_zero] at hA
            (repeat' (first | refine AW.seq_k (fun K hK => ?_) | (refine hK _ ?_; clear hK) | (refine AW.condD rfl (fun hc => ?_) (fun hc => ?_) <;> try (first | (exfalso; omega) | (cases hc; done))) | (refine AW.cond rfl (fun hc => ?_) (fun hc => ?_) <;> (try simp only [Bool.and_eq_true, Bool.or_eq_true, Bool.not_eq_true', Bool.not_eq_false', Bool.and_eq_false_iff, Bool.or_eq_false_iff, Bool.and_eq_false_imp, decide_eq_true_eq, decide_eq_false_iff_not, Decidable.not_not, Int.not_lt, Int.not_le, ne_eq, Bool.not_not] at hc) <;> try (first | (exfalso; omega) | (cases hc; done))) | refine AW.block ?_ | refine AW.skip ?_ | (first | (refine AW.region (id := 11) ?_ <;> (try (refine Run.p rfl rfl rfl (OpP.ltt rfl rfl rfl) ?_)) <;> (try refine Run.fin rfl ?_)) | (refine AW.region (id := 12) ?_ <;> (try (refine Run.ri rfl rfl rfl (OpRI.indexAddrA rfl rfl) rfl ?_)) <;> (try (refine Run.p rfl rfl rfl (OpP.loadES rfl rfl rfl (by repeat constructor)) ?_)) <;> (try (refine Run.alA rfl rfl rfl rfl ?_)) <;> (try (refine Run.stA rfl rfl rfl rfl rfl ?_)) <;> (try refine Run.fin rfl ?_)) | (refine AW.region (id := 13) ?_ <;> (try (refine Run.p rfl rfl rfl (OpP.mvA rfl) ?_)) <;> (try (refine Run.p rfl rfl rfl (OpP.lenNil rfl rfl) ?_)) <;> (try (refine Run.p rfl rfl rfl (OpP.subA rfl rfl rfl) ?_)) <;> (try (refine Run.p rfl rfl rfl (OpP.asA rfl) ?_)) <;> (try refine Run.fin rfl ?_)) | (refine AW.draw (id := 14) (by kernel_rfl) ?_ <;> (try (refine Run.p rfl rfl rfl (OpP.mvA rfl) ?_)) <;> (try (refine Run.p rfl rfl rfl (OpP.gee rfl rfl rfl) ?_)) <;> (try (refine Run.p rfl rfl rfl (OpP.mvA rfl) ?_)) <;> (try (refine Run.sk rfl rfl rfl ?_)) <;> (try (refine Run.sk rfl rfl rfl ?_)) <;> (try (refine Run.sk rfl rfl rfl ?_)) <;> (try (refine Run.sk rfl rfl rfl ?_)) <;> (try (refine Run.sk rfl rfl rfl ?_)) <;> (try (refine Run.sk rfl rfl rfl ?_)) <;> (try (refine Run.sk rfl rfl rfl ?_)) <;> (try (refine Run.sk rfl rfl rfl ?_)) <;> (try (refine Run.sk rfl rfl rfl ?_)) <;> (try (refine Run.p rfl rfl rfl (OpP.pickA rfl rfl) ?_)) <;> (try refine Run.fin (by kernel_rfl) ?_)) | (refine AW.region (id := 16) ?_ <;> (try (refine Run.p rfl rfl rfl (OpP.mvA rfl) ?_)) <;> (try (refine Run.ldNA rfl rfl rfl rfl rfl rfl rfl ?_)) <;> (try (refine Run.bsA rfl rfl rfl rfl rfl rfl ?_)) <;> (try (refine Run.apBS (fun _ => rfl) rfl rfl rfl rfl (Or.inl ⟨_, rfl⟩) rfl rfl (Or.inr ⟨rfl, rfl⟩) (SrcNI.dat Dat.sl) (m := 1) (by simp) (by simp) (by decide) (by simp [maxLen]) rfl (by simp [keys]) (fun dd => ?_))) <;> (try (refine Run.p rfl rfl rfl (OpP.asA rfl) ?_)) <;> (try refine Run.fin rfl ?_)))))
            (repeat' (first | (refine AW.region (id := 17) ?_ <;> (try (refine Run.p rfl rfl rfl (OpP.addA rfl rfl rfl) ?_)) <;> (try (refine Run.p rfl rfl rfl (OpP.mvA rfl) ?_)) <;> (try refine Run.fin rfl ?_))))
            ((repeat (with_reducible refine inB_n ?_)); refine thenA_n ?_)
            refine ⟨(1, [x], dd), ⟨h, by simp, by simp, fun y hy => by rw [List.mem_singleton.1 hy]; exact hxb, by rw [← g5]; simp [mrgP]⟩, by simp only; omega, ?_⟩
            simp only
            refine Conv.mk [1] rfl rfl rfl ?_ rfl ?_
            · (repeat' (first | exact Cf.nil | exact Cv.refl | exact CvL.refl _ | exact Cv.rowf rfl rfl | exact Crs.nil | refine Cf.cons' (by (conv => lhs; whnf) <;> rfl) ?_ ?_ | refine Crs.cons ?_ rfl ?_ | exact Cr.no | refine Cr.row ?_ | refine Cr.box ?_ | exact Cv.nil | exact Cv.full | exact CvL.nil | refine CvL.cons ?_ ?_))
              (all_goals (try (first | refine CvL.eq ?_ | refine Cv.eq ?_)))
              all_goals first | rfl | (simp [AV.ren, renL]; done) | (simp [AV.ren, renL]; omega)
            · exact Crs.cons (Cr.bxs (by rfl)) (bxs_lt' _ _) Crs.nil
          · simp only
            have hne : out ≠ [] := fun e => by have := g2.2 e; omega
            have hpos : 0 < out.length := List.length_pos_iff.2 hne
            have hlt : out.length - 1 < out.length := by omega
            have hd0 : 0 ≤ (out.length : Int) - 1 := by omega
            have eo : 0 * 2 + ((out.length : Int) - 1).toNat * 2 + 1 = (out.length - 1) * 2 + 1 := by omega
            have hld := bx_sp (List.replicate d sp0) out (out.length - 1) hlt
            rw [← eo] at hld
            have hyb := g4 out[out.length - 1] (List.getElem_mem _)
            have hov := fun v => bx_spO (List.replicate d sp0) v out (out.length - 1) hlt
            rw [← eo] at hov
            have hls := lastD_get out hpos
            rw [mrgP, hls] at g5
            by_cases hm : x.1 - 1 ≤ out[out.length - 1].2
            · rw [if_pos ⟨hne, hm⟩, set_last out hpos] at g5
              generalize hy : out[out.length - 1] = y at hld hyb hov hm g5
              have hov' := hov (max y.2 x.2)
              (repeat' (first | refine AW.seq_k (fun K hK => ?_) | (refine hK _ ?_; clear hK) | (refine AW.condD rfl (fun hc => ?_) (fun hc => ?_) <;> try (first | (exfalso; omega) | (cases hc; done))) | (refine AW.cond rfl (fun hc => ?_) (fun hc => ?_) <;> (try simp only [Bool.and_eq_true, Bool.or_eq_true, Bool.not_eq_true', Bool.not_eq_false', Bool.and_eq_false_iff, Bool.or_eq_false_iff, Bool.and_eq_false_imp, decide_eq_true_eq, decide_eq_false_iff_not, Decidable.not_not, Int.not_lt, Int.not_le, ne_eq, Bool.not_not] at hc) <;> try (first | (exfalso; omega) | (cases hc; done))) | refine AW.block ?_ | refine AW.skip ?_ | (first | (refine AW.region (id := 11) ?_ <;> (try (refine Run.p rfl rfl rfl (OpP.ltt rfl rfl rfl) ?_)) <;> (try refine Run.fin rfl ?_)) | (refine AW.region (id := 12) ?_ <;> (try (refine Run.ri rfl rfl rfl (OpRI.indexAddrA rfl rfl) rfl ?_)) <;> (try (refine Run.p rfl rfl rfl (OpP.loadES rfl rfl rfl (by repeat constructor)) ?_)) <;> (try (refine Run.alA rfl rfl rfl rfl ?_)) <;> (try (refine Run.stA rfl rfl rfl rfl rfl ?_)) <;> (try refine Run.fin rfl ?_)) | (refine AW.region (id := 13) ?_ <;> (try (refine Run.p rfl rfl rfl (OpP.mvA rfl) ?_)) <;> (try (refine Run.p rfl rfl rfl (OpP.lenB rfl rfl) ?_)) <;> (try (refine Run.p rfl rfl rfl (OpP.subA rfl rfl rfl) ?_)) <;> (try (refine Run.p rfl rfl rfl (OpP.asA rfl) ?_)) <;> (try refine Run.fin rfl ?_)) | (refine AW.draw (id := 14) (by kernel_rfl) ?_ <;> (try (refine Run.p rfl rfl rfl (OpP.mvA rfl) ?_)) <;> (try (refine Run.p rfl rfl rfl (OpP.decT (OpP.gee rfl rfl rfl) (by assumption)) ?_)) <;> (try (refine Run.p rfl rfl rfl (OpP.mvA rfl) ?_)) <;> (try (refine Run.p rfl rfl rfl (OpP.fieldAddrA rfl rfl) ?_)) <;> (try (refine Run.ld1 rfl rfl rfl rfl rfl rfl rfl rfl ?_)) <;> (try (refine Run.p rfl rfl rfl (OpP.subA rfl rfl rfl) ?_)) <;> (try (refine Run.p rfl rfl rfl (OpP.mvA rfl) ?_)) <;> (try (refine Run.p rfl rfl rfl (OpP.mvA rfl) ?_)) <;> (try (refine Run.p rfl rfl rfl (OpP.indexAddrB rfl rfl rfl (by omega) (by omega) rfl) ?_)) <;> (try (refine Run.p rfl rfl rfl (OpP.fieldAddrA rfl rfl) ?_)) <;> (try (refine Run.ld1F rfl rfl rfl rfl rfl rfl rfl ?_)) <;> (try (refine Run.p rfl rfl rfl (OpP.decT (OpP.lee rfl rfl rfl) (by assumption)) ?_)) <;> (try (refine Run.p rfl rfl rfl (OpP.pickA rfl rfl) ?_)) <;> (try refine Run.fin (by kernel_rfl) ?_)) | (refine AW.draw (id := 15) (by kernel_rfl) ?_ <;> (try (refine Run.p rfl rfl rfl (OpP.mvA rfl) ?_)) <;> (try (refine Run.p rfl rfl rfl (OpP.mvA rfl) ?_)) <;> (try (refine Run.p rfl rfl rfl (OpP.mvA rfl) ?_)) <;> (try (refine Run.p rfl rfl rfl (OpP.mvA rfl) ?_)) <;> (try (refine Run.p rfl rfl rfl (OpP.indexAddrB rfl rfl rfl (by omega) (by omega) rfl) ?_)) <;> (try (refine Run.p rfl rfl rfl (OpP.fieldAddrA rfl rfl) ?_)) <;> (try (refine Run.ld1F rfl rfl rfl rfl rfl rfl rfl ?_)) <;> (try (refine Run.p rfl rfl rfl (OpP.fieldAddrA rfl rfl) ?_)) <;> (try (refine Run.ld1 rfl rfl rfl rfl rfl rfl rfl rfl ?_)) <;> (try (refine Run.p rfl rfl rfl (OpP.max rfl rfl rfl) ?_)) <;> (try (refine Run.p rfl rfl rfl (OpP.indexAddrB rfl rfl rfl (by omega) (by omega) rfl) ?_)) <;> (try (refine Run.p rfl rfl rfl (OpP.fieldAddrA rfl rfl) ?_)) <;> (try (refine Run.stF rfl rfl rfl rfl rfl ?_)) <;> (try refine Run.fin (by kernel_rfl) ?_)) | (refine AW.region (id := 17) ?_ <;> (try (refine Run.p rfl rfl rfl (OpP.addA rfl rfl rfl) ?_)) <;> (try (refine Run.p rfl rfl rfl (OpP.mvA rfl) ?_)) <;> (try refine Run.fin rfl ?_)))))
              ((repeat (with_reducible refine inB_n ?_)); refine thenA_n ?_)
              refine ⟨(i + 2, out.set (out.length - 1) (y.1, max y.2 x.2), d), ⟨h, by simp [hne], by rw [List.length_set]; simp only; omega, fun z hz => by
                rcases List.mem_or_eq_of_mem_set hz with hz | hz
                · exact g4 z hz
                · rw [hz]; simp only; omega, g5⟩, by simp only; omega, ?_⟩
              simp only
              rw [List.length_set]
              refine Conv.mk [0] rfl rfl rfl ?_ rfl ?_
              · (repeat' (first | exact Cf.nil | exact Cv.refl | exact CvL.refl _ | exact Cv.rowf rfl rfl | exact Crs.nil | refine Cf.cons' (by (conv => lhs; whnf) <;> rfl) ?_ ?_ | refine Crs.cons ?_ rfl ?_ | exact Cr.no | refine Cr.row ?_ | refine Cr.box ?_ | exact Cv.nil | exact Cv.full | exact CvL.nil | refine CvL.cons ?_ ?_))
                (all_goals (try (first | refine CvL.eq ?_ | refine Cv.eq ?_)))
                all_goals first | rfl | (simp [AV.ren, renL]; done) | (simp [AV.ren, renL]; omega)
              · exact Crs.cons (Cr.bxs (by rfl)) (bxs_lt' _ _) Crs.nil
            · rw [if_neg (fun e => hm e.2)] at g5
              generalize hy : out[out.length - 1] = y at hld hyb hov hm g5
              have hzz : ∀ d, ∀ y ∈ spP out ++ List.replicate d sp0, y.length = 2 := by
                intro d y hy
                simp only [List.mem_append, List.mem_map, List.mem_replicate] at hy
                rcases hy with ⟨_, _, rfl⟩ | ⟨_, rfl⟩ <;> rfl
              have hzl : ∀ d, (spP out ++ List.replicate d sp0).length = out.length + d := by intro d; simp
              have hnew : ∀ _ : Nat, ((i + 2 : Nat) ≤ acc.length ∧ ((i + 2 : Nat) = 0 ↔ out ++ [x] = []) ∧ (out ++ [x]).length ≤ i + 2 ∧ SpB (out ++ [x]) ∧ (acc.drop (i + 2)).foldl mrgP (out ++ [x]) = R) := by
                intro _
                refine ⟨h, by simp, by rw [List.length_append, List.length_singleton]; omega, fun z hz => ?_, g5⟩
                rcases List.mem_append.1 hz with hz | hz
                · exact g4 z hz
                · rw [List.mem_singleton.1 hz]; exact hxb
              rcases d with _ | d
              · (repeat' (first | refine AW.seq_k (fun K hK => ?_) | (refine hK _ ?_; clear hK) | (refine AW.condD rfl (fun hc => ?_) (fun hc => ?_) <;> try (first | (exfalso; omega) | (cases hc; done))) | (refine AW.cond rfl (fun hc => ?_) (fun hc => ?_) <;> (try simp only [Bool.and_eq_true, Bool.or_eq_true, Bool.not_eq_true', Bool.not_eq_false', Bool.and_eq_false_iff, Bool.or_eq_false_iff, Bool.and_eq_false_imp, decide_eq_true_eq, decide_eq_false_iff_not, Decidable.not_not, Int.not_lt, Int.not_le, ne_eq, Bool.not_not] at hc) <;> try (first | (exfalso; omega) | (cases hc; done))) | refine AW.block ?_ | refine AW.skip ?_ | (first | (refine AW.region (id := 11) ?_ <;> (try (refine Run.p rfl rfl rfl (OpP.ltt rfl rfl rfl) ?_)) <;> (try refine Run.fin rfl ?_)) | (refine AW.region (id := 12) ?_ <;> (try (refine Run.ri rfl rfl rfl (OpRI.indexAddrA rfl rfl) rfl ?_)) <;> (try (refine Run.p rfl rfl rfl (OpP.loadES rfl rfl rfl (by repeat constructor)) ?_)) <;> (try (refine Run.alA rfl rfl rfl rfl ?_)) <;> (try (refine Run.stA rfl rfl rfl rfl rfl ?_)) <;> (try refine Run.fin rfl ?_)) | (refine AW.region (id := 13) ?_ <;> (try (refine Run.p rfl rfl rfl (OpP.mvA rfl) ?_)) <;> (try (refine Run.p rfl rfl rfl (OpP.lenB rfl rfl) ?_)) <;> (try (refine Run.p rfl rfl rfl (OpP.subA rfl rfl rfl) ?_)) <;> (try (refine Run.p rfl rfl rfl (OpP.asA rfl) ?_)) <;> (try refine Run.fin rfl ?_)) | (refine AW.draw (id := 14) (by kernel_rfl) ?_ <;> (try (refine Run.p rfl rfl rfl (OpP.mvA rfl) ?_)) <;> (try (refine Run.p rfl rfl rfl (OpP.decT (OpP.gee rfl rfl rfl) (by assumption)) ?_)) <;> (try (refine Run.p rfl rfl rfl (OpP.mvA rfl) ?_)) <;> (try (refine Run.p rfl rfl rfl (OpP.fieldAddrA rfl rfl) ?_)) <;> (try (refine Run.ld1 rfl rfl rfl rfl rfl rfl rfl rfl ?_)) <;> (try (refine Run.p rfl rfl rfl (OpP.subA rfl rfl rfl) ?_)) <;> (try (refine Run.p rfl rfl rfl (OpP.mvA rfl) ?_)) <;> (try (refine Run.p rfl rfl rfl (OpP.mvA rfl) ?_)) <;> (try (refine Run.p rfl rfl rfl (OpP.indexAddrB rfl rfl rfl (by omega) (by omega) rfl) ?_)) <;> (try (refine Run.p rfl rfl rfl (OpP.fieldAddrA rfl rfl) ?_)) <;> (try (refine Run.ld1F rfl rfl rfl rfl rfl rfl rfl ?_)) <;> (try (refine Run.p rfl rfl rfl (OpP.decF (OpP.lee rfl rfl rfl) (by assumption)) ?_)) <;> (try (refine Run.p rfl rfl rfl (OpP.pickA rfl rfl) ?_)) <;> (try refine Run.fin (by kernel_rfl) ?_)) | (refine AW.region (id := 16) ?_ <;> (try (refine Run.p rfl rfl rfl (OpP.mvA rfl) ?_)) <;> (try (refine Run.ldNA rfl rfl rfl rfl rfl rfl rfl ?_)) <;> (try (refine Run.bsA rfl rfl rfl rfl rfl rfl ?_)) <;> (try (refine Run.apBG (fun _ => rfl) rfl rfl rfl rfl (Or.inl ⟨_, rfl⟩) rfl rfl rfl (SrcNI.dat Dat.sl) rfl (hzz 0) (hzl 0) (mm := out.length + 1) rfl (by omega) rfl (Nat.succ_pos _) (by simp [keys]) (by omega) (by simp [maxLen]; omega) (fun dd => ?_))) <;> (try (refine Run.p rfl rfl rfl (OpP.asA rfl) ?_)) <;> (try refine Run.fin rfl ?_)))))
                (repeat' (first | (refine AW.region (id := 17) ?_ <;> (try (refine Run.p rfl rfl rfl (OpP.addA rfl rfl rfl) ?_)) <;> (try (refine Run.p rfl rfl rfl (OpP.mvA rfl) ?_)) <;> (try refine Run.fin rfl ?_))))
                ((repeat (with_reducible refine inB_n ?_)); refine thenA_n ?_)
                refine ⟨(i + 2, out ++ [x], dd), hnew 0, by simp only; omega, ?_⟩
                simp only
                rw [List.length_append, List.length_singleton]
                refine Conv.mk [2] rfl rfl rfl ?_ rfl ?_
                · (repeat' (first | exact Cf.nil | exact Cv.refl | exact CvL.refl _ | exact Cv.rowf rfl rfl | exact Crs.nil | refine Cf.cons' (by (conv => lhs; whnf) <;> rfl) ?_ ?_ | refine Crs.cons ?_ rfl ?_ | exact Cr.no | refine Cr.row ?_ | refine Cr.box ?_ | exact Cv.nil | exact Cv.full | exact CvL.nil | refine CvL.cons ?_ ?_))
                  (all_goals (try (first | refine CvL.eq ?_ | refine Cv.eq ?_)))
                  all_goals first | rfl | (simp [AV.ren, renL]; done) | (simp [AV.ren, renL]; omega)
                · exact Crs.cons (Cr.bxs (put_new out x dd)) (bxs_lt' _ _) Crs.nil
              · (repeat' (first | refine AW.seq_k (fun K hK => ?_) | (refine hK _ ?_; clear hK) | (refine AW.condD rfl (fun hc => ?_) (fun hc => ?_) <;> try (first | (exfalso; omega) | (cases hc; done))) | (refine AW.cond rfl (fun hc => ?_) (fun hc => ?_) <;> (try simp only [Bool.and_eq_true, Bool.or_eq_true, Bool.not_eq_true', Bool.not_eq_false', Bool.and_eq_false_iff, Bool.or_eq_false_iff, Bool.and_eq_false_imp, decide_eq_true_eq, decide_eq_false_iff_not, Decidable.not_not, Int.not_lt, Int.not_le, ne_eq, Bool.not_not] at hc) <;> try (first | (exfalso; omega) | (cases hc; done))) | refine AW.block ?_ | refine AW.skip ?_ | (first | (refine AW.region (id := 11) ?_ <;> (try (refine Run.p rfl rfl rfl (OpP.ltt rfl rfl rfl) ?_)) <;> (try refine Run.fin rfl ?_)) | (refine AW.region (id := 12) ?_ <;> (try (refine Run.ri rfl rfl rfl (OpRI.indexAddrA rfl rfl) rfl ?_)) <;> (try (refine Run.p rfl rfl rfl (OpP.loadES rfl rfl rfl (by repeat constructor)) ?_)) <;> (try (refine Run.alA rfl rfl rfl rfl ?_)) <;> (try (refine Run.stA rfl rfl rfl rfl rfl ?_)) <;> (try refine Run.fin rfl ?_)) | (refine AW.region (id := 13) ?_ <;> (try (refine Run.p rfl rfl rfl (OpP.mvA rfl) ?_)) <;> (try (refine Run.p rfl rfl rfl (OpP.lenB rfl rfl) ?_)) <;> (try (refine Run.p rfl rfl rfl (OpP.subA rfl rfl rfl) ?_)) <;> (try (refine Run.p rfl rfl rfl (OpP.asA rfl) ?_)) <;> (try refine Run.fin rfl ?_)) | (refine AW.draw (id := 14) (by kernel_rfl) ?_ <;> (try (refine Run.p rfl rfl rfl (OpP.mvA rfl) ?_)) <;> (try (refine Run.p rfl rfl rfl (OpP.decT (OpP.gee rfl rfl rfl) (by assumption)) ?_)) <;> (try (refine Run.p rfl rfl rfl (OpP.mvA rfl) ?_)) <;> (try (refine Run.p rfl rfl rfl (OpP.fieldAddrA rfl rfl) ?_)) <;> (try (refine Run.ld1 rfl rfl rfl rfl rfl rfl rfl rfl ?_)) <;> (try (refine Run.p rfl rfl rfl (OpP.subA rfl rfl rfl) ?_)) <;> (try (refine Run.p rfl rfl rfl (OpP.mvA rfl) ?_)) <;> (try (refine Run.p rfl rfl rfl (OpP.mvA rfl) ?_)) <;> (try (refine Run.p rfl rfl rfl (OpP.indexAddrB rfl rfl rfl (by omega) (by omega) rfl) ?_)) <;> (try (refine Run.p rfl rfl rfl (OpP.fieldAddrA rfl rfl) ?_)) <;> (try (refine Run.ld1F rfl rfl rfl rfl rfl rfl rfl ?_)) <;> (try (refine Run.p rfl rfl rfl (OpP.decF (OpP.lee rfl rfl rfl) (by assumption)) ?_)) <;> (try (refine Run.p rfl rfl rfl (OpP.pickA rfl rfl) ?_)) <;> (try refine Run.fin (by kernel_rfl) ?_)) | (refine AW.region (id := 16) ?_ <;> (try (refine Run.p rfl rfl rfl (OpP.mvA rfl) ?_)) <;> (try (refine Run.ldNA rfl rfl rfl rfl rfl rfl rfl ?_)) <;> (try (refine Run.bsA rfl rfl rfl rfl rfl rfl ?_)) <;> (try (refine Run.apB (sz := 2) rfl rfl rfl rfl (Or.inl ⟨_, rfl⟩) rfl rfl rfl (SrcNI.dat Dat.sl) (hzz (d + 1)) (hzl (d + 1)) (mm := out.length + 1) rfl (by omega) rfl (by omega) (by simp [maxLen]; omega) (by (repeat constructor); first | done | fail) rfl ?_)) <;> (try (refine Run.p rfl rfl rfl (OpP.asA rfl) ?_)) <;> (try refine Run.fin rfl ?_)))))
                (repeat' (first | (refine AW.region (id := 17) ?_ <;> (try (refine Run.p rfl rfl rfl (OpP.addA rfl rfl rfl) ?_)) <;> (try (refine Run.p rfl rfl rfl (OpP.mvA rfl) ?_)) <;> (try refine Run.fin rfl ?_))))
                ((repeat (with_reducible refine inB_n ?_)); refine thenA_n ?_)
                refine ⟨(i + 2, out ++ [x], d), hnew 0, by simp only; omega, ?_⟩
                simp only
                rw [List.length_append, List.length_singleton]
                refine Conv.mk [0] rfl rfl rfl ?_ rfl ?_
                · (repeat' (first | exact Cf.nil | exact Cv.refl | exact CvL.refl _ | exact Cv.rowf rfl rfl | exact Crs.nil | refine Cf.cons' (by (conv => lhs; whnf) <;> rfl) ?_ ?_ | refine Crs.cons ?_ rfl ?_ | exact Cr.no | refine Cr.row ?_ | refine Cr.box ?_ | exact Cv.nil | exact Cv.full | exact CvL.nil | refine CvL.cons ?_ ?_))
                  (all_goals (try (first | refine CvL.eq ?_ | refine Cv.eq ?_)))
                  all_goals first | rfl | (simp [AV.ren, renL]; done) | (simp [AV.ren, renL]; omega)
                · exact Crs.cons (Cr.bxs (put_next out x d)) (bxs_lt' _ _) Crs.nil
        · rw [List.drop_eq_nil_of_le h, List.foldl_nil] at g5
          subst g5
          rcases i with _ | i
          · obtain rfl : out = [] := g2.1 rfl
            have hd : ¬ (0 < (acc.length : Int)) := by omega
            simp only
            (repeat' (first | refine AW.seq_k (fun K hK => ?_) | (refine hK _ ?_; clear hK) | (refine AW.cond rfl (fun hc => ?_) (fun hc => ?_) <;> (try simp only [Bool.and_eq_true, Bool.or_eq_true, Bool.not_eq_true', Bool.not_eq_false', Bool.and_eq_false_iff, Bool.or_eq_false_iff, Bool.and_eq_false_imp, decide_eq_true_eq, decide_eq_false_iff_not, Decidable.not_not, Int.not_lt, Int.not_le, ne_eq, Bool.not_not] at hc) <;> try (first | (exfalso; omega) | (cases hc; done))) | refine AW.exit ?_ | refine AW.ret ?_ | (clear hK; refine hK _ ?_; clear hK) | (first | (refine AW.region (id := 11) ?_ <;> (try (refine Run.p rfl rfl rfl (OpP.decF (OpP.ltt rfl rfl rfl) (by assumption)) ?_)) <;> (try refine Run.fin rfl ?_)) | (refine AW.region (id := 18) ?_ <;> (try (refine Run.p rfl rfl rfl (OpP.mvA rfl) ?_)) <;> (try (refine Run.p rfl rfl rfl (OpP.asA rfl) ?_)) <;> (try refine Run.fin rfl ?_)))))
            ((first | refine RetOk.tup rfl rfl ?_ | refine RetOk.one rfl ?_) <;> (repeat' (first | exact Cv.nil | exact Cv.rowf rfl rfl | exact RetC.nil | exact CvL.refl _ | exact Cv.refl | refine RetC.tmp (by (conv => lhs; whnf) <;> rfl) ?_ ?_ | refine RetC.cell1 rfl rfl rfl rfl ?_ ?_ | refine RetC.cellN rfl rfl rfl (by repeat constructor) ?_ ?_ | refine Cv.rowE rfl rfl ?_ | exact Cv.full | exact CvL.nil | refine CvL.cons ?_ ?_)))
            rw [hRR]
            exact Cv.nil
          · simp only
            have hd : ¬ (((i + 1 : Nat) : Int) < (acc.length : Int)) := by omega
            (repeat' (first | refine AW.seq_k (fun K hK => ?_) | (refine hK _ ?_; clear hK) | (refine AW.cond rfl (fun hc => ?_) (fun hc => ?_) <;> (try simp only [Bool.and_eq_true, Bool.or_eq_true, Bool.not_eq_true', Bool.not_eq_false', Bool.and_eq_false_iff, Bool.or_eq_false_iff, Bool.and_eq_false_imp, decide_eq_true_eq, decide_eq_false_iff_not, Decidable.not_not, Int.not_lt, Int.not_le, ne_eq, Bool.not_not] at hc) <;> try (first | (exfalso; omega) | (cases hc; done))) | refine AW.exit ?_ | (clear hK; refine hK _ ?_; clear hK) | (refine AW.region (id := 11) ?_ <;> (try (refine Run.p rfl rfl rfl (OpP.decF (OpP.ltt rfl rfl rfl) (by assumption)) ?_)) <;> (try refine Run.fin rfl ?_))))
            have hzz : ∀ y ∈ spP out, y.length = 2 := by
              intro y hy
              simp only [List.mem_map] at hy
              rcases hy with ⟨_, _, rfl⟩; rfl
            have ho : (spP out).length = out.length := by simp
            rw [← ho]
            refine AW.freezeA 0 2 (spP out) (List.replicate d sp0) rfl rfl hzz ?_
            (repeat' (first | (refine hK _ ?_; clear hK) | refine AW.ret ?_ | (refine AW.region (id := 18) ?_ <;> (try (refine Run.p rfl rfl rfl (OpP.mvA rfl) ?_)) <;> (try (refine Run.p rfl rfl rfl (OpP.asA rfl) ?_)) <;> (try refine Run.fin rfl ?_))))
            ((first | refine RetOk.tup rfl rfl ?_ | refine RetOk.one rfl ?_) <;> (repeat' (first | exact Cv.nil | exact Cv.rowf rfl rfl | exact RetC.nil | exact CvL.refl _ | exact Cv.refl | refine RetC.tmp (by (conv => lhs; whnf) <;> rfl) ?_ ?_ | refine RetC.cell1 rfl rfl rfl rfl ?_ ?_ | refine RetC.cellN rfl rfl rfl (by repeat constructor) ?_ ?_ | refine Cv.rowE rfl rfl ?_ | exact Cv.full | exact CvL.nil | refine CvL.cons ?_ ?_)))
            (all_goals (try (first | refine CvL.eq ?_ | refine Cv.eq ?_)))
            all_goals simp [AV.ren, hRR]
end Go.Proofs.Ytgnlohecllokhaa
