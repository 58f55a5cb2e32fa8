/-
  Walks of chapter 41: the records of a session.
-/
import Derived.Test.YtbbcokckealagaaSsE
namespace Go.Proofs.Ytbbcokckealagaa
set_option linter.unusedVariables false
set_option linter.unusedSimpArgs false
def addL (b : Bool) (l : List Rc) (r : Rc) : List Rc := if b = true then l ++ [r] else l
theorem addL_len (b : Bool) (l : List Rc) (r : Rc) : (addL b l r).length ≤ l.length + 1 := by cases b <;> simp [addL]
theorem rcs_app (a b : List Rc) : rcs (a ++ b) = rcs a ++ rcs b := List.map_append
theorem add_c (b : Bool) (l : List Rc) (r : Rc) (hl : l.length ≤ 1000000000) : ACalls Try.prog 21 [.v (.bool b), .agg r.cells, .ptr 0 0] [.box [.row 1 (rcs l).length], .row 11 (rcs l)] (.tup []) [.box [.row 1 (rcs (addL b l r)).length], .row 11 (rcs (addL b l r))] := by
  have hll : (rcs l).length = l.length := by simp
  cases b with
  | false =>
    rw [addL, if_neg (by decide)]
    refine (ACalls.of (fn := Try.f21) Try.func21 rfl rfl Try.ntmps21 (fun I M w own => ?_))
    (repeat' (first | refine AW.seq_k (fun K hK => ?_) | (refine hK _ ?_; clear hK) | (refine AW.cond rfl (fun hc => ?_) (fun hc => ?_) <;> (try simp only [Bool.and_eq_true, Bool.or_eq_true, Bool.not_eq_true', Bool.not_eq_false', Bool.and_eq_false_iff, Bool.or_eq_false_iff, Bool.and_eq_false_imp, decide_eq_true_eq, decide_eq_false_iff_not, Decidable.not_not, Int.not_lt, Int.not_le, ne_eq, Bool.not_not] at hc) <;> try (first | (exfalso; omega) | (cases hc; done))) | refine AW.skip ?_ | (first | (refine AW.region (id := 0) ?_ <;> (try (refine Run.bxA rfl rfl rfl rfl ?_)) <;> (try refine Run.fin rfl ?_)) | (refine AW.region (id := 1) ?_ <;> (try (refine Run.p rfl rfl rfl (OpP.mvA rfl) ?_)) <;> (try refine Run.fin rfl ?_)))))
    all_goals first | (exfalso; simp at hc; done) | skip
    ((first | refine RetOk.tupS [0, 1] rfl rfl rfl rfl rfl ?_ ?_ | refine RetOk.oneS [0, 1] rfl rfl rfl rfl ?_ ?_) <;> (repeat' (first | exact Cv.nil | exact Cv.rowf rfl rfl | exact RetC.nil | exact CvL.refl _ | exact Cv.full | exact Cv.refl | exact Crs.nil | refine Crs.cons ?_ rfl ?_ | exact Cr.no | refine Cr.row ?_ | refine Cr.box ?_ | refine RetC.tmp (by (conv => lhs; whnf) <;> rfl) ?_ ?_ | refine RetC.cell1 rfl rfl rfl rfl ?_ ?_ | refine RetC.cellN rfl rfl rfl (by repeat constructor) ?_ ?_ | refine Cv.rowE rfl rfl ?_ | exact CvL.nil | refine CvL.cons ?_ ?_)))
    all_goals rfl
  | true =>
    rw [addL, if_pos rfl, rcs_app]
    refine (ACalls.of (fn := Try.f21) Try.func21 rfl rfl Try.ntmps21 (fun I M w own => ?_))
    (repeat' (first | refine AW.seq_k (fun K hK => ?_) | (refine hK _ ?_; clear hK) | (refine AW.cond rfl (fun hc => ?_) (fun hc => ?_) <;> (try simp only [Bool.and_eq_true, Bool.or_eq_true, Bool.not_eq_true', Bool.not_eq_false', Bool.and_eq_false_iff, Bool.or_eq_false_iff, Bool.and_eq_false_imp, decide_eq_true_eq, decide_eq_false_iff_not, Decidable.not_not, Int.not_lt, Int.not_le, ne_eq, Bool.not_not] at hc) <;> try (first | (exfalso; omega) | (cases hc; done))) | (first | (refine AW.region (id := 0) ?_ <;> (try (refine Run.bxA rfl rfl rfl rfl ?_)) <;> (try refine Run.fin rfl ?_)) | (refine AW.region (id := 1) ?_ <;> (try (refine Run.p rfl rfl rfl (OpP.mvA rfl) ?_)) <;> (try refine Run.fin rfl ?_)) | (refine AW.region (id := 2) ?_ <;> (try (refine Run.ld1 rfl rfl rfl rfl rfl rfl rfl rfl ?_)) <;> (try (refine Run.ldNA rfl rfl rfl rfl rfl rfl rfl ?_)) <;> (try (refine Run.bsA rfl rfl rfl rfl rfl rfl ?_)) <;> (try (refine Run.apRA rfl rfl rfl rfl rfl rfl rfl rfl rfl ?_)) <;> (try (refine Run.stA rfl rfl rfl rfl rfl ?_)) <;> (try refine Run.fin rfl ?_)))))
    all_goals first | (exfalso; simp at hc; done) | skip
    ((first | refine RetOk.tupS [0, 1] rfl rfl rfl rfl rfl ?_ ?_ | refine RetOk.oneS [0, 1] rfl rfl rfl rfl ?_ ?_) <;> (repeat' (first | exact Cv.nil | exact Cv.rowf rfl rfl | exact RetC.nil | exact CvL.refl _ | exact Cv.full | exact Cv.refl | exact Crs.nil | refine Crs.cons ?_ rfl ?_ | exact Cr.no | refine Cr.row ?_ | refine Cr.box ?_ | refine RetC.tmp (by (conv => lhs; whnf) <;> rfl) ?_ ?_ | refine RetC.cell1 rfl rfl rfl rfl ?_ ?_ | refine RetC.cellN rfl rfl rfl (by repeat constructor) ?_ ?_ | refine Cv.rowE rfl rfl ?_ | exact CvL.nil | refine CvL.cons ?_ ?_)))
    all_goals simp [AV.ren, AV.rens, renL]
theorem add_n (b : Bool) (l : List Rc) (kind id : Int) (role : List UInt8) (dir ch rate lat n dev : Int) (text : List UInt8) (hl : l.length ≤ 1000000000) : ACalls Try.prog 21 [.v (.bool b), .agg [.v (.int .i64 kind), .v (.int .i64 id), .v (.string (bs role)), .v (.int .i64 dir), .v (.int .i64 ch), .v (.int .i64 rate), .v (.int .i64 lat), .v (.int .i64 n), .v (.int .u64 dev), .v (.slice none 0 0), .v (.string (bs text))], .ptr 0 0] [.box [.row 1 (rcs l).length], .row 11 (rcs l)] (.tup [])
    [.box [.row 1 (rcs (addL b l ⟨kind, id, role, dir, ch, rate, lat, n, dev, [], text⟩)).length], .row 11 (rcs (addL b l ⟨kind, id, role, dir, ch, rate, lat, n, dev, [], text⟩))] :=
  (add_c b l ⟨kind, id, role, dir, ch, rate, lat, n, dev, [], text⟩ hl).weak (.cons .same (.cons (.agg (.cons .same (.cons .same (.cons .same (.cons .same (.cons .same (.cons .same (.cons .same (.cons .same (.cons .same (.cons .nil (.cons .same .nil)))))))))))) (.cons .same .nil)))
def recK (l : List Rc) (k : Kp) : List Rc :=
  addL (decide (k.pin ≠ 0)) (addL k.muted (addL (decide (k.vol ≠ 100)) (addL true l ⟨1, k.id, k.role, k.dir, k.ch, k.rate, k.lat, 0, 0, [], []⟩) ⟨3, k.id, [], 0, 0, 0, 0, k.vol, 0, [], []⟩) ⟨4, k.id, [], 0, 0, 0, 0, 1, 0, [], []⟩) ⟨5, k.id, [], 0, 0, 0, 0, 0, k.pin, [], []⟩
def recC (l : List Rc) (c : Ch) : List Rc := addL true l ⟨6, 0, c.role, 0, 0, 0, 0, 0, c.dev, c.set, []⟩
def recsP (s : Se) : List Rc := addL (decide (s.text ≠ [])) (s.mem.foldl recC (s.streams.foldl recK [])) ⟨7, 0, [], 0, 0, 0, 0, 0, 0, [], s.text⟩
theorem recK_len (l : List Rc) (k : Kp) : (recK l k).length ≤ l.length + 4 := by
  have h1 := addL_len true l ⟨1, k.id, k.role, k.dir, k.ch, k.rate, k.lat, 0, 0, [], []⟩
  have h2 := addL_len (decide (k.vol ≠ 100)) (addL true l ⟨1, k.id, k.role, k.dir, k.ch, k.rate, k.lat, 0, 0, [], []⟩) ⟨3, k.id, [], 0, 0, 0, 0, k.vol, 0, [], []⟩
  have h3 := addL_len k.muted (addL (decide (k.vol ≠ 100)) (addL true l ⟨1, k.id, k.role, k.dir, k.ch, k.rate, k.lat, 0, 0, [], []⟩) ⟨3, k.id, [], 0, 0, 0, 0, k.vol, 0, [], []⟩) ⟨4, k.id, [], 0, 0, 0, 0, 1, 0, [], []⟩
  have h4 := addL_len (decide (k.pin ≠ 0)) (addL k.muted (addL (decide (k.vol ≠ 100)) (addL true l ⟨1, k.id, k.role, k.dir, k.ch, k.rate, k.lat, 0, 0, [], []⟩) ⟨3, k.id, [], 0, 0, 0, 0, k.vol, 0, [], []⟩) ⟨4, k.id, [], 0, 0, 0, 0, 1, 0, [], []⟩) ⟨5, k.id, [], 0, 0, 0, 0, 0, k.pin, [], []⟩
  rw [recK]; omega
theorem Records_c (s : Se) (hs : s.ok) : ACalls Try.prog 10 [.agg s.cells] [] (.sl 11 (rcs (recsP s)) false) [] := by
  have hkl : (kps s.streams).length = s.streams.length := by simp
  have hcl : (chs s.mem).length = s.mem.length := by simp
  generalize hr : recsP s = r
  rw [recsP] at hr
  refine (ACalls.of (fn := Try.f10) Try.func10 rfl rfl Try.ntmps10 (fun I M w own => ?_))
  (repeat' (first | refine AW.seq_k (fun K hK => ?_) | (refine hK _ ?_; clear hK) | refine AW.block ?_ | (first | (refine AW.region (id := 0) ?_ <;> (try (refine Run.bxA rfl rfl rfl rfl ?_)) <;> (try (refine Run.p rfl rfl rfl (OpP.asA rfl) ?_)) <;> (try refine Run.fin rfl ?_)) | (refine AW.region (id := 1) ?_ <;> (try (refine Run.alA rfl rfl rfl rfl ?_)) <;> (try refine Run.fin rfl ?_)) | (refine AW.region (id := 2) ?_ <;> (try (refine Run.p rfl rfl rfl (OpP.makeFunc rfl rfl) ?_)) <;> (try (refine Run.p rfl rfl rfl (OpP.asA rfl) ?_)) <;> (try refine Run.fin rfl ?_)) | (refine AW.region (id := 3) ?_ <;> (try (refine Run.p rfl rfl rfl (OpP.fieldAddrA rfl rfl) ?_)) <;> (try (refine Run.ld1 rfl rfl rfl rfl rfl rfl rfl rfl ?_)) <;> (try (refine Run.ri rfl rfl rfl (OpRI.lenA rfl rfl) rfl ?_)) <;> (try (refine Run.p rfl rfl rfl (OpP.mvA rfl) ?_)) <;> (try refine Run.fin rfl ?_)))))
  refine AW.loopF (X := Nat × List Rc) (fun x => ⟨[(1, .ptr 0 0), (3, .ptr 1 0), (4, .fn 21 [.ptr 1 0]), (11, .sl 9 (kps s.streams) false), (12, .v (.int .i64 (s.streams.length : Int))), (13, .v (.int .i64 (x.1 : Int)))], [.box s.cells, .box [.row 2 (rcs x.2).length], .row 11 (rcs x.2)]⟩)
    (fun x => x.1 ≤ s.streams.length ∧ (s.streams.drop x.1).foldl recK x.2 = s.streams.foldl recK [] ∧ x.2.length ≤ 4 * x.1) (fun x => s.streams.length - x.1) (0, []) ?_ ?_ ?_
  · (refine Conv.ownB 1 0 11 [] rfl rfl (Or.inr ⟨rfl, rfl⟩) (by repeat constructor) (by repeat constructor) ?_)
    refine Conv.mk [0, 1, 2] rfl rfl rfl ?_ rfl ?_
    · (repeat' (first | exact Cf.nil | exact Cv.refl | exact CvL.refl _ | exact Cv.rowf rfl rfl | exact Crs.nil | refine Cf.cons' (by (conv => lhs; whnf) <;> rfl) ?_ ?_ | refine Crs.cons ?_ rfl ?_ | exact Cr.no | refine Cr.row ?_ | refine Cr.box ?_ | exact Cv.nil | exact Cv.full | exact CvL.nil | refine CvL.cons ?_ ?_))
      (all_goals (try (first | refine CvL.eq ?_ | refine Cv.eq ?_)))
      all_goals simp [AV.ren, renL]
    · (repeat' (first | exact Cf.nil | exact Cv.refl | exact CvL.refl _ | exact Cv.rowf rfl rfl | exact Crs.nil | refine Cf.cons' (by (conv => lhs; whnf) <;> rfl) ?_ ?_ | refine Crs.cons ?_ rfl ?_ | exact Cr.no | refine Cr.row ?_ | refine Cr.box ?_ | exact Cv.nil | exact Cv.full | exact CvL.nil | refine CvL.cons ?_ ?_))
      all_goals rfl
  · simp
  · rintro ⟨i, L⟩ ⟨h1, h2, h3⟩
    simp only at h1 h2 h3 ⊢
    rcases Nat.lt_or_ge i s.streams.length with h | h
    · have hA : At (kps s.streams) (i : Int) s.streams[i].pv := At.mk i rfl (by simp [h])
      have hk4 := recK_len L s.streams[i]
      rw [List.drop_eq_getElem_cons h, List.foldl_cons] at h2
      obtain ⟨k, hk⟩ : ∃ k, k = s.streams[i] := ⟨_, rfl⟩
      rw [← hk] at hA h2 hk4
      obtain ⟨L4, hL4⟩ : ∃ L4, L4 = recK L k := ⟨_, rfl⟩
      rw [← hL4] at h2 hk4
      rw [recK] at hL4
      have hst := hs.st
      have ha1 := add_n true L 1 k.id k.role k.dir k.ch k.rate k.lat 0 0 [] (by omega)
      have l1 := addL_len true L ⟨1, k.id, k.role, k.dir, k.ch, k.rate, k.lat, 0, 0, [], []⟩
      generalize addL true L ⟨1, k.id, k.role, k.dir, k.ch, k.rate, k.lat, 0, 0, [], []⟩ = L1 at ha1 l1 hL4
      have ha2 := add_n (decide (k.vol ≠ 100)) L1 3 k.id [] 0 0 0 0 k.vol 0 [] (by omega)
      have l2 := addL_len (decide (k.vol ≠ 100)) L1 ⟨3, k.id, [], 0, 0, 0, 0, k.vol, 0, [], []⟩
      generalize addL (decide (k.vol ≠ 100)) L1 ⟨3, k.id, [], 0, 0, 0, 0, k.vol, 0, [], []⟩ = L2 at ha2 l2 hL4
      have ha3 := add_n k.muted L2 4 k.id [] 0 0 0 0 1 0 [] (by omega)
      have l3 := addL_len k.muted L2 ⟨4, k.id, [], 0, 0, 0, 0, 1, 0, [], []⟩
      generalize addL k.muted L2 ⟨4, k.id, [], 0, 0, 0, 0, 1, 0, [], []⟩ = L3 at ha3 l3 hL4
      have ha4 := add_n (decide (k.pin ≠ 0)) L3 5 k.id [] 0 0 0 0 0 k.pin [] (by omega)
      rw [← hL4] at ha4
      clear hk
      (repeat' (first | refine AW.seq_k (fun K hK => ?_) | (refine hK _ ?_; clear hK) | (refine AW.condD rfl (fun hc => ?_) (fun hc => ?_) <;> try (first | (exfalso; omega) | (cases hc; done))) | refine AW.block ?_ | refine AW.skip ?_ | (first | (refine AW.region (id := 4) ?_ <;> (try (refine Run.p rfl rfl rfl (OpP.ltt rfl rfl rfl) ?_)) <;> (try refine Run.fin rfl ?_)) | (refine AW.region (id := 5) ?_ <;> (try (refine Run.ri rfl rfl rfl (OpRI.indexAddrA rfl rfl) rfl ?_)) <;> (try (refine Run.p rfl rfl rfl (OpP.loadES rfl rfl rfl (by repeat constructor)) ?_)) <;> (try (refine Run.alA rfl rfl rfl rfl ?_)) <;> (try (refine Run.stA rfl rfl rfl rfl rfl ?_)) <;> (try refine Run.fin rfl ?_)) | (refine AW.region (id := 6) ?_ <;> (try (refine Run.p rfl rfl rfl (OpP.mvA rfl) ?_)) <;> (try (refine Run.p rfl rfl rfl (OpP.fieldAddrA rfl rfl) ?_)) <;> (try (refine Run.ld1 rfl rfl rfl rfl rfl rfl rfl rfl ?_)) <;> (try (refine Run.p rfl rfl rfl (OpP.fieldAddrA rfl rfl) ?_)) <;> (try (refine Run.ld1 rfl rfl rfl rfl rfl rfl rfl rfl ?_)) <;> (try (refine Run.p rfl rfl rfl (OpP.fieldAddrA rfl rfl) ?_)) <;> (try (refine Run.ld1 rfl rfl rfl rfl rfl rfl rfl rfl ?_)) <;> (try (refine Run.p rfl rfl rfl (OpP.fieldAddrA rfl rfl) ?_)) <;> (try (refine Run.ld1 rfl rfl rfl rfl rfl rfl rfl rfl ?_)) <;> (try (refine Run.p rfl rfl rfl (OpP.fieldAddrA rfl rfl) ?_)) <;> (try (refine Run.ld1 rfl rfl rfl rfl rfl rfl rfl rfl ?_)) <;> (try (refine Run.p rfl rfl rfl (OpP.fieldAddrA rfl rfl) ?_)) <;> (try (refine Run.ld1 rfl rfl rfl rfl rfl rfl rfl rfl ?_)) <;> (try (refine Run.p rfl rfl rfl (OpP.buildSA rfl) ?_)) <;> (try (refine Run.cSA [1, 2] ha1 rfl rfl rfl rfl rfl rfl rfl rfl rfl rfl rfl rfl ?_)) <;> (try refine Run.fin rfl ?_)) | (refine AW.region (id := 7) ?_ <;> (try (refine Run.p rfl rfl rfl (OpP.mvA rfl) ?_)) <;> (try (refine Run.p rfl rfl rfl (OpP.fieldAddrA rfl rfl) ?_)) <;> (try (refine Run.ld1 rfl rfl rfl rfl rfl rfl rfl rfl ?_)) <;> (try (refine Run.p rfl rfl rfl (OpP.ne rfl rfl rfl) ?_)) <;> (try (refine Run.p rfl rfl rfl (OpP.fieldAddrA rfl rfl) ?_)) <;> (try (refine Run.ld1 rfl rfl rfl rfl rfl rfl rfl rfl ?_)) <;> (try (refine Run.p rfl rfl rfl (OpP.fieldAddrA rfl rfl) ?_)) <;> (try (refine Run.ld1 rfl rfl rfl rfl rfl rfl rfl rfl ?_)) <;> (try (refine Run.p rfl rfl rfl (OpP.buildSA rfl) ?_)) <;> (try (refine Run.cSA [1, 2] ha2 rfl rfl rfl rfl rfl rfl rfl rfl rfl rfl rfl rfl ?_)) <;> (try refine Run.fin rfl ?_)) | (refine AW.region (id := 8) ?_ <;> (try (refine Run.p rfl rfl rfl (OpP.mvA rfl) ?_)) <;> (try (refine Run.p rfl rfl rfl (OpP.fieldAddrA rfl rfl) ?_)) <;> (try (refine Run.ld1 rfl rfl rfl rfl rfl rfl rfl rfl ?_)) <;> (try (refine Run.p rfl rfl rfl (OpP.fieldAddrA rfl rfl) ?_)) <;> (try (refine Run.ld1 rfl rfl rfl rfl rfl rfl rfl rfl ?_)) <;> (try (refine Run.p rfl rfl rfl (OpP.buildSA rfl) ?_)) <;> (try (refine Run.cSA [1, 2] ha3 rfl rfl rfl rfl rfl rfl rfl rfl rfl rfl rfl rfl ?_)) <;> (try refine Run.fin rfl ?_)) | (refine AW.region (id := 9) ?_ <;> (try (refine Run.p rfl rfl rfl (OpP.mvA rfl) ?_)) <;> (try (refine Run.p rfl rfl rfl (OpP.fieldAddrA rfl rfl) ?_)) <;> (try (refine Run.ld1 rfl rfl rfl rfl rfl rfl rfl rfl ?_)) <;> (try (refine Run.p rfl rfl rfl (OpP.ne rfl rfl rfl) ?_)) <;> (try (refine Run.p rfl rfl rfl (OpP.fieldAddrA rfl rfl) ?_)) <;> (try (refine Run.ld1 rfl rfl rfl rfl rfl rfl rfl rfl ?_)) <;> (try (refine Run.p rfl rfl rfl (OpP.fieldAddrA rfl rfl) ?_)) <;> (try (refine Run.ld1 rfl rfl rfl rfl rfl rfl rfl rfl ?_)) <;> (try (refine Run.p rfl rfl rfl (OpP.buildSA rfl) ?_)) <;> (try (refine Run.cSA [1, 2] ha4 rfl rfl rfl rfl rfl rfl rfl rfl rfl rfl rfl rfl ?_)) <;> (try refine Run.fin rfl ?_)) | (refine AW.region (id := 10) ?_ <;> (try (refine Run.p rfl rfl rfl (OpP.addA rfl rfl rfl) ?_)) <;> (try (refine Run.p rfl rfl rfl (OpP.mvA rfl) ?_)) <;> (try refine Run.fin rfl ?_)))))
      ((repeat (with_reducible refine inB_n ?_)); refine thenA_n ?_)
      refine ⟨(i + 1, L4), ⟨h, h2, by simp only; omega⟩, by simp only; omega, ?_⟩
      refine Conv.mk [0, 1, 2] rfl rfl rfl ?_ rfl ?_
      · (repeat' (first | exact Cf.nil | exact Cv.refl | exact CvL.refl _ | exact Cv.rowf rfl rfl | exact Crs.nil | refine Cf.cons' (by (conv => lhs; whnf) <;> rfl) ?_ ?_ | refine Crs.cons ?_ rfl ?_ | exact Cr.no | refine Cr.row ?_ | refine Cr.box ?_ | exact Cv.nil | exact Cv.full | exact CvL.nil | refine CvL.cons ?_ ?_))
        (all_goals (try (first | refine CvL.eq ?_ | refine Cv.eq ?_)))
        all_goals simp [AV.ren, renL]
      · (repeat' (first | exact Cf.nil | exact Cv.refl | exact CvL.refl _ | exact Cv.rowf rfl rfl | exact Crs.nil | refine Cf.cons' (by (conv => lhs; whnf) <;> rfl) ?_ ?_ | refine Crs.cons ?_ rfl ?_ | exact Cr.no | refine Cr.row ?_ | refine Cr.box ?_ | exact Cv.nil | exact Cv.full | exact CvL.nil | refine CvL.cons ?_ ?_))
        all_goals rfl
    · have hge : s.streams.drop i = [] := List.drop_eq_nil_of_le h
      rw [hge, List.foldl_nil] at h2
      rw [← h2] at hr
      have hst := hs.st
      have hi : i = s.streams.length := by omega
      subst hi
      (repeat' (first | refine AW.seq_k (fun K hK => ?_) | (refine hK _ ?_; clear hK) | (refine AW.condD rfl (fun hc => ?_) (fun hc => ?_) <;> try (first | (exfalso; omega) | (cases hc; done))) | refine AW.block ?_ | refine AW.exit ?_ | (clear hK; refine hK _ ?_; clear hK) | (first | (refine AW.region (id := 4) ?_ <;> (try (refine Run.p rfl rfl rfl (OpP.ltt rfl rfl rfl) ?_)) <;> (try refine Run.fin rfl ?_)) | (refine AW.region (id := 11) ?_ <;> (try (refine Run.p rfl rfl rfl (OpP.fieldAddrA rfl rfl) ?_)) <;> (try (refine Run.p rfl rfl rfl (OpP.fieldAddrA rfl rfl) ?_)) <;> (try (refine Run.ld1 rfl rfl rfl rfl rfl rfl rfl rfl ?_)) <;> (try (refine Run.ri rfl rfl rfl (OpRI.lenA rfl rfl) rfl ?_)) <;> (try (refine Run.p rfl rfl rfl (OpP.mvA rfl) ?_)) <;> (try refine Run.fin rfl ?_)))))
      refine AW.loopF (X := Nat × List Rc) (fun x => ⟨[(1, .ptr 0 0), (3, .ptr 1 0), (4, .fn 21 [.ptr 1 0]), (62, .sl 3 (chs s.mem) false), (63, .v (.int .i64 (s.mem.length : Int))), (64, .v (.int .i64 (x.1 : Int)))], [.box s.cells, .box [.row 2 (rcs x.2).length], .row 11 (rcs x.2)]⟩)
        (fun x => x.1 ≤ s.mem.length ∧ (s.mem.drop x.1).foldl recC x.2 = s.mem.foldl recC L ∧ x.2.length ≤ 4 * s.streams.length + x.1) (fun x => s.mem.length - x.1) (0, L) ?_ ?_ ?_
      · refine Conv.mk [0, 1, 2] rfl rfl rfl ?_ rfl ?_
        · (repeat' (first | exact Cf.nil | exact Cv.refl | exact CvL.refl _ | exact Cv.rowf rfl rfl | exact Crs.nil | refine Cf.cons' (by (conv => lhs; whnf) <;> rfl) ?_ ?_ | refine Crs.cons ?_ rfl ?_ | exact Cr.no | refine Cr.row ?_ | refine Cr.box ?_ | exact Cv.nil | exact Cv.full | exact CvL.nil | refine CvL.cons ?_ ?_))
          (all_goals (try (first | refine CvL.eq ?_ | refine Cv.eq ?_)))
          all_goals simp [AV.ren, renL]
        · (repeat' (first | exact Cf.nil | exact Cv.refl | exact CvL.refl _ | exact Cv.rowf rfl rfl | exact Crs.nil | refine Cf.cons' (by (conv => lhs; whnf) <;> rfl) ?_ ?_ | refine Crs.cons ?_ rfl ?_ | exact Cr.no | refine Cr.row ?_ | refine Cr.box ?_ | exact Cv.nil | exact Cv.full | exact CvL.nil | refine CvL.cons ?_ ?_))
          all_goals rfl
      · simpa using h3
      · rintro ⟨j, N⟩ ⟨g1, g2, g3⟩
        simp only at g1 g2 g3 ⊢
        have hm := hs.mem
        rcases Nat.lt_or_ge j s.mem.length with g | g
        · have hA : At (chs s.mem) (j : Int) s.mem[j].pv := At.mk j rfl (by simp [g])
          rw [List.drop_eq_getElem_cons g, List.foldl_cons] at g2
          have hcl1 := Clone_c s.mem[j].set false (hs.small _ (List.getElem_mem g))
          obtain ⟨c, hc0⟩ : ∃ c, c = s.mem[j] := ⟨_, rfl⟩
          rw [← hc0] at hA g2 hcl1
          clear hc0
          have ha1 := add_c true N ⟨6, 0, c.role, 0, 0, 0, 0, 0, c.dev, c.set, []⟩ (by omega)
          have l1 := addL_len true N ⟨6, 0, c.role, 0, 0, 0, 0, 0, c.dev, c.set, []⟩
          rw [recC] at g2
          generalize addL true N ⟨6, 0, c.role, 0, 0, 0, 0, 0, c.dev, c.set, []⟩ = N1 at ha1 l1 g2
          (repeat' (first | refine AW.seq_k (fun K hK => ?_) | (refine hK _ ?_; clear hK) | (refine AW.condD rfl (fun hc => ?_) (fun hc => ?_) <;> try (first | (exfalso; omega) | (cases hc; done))) | refine AW.block ?_ | refine AW.skip ?_ | (first | (refine AW.region (id := 12) ?_ <;> (try (refine Run.p rfl rfl rfl (OpP.ltt rfl rfl rfl) ?_)) <;> (try refine Run.fin rfl ?_)) | (refine AW.region (id := 13) ?_ <;> (try (refine Run.ri rfl rfl rfl (OpRI.indexAddrA rfl rfl) rfl ?_)) <;> (try (refine Run.p rfl rfl rfl (OpP.loadES rfl rfl rfl (by repeat constructor)) ?_)) <;> (try (refine Run.alA rfl rfl rfl rfl ?_)) <;> (try (refine Run.stA rfl rfl rfl rfl rfl ?_)) <;> (try refine Run.fin rfl ?_)) | (refine AW.draw (id := 14) (by kernel_rfl) ?_ <;> (try (refine Run.p rfl rfl rfl (OpP.mvA rfl) ?_)) <;> (try (refine Run.p rfl rfl rfl (OpP.fieldAddrA rfl rfl) ?_)) <;> (try (refine Run.ld1 rfl rfl rfl rfl rfl rfl rfl rfl ?_)) <;> (try (refine Run.p rfl rfl rfl (OpP.fieldAddrA rfl rfl) ?_)) <;> (try (refine Run.ld1 rfl rfl rfl rfl rfl rfl rfl rfl ?_)) <;> (try (refine Run.c0 hcl1 rfl rfl rfl rfl rfl rfl rfl rfl ?_)) <;> (try (refine Run.p rfl rfl rfl (OpP.fieldAddrA rfl rfl) ?_)) <;> (try (refine Run.ld1 rfl rfl rfl rfl rfl rfl rfl rfl ?_)) <;> (try (refine Run.p rfl rfl rfl (OpP.buildSA rfl) ?_)) <;> (try (refine Run.cSA [1, 2] ha1 rfl rfl rfl rfl rfl rfl rfl rfl rfl rfl rfl rfl ?_)) <;> (try refine Run.fin (by kernel_rfl) ?_)) | (refine AW.region (id := 15) ?_ <;> (try (refine Run.p rfl rfl rfl (OpP.addA rfl rfl rfl) ?_)) <;> (try (refine Run.p rfl rfl rfl (OpP.mvA rfl) ?_)) <;> (try refine Run.fin rfl ?_)))))
          ((repeat (with_reducible refine inB_n ?_)); refine thenA_n ?_)
          refine ⟨(j + 1, N1), ⟨g, g2, by simp only; omega⟩, by simp only; omega, ?_⟩
          refine Conv.mk [0, 1, 2] rfl rfl rfl ?_ rfl ?_
          · (repeat' (first | exact Cf.nil | exact Cv.refl | exact CvL.refl _ | exact Cv.rowf rfl rfl | exact Crs.nil | refine Cf.cons' (by (conv => lhs; whnf) <;> rfl) ?_ ?_ | refine Crs.cons ?_ rfl ?_ | exact Cr.no | refine Cr.row ?_ | refine Cr.box ?_ | exact Cv.nil | exact Cv.full | exact CvL.nil | refine CvL.cons ?_ ?_))
            (all_goals (try (first | refine CvL.eq ?_ | refine Cv.eq ?_)))
            all_goals simp [AV.ren, renL]
          · (repeat' (first | exact Cf.nil | exact Cv.refl | exact CvL.refl _ | exact Cv.rowf rfl rfl | exact Crs.nil | refine Cf.cons' (by (conv => lhs; whnf) <;> rfl) ?_ ?_ | refine Crs.cons ?_ rfl ?_ | exact Cr.no | refine Cr.row ?_ | refine Cr.box ?_ | exact Cv.nil | exact Cv.full | exact CvL.nil | refine CvL.cons ?_ ?_))
            all_goals rfl
        · have hge2 : s.mem.drop j = [] := List.drop_eq_nil_of_le g
          rw [hge2, List.foldl_nil] at g2
          rw [← g2] at hr
          have ha1 := add_n (decide (s.text ≠ [])) N 7 0 [] 0 0 0 0 0 0 s.text (by omega)
          rw [hr] at ha1
          (repeat' (first | refine AW.seq_k (fun K hK => ?_) | (refine hK _ ?_; clear hK) | (refine AW.condD rfl (fun hc => ?_) (fun hc => ?_) <;> try (first | (exfalso; omega) | (cases hc; done))) | refine AW.exit ?_ | refine AW.ret ?_ | (clear hK; refine hK _ ?_; clear hK) | (first | (refine AW.region (id := 12) ?_ <;> (try (refine Run.p rfl rfl rfl (OpP.ltt rfl rfl rfl) ?_)) <;> (try refine Run.fin rfl ?_)) | (refine AW.region (id := 16) ?_ <;> (try (refine Run.p rfl rfl rfl (OpP.mvA rfl) ?_)) <;> (try (refine Run.p rfl rfl rfl (OpP.fieldAddrA rfl rfl) ?_)) <;> (try (refine Run.ld1 rfl rfl rfl rfl rfl rfl rfl rfl ?_)) <;> (try (refine Run.p rfl rfl rfl (OpP.sne rfl rfl rfl) ?_)) <;> (try (refine Run.p rfl rfl rfl (OpP.fieldAddrA rfl rfl) ?_)) <;> (try (refine Run.ld1 rfl rfl rfl rfl rfl rfl rfl rfl ?_)) <;> (try (refine Run.p rfl rfl rfl (OpP.buildSA rfl) ?_)) <;> (try (refine Run.cSA [1, 2] ha1 rfl rfl rfl rfl rfl rfl rfl rfl rfl rfl rfl rfl ?_)) <;> (try refine Run.fin rfl ?_)) | (refine AW.region (id := 17) ?_ <;> (try (refine Run.ld1 rfl rfl rfl rfl rfl rfl rfl rfl ?_)) <;> (try (refine Run.p rfl rfl rfl (OpP.asA rfl) ?_)) <;> (try refine Run.fin rfl ?_)))))
          ((first | refine RetOk.tup rfl rfl ?_ | refine RetOk.one rfl ?_) <;> (repeat' (first | exact Cv.nil | exact Cv.rowf rfl rfl | exact RetC.nil | exact CvL.refl _ | exact Cv.refl | refine RetC.tmp (by (conv => lhs; whnf) <;> rfl) ?_ ?_ | refine RetC.cell1 rfl rfl rfl rfl ?_ ?_ | refine RetC.cellN rfl rfl rfl (by repeat constructor) ?_ ?_ | refine Cv.rowE rfl rfl ?_ | exact Cv.full | exact CvL.nil | refine CvL.cons ?_ ?_)))
end Go.Proofs.Ytbbcokckealagaa
