/-
  Walks of chapter 41: sessions out of many records.
-/
import Derived.Test.YtbbcokckealagaaSsD
import Derived.Test.YtbbcokckealagaaChP
namespace Go.Proofs.Ytbbcokckealagaa
set_option linter.unusedVariables false
set_option linter.unusedSimpArgs false
abbrev Rc.pv (r : Rc) : List PV := [.v (.int .i64 r.kind), .v (.int .i64 r.id), .v (.string (bs r.role)), .v (.int .i64 r.dir), .v (.int .i64 r.ch), .v (.int .i64 r.rate), .v (.int .i64 r.lat), .v (.int .i64 r.n), .v (.int .u64 r.dev), .sl 1 (ids r.set), .v (.string (bs r.text))]
abbrev rcs (l : List Rc) : List (List PV) := l.map Rc.pv
def replayGo (okT : List UInt8 → Bool) : List Rc → Se → Nat → Se × Nat × Int
  | [], s, n => (s, n, 0)
  | r :: t, s, n => if (applyP okT s r).2 = 0 then replayGo okT t (applyP okT s r).1 (n + 1) else (s, n, (applyP okT s r).2)
theorem rem_ok (l : List Ch) (c : Ch) : (rememberP l c).1.length ≤ 32 ∧ ∀ d ∈ (rememberP l c).1, properB d = true := by
  cases hv : validM l with
  | false => rw [rememberP, hv]; simp
  | true =>
    cases hp : properB c with
    | false => rw [rememberP, hv, hp]; simp
    | true =>
      obtain ⟨X, e, h1, h2, h3⟩ := valid_rem l c hv hp
      rw [e]
      refine ⟨(valid_small h3).1, fun d hd => ?_⟩
      have := ((valid_iff _ _).1 (by simp only [validM, Bool.and_eq_true] at h3; exact h3.2)).1
      exact this d hd
theorem Ch.ok_of {c : Ch} (h : properB c = true) : c.ok := by
  have h2 := proper_small h
  simp only [properB, nameB, Bool.and_eq_true, decide_eq_true_eq] at h
  exact ⟨by omega, by omega⟩
theorem stepP_ok {s : Se} {r : Rc} (h : s.ok) (i : Nat) (b : Bool) : (stepP s r i b).1.ok := by
  have hz : Se.zero.ok := ⟨by simp [Se.zero], by simp [Se.zero], fun c hc => by simp [Se.zero] at hc, fun c hc => by simp [Se.zero] at hc⟩
  obtain ⟨r1, r2⟩ := rem_ok s.mem ⟨r.role, r.set, r.dev⟩
  obtain ⟨h1, h2, h3, h4⟩ := h
  rw [stepP]
  (repeat' split)
  all_goals first
    | exact hz
    | exact ⟨h1, h2, h3, h4⟩
    | exact ⟨h1, Nat.le_trans r1 (by decide), fun c hc => Ch.ok_of (r2 c hc), fun c hc => by have := proper_small (r2 c hc); omega⟩
    | (refine ⟨?_, h2, h3, h4⟩; simp only [List.length_append, List.length_cons, List.length_take, List.length_drop, List.length_modify]; omega)
theorem applyP_ok {okT : List UInt8 → Bool} {s : Se} {r : Rc} (h : s.ok) : (applyP okT s r).1.ok := by
  rw [applyP]
  split
  · exact ⟨by simp [Se.zero], by simp [Se.zero], fun c hc => by simp [Se.zero] at hc, fun c hc => by simp [Se.zero] at hc⟩
  · exact stepP_ok h _ _
theorem Replay_c (okT : List UInt8 → Bool) (l : List Rc) (f : Bool) (hl : l.length ≤ 9223372036854775807) (ho : ∀ r ∈ l, r.ok) (hP : ∀ r ∈ l, PsOk okT 35 r) : ACalls Try.prog 9 [.sl 11 (rcs l) f] [] (.tup [.agg (replayGo okT l Se.zero 0).1.cells, .v (.int .i64 ((replayGo okT l Se.zero 0).2.1 : Int)), .v (.int .i64 (replayGo okT l Se.zero 0).2.2)]) [] := by
  have hll : (rcs l).length = l.length := by simp
  generalize hr : replayGo okT l Se.zero 0 = R
  refine (ACalls.of (fn := Try.f9) Try.func9 rfl rfl Try.ntmps9 (fun I M w own => ?_))
  (repeat' (first | refine AW.seq_k (fun K hK => ?_) | (refine hK _ ?_; clear hK) | refine AW.block ?_ | (first | (refine AW.region (id := 0) ?_ <;> (try (refine Run.alA rfl rfl rfl rfl ?_)) <;> (try (refine Run.p rfl rfl rfl (OpP.asA rfl) ?_)) <;> (try (refine Run.p rfl rfl rfl (OpP.asA rfl) ?_)) <;> (try refine Run.fin rfl ?_)) | (refine AW.region (id := 1) ?_ <;> (try (refine Run.alA rfl rfl rfl rfl ?_)) <;> (try refine Run.fin rfl ?_)) | (refine AW.region (id := 2) ?_ <;> (try (refine Run.p rfl rfl rfl (OpP.mvA rfl) ?_)) <;> (try (refine Run.ri rfl rfl rfl (OpRI.lenA rfl rfl) rfl ?_)) <;> (try (refine Run.p rfl rfl rfl (OpP.mvA rfl) ?_)) <;> (try refine Run.fin rfl ?_)))))
  refine AW.loopF (X := Nat × Se) (fun x => ⟨[(0, .sl 11 (rcs l) f), (2, .ptr 0 0), (5, .ptr 1 0), (10, .sl 11 (rcs l) f), (11, .v (.int .i64 (l.length : Int))), (12, .v (.int .i64 (x.1 : Int)))], [.box [.v (.slice none 0 0), .v (.slice none 0 0), .v (.string (bs []))], .box x.2.cells]⟩)
    (fun x => x.1 ≤ l.length ∧ x.2.ok ∧ replayGo okT (l.drop x.1) x.2 x.1 = R) (fun x => l.length - x.1) (0, Se.zero) ?_ ?_ ?_
  · refine Conv.mk [0, 1] rfl rfl rfl ?_ rfl ?_
    · (repeat' (first | exact Cf.nil | exact Cv.refl | exact CvL.refl _ | exact Cv.rowf rfl rfl | exact Crs.nil | refine Cf.cons' (by (conv => lhs; whnf) <;> rfl) ?_ ?_ | refine Crs.cons ?_ rfl ?_ | exact Cr.no | refine Cr.row ?_ | refine Cr.box ?_ | exact Cv.nil | exact Cv.full | exact CvL.nil | refine CvL.cons ?_ ?_))
      (all_goals (try (first | refine CvL.eq ?_ | refine Cv.eq ?_)))
      all_goals simp [AV.ren, renL]
    · refine Crs.cons (Cr.box ?_) rfl (Crs.cons (Cr.box ?_) rfl Crs.nil)
      all_goals (repeat' (first | exact Cf.nil | exact Cv.refl | exact CvL.refl _ | exact Cv.rowf rfl rfl | exact Crs.nil | refine Cf.cons' (by (conv => lhs; whnf) <;> rfl) ?_ ?_ | refine Crs.cons ?_ rfl ?_ | exact Cr.no | refine Cr.row ?_ | refine Cr.box ?_ | exact Cv.nil | exact Cv.full | exact CvL.nil | refine CvL.cons ?_ ?_))
      (all_goals (try (first | refine CvL.eq ?_ | refine Cv.eq ?_)))
      all_goals simp [AV.ren, renL]
  · exact ⟨Nat.zero_le _, ⟨by simp [Se.zero], by simp [Se.zero], fun c hc => by simp [Se.zero] at hc, fun c hc => by simp [Se.zero] at hc⟩, hr⟩
  · rintro ⟨i, s⟩ ⟨h1, h2, h3⟩
    simp only at h1 h2 h3 ⊢
    rcases Nat.lt_or_ge i l.length with h | h
    · have hA : At (rcs l) (i : Int) l[i].pv := At.mk i rfl (by simp [h])
      have hmem := List.getElem_mem h
      have hap := Apply_c okT s l[i] h2 (ho _ hmem) (hP _ hmem)
      have hok := applyP_ok (okT := okT) (r := l[i]) h2
      rw [List.drop_eq_getElem_cons h, replayGo] at h3
      generalize applyP okT s l[i] = q at hap hok h3
      (repeat' (first | refine AW.seq_k (fun K hK => ?_) | (refine hK _ ?_; clear hK) | (refine AW.condD rfl (fun hc => ?_) (fun hc => ?_) <;> try (first | (exfalso; omega) | (cases hc; done))) | refine AW.block ?_ | refine AW.ret ?_ | refine AW.skip ?_ | (first | (refine AW.region (id := 3) ?_ <;> (try (refine Run.p rfl rfl rfl (OpP.ltt rfl rfl rfl) ?_)) <;> (try refine Run.fin rfl ?_)) | (refine AW.region (id := 4) ?_ <;> (try (refine Run.p rfl rfl rfl (OpP.mvA rfl) ?_)) <;> (try (refine Run.ri rfl rfl rfl (OpRI.indexAddrA rfl rfl) rfl ?_)) <;> (try (refine Run.p rfl rfl rfl (OpP.loadES rfl rfl rfl (by repeat constructor)) ?_)) <;> (try (refine Run.alA rfl rfl rfl rfl ?_)) <;> (try (refine Run.p rfl rfl rfl (OpP.asA rfl) ?_)) <;> (try (refine Run.stA rfl rfl rfl rfl rfl ?_)) <;> (try refine Run.fin rfl ?_)) | (refine AW.region (id := 5) ?_ <;> (try (refine Run.ldNA rfl rfl rfl rfl rfl rfl rfl ?_)) <;> (try (refine Run.ldNA rfl rfl rfl rfl rfl rfl rfl ?_)) <;> (try (refine Run.c0 hap rfl rfl rfl rfl rfl rfl rfl rfl ?_)) <;> (try (refine Run.p rfl rfl rfl (OpP.mvA rfl) ?_)) <;> (try (refine Run.p rfl rfl rfl (OpP.extract rfl rfl rfl) ?_)) <;> (try (refine Run.p rfl rfl rfl (OpP.extract rfl rfl rfl) ?_)) <;> (try (refine Run.alA rfl rfl rfl rfl ?_)) <;> (try (refine Run.stA rfl rfl rfl rfl rfl ?_)) <;> (try (refine Run.p rfl rfl rfl (OpP.asA rfl) ?_)) <;> (try refine Run.fin rfl ?_)) | (refine AW.region (id := 6) ?_ <;> (try (refine Run.p rfl rfl rfl (OpP.mvA rfl) ?_)) <;> (try (refine Run.p rfl rfl rfl (OpP.ne rfl rfl rfl) ?_)) <;> (try refine Run.fin rfl ?_)) | (refine AW.region (id := 7) ?_ <;> (try (refine Run.ldNA rfl rfl rfl rfl rfl rfl rfl ?_)) <;> (try (refine Run.p rfl rfl rfl (OpP.mvA rfl) ?_)) <;> (try (refine Run.p rfl rfl rfl (OpP.mvA rfl) ?_)) <;> (try (refine Run.stA rfl rfl rfl rfl rfl ?_)) <;> (try (refine Run.p rfl rfl rfl (OpP.asA rfl) ?_)) <;> (try (refine Run.p rfl rfl rfl (OpP.asA rfl) ?_)) <;> (try refine Run.fin rfl ?_)) | (refine AW.region (id := 8) ?_ <;> (try (refine Run.ldNA rfl rfl rfl rfl rfl rfl rfl ?_)) <;> (try (refine Run.stA rfl rfl rfl rfl rfl ?_)) <;> (try refine Run.fin rfl ?_)) | (refine AW.region (id := 9) ?_ <;> (try (refine Run.p rfl rfl rfl (OpP.addA rfl rfl rfl) ?_)) <;> (try (refine Run.p rfl rfl rfl (OpP.mvA rfl) ?_)) <;> (try refine Run.fin rfl ?_)))))
      · rw [if_neg hc] at h3
        subst h3
        ((first | refine RetOk.tup rfl rfl ?_ | refine RetOk.one rfl ?_) <;> (repeat' (first | exact Cv.nil | exact Cv.rowf rfl rfl | exact RetC.nil | exact CvL.refl _ | exact Cv.refl | refine RetC.tmp (by (conv => lhs; whnf) <;> rfl) ?_ ?_ | refine RetC.cell1 rfl rfl rfl rfl ?_ ?_ | refine RetC.cellN rfl rfl rfl (by repeat constructor) ?_ ?_ | refine Cv.rowE rfl rfl ?_ | exact Cv.full | exact CvL.nil | refine CvL.cons ?_ ?_)))
      · rw [if_pos (by omega)] at h3
        ((repeat (with_reducible refine inB_n ?_)); refine thenA_n ?_)
        refine ⟨(i + 1, q.1), ⟨h, hok, h3⟩, by simp only; omega, ?_⟩
        refine Conv.mk [0, 1] rfl rfl rfl ?_ rfl ?_
        · (repeat' (first | exact Cf.nil | exact Cv.refl | exact CvL.refl _ | exact Cv.rowf rfl rfl | exact Crs.nil | refine Cf.cons' (by (conv => lhs; whnf) <;> rfl) ?_ ?_ | refine Crs.cons ?_ rfl ?_ | exact Cr.no | refine Cr.row ?_ | refine Cr.box ?_ | exact Cv.nil | exact Cv.full | exact CvL.nil | refine CvL.cons ?_ ?_))
          (all_goals (try (first | refine CvL.eq ?_ | refine Cv.eq ?_)))
          all_goals simp [AV.ren, renL]
        · refine Crs.cons (Cr.box ?_) rfl (Crs.cons (Cr.box ?_) rfl Crs.nil)
          all_goals (repeat' (first | exact Cf.nil | exact Cv.refl | exact CvL.refl _ | exact Cv.rowf rfl rfl | exact Crs.nil | refine Cf.cons' (by (conv => lhs; whnf) <;> rfl) ?_ ?_ | refine Crs.cons ?_ rfl ?_ | exact Cr.no | refine Cr.row ?_ | refine Cr.box ?_ | exact Cv.nil | exact Cv.full | exact CvL.nil | refine CvL.cons ?_ ?_))
    · rw [List.drop_eq_nil_of_le h, replayGo] at h3
      subst h3
      (repeat' (first | refine AW.seq_k (fun K hK => ?_) | (refine hK _ ?_; clear hK) | (refine AW.condD rfl (fun hc => ?_) (fun hc => ?_) <;> try (first | (exfalso; omega) | (cases hc; done))) | refine AW.exit ?_ | refine AW.ret ?_ | (clear hK; refine hK _ ?_; clear hK) | (first | (refine AW.region (id := 3) ?_ <;> (try (refine Run.p rfl rfl rfl (OpP.ltt rfl rfl rfl) ?_)) <;> (try refine Run.fin rfl ?_)) | (refine AW.region (id := 10) ?_ <;> (try (refine Run.ldNA rfl rfl rfl rfl rfl rfl rfl ?_)) <;> (try (refine Run.p rfl rfl rfl (OpP.mvA rfl) ?_)) <;> (try (refine Run.ri rfl rfl rfl (OpRI.lenA rfl rfl) rfl ?_)) <;> (try (refine Run.stA rfl rfl rfl rfl rfl ?_)) <;> (try (refine Run.p rfl rfl rfl (OpP.asA rfl) ?_)) <;> (try (refine Run.p rfl rfl rfl (OpP.asA rfl) ?_)) <;> (try refine Run.fin rfl ?_)))))
      ((first | refine RetOk.tup rfl rfl ?_ | refine RetOk.one rfl ?_) <;> (repeat' (first | exact Cv.nil | exact Cv.rowf rfl rfl | exact RetC.nil | exact CvL.refl _ | exact Cv.refl | refine RetC.tmp (by (conv => lhs; whnf) <;> rfl) ?_ ?_ | refine RetC.cell1 rfl rfl rfl rfl ?_ ?_ | refine RetC.cellN rfl rfl rfl (by repeat constructor) ?_ ?_ | refine Cv.rowE rfl rfl ?_ | exact Cv.full | exact CvL.nil | refine CvL.cons ?_ ?_)))
      (all_goals (try (first | refine CvL.eq ?_ | refine Cv.eq ?_)))
      all_goals first | (simp [AV.ren]; done) | (simp [AV.ren]; omega)
end Go.Proofs.Ytbbcokckealagaa
