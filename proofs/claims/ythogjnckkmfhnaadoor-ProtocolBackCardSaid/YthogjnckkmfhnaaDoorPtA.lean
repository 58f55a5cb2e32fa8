/-
  Plain facts of chapter 35: the lines of valid requests; requests that are changed.
-/
import Derived.Test.YthogjnckkmfhnaaDoorPsA
namespace Go.Proofs.YthogjnckkmfhnaaDoor
set_option linter.unusedVariables false
set_option linter.unusedSimpArgs false
theorem rvalid_u (r : Rq) (h : rvalidQ r = true) : (1 ≤ r.kind ∧ r.kind ≤ 12) ∧ sameB r (cleanQ r) = true ∧ (r.kind = 1 → opensB r = true) ∧ (r.kind = 8 → r.data.length ≤ 1024) ∧ (r.kind = 10 → r.dev ≤ 9007199254740992) ∧ (r.kind = 11 → r.text.length ≤ 1500) := by
  unfold rvalidQ at h
  split at h
  · cases h
  · rename_i hn
    have h1 : wiB r.kind 1 12 = true := by
      cases h : wiB r.kind 1 12
      · exact (hn (Or.inl (Or.inl h))).elim
      · rfl
    have h2 : sameB r (cleanQ r) = true := by
      cases h : sameB r (cleanQ r)
      · exact (hn (Or.inl (Or.inr h))).elim
      · rfl
    simp only [wiB, Bool.and_eq_true, decide_eq_true_eq] at h1
    refine ⟨h1, h2, fun hk => ?_, fun hk => ?_, fun hk => ?_, fun hk => ?_⟩
    · rw [if_pos hk] at h; exact h
    all_goals ((repeat (first | rw [if_pos (by omega)] at h | rw [if_neg (by omega)] at h)); simpa using h)
theorem rvalid_sizes (r : Rq) (h : rvalidQ r = true) : r.data.length ≤ 1024 ∧ r.text.length ≤ 1500 ∧ r.role.length ≤ 64 ∧ (r.kind = 1 → r.dir = 1 ∨ r.dir = 2) := by
  obtain ⟨h1, h2, h3, h4, h5, h6⟩ := rvalid_u r h
  simp only [sameB, Bool.and_eq_true, decide_eq_true_eq] at h2
  obtain ⟨⟨⟨⟨⟨⟨⟨⟨⟨⟨_, _⟩, e3⟩, _⟩, _⟩, _⟩, _⟩, _⟩, _⟩, e10⟩, e11⟩ := h2
  refine ⟨?_, ?_, ?_, ?_⟩
  · by_cases hk : r.kind = 8
    · exact h4 hk
    · rw [e10]; unfold cleanQ cleanA; (repeat' split) <;> first | (exfalso; omega) | simp
  · by_cases hk : r.kind = 11
    · exact h6 hk
    · rw [e11]; unfold cleanQ cleanA; (repeat' split) <;> first | (exfalso; omega) | simp
  · by_cases hk : r.kind = 1
    · have := h3 hk
      simp only [opensB, nameB, Bool.and_eq_true, decide_eq_true_eq] at this
      omega
    · rw [e3]; unfold cleanQ cleanA; (repeat' split) <;> first | (exfalso; omega) | simp
  · intro hk
    have := h3 hk
    simp only [opensB, Bool.and_eq_true, Bool.or_eq_true, decide_eq_true_eq] at this
    omega
/-- numbers that fit the fields -/
def Rq.fit (r : Rq) : Prop := (-9223372036854775808 ≤ r.id ∧ r.id ≤ 9223372036854775807) ∧ (-9223372036854775808 ≤ r.ch ∧ r.ch ≤ 9223372036854775807) ∧ (-9223372036854775808 ≤ r.rate ∧ r.rate ≤ 9223372036854775807) ∧ (-9223372036854775808 ≤ r.lat ∧ r.lat ≤ 9223372036854775807) ∧ (-9223372036854775808 ≤ r.n ∧ r.n ≤ 9223372036854775807) ∧ 0 ≤ r.dev
theorem rvalid_rng (r : Rq) (hf : r.fit) (h : rvalidQ r = true) : r.rng ∧ r.text.length ≤ 1000000 ∧ r.role.length ≤ 1000000 := by
  obtain ⟨h1, h2, h3, h4, h5, h6⟩ := rvalid_u r h
  obtain ⟨g1, g2, g3, g4⟩ := rvalid_sizes r h
  obtain ⟨f1, f2, f3, f4, f5, f6⟩ := hf
  exact ⟨⟨by omega, f1, f2, f3, f4, f5, fun hk => ⟨f6, h5 hk⟩, by omega⟩, by omega, by omega⟩
theorem fmt_words (r : Rq) (h : rvalidQ r = true) : fmtL r formsL [] = wkQ r := by
  obtain ⟨h1, _⟩ := rvalid_u r h
  have hd := (rvalid_sizes r h).2.2.2
  have : r.kind = 1 ∨ r.kind = 2 ∨ r.kind = 3 ∨ r.kind = 4 ∨ r.kind = 5 ∨ r.kind = 6 ∨ r.kind = 7 ∨ r.kind = 8 ∨ r.kind = 9 ∨ r.kind = 10 ∨ r.kind = 11 ∨ r.kind = 12 := by omega
  clear h h1
  obtain ⟨kind, id, role, dir, ch, rate, lat, n, dev, data, text⟩ := r
  simp only at this hd
  rcases this with rfl | rfl | rfl | rfl | rfl | rfl | rfl | rfl | rfl | rfl | rfl | rfl
  · rcases hd rfl with rfl | rfl <;> rfl
  all_goals first | rfl | (simp only [fmtL, formsL, wkQ, wkA, wrQ, namesP]; by_cases hn : n = 1 <;> simp [hn, wordsT]; done)
theorem format_eq (r : Rq) : pFormatP r = rFormatP r := by
  unfold pFormatP rFormatP
  rw [valid_eq]
  by_cases h : rvalidQ r = true
  · rw [if_pos h, if_pos h, fmt_words r h, join_eq]
  · rw [if_neg h, if_neg h]
abbrev rqP (L : List Rq) : List (List PV) := L.map fun r => [PV.v (.int .i64 r.kind), PV.v (.int .i64 r.id), PV.v (.string (bs r.role)), PV.v (.int .i64 r.dir), PV.v (.int .i64 r.ch), PV.v (.int .i64 r.rate), PV.v (.int .i64 r.lat), PV.v (.int .i64 r.n), PV.v (.int .u64 r.dev), PV.sl 1 (bsP r.data), PV.v (.string (bs r.text))]
theorem reqQ_dev (l : List Int) : 0 ≤ (reqQ l).1.dev := by
  have b10 := dkN_rng l (reqB l) 5 (by decide)
  have hA : (reqA l).dev = 0 := by unfold reqA; split <;> rfl
  unfold reqQ
  (repeat' split) <;> (try dsimp only) <;> omega
theorem reqQ_fit (l : List Int) : (reqQ l).1.fit := by
  obtain ⟨⟨h1, h2, h3, h4, h5, h6, h7, h8⟩, _⟩ := reqQ_ok l
  exact ⟨h2, h3, h4, h5, h6, reqQ_dev l⟩
def badQ (r : Rq) (m k : Int) : Rq :=
  if m = 0 then { r with kind := k }
  else if m = 1 then { r with id := 0 }
  else if m = 2 then { r with n := 101 }
  else if m = 3 then { r with text := r.text ++ [120] }
  else if m = 4 then { r with dev := 1152921504606846976 }
  else if m = 5 then { r with role := [51] }
  else if m = 6 then { r with rate := 5 }
  else if m = 7 then { r with data := r.data ++ [0] }
  else r
theorem bad_c (r : Rq) (f : Bool) (w : Int) (hw : -9223372036854775808 ≤ w ∧ w ≤ 9223372036854775807) (ht : r.text.length ≤ 1000000) (hd : r.data.length ≤ 1000000) : ACalls Tryd.prog 15 [.agg (r.cs f), .v (.int .i64 w)] [] (.agg ((badQ r (w % 9) (w % 15)).cs false)) [] := by
  have hdl : (bsP r.data).length = r.data.length := by simp
  have hM9 := Mod_c w 9 hw (by decide)
  have hM15 := Mod_c w 15 hw (by decide)
  generalize hR : badQ r (w % 9) (w % 15) = R
  rw [badQ] at hR
  have hm : 0 ≤ w % 9 ∧ w % 9 < 9 := ⟨Int.emod_nonneg _ (by omega), Int.emod_lt_of_pos _ (by omega)⟩
  generalize w % 9 = m at hM9 hR hm
  generalize w % 15 = k at hM15 hR
  refine (ACalls.of (fn := Tryd.f15) Tryd.func15 rfl rfl Tryd.ntmps15 (fun I M w own => ?_))
  (repeat' (first | refine AW.seq_k (fun K hK => ?_) | (refine hK _ ?_; clear hK) | (refine AW.condD rfl (fun hc => ?_) (fun hc => ?_) <;> try (first | (exfalso; omega) | (cases hc; done))) | refine AW.block ?_ | refine AW.ret ?_ | refine AW.skip ?_ | (first | (refine AW.region (id := 0) ?_ <;> (try (refine Run.bxA rfl rfl rfl rfl ?_)) <;> (try (refine Run.alA rfl rfl rfl rfl ?_)) <;> (try refine Run.fin rfl ?_)) | (refine AW.region (id := 1) ?_ <;> (try (refine Run.p rfl rfl rfl (OpP.mvA rfl) ?_)) <;> (try (refine Run.c0 hM9 rfl rfl rfl rfl rfl rfl rfl rfl ?_)) <;> (try refine Run.fin rfl ?_)) | (refine AW.region (id := 2) ?_ <;> (try (refine Run.p rfl rfl rfl (OpP.eq rfl rfl rfl) ?_)) <;> (try (refine Run.p rfl rfl rfl (OpP.asA rfl) ?_)) <;> (try refine Run.fin rfl ?_)) | (refine AW.region (id := 3) ?_ <;> (try (refine Run.p rfl rfl rfl (OpP.mvA rfl) ?_)) <;> (try (refine Run.c0 hM15 rfl rfl rfl rfl rfl rfl rfl rfl ?_)) <;> (try (refine Run.p rfl rfl rfl (OpP.fieldAddrA rfl rfl) ?_)) <;> (try (refine Run.stA rfl rfl rfl rfl rfl ?_)) <;> (try refine Run.fin rfl ?_)) | (refine AW.region (id := 4) ?_ <;> (try (refine Run.p rfl rfl rfl (OpP.eq rfl rfl rfl) ?_)) <;> (try (refine Run.p rfl rfl rfl (OpP.asA rfl) ?_)) <;> (try refine Run.fin rfl ?_)) | (refine AW.region (id := 5) ?_ <;> (try (refine Run.p rfl rfl rfl (OpP.fieldAddrA rfl rfl) ?_)) <;> (try (refine Run.stA rfl rfl rfl rfl rfl ?_)) <;> (try refine Run.fin rfl ?_)) | (refine AW.region (id := 6) ?_ <;> (try (refine Run.p rfl rfl rfl (OpP.eq rfl rfl rfl) ?_)) <;> (try (refine Run.p rfl rfl rfl (OpP.asA rfl) ?_)) <;> (try refine Run.fin rfl ?_)) | (refine AW.region (id := 7) ?_ <;> (try (refine Run.p rfl rfl rfl (OpP.fieldAddrA rfl rfl) ?_)) <;> (try (refine Run.stA rfl rfl rfl rfl rfl ?_)) <;> (try refine Run.fin rfl ?_)) | (refine AW.region (id := 8) ?_ <;> (try (refine Run.p rfl rfl rfl (OpP.eq rfl rfl rfl) ?_)) <;> (try (refine Run.p rfl rfl rfl (OpP.asA rfl) ?_)) <;> (try refine Run.fin rfl ?_)) | (refine AW.region (id := 9) ?_ <;> (try (refine Run.p rfl rfl rfl (OpP.fieldAddrA rfl rfl) ?_)) <;> (try (refine Run.ld1 rfl rfl rfl rfl rfl rfl rfl rfl ?_)) <;> (try (refine Run.p rfl rfl rfl (OpP.cat rfl rfl rfl (by first | omega | (simp only [List.length_append, List.length_cons, List.length_nil, List.length_map, maxLen]; omega) | (simp [maxLen]; omega) | simp [maxLen])) ?_)) <;> (try (refine Run.p rfl rfl rfl (OpP.fieldAddrA rfl rfl) ?_)) <;> (try (refine Run.stA rfl rfl rfl rfl rfl ?_)) <;> (try refine Run.fin rfl ?_)) | (refine AW.region (id := 10) ?_ <;> (try (refine Run.p rfl rfl rfl (OpP.eq rfl rfl rfl) ?_)) <;> (try (refine Run.p rfl rfl rfl (OpP.asA rfl) ?_)) <;> (try refine Run.fin rfl ?_)) | (refine AW.region (id := 11) ?_ <;> (try (refine Run.p rfl rfl rfl (OpP.fieldAddrA rfl rfl) ?_)) <;> (try (refine Run.stA rfl rfl rfl rfl rfl ?_)) <;> (try refine Run.fin rfl ?_)) | (refine AW.region (id := 12) ?_ <;> (try (refine Run.p rfl rfl rfl (OpP.eq rfl rfl rfl) ?_)) <;> (try (refine Run.p rfl rfl rfl (OpP.asA rfl) ?_)) <;> (try refine Run.fin rfl ?_)) | (refine AW.region (id := 13) ?_ <;> (try (refine Run.p rfl rfl rfl (OpP.fieldAddrA rfl rfl) ?_)) <;> (try (refine Run.stA rfl rfl rfl rfl rfl ?_)) <;> (try refine Run.fin rfl ?_)) | (refine AW.region (id := 14) ?_ <;> (try (refine Run.p rfl rfl rfl (OpP.eq rfl rfl rfl) ?_)) <;> (try (refine Run.p rfl rfl rfl (OpP.asA rfl) ?_)) <;> (try refine Run.fin rfl ?_)) | (refine AW.region (id := 15) ?_ <;> (try (refine Run.p rfl rfl rfl (OpP.fieldAddrA rfl rfl) ?_)) <;> (try (refine Run.stA rfl rfl rfl rfl rfl ?_)) <;> (try refine Run.fin rfl ?_)) | (refine AW.region (id := 16) ?_ <;> (try (refine Run.p rfl rfl rfl (OpP.eq rfl rfl rfl) ?_)) <;> (try (refine Run.p rfl rfl rfl (OpP.asA rfl) ?_)) <;> (try refine Run.fin rfl ?_)) | (refine AW.region (id := 17) ?_ <;> (try (refine Run.bsA rfl rfl rfl rfl rfl rfl ?_)) <;> (try (refine Run.p rfl rfl rfl (OpP.fieldAddrA rfl rfl) ?_)) <;> (try (refine Run.ld1 rfl rfl rfl rfl rfl rfl rfl rfl ?_)) <;> (try (refine Run.apFA rfl rfl rfl rfl rfl rfl ?_)) <;> (try (refine Run.bsA rfl rfl rfl rfl rfl rfl ?_)) <;> (try (refine Run.apRA rfl rfl rfl rfl rfl rfl rfl rfl rfl ?_)) <;> (try (refine Run.p rfl rfl rfl (OpP.fieldAddrA rfl rfl) ?_)) <;> (try (refine Run.stA rfl rfl rfl rfl rfl ?_)) <;> (try refine Run.fin rfl ?_)) | (refine AW.region (id := 18) ?_ <;> (try (refine Run.ldNA rfl rfl rfl rfl rfl rfl rfl ?_)) <;> (try (refine Run.stA rfl rfl rfl rfl rfl ?_)) <;> (try refine Run.fin rfl ?_)))))
  all_goals ((repeat (first | rw [if_pos (by omega)] at hR | rw [if_neg (by omega)] at hR)); subst hR; ((first | refine RetOk.tup rfl rfl ?_ | refine RetOk.one rfl ?_) <;> (repeat' (first | exact Cv.nil | exact Cv.rowf rfl rfl | exact RetC.nil | exact CvL.refl _ | exact Cv.refl | refine RetC.tmp (by (conv => lhs; whnf) <;> rfl) ?_ ?_ | refine RetC.cell1 rfl rfl rfl rfl ?_ ?_ | refine RetC.cellN rfl rfl rfl (by repeat constructor) ?_ ?_ | refine Cv.rowE rfl rfl ?_ | exact Cv.full | exact CvL.nil | refine CvL.cons ?_ ?_))))
  (all_goals (try (first | refine CvL.eq ?_ | refine Cv.eq ?_)))
  all_goals first | rfl | simp
end Go.Proofs.YthogjnckkmfhnaaDoor
