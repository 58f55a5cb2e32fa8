/-
  The law ProtocolParses: the walk.
-/
import Derived.Test.YthogjnckkmfhnaaDoorPrM
import Derived.Test.YthogjnckkmfhnaaDoorPrJ
import Derived.Test.YthogjnckkmfhnaaDoorPrE
import Derived.Test.YthogjnckkmfhnaaDoorAmb
import Derived.Lib.ItoaLen
namespace Go.Proofs.YthogjnckkmfhnaaDoor
set_option linter.unusedVariables false
set_option linter.unusedSimpArgs false
def rFormatP (r : Rq) : List UInt8 × Int := if rvalidQ r = true then rJoinP (wkQ r) else ([], 1)
theorem wkQ_len (r : Rq) : (wkQ r).length ≤ 7 := by
  unfold wkQ wkA
  (repeat' split) <;> simp
theorem wkQ_wd (r : Rq) (hr : r.rng) (h1 : r.role.length ≤ 1000000) (h2 : r.text.length ≤ 1000000) : ∀ w ∈ wkQ r, w.length ≤ 1000000 := by
  obtain ⟨⟨k1, k2⟩, ⟨k3, k4⟩, ⟨k5, k6⟩, ⟨k7, k8⟩, ⟨k9, k10⟩, ⟨k11, k12⟩, k13, k14⟩ := hr
  have i1 := Lib.itoa_length_le r.id (by omega) (by omega)
  have i2 := Lib.itoa_length_le r.ch (by omega) (by omega)
  have i3 := Lib.itoa_length_le r.rate (by omega) (by omega)
  have i4 := Lib.itoa_length_le r.lat (by omega) (by omega)
  have i5 := Lib.itoa_length_le r.n (by omega) (by omega)
  have hT : ∀ v ∈ wordsT, v.length ≤ 6 := by decide
  have hw : (wordsT.getD r.kind.toNat []).length ≤ 6 := by
    have hl : wordsT.length = 13 := rfl
    have hk : r.kind.toNat < wordsT.length := by omega
    simp only [List.getD_eq_getElem?_getD, hk, List.getElem?_eq_getElem, Option.getD_some]
    exact hT _ (List.getElem_mem _)
  have hA : ∀ w ∈ wkA r, w.length ≤ 21 := by
    intro w h
    unfold wkA at h
    split at h
    · simp only [List.mem_cons, List.not_mem_nil, or_false] at h
      rcases h with rfl | rfl <;> omega
    · simp only [List.mem_cons, List.not_mem_nil, or_false] at h
      subst h; omega
  intro w h
  unfold wkQ at h
  (repeat' split at h)
  all_goals (try simp only [List.mem_append, List.mem_cons, List.not_mem_nil, or_false] at h)
  · rcases h with h | rfl | rfl | rfl | rfl | rfl <;> first | omega | (have := hA w h; omega) | (simp; done)
  · rcases h with h | rfl | rfl | rfl | rfl | rfl <;> first | omega | (have := hA w h; omega) | (simp; done)
  · rcases h with h | rfl <;> first | omega | (have := hA w h; omega) | (simp; done)
  · rcases h with h | rfl <;> first | omega | (have := hA w h; omega) | (simp; done)
  · rcases h with h | rfl <;> first | omega | (have := hA w h; omega) | (simp; done)
  · rcases h with h | rfl <;> first | omega | (have := hA w h; omega) | (simp; done)
  · rename_i hk
    have hd := k13 hk
    have i6 := Lib.itoa_length_le r.dev (by omega) (by omega)
    rcases h with h | rfl <;> first | omega | (have := hA w h; omega) | (simp; done)
  · rcases h with h | rfl <;> first | omega | (have := hA w h; omega) | (simp; done)
  · have := hA w h; omega
theorem rFormat_le (r : Rq) : (rFormatP r).1.length ≤ 4096 := by
  unfold rFormatP
  split
  · rw [rJoin_J]
    split
    · simp
    · simp only; omega
  · simp
theorem rFormatR_c (r : Rq) (f : Bool) (hr : r.ok) (hv : rvalidQ r = true → r.rng ∧ r.text.length ≤ 1000000 ∧ r.role.length ≤ 1000000) : ACalls Tryd.prog 17 [.agg (r.cs f)] [] (.tup [.v (.string (bs (rFormatP r).1)), .v (.int .i64 (rFormatP r).2)]) [] := by
  have q1 := rValid_c r f hr
  generalize hR : rFormatP r = R
  rw [rFormatP] at hR
  by_cases h : rvalidQ r = true
  · obtain ⟨h1, h2, hok⟩ := hv h
    have q2 := words_c r f h1
    have q3 := rJoin_c (wkQ r) false (by have := wkQ_len r; omega) (fun w hw => by have := wkQ_wd r h1 hok h2 w hw; omega)
    rw [h] at q1
    rw [if_pos h] at hR
    refine (ACalls.of (fn := Tryd.f17) Tryd.func17 rfl rfl Tryd.ntmps17 (fun I M w own => ?_))
    (repeat' (first | refine AW.seq_k (fun K hK => ?_) | (refine hK _ ?_; clear hK) | (refine AW.cond rfl (fun hc => ?_) (fun hc => ?_) <;> (try simp only [Bool.and_eq_true, Bool.or_eq_true, Bool.not_eq_true', Bool.not_eq_false', Bool.and_eq_false_iff, Bool.or_eq_false_iff, Bool.and_eq_false_imp, decide_eq_true_eq, decide_eq_false_iff_not, Decidable.not_not, Int.not_lt, Int.not_le, ne_eq, Bool.not_not] at hc) <;> try (first | (exfalso; omega) | (cases hc; done))) | refine AW.ret ?_ | refine AW.skip ?_ | (first | (refine AW.region (id := 0) ?_ <;> (try (refine Run.bxA rfl rfl rfl rfl ?_)) <;> (try (refine Run.p rfl rfl rfl (OpP.asA rfl) ?_)) <;> (try (refine Run.p rfl rfl rfl (OpP.asA rfl) ?_)) <;> (try refine Run.fin rfl ?_)) | (refine AW.region (id := 1) ?_ <;> (try (refine Run.ldNA rfl rfl rfl rfl rfl rfl rfl ?_)) <;> (try (refine Run.c0 q1 rfl rfl rfl rfl rfl rfl rfl rfl ?_)) <;> (try (refine Run.p rfl rfl rfl (OpP.not rfl rfl) ?_)) <;> (try refine Run.fin rfl ?_)) | (refine AW.region (id := 3) ?_ <;> (try (refine Run.ldNA rfl rfl rfl rfl rfl rfl rfl ?_)) <;> (try (refine Run.c0 q2 rfl rfl rfl rfl rfl rfl rfl rfl ?_)) <;> (try (refine Run.c0 q3 rfl rfl rfl rfl rfl rfl rfl rfl ?_)) <;> (try (refine Run.p rfl rfl rfl (OpP.extract rfl rfl rfl) ?_)) <;> (try (refine Run.p rfl rfl rfl (OpP.extract rfl rfl rfl) ?_)) <;> (try (refine Run.p rfl rfl rfl (OpP.asA rfl) ?_)) <;> (try (refine Run.p rfl rfl rfl (OpP.asA rfl) ?_)) <;> (try refine Run.fin rfl ?_)))))
    subst hR
    ((first | refine RetOk.tup rfl rfl ?_ | refine RetOk.one rfl ?_) <;> (repeat' (first | exact Cv.nil | exact Cv.rowf rfl rfl | exact RetC.nil | exact CvL.refl _ | exact Cv.refl | refine RetC.tmp (by (conv => lhs; whnf) <;> rfl) ?_ ?_ | refine RetC.cell1 rfl rfl rfl rfl ?_ ?_ | refine RetC.cellN rfl rfl rfl (by repeat constructor) ?_ ?_ | refine Cv.rowE rfl rfl ?_ | exact Cv.full | exact CvL.nil | refine CvL.cons ?_ ?_)))
  · rw [if_neg h] at hR
    rw [Bool.not_eq_true] at h
    rw [h] at q1
    refine (ACalls.of (fn := Tryd.f17) Tryd.func17 rfl rfl Tryd.ntmps17 (fun I M w own => ?_))
    (repeat' (first | refine AW.seq_k (fun K hK => ?_) | (refine hK _ ?_; clear hK) | (refine AW.cond rfl (fun hc => ?_) (fun hc => ?_) <;> (try simp only [Bool.and_eq_true, Bool.or_eq_true, Bool.not_eq_true', Bool.not_eq_false', Bool.and_eq_false_iff, Bool.or_eq_false_iff, Bool.and_eq_false_imp, decide_eq_true_eq, decide_eq_false_iff_not, Decidable.not_not, Int.not_lt, Int.not_le, ne_eq, Bool.not_not] at hc) <;> try (first | (exfalso; omega) | (cases hc; done))) | refine AW.ret ?_ | (first | (refine AW.region (id := 0) ?_ <;> (try (refine Run.bxA rfl rfl rfl rfl ?_)) <;> (try (refine Run.p rfl rfl rfl (OpP.asA rfl) ?_)) <;> (try (refine Run.p rfl rfl rfl (OpP.asA rfl) ?_)) <;> (try refine Run.fin rfl ?_)) | (refine AW.region (id := 1) ?_ <;> (try (refine Run.ldNA rfl rfl rfl rfl rfl rfl rfl ?_)) <;> (try (refine Run.c0 q1 rfl rfl rfl rfl rfl rfl rfl rfl ?_)) <;> (try (refine Run.p rfl rfl rfl (OpP.not rfl rfl) ?_)) <;> (try refine Run.fin rfl ?_)) | (refine AW.region (id := 2) ?_ <;> (try (refine Run.p rfl rfl rfl (OpP.asA rfl) ?_)) <;> (try (refine Run.p rfl rfl rfl (OpP.asA rfl) ?_)) <;> (try refine Run.fin rfl ?_)))))
    subst hR
    ((first | refine RetOk.tup rfl rfl ?_ | refine RetOk.one rfl ?_) <;> (repeat' (first | exact Cv.nil | exact Cv.rowf rfl rfl | exact RetC.nil | exact CvL.refl _ | exact Cv.refl | refine RetC.tmp (by (conv => lhs; whnf) <;> rfl) ?_ ?_ | refine RetC.cell1 rfl rfl rfl rfl ?_ ?_ | refine RetC.cellN rfl rfl rfl (by repeat constructor) ?_ ?_ | refine Cv.rowE rfl rfl ?_ | exact Cv.full | exact CvL.nil | refine CvL.cons ?_ ?_)))
theorem datQ_len (l : List Int) : ∀ (k a : Nat) (xs : List UInt8), (datQ l k a xs).1.length = k + xs.length
  | 0, a, xs => by rw [datQ]; simp
  | k + 1, a, xs => by rw [datQ, datQ_len l k]; simp; omega
theorem reqQ_ok (l : List Int) : (reqQ l).1.rng ∧ (reqQ l).1.role.length ≤ 5 ∧ (reqQ l).1.text.length ≤ 64 ∧ (reqQ l).1.data.length ≤ 79 := by
  have b0 := dkN_rng l 0 12 (by decide)
  have b1 := dkN_rng l (dkA l 0) 4 (by decide)
  have b2 := dkN_rng l (dkA l (reqB l)) 4 (by decide)
  have b3 := dkN_rng l (dkA l (dkA l (reqB l))) 3 (by decide)
  have b6 := dkN_rng l (reqB l) 101 (by decide)
  have b7 := dkN_rng l (reqB l) 2 (by decide)
  have b8 := dkN_rng l (reqB l) 80 (by decide)
  have b9 := dkN_rng l (reqB l) 100 (by decide)
  have b10 := dkN_rng l (reqB l) 5 (by decide)
  have b11 := dkN_rng l (reqB l) 6 (by decide)
  have hr := roleQ_le (dkN l (reqB l) 4)
  have hra : ∀ k, 0 ≤ rateQ k ∧ rateQ k ≤ 48000 := by intro k; unfold rateQ; (repeat' split) <;> omega
  have hla : ∀ k, 0 ≤ latQ k ∧ latQ k ≤ 100000 := by intro k; unfold latQ; (repeat' split) <;> omega
  have hdl := datQ_len l (dkN l (reqB l) 80).toNat (dkA l (reqB l)) []
  have htx : ∀ k, (textQ k).length ≤ 64 := by
    intro k
    unfold textQ
    have hT : ∀ v ∈ textT, v.length ≤ 64 := by decide
    rcases Nat.lt_or_ge k.toNat textT.length with h | h
    · simp only [List.getD_eq_getElem?_getD, h, List.getElem?_eq_getElem, Option.getD_some]
      exact hT _ (List.getElem_mem _)
    · simp [h]
  have hA : 1 ≤ (reqA l).kind ∧ (reqA l).kind ≤ 12 ∧ 0 ≤ (reqA l).id ∧ (reqA l).id ≤ 4 ∧ (reqA l).ch = 0 ∧ (reqA l).rate = 0 ∧ (reqA l).lat = 0 ∧ (reqA l).n = 0 ∧ (reqA l).dev = 0 ∧ (reqA l).role = [] ∧ (reqA l).text = [] ∧ (reqA l).data = [] := by
    unfold reqA reqK; split <;> refine ⟨?_, ?_, ?_, ?_, rfl, rfl, rfl, rfl, rfl, rfl, rfl, rfl⟩ <;> simp only <;> omega
  obtain ⟨a1, a2, a3, a4, a5, a6, a7, a8, a9, a10, a11, a12⟩ := hA
  have e1 := hra (dkN l (dkA l (dkA l (dkA l (reqB l)))) 3)
  have e2 := hla (dkN l (dkA l (dkA l (dkA l (dkA l (reqB l))))) 3)
  have e3 := htx (dkN l (reqB l) 6)
  unfold reqQ
  simp only [List.length_nil] at hdl
  (repeat' split)
  all_goals (refine ⟨⟨⟨?_, ?_⟩, ⟨?_, ?_⟩, ⟨?_, ?_⟩, ⟨?_, ?_⟩, ⟨?_, ?_⟩, ⟨?_, ?_⟩, fun _ => ⟨?_, ?_⟩, ?_⟩, ?_, ?_, ?_⟩ <;> (try dsimp only) <;> first | omega | (simp only [a10, a11, a12, List.length_nil]; omega))
end Go.Proofs.YthogjnckkmfhnaaDoor
