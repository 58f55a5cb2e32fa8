/-
  Walk of the law SessionRestores.
-/
import Derived.Test.YtbbcokckealagaaGreatQAA
import Derived.Test.YtbbcokckealagaaGreatQFC
import Derived.Test.YtbbcokckealagaaGreatQFB
import Derived.Test.YtbbcokckealagaaGreatQEF
namespace Go.Proofs.YtbbcokckealagaaGreat
set_option linter.unusedVariables false
set_option linter.unusedSimpArgs false
theorem sesGo_all (l : List Int) : ∀ (k a : Nat) (s : Se) (o : List Rc), a ≤ l.length → (∀ r ∈ o, properR okR r = true ∧ Rwf r ∧ r.ok ∧ r.text.length ≤ 100) → (∀ r ∈ (sesGo l k a s o).2.1, properR okR r = true ∧ Rwf r ∧ r.ok ∧ r.text.length ≤ 100) ∧ (sesGo l k a s o).2.1.length ≤ o.length + k
  | 0, a, s, o, h1, h2 => ⟨h2, Nat.le_refl _⟩
  | k + 1, a, s, o, h1, h2 => by
    have hb := recP_ok l a h1
    have hp := recP_proper l a h1
    rw [sesGo]
    split
    · have := sesGo_all l k _ (applyP okR s (recP l a).1).1 (o ++ [(recP l a).1]) hb.2.2 (fun r hr => by
        rcases List.mem_append.1 hr with hr | hr
        · exact h2 r hr
        · obtain rfl := List.mem_singleton.1 hr
          exact ⟨hp.1, hp.2, hb.1, hb.2.1⟩)
      refine ⟨this.1, ?_⟩
      have h3 := this.2
      simp only [List.length_append, List.length_singleton] at h3
      omega
    · have := sesGo_all l k _ s o hb.2.2 h2
      exact ⟨this.1, by have := this.2; omega⟩
theorem sesP_all (l : List Int) : (∀ r ∈ (sesP l 0).2.1, properR okR r = true ∧ Rwf r ∧ r.ok ∧ r.text.length ≤ 100) ∧ (sesP l 0).2.1.length ≤ 100 := by
  have h := sesGo_all l (dkN l 0 14).toNat (dkA l 0) Se.zero [] (dkA_le (Nat.zero_le _)) (by simp)
  have hk := dkN_rng l 0 14 (by decide)
  exact ⟨h.1, by have := h.2; unfold sesP; simp only [List.length_nil] at this; omega⟩
theorem apM_len (b x : List UInt8) : (apM b x).1.length ≤ 65536 := by
  rw [apM]
  split
  · simp
  split
  · simp
  · simp only [List.length_append, le_length]; omega
theorem resP_ok (b : List UInt8) : (resP b).1.ok := replay_ok (okT := okR) (decs (jr b 0).1) Se.zero 0 zero_ok
theorem foldl_inv2 {α β : Type} {f : β → α → β} {p : β → Prop} : ∀ (l : List α) (b : β), (∀ b, ∀ a ∈ l, p b → p (f b a)) → p b → p (l.foldl f b)
  | [], _, _, h => h
  | a :: t, b, hf, h => foldl_inv2 t _ (fun b x hx => hf b x (List.mem_cons_of_mem _ hx)) (hf b a (List.mem_cons_self ..) h)
theorem addL_sm {b : Bool} {l : List Rc} {r : Rc} (hl : ∀ x ∈ l, x.set.length ≤ 1099511627776) (hr : r.set.length ≤ 1099511627776) : ∀ x ∈ addL b l r, x.set.length ≤ 1099511627776 := by
  intro x hx
  rw [addL] at hx
  split at hx
  · rcases List.mem_append.1 hx with hx | hx
    · exact hl x hx
    · obtain rfl := List.mem_singleton.1 hx; exact hr
  · exact hl x hx
theorem recsP_sm {s : Se} (hs : s.ok) : ∀ x ∈ recsP s, x.set.length ≤ 1099511627776 := by
  rw [recsP]
  refine addL_sm (foldl_inv2 (p := fun l : List Rc => ∀ x ∈ l, x.set.length ≤ 1099511627776) _ _ (fun b a ha h => ?_) (foldl_inv2 (p := fun l : List Rc => ∀ x ∈ l, x.set.length ≤ 1099511627776) _ _ (fun b a ha h => ?_) (by simp))) (by simp)
  · rw [recC]; exact addL_sm h (hs.small _ ha)
  · rw [recK]; exact addL_sm (addL_sm (addL_sm (addL_sm h (by simp)) (by simp)) (by simp)) (by simp)
theorem foldK_len : ∀ (l : List Kp) (L : List Rc), (l.foldl recK L).length ≤ L.length + 4 * l.length
  | [], L => by simp
  | k :: t, L => by
    have h1 := recK_len L k
    have h2 := foldK_len t (recK L k)
    simp only [List.foldl_cons, List.length_cons]
    omega
theorem foldC_len : ∀ (l : List Ch) (L : List Rc), (l.foldl recC L).length ≤ L.length + l.length
  | [], L => by simp
  | c :: t, L => by
    have h1 := addL_len true L ⟨6, 0, c.role, 0, 0, 0, 0, 0, c.dev, c.set, []⟩
    have h2 := foldC_len t (recC L c)
    rw [recC] at h2
    simp only [List.foldl_cons, List.length_cons]
    rw [recC]
    omega
theorem recsP_len {s : Se} (hs : s.ok) : (recsP s).length ≤ 9223372036854775806 := by
  have h1 := hs.st
  have h2 := hs.mem
  have h3 := foldK_len s.streams []
  have h4 := foldC_len s.mem (s.streams.foldl recK [])
  have h5 := addL_len (decide (s.text ≠ [])) (s.mem.foldl recC (s.streams.foldl recK [])) ⟨7, 0, [], 0, 0, 0, 0, 0, 0, [], s.text⟩
  rw [recsP]
  simp only [List.length_nil] at h3
  omega
set_option maxHeartbeats 4000000 in
theorem SessionRestores_c (l : List Int) (fl : Bool) (hl : Fits l) (raw : List UInt8) (fr : Bool) (v0 : Int) (hw : -9223372036854775808 ≤ v0 ∧ v0 ≤ 9223372036854775807) :
    ACalls Tryz.prog 5 [.sl 1 (ivs l) fl, bsl raw fr, .v (.int .i64 v0)] [] (.v (.bool true)) [] := by
  have hrl : (bsP raw).length = raw.length := by simp
  refine (ACalls.of (fn := Tryz.f5) Tryz.func5 O O Tryz.ntmps5 (fun I M w own => ?_))
  by_cases hlen : ((bsP raw).length : Int) > 200
  · (repeat' (first|refine AW.seq_k (fun K hK=>?_)|(refine hK _ ?_;clear hK)|refine AW.uC (fun hc=>?_) (fun hc=>?_)|refine AW.ret ?_|refine AW.skip ?_|exact trivial|refine AW.rI [0, 1, 3, 4] O ?_|refine Run.c0 sane_c O O O O O O O O ?_|refine Ud ?_|fail))
    ((first|refine RetOk.tup O O ?_|refine RetOk.one O ?_)<;>(repeat' (first|exact V0|refine V1 ?_|refine V2 ?_ ?_|fail)))
  have hNl := New_c l fl
  have hSe := Session_c l hl 0 (Nat.zero_le _)
  obtain ⟨s1, s2, s3⟩ := sesP_ok l 0 (Nat.zero_le _)
  obtain ⟨oa, ol⟩ := sesP_all l
  generalize sesP l 0 = S at hSe s1 s2 s3 oa ol
  obtain ⟨s, o, a0⟩ := S
  simp only at hSe s1 s2 s3 oa ol
  have hol : (rcs o).length = o.length := by simp
  (repeat' (first|refine AW.seq_k (fun K hK=>?_)|(refine hK _ ?_;clear hK)|refine AW.uC (fun hc=>?_) (fun hc=>?_)|refine AW.block ?_|refine AW.skip ?_|exact trivial|refine AW.rI [0, 1, 3, 5, 6, 7] O ?_|refine Run.c0 sane_c O O O O O O O O ?_|refine Run.cSA [] hNl O O O O O O O O O O O O ?_|refine Run.cSA [0] hSe O O O O O O O O O O O O ?_|refine Ud ?_|fail))
  refine AW.loopF (X := Nat × List UInt8) (fun y => ⟨[(1, bsl raw fr), (2, .v (.int .i64 v0)), (7, .ptr 0 0), (9, bsl y.2 false), (37, .sl 11 (rcs o) false), (38, .v (.int .i64 ((rcs o).length : Int))), (39, .v (.int .i64 (y.1 : Int)))], [.box s.cells]⟩)
    (fun y => y.1 ≤ o.length ∧ y.2.length ≤ 65536) (fun y => o.length - y.1) (0, []) ?_ ⟨Nat.zero_le _, by simp⟩ ?_
  · refine Conv.mk [1] O O O ?_ O ?_
    · (repeat' (first|exact V0|refine V3 ?_|refine V2 ?_ ?_|fail))
    · (repeat' (first|exact V0|refine V3 ?_|refine V2 ?_ ?_|fail))
  rintro ⟨i, b⟩ ⟨i1, i2⟩
  simp only at i1 i2 ⊢
  rcases Nat.lt_or_ge i o.length with h | h
  · have hlt : (i : Int) < ((rcs o).length : Int) := by omega
    have hA : At (rcs o) (i : Int) o[i].pv := At.mk i O (by simp [h])
    obtain ⟨p1, p2, p3, p4⟩ := oa o[i] (List.getElem_mem h)
    generalize o[i] = r at hA p1 p2 p3 p4
    have hE := rEncode_c r p3 p2 (by omega)
    have hn := encR_len (proper_fine p1 p2)
    rw [encE, if_pos p1] at hE
    generalize encR r = E at hE hn
    have hAp := rAppend_c b E false false (by omega) (by omega)
    have hal := apM_len b E
    generalize apM b E = q at hAp hal
    obtain ⟨b', e'⟩ := q
    simp only at hAp hal
    (repeat' (first|refine AW.seq_k (fun K hK=>?_)|(refine hK _ ?_;clear hK)|refine AW.uC (fun hc=>?_) (fun hc=>?_)|refine AW.block ?_|refine AW.skip ?_|exact trivial|refine AW.rI [8, 9, 10, 11, 12] O ?_|refine Run.c0 hE O O O O O O O O ?_|refine Run.c0 hAp O O O O O O O O ?_|refine Ud ?_|fail))
    ((repeat (with_reducible refine inB_n ?_)); refine thenA_n ?_)
    refine ⟨(i + 1, b'), ⟨h, hal⟩, by simp only; omega, ?_⟩
    refine Conv.mk [0] O O O ?_ O ?_
    · (repeat' (first|exact V0|refine V3 ?_|refine V2 ?_ ?_|fail))
      all_goals first | rfl | (refine Cv.eq ?_; simp [AV.ren, renL]; done)
    · (repeat' (first|exact V0|refine V3 ?_|refine V2 ?_ ?_|fail))
  have hge : ¬ (i : Int) < ((rcs o).length : Int) := by omega
  have hbl : (bsP b).length = b.length := by simp
  have hAp := rAppend_c b raw false fr (by omega) (by omega)
  have hal := apM_len b raw
  generalize apM b raw = q at hAp hal
  obtain ⟨c, e'⟩ := q
  simp only at hAp hal
  have hM := Mod_c v0 ((bsP b).length + 1 : Int) hw (by omega)
  have hm : 0 ≤ v0 % ((bsP b).length + 1 : Int) ∧ v0 % ((bsP b).length + 1 : Int) < ((bsP b).length + 1 : Int) := ⟨Int.emod_nonneg _ (by omega), Int.emod_lt_of_pos _ (by omega)⟩
  generalize v0 % ((bsP b).length + 1 : Int) = k at hM hm
  obtain ⟨L, hL⟩ : ∃ L : List (List UInt8), L = [b, c, b.take k.toNat, raw] := ⟨_, rfl⟩
  have hLl : L.length = 4 := by rw [hL]; rfl
  have hLb : ∀ x ∈ L, x.length ≤ 1000000 := by
    rw [hL]; intro x hx
    simp only [List.mem_cons, List.not_mem_nil, or_false] at hx
    rcases hx with rfl | rfl | rfl | rfl <;> first | omega | (simp; omega)
  (repeat' (first|refine AW.seq_k (fun K hK=>?_)|(refine hK _ ?_;clear hK)|refine AW.uC (fun hc=>?_) (fun hc=>?_)|refine AW.block ?_|refine AW.exit ?_|(clear hK;refine hK _ ?_;clear hK)|exact trivial|refine AW.rI [8, 13, 14, 15] O ?_|refine Run.c0 hAp O O O O O O O O ?_|refine Run.c0 hM O O O O O O O O ?_|refine Ud ?_|fail))
  refine AW.loopF (X := Nat) (fun x => ⟨[(7, .ptr 0 0), (72, .sl 1 (llP L) true), (73, .v (.int .i64 4)), (74, .v (.int .i64 (x : Int)))], [.box s.cells]⟩)
    (fun x => x ≤ 4) (fun x => 4 - x) 0 ?_ (Nat.zero_le _) ?_
  · refine Conv.mk [0] O O O ?_ O ?_
    · (repeat' (first|exact V0|refine V3 ?_|refine V2 ?_ ?_|fail))
      (all_goals (try (first|refine CvL.eq ?_|refine Cv.eq ?_)))
      all_goals first | rfl | (rw [hL]; simp [AV.ren, List.map_take, List.map_drop])
    · (repeat' (first|exact V0|refine V3 ?_|refine V2 ?_ ?_|fail))
  intro j j1
  rcases Nat.lt_or_ge j 4 with h | h
  · have hlt : (j : Int) < 4 := by omega
    have hil : j < L.length := by omega
    have hA : At (llP L) (j : Int) [PV.sl 1 (bsP L[j])] := At.mk j O (by simp [hil])
    have hx := hLb L[j] (List.getElem_mem _)
    generalize L[j] = x at hA hx
    have h1 := sRestore_c x false hx
    have h2 := rRestore_c x false hx
    have h3 := resP_ok x
    generalize resP x = Q at h1 h2 h3
    obtain ⟨q1, q2, q3⟩ := Q
    simp only at h1 h2 h3
    have hS := SameS_c q1 h3
    have d1 : ¬ ((q2 : Int) ≠ (q2 : Int)) := fun h => h O
    (repeat' (first|refine AW.seq_k (fun K hK=>?_)|(refine hK _ ?_;clear hK)|refine AW.uC (fun hc=>?_) (fun hc=>?_)|refine AW.block ?_|refine AW.skip ?_|exact trivial|refine AW.rI [16, 17, 18, 19, 20, 22] O ?_|refine Run.c0 h1 O O O O O O O O ?_|refine Run.c0 h2 O O O O O O O O ?_|refine Run.c0 hS O O O O O O O O ?_|refine Ud ?_|fail))
    ((repeat (with_reducible refine inB_n ?_)); refine thenA_n ?_)
    refine ⟨j + 1, h, by omega, ?_⟩
    refine Conv.mk [0] O O O ?_ O ?_
    · (repeat' (first|exact V0|refine V3 ?_|refine V2 ?_ ?_|fail))
      (all_goals (try (first|refine CvL.eq ?_|refine Cv.eq ?_)))
      all_goals first | rfl | simp [AV.ren]
    · (repeat' (first|exact V0|refine V3 ?_|refine V2 ?_ ?_|fail))
  have hge4 : ¬ (j : Int) < 4 := by omega
  have hR1 := Records_c s s1
  have hR2 := rRecs_c s s1
  have hsm := recsP_sm s1
  have hsl := recsP_len s1
  generalize recsP s = R at hR1 hR2 hsm hsl
  have hRl : (rcs R).length = R.length := by simp
  have d2 : ¬ (((rcs R).length : Int) ≠ ((rcs R).length : Int)) := fun h => h O
  (repeat' (first|refine AW.seq_k (fun K hK=>?_)|(refine hK _ ?_;clear hK)|refine AW.uC (fun hc=>?_) (fun hc=>?_)|refine AW.block ?_|refine AW.exit ?_|refine AW.skip ?_|(clear hK;refine hK _ ?_;clear hK)|exact trivial|refine AW.draw (id := 23) (by kernel_rfl) ?_|refine AW.rI [16, 24, 26] O ?_|refine Run.c0 hR1 O O O O O O O O ?_|refine Run.c0 hR2 O O O O O O O O ?_|refine Ud ?_|fail))
  refine AW.loopF (X := Nat) (fun x => ⟨[(23, .sl 11 (rcs R) false), (24, .sl 11 (rcs R) false), (108, .v (.int .i64 ((rcs R).length : Int))), (109, .v (.int .i64 (x : Int)))], []⟩)
    (fun x => x ≤ R.length) (fun x => R.length - x) 0 ?_ (Nat.zero_le _) ?_
  · refine Conv.mk [] O O O ?_ O ?_
    · (repeat' (first|exact V0|refine V3 ?_|refine V2 ?_ ?_|fail))
    · (repeat' (first|exact V0|refine V3 ?_|refine V2 ?_ ?_|fail))
  intro m m1
  rcases Nat.lt_or_ge m R.length with g | g
  · have hlt : (m : Int) < ((rcs R).length : Int) := by omega
    have hA : At (rcs R) (m : Int) R[m].pv := At.mk m O (by simp [g])
    have hx := hsm R[m] (List.getElem_mem _)
    generalize R[m] = u at hA hx
    have hS := SameRecord_c u u (by omega)
    rw [decide_eq_true O] at hS
    (repeat' (first|refine AW.seq_k (fun K hK=>?_)|(refine hK _ ?_;clear hK)|refine AW.uC (fun hc=>?_) (fun hc=>?_)|refine AW.block ?_|refine AW.skip ?_|exact trivial|refine AW.draw (id := 29) (by kernel_rfl) ?_|refine AW.rI [27, 28, 31] O ?_|refine Run.c0 hS O O O O O O O O ?_|refine Ud ?_|fail))
    ((repeat (with_reducible refine inB_n ?_)); refine thenA_n ?_)
    refine ⟨m + 1, g, by omega, ?_⟩
    refine Conv.mk [] O O O ?_ O ?_
    · (repeat' (first|exact V0|refine V3 ?_|refine V2 ?_ ?_|fail))
      (all_goals (try (first|refine CvL.eq ?_|refine Cv.eq ?_)))
      all_goals first | rfl | (simp [AV.ren, renL]; done) | (simp [AV.ren, renL]; exact IntWalk.i64_in _ (by omega)) | exact IntWalk.i64_in _ (by omega)
    · (repeat' (first|exact V0|refine V3 ?_|refine V2 ?_ ?_|fail))
  · have hgm : ¬ (m : Int) < ((rcs R).length : Int) := by omega
    (repeat' (first|refine AW.seq_k (fun K hK=>?_)|(refine hK _ ?_;clear hK)|refine AW.uC (fun hc=>?_) (fun hc=>?_)|refine AW.exit ?_|refine AW.ret ?_|(clear hK;refine hK _ ?_;clear hK)|exact trivial|refine AW.rI [27, 32] O ?_|refine Ud ?_|fail))
    ((first|refine RetOk.tup O O ?_|refine RetOk.one O ?_)<;>(repeat' (first|exact V0|refine V1 ?_|refine V2 ?_ ?_|fail)))
end Go.Proofs.YtbbcokckealagaaGreat
