/-
  Plain facts of journals: appended frames, beginnings, repaired ones. No dump; no condition.
-/
import Derived.Test.YtbbcokckealagaaGreatQFA
import Derived.Test.YtbbcokckealagaaGreatQAA
namespace Go.Proofs.YtbbcokckealagaaGreat
set_option linter.unusedVariables false
set_option linter.unusedSimpArgs false
theorem unle_le : ∀ (n x : Nat), unle (le x n) = x % 256 ^ n := by
  intro n
  induction n with
  | zero => intro x; simp [le, unle, Nat.mod_one]
  | succ n ih =>
    intro x
    simp only [le, unle, ih]
    rw [show (UInt8.ofNat (x % 256)).toNat = x % 256 from by simp, Nat.pow_succ', Nat.mod_mul]
theorem jone_zero {r : List UInt8} {last : Nat} {e : Int} (h : jone r last = .inl e) (h0 : e = 0) : r = [] := by
  subst h0
  unfold jone at h
  split at h
  · rename_i h1; exact List.eq_nil_of_length_eq_zero h1
  · repeat (split at h; · exact absurd (Sum.inl.inj h) (by decide))
    split at h
    · cases h
    · exact absurd (Sum.inl.inj h) (by decide)
theorem seg_app (r t : List UInt8) (i m : Nat) (h : i + m ≤ r.length) : seg (r ++ t) i m = seg r i m := by
  unfold seg
  rw [List.drop_append_of_le_length (by omega), List.take_append_of_le_length (by rw [List.length_drop]; omega)]
theorem jone_app {r : List UInt8} {last : Nat} {x : List UInt8} {h : Nat} (t : List UInt8) (e : jone r last = .inr (x, h)) : jone (r ++ t) last = .inr (x, h) := by
  have hl := jone_inr e
  have e0 := e
  unfold jone at e
  repeat (split at e; · cases e)
  rename_i h1 h2 h3 h4
  split at e
  · rename_i h5
    obtain ⟨v, hv⟩ : ∃ v, unle (seg r 0 2) = v := ⟨_, rfl⟩
    rw [hv] at e h3 h4 h5
    have := jone_ok (r := r ++ t) (last := last) (v := v) (by rw [seg_app _ _ _ _ (by omega)]; exact hv) (by omega) (by rw [List.length_append]; omega)
      (by rw [seg_app _ _ _ _ (by omega), seg_app _ _ _ _ (by omega)]; exact h5)
    rw [this, ← e, seg_app _ _ _ _ (by omega), seg_app _ _ _ _ (by omega)]
  · cases e
theorem drop_app (r t : List UInt8) (k : Nat) (h : k ≤ r.length) : (r ++ t).drop k = r.drop k ++ t := List.drop_append_of_le_length h
theorem jr_app (n : Nat) : ∀ (r t : List UInt8) (last : Nat), r.length ≤ n → (jr r last).2.2.2 = 0 → (jr r last).2.1 = r.length ∧ jr (r ++ t) last = jrThen (jr r last).1 r.length (jr t (jr r last).2.2.1) := by
  induction n with
  | zero =>
    intro r t last hn h0
    obtain rfl : r = [] := List.eq_nil_of_length_eq_zero (by omega)
    rw [jr_inl (jone_end O)]
    simp [jrThen]
  | succ n ih =>
    intro r t last hn h0
    cases hj : jone r last with
    | inl e =>
      rw [jr_inl hj] at h0
      obtain rfl := jone_zero hj h0
      rw [jr_inl (jone_end O)]
      simp [jrThen]
    | inr p =>
      obtain ⟨x, h⟩ := p
      have hl := jone_inr hj
      rw [jr_inr hj] at h0 ⊢
      rw [jr_inr (jone_app t hj), drop_app _ _ _ hl.1]
      simp only at h0 ⊢
      obtain ⟨i1, i2⟩ := ih (r.drop (x.length + 10)) t h (by rw [List.length_drop]; omega) h0
      rw [i2, i1, List.length_drop]
      refine ⟨by omega, ?_⟩
      simp only [jrThen, List.cons_append]
      congr 2
      omega
theorem jr_pre (n : Nat) : ∀ (r t : List UInt8) (last : Nat), r.length ≤ n → ∃ z, (jr (r ++ t) last).1 = (jr r last).1 ++ z := by
  induction n with
  | zero =>
    intro r t last hn
    obtain rfl : r = [] := List.eq_nil_of_length_eq_zero (by omega)
    rw [jr_inl (r := []) (jone_end O)]
    exact ⟨_, rfl⟩
  | succ n ih =>
    intro r t last hn
    cases hj : jone r last with
    | inl e => rw [jr_inl hj]; exact ⟨_, rfl⟩
    | inr p =>
      obtain ⟨x, h⟩ := p
      have hl := jone_inr hj
      rw [jr_inr hj, jr_inr (jone_app t hj), drop_app _ _ _ hl.1]
      obtain ⟨z, hz⟩ := ih (r.drop (x.length + 10)) t h (by rw [List.length_drop]; omega)
      exact ⟨z, by simp [hz]⟩
theorem jone_frame (x : List UInt8) (last : Nat) (hx : x.length ≤ 4096) :
    jone (le x.length 2 ++ x ++ le (fnvOf (le last 8 ++ (le x.length 2 ++ x))) 8) last = .inr (x, fnvOf (le last 8 ++ (le x.length 2 ++ x))) := by
  have hF := fnvOf_lt (le last 8 ++ (le x.length 2 ++ x))
  have s0 : seg (le x.length 2 ++ x ++ le (fnvOf (le last 8 ++ (le x.length 2 ++ x))) 8) 0 2 = le x.length 2 := by
    unfold seg; simp [le_length, List.take_append]
  have s1 : seg (le x.length 2 ++ x ++ le (fnvOf (le last 8 ++ (le x.length 2 ++ x))) 8) 0 (x.length + 2) = le x.length 2 ++ x := by
    unfold seg; rw [List.drop_zero, List.take_append_of_le_length (by simp [le_length]; omega), List.take_of_length_le (by simp [le_length]; omega)]
  have s2 : seg (le x.length 2 ++ x ++ le (fnvOf (le last 8 ++ (le x.length 2 ++ x))) 8) (x.length + 2) 8 = le (fnvOf (le last 8 ++ (le x.length 2 ++ x))) 8 := by
    unfold seg
    have h6 : (le x.length 2 ++ x).length = x.length + 2 := by simp [le_length]; omega
    rw [List.drop_append_of_le_length (by omega), List.drop_eq_nil_of_le (by omega), List.nil_append, List.take_of_length_le (by simp [le_length])]
  have s3 : seg (le x.length 2 ++ x ++ le (fnvOf (le last 8 ++ (le x.length 2 ++ x))) 8) 2 x.length = x := by
    unfold seg
    rw [List.append_assoc, List.drop_append_of_le_length (by simp [le_length]), List.drop_eq_nil_of_le (by simp [le_length]), List.nil_append, List.take_append_of_le_length (Nat.le_refl _), List.take_length]
  have hv : unle (seg (le x.length 2 ++ x ++ le (fnvOf (le last 8 ++ (le x.length 2 ++ x))) 8) 0 2) = x.length := by
    rw [s0, unle_le]; omega
  have h8 : unle (seg (le x.length 2 ++ x ++ le (fnvOf (le last 8 ++ (le x.length 2 ++ x))) 8) (x.length + 2) 8) = fnvOf (le last 8 ++ (le x.length 2 ++ x)) := by
    rw [s2, unle_le]; omega
  rw [jone_ok hv hx (by simp only [List.length_append, le_length]; omega) (by rw [h8, s1]), s1, s3]
theorem apM_jr {b x : List UInt8} (h0 : (jr b 0).2.2.2 = 0) (hx : x.length ≤ 4096) (hl : b.length + 10 + x.length ≤ 65536) :
    (apM b x).2 = 0 ∧ (apM b x).1.length = b.length + 10 + x.length ∧ (jr (apM b x).1 0).1 = (jr b 0).1 ++ [x] ∧ (jr (apM b x).1 0).2.1 = b.length + 10 + x.length ∧ (jr (apM b x).1 0).2.2.2 = 0 := by
  have e : apM b x = (b ++ (le x.length 2 ++ x) ++ le (fnvOf (le (jr b 0).2.2.1 8 ++ (le x.length 2 ++ x))) 8, 0) := by
    unfold apM; rw [if_neg (by simp [h0]), if_neg (by omega)]
  rw [e]
  refine ⟨rfl, by simp [le_length]; omega, ?_⟩
  have h1 := (jr_app b.length b (le x.length 2 ++ x ++ le (fnvOf (le (jr b 0).2.2.1 8 ++ (le x.length 2 ++ x))) 8) 0 (Nat.le_refl _) h0).2
  have h2 := jr_inr (jone_frame x (jr b 0).2.2.1 hx)
  have hd : (le x.length 2 ++ x ++ le (fnvOf (le (jr b 0).2.2.1 8 ++ (le x.length 2 ++ x))) 8).drop (x.length + 10) = [] := List.drop_eq_nil_of_le (by simp [le_length]; omega)
  rw [hd, jr_inl (r := []) (jone_end O)] at h2
  simp only [List.append_assoc] at h1 h2 ⊢
  rw [h1, h2]
  simp [jrThen]
  omega
set_option maxHeartbeats 4000000 in
theorem jhash_c (q : Nat) (hq : q < 18446744073709551616) (l : List UInt8) (f : Bool) (hl : l.length ≤ 4096) : ACalls Tryz.prog 65 [.v (.int .u64 (q : Int)), bsl l f] [] (.v (.int .u64 (fnvOf (le q 8 ++ (le l.length 2 ++ l)) : Int))) [] := by
  have hP := (rPut64_c [] false q hq (by simp)).weak (args' := [.v (.slice none 0 0), .v (.int .u64 (q : Int))]) (.cons .nil (.cons .same .nil))
  rw [List.nil_append] at hP
  have hbl : (bsP l).length = l.length := by simp
  have l8 : (le q 8).length = 8 := le_length q 8
  have l2 : (le l.length 2).length = 2 := le_length _ 2
  have l3 : (le (bsP l).length 2).length = 2 := le_length _ 2
  have hQ := rPut16R_c (le q 8) false (bsP l).length (by omega) (by simp [le_length])
  have hH := rhash_wc (le q 8 ++ (le l.length 2 ++ l)) false (by simp [le_length]; omega)
  generalize fnvOf (le q 8 ++ (le l.length 2 ++ l)) = F at hH
  have e : bsP (le q 8 ++ (le l.length 2 ++ l)) = bsP (le q 8 ++ le l.length 2) ++ bsP l := by simp
  unfold bsl at hH
  rw [e, ← hbl] at hH
  have hH3 := ACalls.rowArg0 hH O
  have h8 : (bsP (le q 8 ++ le (bsP l).length 2)).length = 10 := by simp [le_length]
  refine (ACalls.of (fn := Tryz.f65) Tryz.func65 O O Tryz.ntmps65 (fun I M w own => ?_))
  (repeat' (first|refine AW.seq_k (fun K hK=>?_)|(refine hK _ ?_;clear hK)|refine AW.ret ?_|refine AW.region ?_|refine Run.c0 hP O O O O O O O O ?_|refine Run.cSA [] hQ O O O O O O O O O O O O ?_|refine Run.cSA [0] hH3 O O O O O O O O O O O O ?_|refine Ud ?_|fail))
  ((first|refine RetOk.tupS [] O O O O O ?_ ?_|refine RetOk.oneS [] O O O O ?_ ?_)<;>(repeat' (first|exact V0|refine V1 ?_|refine V2 ?_ ?_|fail)))
set_option maxHeartbeats 4000000 in
theorem jall_c (b : List UInt8) (f : Bool) (hl : b.length ≤ 1000000) : ACalls Tryz.prog 62 [bsl b f] [] (.tup [.row 0 (frB (jr b 0).1).length, .v (.int .i64 ((jr b 0).2.1 : Int)), .v (.int .u64 ((jr b 0).2.2.1 : Int)), .v (.int .i64 (jr b 0).2.2.2)]) [.row 1 (frB (jr b 0).1)] := by
  have hR0 : jrThen [] 0 (jr (b.drop 0) 0) = jr b 0 := jrThen_nil _
  generalize jr b 0 = R at hR0
  have hbl : (bsP b).length = b.length := by simp
  refine (ACalls.of (fn := Tryz.f62) Tryz.func62 O O Tryz.ntmps62 (fun I M w own => ?_))
  (repeat' (first|refine AW.seq_k (fun K hK=>?_)|(refine hK _ ?_;clear hK)|refine AW.block ?_|refine AW.rI [0, 1, 2] O ?_|refine UA ?_|fail))
  refine AW.loopF (X := List (List UInt8) × Nat × Nat) (fun x => ⟨[(0, bsl b f), (6, .row 0 (frB x.1).length), (7, .v (.int .i64 (x.2.1 : Int))), (8, .v (.int .u64 (x.2.2 : Int)))], [.row 1 (frB x.1)]⟩)
    (fun x => x.1.length ≤ x.2.1 ∧ x.2.1 ≤ b.length ∧ x.2.2 < 18446744073709551616 ∧ jrThen x.1 x.2.1 (jr (b.drop x.2.1) x.2.2) = R) (fun x => b.length - x.2.1) ([], 0, 0) ?_ ?_ ?_
  · refine Conv.own 6 1 [] (Or.inr ⟨rfl, rfl⟩) ?_
    refine Conv.mk [0] O O O ?_ O ?_
    (repeat' (first|exact V0|refine V3 ?_|refine V2 ?_ ?_|fail))
    (all_goals (try (first|refine CvL.eq ?_|refine Cv.eq ?_)))
    all_goals simp [AV.ren, AV.rens, renL, frB]
  · exact ⟨by simp, by simp, by decide, hR0⟩
  · rintro ⟨out, k, last⟩ ⟨g0, g1, g2, g3⟩
    dsimp only at g0 g1 g2 g3
    rcases Nat.eq_or_lt_of_le g1 with hk | hk
    · subst hk
      rw [List.drop_eq_nil_of_le (Nat.le_refl _), jr_inl (jone_end O), show ∀ e : Int, jrThen out b.length ([], 0, last, e) = (out, b.length, last, e) from fun e => by simp [jrThen]] at g3
      subst g3
      have hk' : ¬ (((out, b.length, last) : List (List UInt8) × Nat × Nat).snd.fst : Int) < ((bsP b).length : Int) := by rw [hbl]; exact Int.lt_irrefl _
      (repeat' (first|refine AW.seq_k (fun K hK=>?_)|(refine hK _ ?_;clear hK)|refine AW.uC (fun hc=>?_) (fun hc=>?_)|refine AW.exit ?_|refine AW.ret ?_|(clear hK;refine hK _ ?_;clear hK)|exact trivial|refine AW.rI [3, 17] O ?_|refine UA ?_|fail))
      ((first|refine RetOk.tupS [0] O O O O O ?_ ?_|refine RetOk.oneS [0] O O O O ?_ ?_)<;>(repeat' (first|exact V0|refine V1 ?_|refine V2 ?_ ?_|fail)))
      all_goals rfl
    have hdr : List.drop ((k : Int)).toNat (bsP b) = bsP (b.drop k) := by rw [Int.toNat_natCast, jbP_drop]
    have hk' : (((out, k, last) : List (List UInt8) × Nat × Nat).snd.fst : Int) < ((bsP b).length : Int) := by rw [hbl]; exact Int.ofNat_lt.2 hk
    (repeat' (first|refine AW.seq_k (fun K hK=>?_)|(refine hK _ ?_;clear hK)|refine AW.uC (fun hc=>?_) (fun hc=>?_)|refine AW.block ?_|refine AW.skip ?_|exact trivial|refine AW.rI [3, 4] O ?_|refine UA ?_|fail))
    rw [show List.drop (((out, k, last) : List (List UInt8) × Nat × Nat).snd.fst : Int).toNat (bsP b) = bsP (b.drop k) from hdr]
    have hrl : (b.drop k).length = b.length - k := by simp
    have hst := fun x h => @jrThen_step b out k last x h
    generalize hr : b.drop k = r at hrl g3 hst
    have hrl2 : (bsP r).length = r.length := by simp
    rcases Nat.lt_or_ge r.length 10 with h10 | h10
    · rw [jr_inl (jone_short (by omega) h10), show ∀ e : Int, jrThen out k ([], 0, last, e) = (out, k, last, e) from fun e => by simp [jrThen]] at g3
      subst g3
      (repeat' (first|refine AW.seq_k (fun K hK=>?_)|(refine hK _ ?_;clear hK)|refine AW.uC (fun hc=>?_) (fun hc=>?_)|refine AW.ret ?_|exact trivial|refine AW.rI [5, 6] O ?_|refine UA ?_|fail))
      ((first|refine RetOk.tupS [0] O O O O O ?_ ?_|refine RetOk.oneS [0] O O O O ?_ ?_)<;>(repeat' (first|exact V0|refine V1 ?_|refine V2 ?_ ?_|fail)))
      all_goals rfl
    have hG := rGet16_c r false 0 (by omega) (by omega)
    rw [show (0 : Int) = ((0 : Nat) : Int) from rfl, getM_in r 0 _ (by omega)] at hG
    have hv2 := unle2_lt r
    have hse : seg r 0 2 = le (unle (seg r 0 2)) 2 := by
      have := le_unle (seg r 0 2)
      rwa [seg_length _ _ _ (by omega), eq_comm] at this
    generalize hv : unle (seg r 0 2) = v at hG hv2 hse
    dsimp only at hG
    rcases Nat.lt_or_ge 4096 v with h4 | h4
    · rw [jr_inl (jone_limit h10 hv h4), show ∀ e : Int, jrThen out k ([], 0, last, e) = (out, k, last, e) from fun e => by simp [jrThen]] at g3
      subst g3
      (repeat' (first|refine AW.seq_k (fun K hK=>?_)|(refine hK _ ?_;clear hK)|refine AW.uC (fun hc=>?_) (fun hc=>?_)|refine AW.ret ?_|refine AW.skip ?_|exact trivial|refine AW.rI [5, 7, 8, 9] O ?_|refine Run.c0 hG O O O O O O O O ?_|refine UA ?_|fail))
      ((first|refine RetOk.tupS [0] O O O O O ?_ ?_|refine RetOk.oneS [0] O O O O ?_ ?_)<;>(repeat' (first|exact V0|refine V1 ?_|refine V2 ?_ ?_|fail)))
      all_goals rfl
    rcases Nat.lt_or_ge r.length (v + 10) with h5 | h5
    · rw [jr_inl (jone_short2 h10 hv h4 h5), show ∀ e : Int, jrThen out k ([], 0, last, e) = (out, k, last, e) from fun e => by simp [jrThen]] at g3
      subst g3
      (repeat' (first|refine AW.seq_k (fun K hK=>?_)|(refine hK _ ?_;clear hK)|refine AW.uC (fun hc=>?_) (fun hc=>?_)|refine AW.ret ?_|refine AW.skip ?_|exact trivial|refine AW.rI [5, 7, 8, 10, 11] O ?_|refine Run.c0 hG O O O O O O O O ?_|refine UA ?_|fail))
      ((first|refine RetOk.tupS [0] O O O O O ?_ ?_|refine RetOk.oneS [0] O O O O ?_ ?_)<;>(repeat' (first|exact V0|refine V1 ?_|refine V2 ?_ ?_|fail)))
      all_goals rfl
    have hl2 : (seg r 2 v).length = v := seg_length _ _ _ (by omega)
    have hsp : seg r 0 (v + 2) = le v 2 ++ seg r 2 v := by rw [Nat.add_comm, seg_split, hse]
    have hS := jhash_c last g2 (seg r 2 v) false (by omega)
    rw [hl2, ← hsp] at hS
    have hG2 := rGet64_c r false ((v + 2 : Nat) : Int) (by omega) (by omega)
    rw [getM_in r (v + 2) 8 (by omega)] at hG2
    have hok := @jone_ok r last v hv h4 h5
    have hbad := @jone_bad r last v hv h4 h5
    have hF := fnvOf_lt (le last 8 ++ seg r 0 (v + 2))
    generalize fnvOf (le last 8 ++ seg r 0 (v + 2)) = F at hS hok hbad hF
    have hU := unle_lt (seg r (v + 2) 8)
    rw [seg_length _ _ _ (by omega)] at hU
    generalize unle (seg r (v + 2) 8) = U at hG2 hok hbad hU
    have e2 : List.drop (2 : Int).toNat (List.take (2 + (v : Int)).toNat (bsP r)) = bsP (seg r 2 v) := by
      rw [show (2 + (v : Int)).toNat = 2 + v by omega, jbP_take, jbP_drop]
      unfold seg
      rw [List.drop_take, show 2 + v - Int.toNat 2 = v by simp]; rfl
    unfold bsl at hS
    rw [← e2] at hS
    rw [show ((v + 2 : Nat) : Int) = 2 + (v : Int) by omega] at hG2
    dsimp only at hG2
    by_cases hUF : U = F
    · have hj := hok hUF
      rw [hst _ _ hj, hl2] at g3
      subst hUF
      (repeat' (first|refine AW.seq_k (fun K hK=>?_)|(refine hK _ ?_;clear hK)|refine AW.uC (fun hc=>?_) (fun hc=>?_)|refine AW.skip ?_|exact trivial|refine AW.rI [5, 7, 8, 10, 12, 13, 14, 16] O ?_|refine Run.c0 hG O O O O O O O O ?_|refine Run.c0 hG2 O O O O O O O O ?_|refine Run.c0 hS O O O O O O O O ?_|refine UA ?_|fail))
      ((repeat (with_reducible refine inB_n ?_)); refine thenA_n ?_)
      refine ⟨(out ++ [seg r 2 v], k + (v + 10), U), ⟨by simp; omega, by dsimp only; omega, hF, g3⟩, by dsimp only; omega, ?_⟩
      refine Conv.mk [0] O O O ?_ O ?_
      (repeat' (first|exact V0|refine V3 ?_|refine V2 ?_ ?_|fail))
      (all_goals (try (first|refine CvL.eq ?_|refine Cv.eq ?_)))
      all_goals simp [AV.ren, renL, frB]
      all_goals first | exact e2 | (rw [IntWalk.i64_in (↑k + ↑v) (by omega), IntWalk.i64_in _ (by omega)]; omega)
    · rw [jr_inl (hbad hUF), show ∀ e : Int, jrThen out k ([], 0, last, e) = (out, k, last, e) from fun e => by simp [jrThen]] at g3
      subst g3
      (repeat' (first|refine AW.seq_k (fun K hK=>?_)|(refine hK _ ?_;clear hK)|refine AW.uC (fun hc=>?_) (fun hc=>?_)|refine AW.ret ?_|refine AW.skip ?_|exact trivial|refine AW.rI [5, 7, 8, 10, 12, 13, 14, 15] O ?_|refine Run.c0 hG O O O O O O O O ?_|refine Run.c0 hG2 O O O O O O O O ?_|refine Run.c0 hS O O O O O O O O ?_|refine UA ?_|fail))
      ((first|refine RetOk.tupS [0] O O O O O ?_ ?_|refine RetOk.oneS [0] O O O O ?_ ?_)<;>(repeat' (first|exact V0|refine V1 ?_|refine V2 ?_ ?_|fail)))
      all_goals rfl
theorem ACalls.rowArg1 {P : Program} {f : FuncId} {sz : Nat} {xs : List (List PV)} {c r : AV} (h : ACalls P f [.sl sz xs false, c] [] r []) (hc : c.lt 0 = true) (hr : r.lt 0 = true) : ACalls P f [.row 0 xs.length, c] [.row sz xs] r [.no] := by
  intro I M w cargs hsz hav hs hno
  have h0 : (sto [.row sz xs]) 0 = .row sz xs := rfl
  have hs0 : (sto [Res.no] : Nat → Res) = fun _ => .no := by
    funext k
    cases k <;> simp [sto]
  refine (h (fun _ => .no) M w cargs (by simpa using hsz) ?_ ?_ (fun _ _ => rfl)).mono ?_
  · intro i v c' hv hc'
    match i, hc' with
    | 0, hc' =>
      obtain rfl := Option.some.inj hc'
      have hv0 := hav 0 v _ hv O
      exact (Cv.rowf (σ := sto [.row sz xs]) h0 O I M w v hs hv0).agree (n := 0) (fun k hk => absurd hk (Nat.not_lt_zero k)) O
    | 1, hc' =>
      obtain rfl := Option.some.inj hc'
      exact (hav 1 v _ hv O).agree (n := 0) (fun k hk => absurd hk (Nat.not_lt_zero k)) hc
    | i + 2, hc' => cases hc'
  · rw [sto_nil]
    exact ⟨fun k => trivial, fun k k' b _ hb => (blkno hb).elim, hs.top, hs.tab⟩
  · rintro e w' ⟨cv, I', M', rfl, k1, k2, k3, k4, k5⟩
    refine ⟨cv, I, M', rfl, k1.agree (n := 0) (fun k hk => absurd hk (Nat.not_lt_zero k)) hr, ?_, hno, ⟨k4.os, k4.tape, k4.output, fun _ => CI.le_refl _, k4.evo, fun b hb ho => k4.oth b hb fun ⟨k, hk⟩ => ?_⟩, fun k b hb => ?_⟩
    · rw [hs0]
      exact ⟨fun k => trivial, fun k k' b _ hb => (blkno hb).elim, k2.top, k2.tab⟩
    · rw [sto_nil] at hk; exact (blkno hk).elim
    · rw [hs0] at hb; exact (blkno hb).elim
set_option maxHeartbeats 4000000 in
theorem ACalls.rowArgR {P : Program} {f : FuncId} {sz sz2 n : Nat} {xs ys : List (List PV)} {c : AV} (h : ACalls P f [.sl sz xs false, c] [] (.row 0 n) [.row sz2 ys]) (hc : c.lt 0 = true) : ACalls P f [.row 0 xs.length, c] [.row sz xs] (.row 1 n) [.no, .row sz2 ys] := by
  intro I M w cargs hsz hav hs hno
  have h0 : (sto [.row sz xs]) 0 = .row sz xs := rfl
  refine (h (fun _ => .no) M w cargs (by simpa using hsz) ?_ ?_ (fun _ _ => rfl)).mono ?_
  · intro i v c' hv hc'
    match i, hc' with
    | 0, hc' =>
      obtain rfl := Option.some.inj hc'
      have hv0 := hav 0 v _ hv O
      exact (Cv.rowf (σ := sto [.row sz xs]) h0 O I M w v hs hv0).agree (n := 0) (fun k hk => absurd hk (Nat.not_lt_zero k)) O
    | 1, hc' =>
      obtain rfl := Option.some.inj hc'
      exact (hav 1 v _ hv O).agree (n := 0) (fun k hk => absurd hk (Nat.not_lt_zero k)) hc
    | i + 2, hc' => cases hc'
  · rw [sto_nil]
    exact ⟨fun k => trivial, fun k k' b _ hb => (blkno hb).elim, hs.top, hs.tab⟩
  · rintro e w' ⟨cv, I', M', rfl, k1, k2, k3, k4, k5⟩
    have hss : ∀ k, sto [Res.no, Res.row sz2 ys] (k + 1) = sto [Res.row sz2 ys] k := fun k => by cases k <;> simp [sto]
    have hs0 : sto [Res.no, Res.row sz2 ys] 0 = .no := rfl
    refine ⟨cv, fun k => Nat.casesOn k (I 0) I', M', rfl, ?_, ⟨fun k => ?_, fun k k' b hne q1 q2 => ?_, k2.top, k2.tab⟩, fun k hk => ?_, ⟨k4.os, k4.tape, k4.output, fun k => ?_, k4.evo, fun b hb ho => k4.oth b hb fun ⟨k, hk⟩ => ?_⟩, fun k b hb => ?_⟩
    · cases k1
      constructor <;> assumption
    · cases k with
      | zero => rw [hs0]; trivial
      | succ k =>
        rw [hss]
        cases k with
        | zero => exact k2.own 0
        | succ k => trivial
    · cases k with
      | zero => rw [hs0] at q1; exact (blkno q1).elim
      | succ k =>
        cases k' with
        | zero => rw [hs0] at q2; exact (blkno q2).elim
        | succ k' =>
          rw [hss] at q1 q2
          exact k2.2 k k' b (fun h => hne (congrArg (· + 1) h)) q1 q2
    · cases k with
      | zero => simp at hk
      | succ k => exact k3 k (by simpa using hk)
    · cases k with
      | zero => exact CI.le_refl _
      | succ k =>
        have := hno (k + 1) (by simp)
        rw [this]
        exact k4.4 k
    · rw [sto_nil] at hk; exact (blkno hk).elim
    · cases k with
      | zero => rw [hs0] at hb; exact (blkno hb).elim
      | succ k =>
        rw [hss] at hb
        rcases k5 k b hb with q | ⟨k', q⟩
        · exact .inl q
        · rw [sto_nil] at q; exact (blkno q).elim
set_option maxHeartbeats 4000000 in
theorem rAppend_c (b x : List UInt8) (f g : Bool) (hb : b.length ≤ 100000) (hx : x.length ≤ 10000000) : ACalls Tryz.prog 27 [bsl b f, bsl x g] [] (.tup [bsl (apM b x).1 false, .v (.int .i64 (apM b x).2)]) [] := by
  have hA := jall_c b f (by omega)
  have hq := jr_last b
  rw [apM]
  generalize jr b 0 = R at hA hq
  obtain ⟨fs, n0, q, e0⟩ := R
  dsimp only at hA hq ⊢
  have hbl : (bsP b).length = b.length := by simp
  have hxl : (bsP x).length = x.length := by simp
  by_cases he : e0 = 0
  · subst he
    rw [if_neg (fun h => h O)]
    have d0 : ¬ ((0 : Int) ≠ 0) := fun h => h O
    by_cases hlim : 4096 < x.length ∨ 65536 < b.length + 10 + x.length
    · rw [if_pos hlim]
      refine (ACalls.of (fn := Tryz.f27) Tryz.func27 O O Tryz.ntmps27 (fun I M w own => ?_))
      (repeat' (first|refine AW.seq_k (fun K hK=>?_)|(refine hK _ ?_;clear hK)|refine AW.uC (fun hc=>?_) (fun hc=>?_)|refine AW.ret ?_|refine AW.skip ?_|exact trivial|refine AW.rI [0, 1, 2, 4, 5] O ?_|refine Run.cSA [] hA O O O O O O O O O O O O ?_|refine Ud ?_|fail))
      all_goals ((first|refine RetOk.tup O O ?_|refine RetOk.one O ?_)<;>(repeat' (first|exact V0|refine V1 ?_|refine V2 ?_ ?_|fail)))
    · rw [if_neg hlim]
      have hP := (rPut16R_c b false (bsP x).length (by omega) (by omega)).rowArgR O
      have hH := jhash_c q hq x g (by omega)
      have hZ := rPut64_c (b ++ (le x.length 2 ++ x)) false (fnvOf (le q 8 ++ (le x.length 2 ++ x))) (fnvOf_lt _) (by simp [le_length]; omega)
      generalize fnvOf (le q 8 ++ (le x.length 2 ++ x)) = F at hH hZ
      have e : bsP (b ++ (le x.length 2 ++ x)) = bsP (b ++ le (bsP x).length 2) ++ bsP x := by simp
      have hZ1 : ACalls Tryz.prog 64 [.sl 1 (bsP (b ++ le (bsP x).length 2) ++ bsP x) false, .v (.int .u64 (F : Int))] [] (bsl (b ++ (le x.length 2 ++ x) ++ le F 8) false) [] := by rw [← e]; exact hZ
      have hZ2 := ACalls.rowArg1 hZ1 O O
      have l1 : (le (bsP x).length 2).length = 2 := le_length _ _
      have l2 : (le x.length 2).length = 2 := le_length _ _
      refine (ACalls.of (fn := Tryz.f27) Tryz.func27 O O Tryz.ntmps27 (fun I M w own => ?_))
      (repeat' (first|refine AW.seq_k (fun K hK=>?_)|(refine hK _ ?_;clear hK)|refine AW.uC (fun hc=>?_) (fun hc=>?_)|refine AW.ret ?_|refine AW.skip ?_|exact trivial|refine AW.rI [0, 1, 2, 4, 6, 7] O ?_|refine Run.cSA [] hA O O O O O O O O O O O O ?_|refine Run.cSA [1] hP O O O O O O O O O O O O ?_|refine Run.c0 hH O O O O O O O O ?_|refine Run.cSA [2] hZ2 O O O O O O O O O O O O ?_|refine Ud ?_|fail))
      all_goals ((first|refine RetOk.tup O O ?_|refine RetOk.one O ?_)<;>(repeat' (first|exact V0|refine V1 ?_|refine V2 ?_ ?_|fail)))
  · rw [if_pos he]
    refine (ACalls.of (fn := Tryz.f27) Tryz.func27 O O Tryz.ntmps27 (fun I M w own => ?_))
    (repeat' (first|refine AW.seq_k (fun K hK=>?_)|(refine hK _ ?_;clear hK)|refine AW.uC (fun hc=>?_) (fun hc=>?_)|refine AW.ret ?_|exact trivial|refine AW.rI [0, 1, 2, 3] O ?_|refine Run.cSA [] hA O O O O O O O O O O O O ?_|refine Ud ?_|fail))
    all_goals ((first|refine RetOk.tup O O ?_|refine RetOk.one O ?_)<;>(repeat' (first|exact V0|refine V1 ?_|refine V2 ?_ ?_|fail)))
end Go.Proofs.YtbbcokckealagaaGreat
