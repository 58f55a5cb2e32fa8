/-
  Walks of the writer of rules: numbers of lists, parentheses, what one term of a condition is as a text.
-/
import Derived.Test.YtpacgphnpalepaaDoorQAA
import Derived.Test.YtpacgphnpalepaaDoorQBI
import Derived.Test.YtpacgphnpalepaaDoorQAO
import Derived.Test.YtpacgphnpalepaaDoorQBJ
import Derived.Test.YtpacgphnpalepaaDoorQAN
import Derived.Test.YtpacgphnpalepaaDoorIto
namespace Go.Proofs.YtpacgphnpalepaaDoor
set_option linter.unusedVariables false
set_option linter.unusedSimpArgs false
set_option maxHeartbeats 4000000 in
theorem IndexI_c (l : List Int) (f : Bool) (v : Int) (hl : l.length ≤ 9223372036854775807) : ∃ r : Int, (0 ≤ r ↔ v ∈ l) ∧ ACalls Tryd.prog 83 [.sl 1 (ivs l) f, .v (.int .i64 v)] [] (.v (.int .i64 r)) [] := by
  obtain ⟨r, hr⟩ : ∃ r : Int, ∀ j : Nat, (∀ i : Nat, i < j → ∀ x, l[i]? = some x → x ≠ v) → (l[j]? = some v → r = j) ∧ (j = l.length → r = -1) := by
    by_cases hm : v ∈ l
    · obtain ⟨j, hj, e⟩ := List.mem_iff_getElem.1 hm
      have hex : ∃ j, l[j]? = some v := ⟨j, by rw [List.getElem?_eq_getElem hj, e]⟩
      obtain ⟨k, hk, hmin⟩ := least_of hex
      refine ⟨k, fun i hi => ⟨fun hv => ?_, fun e => ?_⟩⟩
      · have := hmin i hv
        rcases Nat.lt_or_ge k i with q | q
        · exact absurd Z (hi k q v hk)
        · omega
      · exfalso
        exact hi k (by have := (List.getElem?_eq_some_iff.1 hk).1; omega) v hk Z
    · refine ⟨-1, fun i hi => ⟨fun hv => absurd (List.mem_of_getElem? hv) hm, fun _ => rfl⟩⟩
  have hiff : 0 ≤ r ↔ v ∈ l := by
    constructor
    · intro h0
      rcases Decidable.em (v ∈ l) with hm | hm
      · exact hm
      · have := (hr l.length (fun i _ x hx e => hm (e ▸ List.mem_of_getElem? hx))).2 Z
        omega
    · intro hm
      obtain ⟨j, hj, e⟩ := List.mem_iff_getElem.1 hm
      obtain ⟨k, hk, hmin⟩ := least_of (p := fun j => l[j]? = some v) ⟨j, by rw [List.getElem?_eq_getElem hj, e]⟩
      have := (hr k (fun i hi x hx e => by have := hmin i (by rw [hx, e]); omega)).1 hk
      omega
  refine ⟨r, hiff, ?_⟩
  refine (ACalls.of (fn := Tryd.f83) Tryd.func83 Z Z Tryd.ntmps83 (fun I M w own => ?_))
  (repeat' (first|refine AW.seq_k (fun K hK=>?_)|(refine hK _ ?_;clear hK)|refine AW.block ?_|refine AW.rI [0, 1] Z ?_|refine UA ?_|fail))
  refine AW.loopF (X := Nat) (fun x => ⟨[(0, .sl 1 (ivs l) f), (1, .v (.int .i64 v)), (7, .v (.int .i64 (l.length : Int))), (8, .v (.int .i64 (x : Int)))], []⟩)
    (fun j => j ≤ l.length ∧ ∀ i : Nat, i < j → ∀ x, l[i]? = some x → x ≠ v) (fun x => l.length - x) 0 ?_ ?_ ?_
  · refine Conv.mk [] Z Z Z ?_ Z ?_
    (repeat' (first|exact V0|refine V3 ?_|refine V2 ?_ ?_|fail))
    (all_goals (try (first|refine CvL.eq ?_|refine Cv.eq ?_)))
    all_goals simp [AV.ren]
  · exact ⟨Nat.zero_le _, fun i hi => by omega⟩
  · rintro j ⟨h1, h2⟩
    rcases Nat.lt_or_ge j l.length with h | h
    · have hA : At (ivs l) (j : Int) [PV.v (.int .i64 l[j])] := At.mk j Z (by simp [h])
      by_cases hv : v = l[j]
      · (repeat' (first|refine AW.seq_k (fun K hK=>?_)|(refine hK _ ?_;clear hK)|refine AW.uC (fun hc=>?_) (fun hc=>?_)|refine AW.block ?_|refine AW.ret ?_|refine AW.skip ?_|exact trivial|refine AW.rI [2, 3, 4, 5] Z ?_|refine Ud ?_|fail))
        all_goals first | (exfalso; omega) | skip
        obtain rfl := (hr j h2).1 (by rw [List.getElem?_eq_getElem h, hv])
        ((first|refine RetOk.tup Z Z ?_|refine RetOk.one Z ?_)<;>(repeat' (first|exact V0|refine V1 ?_|refine V2 ?_ ?_|fail)))
      · (repeat' (first|refine AW.seq_k (fun K hK=>?_)|(refine hK _ ?_;clear hK)|refine AW.uC (fun hc=>?_) (fun hc=>?_)|refine AW.block ?_|refine AW.skip ?_|exact trivial|refine AW.rI [2, 3, 4, 6] Z ?_|refine Ud ?_|fail))
        all_goals first | (exfalso; omega) | skip
        ((repeat (with_reducible refine inB_n ?_)); refine thenA_n ?_)
        refine ⟨j + 1, ⟨h, fun i hi x hx => ?_⟩, by omega, ?_⟩
        · rcases Nat.lt_or_ge i j with q | q
          · exact h2 i q x hx
          · obtain rfl : i = j := by omega
            rw [List.getElem?_eq_getElem h] at hx
            injection hx with hx
            subst hx; exact fun e => hv e.symm
        · refine Conv.mk [] Z Z Z ?_ Z ?_
          (repeat' (first|exact V0|refine V3 ?_|refine V2 ?_ ?_|fail))
          (all_goals (try (first|refine CvL.eq ?_|refine Cv.eq ?_)))
          all_goals simp [AV.ren]
    · obtain rfl := (hr j h2).2 (by omega)
      (repeat' (first|refine AW.seq_k (fun K hK=>?_)|(refine hK _ ?_;clear hK)|refine AW.uC (fun hc=>?_) (fun hc=>?_)|refine AW.exit ?_|refine AW.ret ?_|(clear hK;refine hK _ ?_;clear hK)|exact trivial|refine AW.rI [2, 7] Z ?_|refine UA ?_|fail))
      ((first|refine RetOk.tup Z Z ?_|refine RetOk.one Z ?_)<;>(repeat' (first|exact V0|refine V1 ?_|refine V2 ?_ ?_|fail)))
set_option maxHeartbeats 4000000 in
theorem ContainsI_c (l : List Int) (f : Bool) (v : Int) (hl : l.length ≤ 9223372036854775807) : ACalls Tryd.prog 77 [.sl 1 (ivs l) f, .v (.int .i64 v)] [] (.v (.bool (decide (v ∈ l)))) [] := by
  obtain ⟨r, h1, h2⟩ := IndexI_c l f v hl
  refine (ACalls.of (fn := Tryd.f77) Tryd.func77 Z Z Tryd.ntmps77 (fun I M w own => ?_))
  (repeat' (first|refine AW.seq_k (fun K hK=>?_)|(refine hK _ ?_;clear hK)|refine AW.ret ?_|refine AW.region ?_|refine Run.c0 h2 Z Z Z Z Z Z Z Z ?_|refine UA ?_|fail))
  ((first|refine RetOk.tup Z Z ?_|refine RetOk.one Z ?_)<;>(repeat' (first|exact V0|refine V1 ?_|refine V2 ?_ ?_|fail)))
  (all_goals (try (first|refine CvL.eq ?_|refine Cv.eq ?_)))
  all_goals (simp only [AV.ren, AV.v.injEq, Value.bool.injEq]; exact decide_eq_decide.2 h1)
set_option maxHeartbeats 4000000 in
theorem within_c (p : Pc) (l : List Int) (f : Bool) (hl : l.length ≤ 9223372036854775807) (hp : p.1.length ≤ 9223372036854775000) : ACalls Tryd.prog 65 [.agg [.v (.string (bs p.1)), .v (.int .i64 p.2)], .sl 1 (ivs l) f] [] (.v (.string (bs (aroundP p (decide (p.2 ∈ l)))))) [] := by
  have hC := ContainsI_c l f p.2 hl
  generalize decide (p.2 ∈ l) = b at hC
  cases b with
  | true =>
    refine (ACalls.of (fn := Tryd.f65) Tryd.func65 Z Z Tryd.ntmps65 (fun I M w own => ?_))
    (repeat' (first|refine AW.seq_k (fun K hK=>?_)|(refine hK _ ?_;clear hK)|refine AW.uC (fun hc=>?_) (fun hc=>?_)|refine AW.ret ?_|exact trivial|refine AW.rI [0, 1, 2] Z ?_|refine Run.c0 hC Z Z Z Z Z Z Z Z ?_|refine UA ?_|fail))
    ((first|refine RetOk.tupS [] Z Z Z Z Z ?_ ?_|refine RetOk.oneS [] Z Z Z Z ?_ ?_)<;>(repeat' (first|exact V0|refine V1 ?_|refine V2 ?_ ?_|fail)))
    all_goals (refine Cv.eq ?_; simp [aroundP, AV.ren, renL]; done)
  | false =>
    refine (ACalls.of (fn := Tryd.f65) Tryd.func65 Z Z Tryd.ntmps65 (fun I M w own => ?_))
    (repeat' (first|refine AW.seq_k (fun K hK=>?_)|(refine hK _ ?_;clear hK)|refine AW.uC (fun hc=>?_) (fun hc=>?_)|refine AW.ret ?_|refine AW.skip ?_|exact trivial|refine AW.rI [0, 1, 3] Z ?_|refine Run.c0 hC Z Z Z Z Z Z Z Z ?_|refine UA ?_|fail))
    ((first|refine RetOk.tupS [] Z Z Z Z Z ?_ ?_|refine RetOk.oneS [] Z Z Z Z ?_ ?_)<;>(repeat' (first|exact V0|refine V1 ?_|refine V2 ?_ ?_|fail)))
theorem in45 (p : Pc) : decide (p.2 ∈ [(4 : Int), 5]) = joinedP p := by simp [joinedP]
theorem in5 (p : Pc) : decide (p.2 ∈ [(5 : Int)]) = decide (p.2 = 5) := by simp
set_option maxHeartbeats 4000000 in
theorem write1_c (fs : Bool) (k : Int) (nm : Wd) (st : List Pc) (hk : arityF k = st.length) (hn : nm.length ≤ 100000000000000) (ht : ∀ p ∈ st, p.1.length ≤ 100000000000000) :
    ACalls Tryd.prog 64 [.agg [.v (.int .i64 k), .v (.string (bs nm))], .sl 2 (pcP st) fs] [] (.agg [.v (.string (bs (pieceP k nm st).1)), .v (.int .i64 (pieceP k nm st).2)]) [] := by
  have h2 : (pieceP k nm st).2 = k := by rw [pieceP]; split; rfl; split; rfl; split; rfl; split <;> rfl
  rw [h2]
  generalize hR : (pieceP k nm st).1 = R
  rw [pieceP] at hR
  rw [arityF] at hk
  by_cases h1 : k = 1
  · rw [if_pos h1] at hR
    simp only at hR
    refine (ACalls.of (fn := Tryd.f64) Tryd.func64 Z Z Tryd.ntmps64 (fun I M w own => ?_))
    (repeat' (first|refine AW.seq_k (fun K hK=>?_)|(refine hK _ ?_;clear hK)|refine AW.uC (fun hc=>?_) (fun hc=>?_)|refine AW.block ?_|refine AW.ret ?_|exact trivial|refine AW.rI [0, 1, 2, 3, 4, 13] Z ?_|refine Ud ?_|fail))
    ((first|refine RetOk.tupS [] Z Z Z Z Z ?_ ?_|refine RetOk.oneS [] Z Z Z Z ?_ ?_)<;>(repeat' (first|exact V0|refine V1 ?_|refine V2 ?_ ?_|fail)))
    all_goals (refine Cv.eq ?_; simp [← hR, AV.ren, renL]; done)
  rw [if_neg h1] at hR
  by_cases h2 : k = 2
  · rw [if_pos h2] at hR
    simp only at hR
    refine (ACalls.of (fn := Tryd.f64) Tryd.func64 Z Z Tryd.ntmps64 (fun I M w own => ?_))
    (repeat' (first|refine AW.seq_k (fun K hK=>?_)|(refine hK _ ?_;clear hK)|refine AW.uC (fun hc=>?_) (fun hc=>?_)|refine AW.block ?_|refine AW.ret ?_|exact trivial|refine AW.rI [0, 1, 2, 3, 5, 6, 13] Z ?_|refine Ud ?_|fail))
    ((first|refine RetOk.tupS [] Z Z Z Z Z ?_ ?_|refine RetOk.oneS [] Z Z Z Z ?_ ?_)<;>(repeat' (first|exact V0|refine V1 ?_|refine V2 ?_ ?_|fail)))
    all_goals (refine Cv.eq ?_; simp [← hR, AV.ren, renL]; done)
  rw [if_neg h2] at hR
  by_cases h3 : k = 3
  · rw [if_pos h3] at hR
    rw [if_neg (by omega), if_pos h3] at hk
    obtain ⟨a, rfl⟩ : ∃ a, st = [a] := List.length_eq_one_iff.1 (by omega)
    have hA : At (pcP [a]) (0 : Int) [PV.v (.string (bs a.1)), PV.v (.int .i64 a.2)] := At.mk 0 Z Z
    have la := ht a (by simp)
    have w1 : ACalls Tryd.prog 65 [.agg [.v (.string (bs a.1)), .v (.int .i64 a.2)], .sl 1 [[PV.v (.int .i64 4)], [PV.v (.int .i64 5)]] true] [] _ [] := within_c a [4, 5] true (by simp) (by omega)
    rw [in45] at w1
    have l1 := around_len a (joinedP a)
    simp only [List.getD_cons_zero] at hR
    generalize aroundP a (joinedP a) = A1 at w1 l1 hR
    refine (ACalls.of (fn := Tryd.f64) Tryd.func64 Z Z Tryd.ntmps64 (fun I M w own => ?_))
    (repeat' (first|refine AW.seq_k (fun K hK=>?_)|(refine hK _ ?_;clear hK)|refine AW.uC (fun hc=>?_) (fun hc=>?_)|refine AW.block ?_|refine AW.ret ?_|exact trivial|refine AW.rI [0, 1, 2, 3, 5, 7, 8, 13] Z ?_|refine Run.c0 w1 Z Z Z Z Z Z Z Z ?_|refine Ud ?_|fail))
    ((first|refine RetOk.tupS [] Z Z Z Z Z ?_ ?_|refine RetOk.oneS [] Z Z Z Z ?_ ?_)<;>(repeat' (first|exact V0|refine V1 ?_|refine V2 ?_ ?_|fail)))
    all_goals (refine Cv.eq ?_; simp [← hR, AV.ren, renL]; done)
  rw [if_neg h3] at hR
  have hk2 : st.length = 2 := by
    by_cases h4 : k = 4 ∨ k = 5
    · rw [if_neg (by omega), if_neg h3, if_pos h4] at hk; omega
    · rw [if_neg (by omega), if_neg h3, if_neg h4] at hk; omega
  obtain ⟨a, b, rfl⟩ : ∃ a b, st = [a, b] := len_two hk2
  have hA : At (pcP [a, b]) (0 : Int) [PV.v (.string (bs a.1)), PV.v (.int .i64 a.2)] := At.mk 0 Z Z
  have hA1 : At (pcP [a, b]) (1 : Int) [PV.v (.string (bs b.1)), PV.v (.int .i64 b.2)] := At.mk 1 Z Z
  have la := ht a (by simp)
  have lb := ht b (by simp)
  have w1 : ACalls Tryd.prog 65 [.agg [.v (.string (bs a.1)), .v (.int .i64 a.2)], .sl 1 [[PV.v (.int .i64 5)]] true] [] _ [] := within_c a [5] true (by simp) (by omega)
  have w2 : ACalls Tryd.prog 65 [.agg [.v (.string (bs b.1)), .v (.int .i64 b.2)], .sl 1 [[PV.v (.int .i64 4)], [PV.v (.int .i64 5)]] true] [] _ [] := within_c b [4, 5] true (by simp) (by omega)
  rw [in5] at w1
  rw [in45] at w2
  have l1 := around_len a (decide (a.2 = 5))
  have l2 := around_len b (joinedP b)
  simp only [List.getD_cons_zero, List.getD_cons_succ] at hR
  generalize aroundP b (joinedP b) = B1 at w2 l2 hR
  generalize aroundP a (decide (a.2 = 5)) = A1 at w1 l1 hR
  by_cases h4 : k = 4
  · rw [if_pos h4] at hR
    refine (ACalls.of (fn := Tryd.f64) Tryd.func64 Z Z Tryd.ntmps64 (fun I M w own => ?_))
    (repeat' (first|refine AW.seq_k (fun K hK=>?_)|(refine hK _ ?_;clear hK)|refine AW.uC (fun hc=>?_) (fun hc=>?_)|refine AW.block ?_|refine AW.ret ?_|exact trivial|refine AW.draw (id := 10) (by kernel_rfl) ?_|refine AW.rI [0, 1, 2, 3, 5, 7, 9, 13] Z ?_|refine Run.c0 w1 Z Z Z Z Z Z Z Z ?_|refine Run.c0 w2 Z Z Z Z Z Z Z Z ?_|refine Ud ?_|fail))
    ((first|refine RetOk.tupS [] Z Z Z Z Z ?_ ?_|refine RetOk.oneS [] Z Z Z Z ?_ ?_)<;>(repeat' (first|exact V0|refine V1 ?_|refine V2 ?_ ?_|fail)))
    all_goals (refine Cv.eq ?_; simp [← hR, AV.ren, renL]; done)
  rw [if_neg h4] at hR
  have h5 : k = 5 := by
    by_cases h5 : k = 5
    · exact h5
    · rw [if_neg (by omega), if_neg h3, if_neg (by omega)] at hk; omega
  refine (ACalls.of (fn := Tryd.f64) Tryd.func64 Z Z Tryd.ntmps64 (fun I M w own => ?_))
  (repeat' (first|refine AW.seq_k (fun K hK=>?_)|(refine hK _ ?_;clear hK)|refine AW.uC (fun hc=>?_) (fun hc=>?_)|refine AW.block ?_|refine AW.ret ?_|exact trivial|refine AW.draw (id := 12) (by kernel_rfl) ?_|refine AW.rI [0, 1, 2, 3, 5, 7, 9, 11, 13] Z ?_|refine Run.c0 w2 Z Z Z Z Z Z Z Z ?_|refine Ud ?_|fail))
  ((first|refine RetOk.tupS [] Z Z Z Z Z ?_ ?_|refine RetOk.oneS [] Z Z Z Z ?_ ?_)<;>(repeat' (first|exact V0|refine V1 ?_|refine V2 ?_ ?_|fail)))
  all_goals (refine Cv.eq ?_; simp [← hR, AV.ren, renL]; done)
theorem mem_tot : ∀ (st : List Pc), ∀ p ∈ st, p.1.length ≤ totP st
  | [], p, h => by simp at h
  | q :: r, p, h => by
    rw [totP]
    rcases List.mem_cons.1 h with rfl | h
    · omega
    · have := mem_tot r p h; omega
set_option maxHeartbeats 4000000 in
theorem foldT_c (f : Bool) (c : List Tm) (hc : c.length ≤ 16) (hn : ∀ t ∈ c, t.2.length ≤ 1099511627776) (hp : foldN 0 c = some 1) :
    ACalls Tryd.prog 63 [.sl 2 (tmP c) f, .fn 64 []] [] (.tup [.agg [.v (.string (bs ((foldP [] c).getD 0 ([], 0)).1)), .v (.int .i64 ((foldP [] c).getD 0 ([], 0)).2)], .v (.bool true)]) [] := by
  generalize hR : (foldP [] c).getD 0 ([], 0) = R
  have hcl : (tmP c).length = c.length := by simp
  have hb : ¬ ((tmP c).length : Int) > 16 := by omega
  refine (ACalls.of (fn := Tryd.f63) Tryd.func63 Z Z Tryd.ntmps63 (fun I M w own => ?_))
  (repeat' (first|refine AW.seq_k (fun K hK=>?_)|(refine hK _ ?_;clear hK)|refine AW.uC (fun hc=>?_) (fun hc=>?_)|refine AW.block ?_|refine AW.skip ?_|exact trivial|refine AW.rI [0, 1, 2, 3, 5] Z ?_|refine Ud ?_|fail))
  refine AW.loopF (X := Nat × List Pc) (fun x => ⟨[(0, .sl 2 (tmP c) f), (1, .fn 64 []), (4, .ptr 0 0), (6, .ptr 1 0), (7, .sl 2 (pcP x.2) false), (16, .sl 2 (tmP c) f), (17, .v (.int .i64 ((tmP c).length : Int))), (18, .v (.int .i64 (x.1 : Int)))], [.box [.v (.string (bs [])), .v (.int .i64 0)], .box [.v (.string (bs [])), .v (.int .i64 0)]]⟩)
    (fun x => x.1 ≤ c.length ∧ x.2.length ≤ x.1 ∧ totP x.2 ≤ 2199023255552 * x.1 ∧ foldN x.2.length (c.drop x.1) = some 1 ∧ foldP x.2 (c.drop x.1) = foldP [] c) (fun x => c.length - x.1) (0, []) ?_ ?_ ?_
  · refine Conv.mk [0, 1] Z Z Z ?_ Z ?_
    · (repeat' (first|exact V0|refine V3 ?_|refine V2 ?_ ?_|fail))
      all_goals first | rfl | exact Cv.slN _ | skip
    · (repeat' (first|exact V0|refine V3 ?_|refine V2 ?_ ?_|fail))
  · exact ⟨Nat.zero_le _, Nat.le_refl _, by simp [totP], hp, rfl⟩
  rintro ⟨j, st⟩ ⟨h1, h2, h3, h4, h5⟩
  simp only at h1 h2 h3 h4 h5 ⊢
  rcases Nat.lt_or_ge j c.length with h | h
  · obtain ⟨t, ht⟩ : ∃ t, c[j]? = some t := ⟨c[j], by simp [h]⟩
    have hdr : c.drop j = t :: c.drop (j + 1) := by
      rw [List.drop_eq_getElem_cons h]
      congr 1
      simpa [h] using ht
    have htm : t ∈ c := List.mem_of_getElem? ht
    have hnl := hn t htm
    have hA : At (tmP c) (j : Int) [PV.v (.int .i64 t.1), PV.v (.string (bs t.2))] := At.mk j Z (by simp [ht])
    have hlt : (j : Int) < ((tmP c).length : Int) := by omega
    rw [hdr] at h4 h5
    obtain ⟨k, nm⟩ := t
    simp only at hnl hA
    have hna := Name_c nm (by omega)
    have har := arity_c k
    rw [foldN] at h4
    split at h4
    · cases h4
    rename_i hbad
    obtain ⟨b1, b2, b3, b4⟩ := badT_false hbad
    simp only at h4 b1 b2 b3 b4
    rw [foldP] at h5
    simp only at h5
    have hst := foldP_tot 1099511627776 [(k, nm)] st _ (by simpa using hnl) (by rw [foldN, if_neg hbad, foldN])
    rw [foldP, foldP] at hst
    simp only [List.length_singleton] at hst
    have hsl : (pcP st).length = st.length := by simp
    generalize hak : arityF k = ar at har h4 h5 b1 b2 b3 b4 hst
    have e1 : ¬ ar < 0 := by omega
    have e2 : ¬ ((pcP st).length : Int) < ar := by omega
    have e5 : ((((pcP st).length : Nat) : Int) - ar).toNat = st.length - ar.toNat := by rw [hsl]; omega
    have hcall : ACalls Tryd.prog 64 [.agg [.v (.int .i64 k), .v (.string (bs nm))], .sl 2 ((pcP st).drop ((((pcP st).length : Nat) : Int) - ar).toNat) false] [] (.agg [.v (.string (bs (pieceP k nm (st.drop (st.length - ar.toNat))).1)), .v (.int .i64 (pieceP k nm (st.drop (st.length - ar.toNat))).2)]) [] := by
      rw [e5, ← List.map_drop]
      exact write1_c false k nm _ (by rw [hak, List.length_drop]; omega) (by omega) (fun p hp => by have := mem_tot st p (List.mem_of_mem_drop hp); omega)
    have hbl : ∀ p : Pc, (pcP st).take ((((pcP st).length : Nat) : Int) - ar).toNat ++ [[PV.v (.string (bs p.1)), PV.v (.int .i64 p.2)]] = pcP (st.take (st.length - ar.toNat) ++ [p]) := by
      intro p
      rw [e5, ← List.map_take]
      simp
    have hnl2 : ∀ p : Pc, (st.take (st.length - ar.toNat) ++ [p]).length ≤ j + 1 := by
      intro b
      simp only [List.length_append, List.length_take, List.length_cons, List.length_nil]
      omega
    have hlen : ∀ p : Pc, (st.take (st.length - ar.toNat) ++ [p]).length = st.length - ar.toNat + 1 := by
      intro b
      simp only [List.length_append, List.length_take, List.length_cons, List.length_nil]
      omega
    generalize pieceP k nm (st.drop (st.length - ar.toNat)) = p at hcall h5 hst
    by_cases hz : ar = 0
    · rw [b3 hz] at hna
      have e4 : ¬ 0 < ar := by omega
      (repeat' (first|refine AW.seq_k (fun K hK=>?_)|(refine hK _ ?_;clear hK)|refine AW.uC (fun hc=>?_) (fun hc=>?_)|refine AW.block ?_|refine AW.skip ?_|exact trivial|refine AW.draw (id := 12) (by kernel_rfl) ?_|refine AW.rI [6, 7, 8, 9, 11, 13] Z ?_|refine Run.c0 har Z Z Z Z Z Z Z Z ?_|refine Run.c0 hna Z Z Z Z Z Z Z Z ?_|refine Run.c0 hcall Z Z Z Z Z Z Z Z ?_|refine Ud ?_|fail))
      rw [hbl]
      ((repeat (with_reducible refine inB_n ?_)); refine thenA_n ?_)
      refine ⟨(j + 1, st.take (st.length - ar.toNat) ++ [p]), ⟨h, hnl2 _, by simp only; omega, by simp only; rw [hlen]; exact h4, h5⟩, by simp only; omega, ?_⟩
      refine Conv.mk [0, 1] Z Z Z ?_ Z ?_
      · (repeat' (first|exact V0|refine V3 ?_|refine V2 ?_ ?_|fail))
        all_goals first | rfl | (refine Cv.eq ?_; simp [AV.ren, renL]; done)
      · (repeat' (first|exact V0|refine V3 ?_|refine V2 ?_ ?_|fail))
    · have hnm := b4 (by omega)
      subst hnm
      have e4 : 0 < ar := by omega
      have e6 : ¬ (([] : List UInt8) ≠ []) := fun h => h Z
      (repeat' (first|refine AW.seq_k (fun K hK=>?_)|(refine hK _ ?_;clear hK)|refine AW.uC (fun hc=>?_) (fun hc=>?_)|refine AW.block ?_|refine AW.skip ?_|exact trivial|refine AW.draw (id := 12) (by kernel_rfl) ?_|refine AW.rI [6, 7, 8, 9, 11, 13] Z ?_|refine Run.c0 har Z Z Z Z Z Z Z Z ?_|refine Run.c0 hcall Z Z Z Z Z Z Z Z ?_|refine Ud ?_|fail))
      rw [hbl]
      ((repeat (with_reducible refine inB_n ?_)); refine thenA_n ?_)
      refine ⟨(j + 1, st.take (st.length - ar.toNat) ++ [p]), ⟨h, hnl2 _, by simp only; omega, by simp only; rw [hlen]; exact h4, h5⟩, by simp only; omega, ?_⟩
      refine Conv.mk [0, 1] Z Z Z ?_ Z ?_
      · (repeat' (first|exact V0|refine V3 ?_|refine V2 ?_ ?_|fail))
        all_goals first | rfl | (refine Cv.eq ?_; simp [AV.ren, renL]; done)
      · (repeat' (first|exact V0|refine V3 ?_|refine V2 ?_ ?_|fail))
  · have hj : c.drop j = [] := List.drop_eq_nil_of_le h
    rw [hj, foldN] at h4
    rw [hj, foldP] at h5
    have hone : st.length = 1 := by injection h4
    obtain ⟨b, rfl⟩ := List.length_eq_one_iff.1 hone
    rw [← h5] at hR
    simp only [List.getD_cons_zero] at hR
    subst hR
    have hA : At (pcP [b]) (0 : Int) [PV.v (.string (bs b.1)), PV.v (.int .i64 b.2)] := At.mk 0 Z Z
    have hone2 : ¬ (((pcP [b]).length : Int) ≠ 1) := fun h => h Z
    have hge : ¬ (j : Int) < ((tmP c).length : Int) := by omega
    (repeat' (first|refine AW.seq_k (fun K hK=>?_)|(refine hK _ ?_;clear hK)|refine AW.uC (fun hc=>?_) (fun hc=>?_)|refine AW.exit ?_|refine AW.ret ?_|refine AW.skip ?_|(clear hK;refine hK _ ?_;clear hK)|exact trivial|refine AW.rI [6, 14, 16] Z ?_|refine Ud ?_|fail))
    ((first|refine RetOk.tupS [] Z Z Z Z Z ?_ ?_|refine RetOk.oneS [] Z Z Z Z ?_ ?_)<;>(repeat' (first|exact V0|refine V1 ?_|refine V2 ?_ ?_|fail)))
set_option maxHeartbeats 4000000 in
theorem write_c (f : Bool) (c : List Tm) (hc : c.length ≤ 16) (hn : ∀ t ∈ c, t.2.length ≤ 1099511627776) (hp : foldN 0 c = some 1) : ACalls Tryd.prog 48 [.sl 2 (tmP c) f] [] (.v (.string (bs (condP c)))) [] := by
  have hf := foldT_c f c hc hn hp
  rw [condP]
  generalize (foldP [] c).getD 0 ([], 0) = p at hf
  refine (ACalls.of (fn := Tryd.f48) Tryd.func48 Z Z Tryd.ntmps48 (fun I M w own => ?_))
  (repeat' (first|refine AW.seq_k (fun K hK=>?_)|(refine hK _ ?_;clear hK)|refine AW.ret ?_|refine AW.region ?_|refine Run.c0 hf Z Z Z Z Z Z Z Z ?_|refine UA ?_|fail))
  ((first|refine RetOk.tupS [] Z Z Z Z Z ?_ ?_|refine RetOk.oneS [] Z Z Z Z ?_ ?_)<;>(repeat' (first|exact V0|refine V1 ?_|refine V2 ?_ ?_|fail)))
set_option maxHeartbeats 4000000 in
theorem line_c (f : Bool) (r : Ru) (hq : validF r = true) : ACalls Tryd.prog 23 [.agg (ruC r f)] [] (.v (.string (bs (lineP r)))) [] := by
  obtain ⟨v1, v2, v3, v4, v5, v6⟩ := valid_len hq
  obtain ⟨w1, w2⟩ := lineP_len hq
  generalize hR : lineP r = R
  rw [lineP] at hR
  obtain ⟨⟨k, ro, cl, pc⟩, co⟩ := r
  simp only at v1 v2 v3 v4 v5 v6 w1 w2 hR
  have hcol : (tmP co).length = co.length := by simp
  have hHd : ∃ g, g = headP ⟨k, ro, cl, pc⟩ := ⟨_, rfl⟩
  obtain ⟨g, hg⟩ := hHd
  rw [← hg] at w1 hR
  by_cases hco : co = []
  · have hz : ¬ ((tmP co).length : Int) > 0 := by rw [hco]; simp
    rw [tailP, if_pos hco] at hR
    rcases v3 with k1 | k2 | k3
    · subst k1
      have e1 : (1 : Int) = 1 := rfl
      obtain rfl : g = [114, 111, 117, 116, 101, 32] ++ ro ++ [32] ++ cl := by rw [hg]; rfl
      refine (ACalls.of (fn := Tryd.f23) Tryd.func23 Z Z Tryd.ntmps23 (fun I M w own => ?_))
      (repeat' (first|refine AW.seq_k (fun K hK=>?_)|(refine hK _ ?_;clear hK)|refine AW.uC (fun hc=>?_) (fun hc=>?_)|refine AW.block ?_|refine AW.ret ?_|refine AW.skip ?_|exact trivial|refine AW.rI [0, 1, 2, 3, 4, 9, 11] Z ?_|refine Ud ?_|fail))
      ((first|refine RetOk.tupS [] Z Z Z Z Z ?_ ?_|refine RetOk.oneS [] Z Z Z Z ?_ ?_)<;>(repeat' (first|exact V0|refine V1 ?_|refine V2 ?_ ?_|fail)))
      all_goals first | rfl | (refine Cv.eq ?_; simp [← hR, AV.ren, renL]; done)
    · subst k2
      have e1 : ¬ (2 : Int) = 1 := by decide
      have e2 : (2 : Int) = 2 := rfl
      obtain rfl : g = [100, 117, 99, 107, 32] ++ ro ++ [32] ++ Lib.itoa pc := by rw [hg]; rfl
      have hF := Format_c pc (by have := v4 Z; omega) (by have := v4 Z; omega)
      generalize Lib.itoa pc = u at hF w1 hR
      have wu : u.length ≤ 200 := by simp only [List.length_append, List.length_cons, List.length_nil] at w1; omega
      refine (ACalls.of (fn := Tryd.f23) Tryd.func23 Z Z Tryd.ntmps23 (fun I M w own => ?_))
      (repeat' (first|refine AW.seq_k (fun K hK=>?_)|(refine hK _ ?_;clear hK)|refine AW.uC (fun hc=>?_) (fun hc=>?_)|refine AW.block ?_|refine AW.ret ?_|refine AW.skip ?_|exact trivial|refine AW.draw (id := 6) (by kernel_rfl) ?_|refine AW.rI [0, 1, 2, 3, 5, 9, 11] Z ?_|refine Run.c0 hF Z Z Z Z Z Z Z Z ?_|refine Ud ?_|fail))
      ((first|refine RetOk.tupS [] Z Z Z Z Z ?_ ?_|refine RetOk.oneS [] Z Z Z Z ?_ ?_)<;>(repeat' (first|exact V0|refine V1 ?_|refine V2 ?_ ?_|fail)))
      all_goals first | rfl | (refine Cv.eq ?_; simp [← hR, AV.ren, renL]; done)
    · subst k3
      have e1 : ¬ (3 : Int) = 1 := by decide
      have e2 : ¬ (3 : Int) = 2 := by decide
      have e3 : (3 : Int) = 3 := rfl
      obtain rfl : g = [109, 117, 116, 101, 32] ++ ro := by rw [hg]; rfl
      refine (ACalls.of (fn := Tryd.f23) Tryd.func23 Z Z Tryd.ntmps23 (fun I M w own => ?_))
      (repeat' (first|refine AW.seq_k (fun K hK=>?_)|(refine hK _ ?_;clear hK)|refine AW.uC (fun hc=>?_) (fun hc=>?_)|refine AW.block ?_|refine AW.ret ?_|refine AW.skip ?_|exact trivial|refine AW.rI [0, 1, 2, 3, 5, 7, 8, 9, 11] Z ?_|refine Ud ?_|fail))
      ((first|refine RetOk.tupS [] Z Z Z Z Z ?_ ?_|refine RetOk.oneS [] Z Z Z Z ?_ ?_)<;>(repeat' (first|exact V0|refine V1 ?_|refine V2 ?_ ?_|fail)))
      all_goals first | rfl | (refine Cv.eq ?_; simp [← hR, AV.ren, renL]; done)
  · have hz : ((tmP co).length : Int) > 0 := by
      rw [hcol]
      cases co with
      | nil => exact absurd Z hco
      | cons a b => simp only [List.length_cons]; omega
    rw [tailP, if_neg hco] at hR w2
    have hcd := write_c f co v5 (fun t ht => by have := foldN_nm _ _ _ (v6 hco) t ht; omega) (v6 hco)
    generalize condP co = z at hcd w2 hR
    have wz : z.length ≤ 2000 := by simp only [List.length_append, List.length_cons, List.length_nil] at w2; omega
    rcases v3 with k1 | k2 | k3
    · subst k1
      have e1 : (1 : Int) = 1 := rfl
      obtain rfl : g = [114, 111, 117, 116, 101, 32] ++ ro ++ [32] ++ cl := by rw [hg]; rfl
      refine (ACalls.of (fn := Tryd.f23) Tryd.func23 Z Z Tryd.ntmps23 (fun I M w own => ?_))
      (repeat' (first|refine AW.seq_k (fun K hK=>?_)|(refine hK _ ?_;clear hK)|refine AW.uC (fun hc=>?_) (fun hc=>?_)|refine AW.block ?_|refine AW.ret ?_|exact trivial|refine AW.rI [0, 1, 2, 3, 4, 9, 10, 11] Z ?_|refine Run.c0 hcd Z Z Z Z Z Z Z Z ?_|refine Ud ?_|fail))
      ((first|refine RetOk.tupS [] Z Z Z Z Z ?_ ?_|refine RetOk.oneS [] Z Z Z Z ?_ ?_)<;>(repeat' (first|exact V0|refine V1 ?_|refine V2 ?_ ?_|fail)))
      all_goals first | rfl | (refine Cv.eq ?_; simp [← hR, AV.ren, renL]; done)
    · subst k2
      have e1 : ¬ (2 : Int) = 1 := by decide
      have e2 : (2 : Int) = 2 := rfl
      obtain rfl : g = [100, 117, 99, 107, 32] ++ ro ++ [32] ++ Lib.itoa pc := by rw [hg]; rfl
      have hF := Format_c pc (by have := v4 Z; omega) (by have := v4 Z; omega)
      generalize Lib.itoa pc = u at hF w1 hR
      have wu : u.length ≤ 200 := by simp only [List.length_append, List.length_cons, List.length_nil] at w1; omega
      refine (ACalls.of (fn := Tryd.f23) Tryd.func23 Z Z Tryd.ntmps23 (fun I M w own => ?_))
      (repeat' (first|refine AW.seq_k (fun K hK=>?_)|(refine hK _ ?_;clear hK)|refine AW.uC (fun hc=>?_) (fun hc=>?_)|refine AW.block ?_|refine AW.ret ?_|exact trivial|refine AW.draw (id := 6) (by kernel_rfl) ?_|refine AW.rI [0, 1, 2, 3, 5, 9, 10, 11] Z ?_|refine Run.c0 hF Z Z Z Z Z Z Z Z ?_|refine Run.c0 hcd Z Z Z Z Z Z Z Z ?_|refine Ud ?_|fail))
      ((first|refine RetOk.tupS [] Z Z Z Z Z ?_ ?_|refine RetOk.oneS [] Z Z Z Z ?_ ?_)<;>(repeat' (first|exact V0|refine V1 ?_|refine V2 ?_ ?_|fail)))
      all_goals first | rfl | (refine Cv.eq ?_; simp [← hR, AV.ren, renL]; done)
    · subst k3
      have e1 : ¬ (3 : Int) = 1 := by decide
      have e2 : ¬ (3 : Int) = 2 := by decide
      have e3 : (3 : Int) = 3 := rfl
      obtain rfl : g = [109, 117, 116, 101, 32] ++ ro := by rw [hg]; rfl
      refine (ACalls.of (fn := Tryd.f23) Tryd.func23 Z Z Tryd.ntmps23 (fun I M w own => ?_))
      (repeat' (first|refine AW.seq_k (fun K hK=>?_)|(refine hK _ ?_;clear hK)|refine AW.uC (fun hc=>?_) (fun hc=>?_)|refine AW.block ?_|refine AW.ret ?_|exact trivial|refine AW.rI [0, 1, 2, 3, 5, 7, 8, 9, 10, 11] Z ?_|refine Run.c0 hcd Z Z Z Z Z Z Z Z ?_|refine Ud ?_|fail))
      ((first|refine RetOk.tupS [] Z Z Z Z Z ?_ ?_|refine RetOk.oneS [] Z Z Z Z ?_ ?_)<;>(repeat' (first|exact V0|refine V1 ?_|refine V2 ?_ ?_|fail)))
      all_goals first | rfl | (refine Cv.eq ?_; simp [← hR, AV.ren, renL]; done)
end Go.Proofs.YtpacgphnpalepaaDoor
