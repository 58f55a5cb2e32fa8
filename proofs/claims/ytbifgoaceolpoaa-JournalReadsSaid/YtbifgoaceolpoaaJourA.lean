/-
  Walks of Append and Repair of package journal and of its reference, and of Same.
-/
import Derived.Test.YtbifgoaceolpoaaJourW
namespace Go.Proofs.Ytbifgoaceolpoaa
set_option linter.unusedVariables false
set_option linter.unusedSimpArgs false
open Go.ChangeShapes Go.WideShapes Go.ChangeAt Go.RowKit
theorem apM_err {b x : List UInt8} {q1 : List (List UInt8)} {q2 q3 : Nat} {q4 : Int} (h : J b 0 = (q1, q2, q3, q4)) (h0 : q4 ≠ 0) : apM b x = ([], q4) := by
  unfold apM; rw [h]; rw [if_pos h0]
theorem apM_lim {b x : List UInt8} {q1 : List (List UInt8)} {q2 q3 : Nat} (h : J b 0 = (q1, q2, q3, 0)) (h0 : 4096 < x.length ∨ 65536 < b.length + 10 + x.length) : apM b x = ([], 3) := by
  unfold apM; rw [h]; rw [if_neg (by simp), if_pos h0]
theorem apM_ok {b x : List UInt8} {q1 : List (List UInt8)} {q2 q3 : Nat} (h : J b 0 = (q1, q2, q3, 0)) (h0 : x.length ≤ 4096) (h1 : b.length + 10 + x.length ≤ 65536) :
    apM b x = (b ++ (le x.length 2 ++ x) ++ le (fnvOf (le q3 8 ++ (le x.length 2 ++ x))) 8, 0) := by
  unfold apM; rw [h]; rw [if_neg (by simp), if_neg (by omega)]
set_option maxRecDepth 100000 in
set_option maxHeartbeats 1000000 in
theorem jAppend_c (A A' : Option Addr) (c n c' m : Nat) (b x : List UInt8) (w : World) (hr : Rd w w.heap.size 1 A n (bv b)) (hnc : n ≤ c) (hn : n ≤ 1099511627776) (hx : Rd w w.heap.size 1 A' m (bv x)) (hm : m ≤ 1099511627776) :
    Calls Try.prog 9 #[.slice A n c, .slice A' m c'] w fun e w' => ∃ A1 c1, e = .returned (.tuple #[.slice A1 (apM b x).1.length c1, .int .i64 (apM b x).2]) ∧ OwB w w' A1 (apM b x).1.length c1 (apM b x).1 := by
  have hbl := hr.blen
  have hxl := hx.blen
  have H := Lib.hid (jread_c A c n b w hr hnc hn)
  obtain ⟨⟨q1, q2, q3, q4⟩, hQ⟩ : ∃ Q, J b 0 = Q := ⟨_, rfl⟩
  have HQ := Lib.hid hQ
  rw [hQ] at H
  clear hQ
  by_cases h0 : q4 = 0
  · subst h0
    by_cases h1 : 4096 < m
    · have ha := Lib.hid (apM_lim (x := x) HQ.out (.inl (by omega)))
      rw [ha.out]
      go_enter Try.func9, Try.ntmps9
      go_wp2_with (first | (at_make; refine Held.out ?_) | (at_builtin; refine Held.out ?_))
      refine H.out.mono ?_
      rintro e w1 ⟨A1, c1, rfl, vs, own, each, bel⟩
      go_wp2_with (first | (at_make; refine Held.out ?_) | (at_builtin; refine Held.out ?_))
      go_ret2
      exact ⟨none, 0, rfl, World.ownsRow_nil _ _ _ _, bel⟩
    · by_cases h2 : 65536 < n + 10 + m
      · have ha := Lib.hid (apM_lim (x := x) HQ.out (.inr (by omega)))
        rw [ha.out]
        go_enter Try.func9, Try.ntmps9
        go_wp2_with (first | (at_make; refine Held.out ?_) | (at_builtin; refine Held.out ?_))
        refine H.out.mono ?_
        rintro e w1 ⟨A1, c1, rfl, vs, own, each, bel⟩
        go_wp2_with (first | (at_make; refine Held.out ?_) | (at_builtin; refine Held.out ?_))
        go_ret2
        exact ⟨none, 0, rfl, World.ownsRow_nil _ _ _ _, bel⟩
      · rw [apM_ok (x := x) HQ.out (by omega) (by omega)]
        have hw : IntKind.u16.wrap (m : Int) = m := IntWalk.u16_in _ (by omega)
        have HS := Lib.hid (fun A c n w hr hn => jsum_c A c n (le m 2 ++ x) q3 w hr hn)
        rw [hxl]
        have Hbl := Lib.hid hbl
        have Hxl := Lib.hid hxl
        clear hbl hxl
        generalize fnvOf (le q3 8 ++ (le m 2 ++ x)) = F at *
        go_enter Try.func9, Try.ntmps9
        go_wp2_with (first | (at_make; refine Held.out ?_) | (at_builtin; refine Held.out ?_))
        refine H.out.mono ?_
        rintro e w1 ⟨A1, c1, rfl, vs, own, each, bel⟩
        clear own each
        have hr1 := hr.nx bel
        have hx1 := hx.nx bel
        go_wp2_with (first | (at_make; refine Held.out ?_) | (at_builtin; refine Held.out ?_))
        refine (Put16_c none 0 0 [] m w1 w1.heap.size (Nat.le_refl _) (Rd.nil _ _ _ _) (by omega) (by omega)).mono ?_
        rintro e w2 ⟨A2, c2, rfl, own2, bel2⟩
        rw [Int.toNat_natCast, List.nil_append] at own2
        have hx2 := hx1.nx bel2
        go_wp2_with (first | (at_make; refine Held.out ?_) | (at_builtin; refine Held.out ?_))
        refine ⟨?_⟩
        refine wpList_apb _ rfl _ _ 23 rfl sl8 bel2 rfl own2 rfl hx2 (bv_one _) (by omega) (by simp only [maxLen]; omega) bel2.size ?_
        intro A3 c3 w3 own3 bel3 sz3
        rw [← bv_append] at own3
        have r3 := Rd.own own3
        have k3 := own_cap own3
        have hr3 := hr1.nx bel3
        have bel := below_nx bel bel.size bel3
        clear own2 bel2 hx2 own3 bel3 hr1 hx1 sz3
        go_wp2_with (first | (at_make; refine Held.out ?_) | (at_builtin; refine Held.out ?_))
        have el : (le m 2 ++ x).length = 2 + m := by rw [List.length_append, le_length, Hxl.out]
        have two := EachR.two (l := b) (m := le m 2 ++ x) (c := c) (c' := c3) (A := A) (A' := A3) (by rw [Hbl.out]; exact hnc) (by rw [el]; omega) (by rw [Hbl.out]; exact hr3) (by rw [el]; simpa using r3)
        rw [Hbl.out, el] at two
        have ef : [b, le m 2 ++ x].flatten = b ++ (le m 2 ++ x) := by simp
        have efl : [b, le m 2 ++ x].flatten.length = n + (2 + m) := by rw [ef, List.length_append, Hbl.out, el]
        have HC := Lib.hid (fun W hr he => Concat8_c (some ⟨w3.heap.size, 0, none⟩) 2 2 [Value.slice A n c, Value.slice A3 (2 + m) c3] [b, le m 2 ++ x] W hr he (by rw [efl]; omega) (by omega))
        rw [efl, ef] at HC
        refine (HC.out _ (Rd.litS w3 _ _ 2 1 rfl) (two.nx (below_alloc w3 _))).mono ?_
        rintro e w4 ⟨A4, c4, rfl, own4, bel4⟩
        have r4 := (r3.nx (below_alloc w3 _)).nx bel4
        have o4 := Rd.own own4
        have bel := below_nx (bel.alloc bel.size _) (Nat.le_trans bel.size (by simp)) bel4
        clear two HC r3 hr3 own4 bel4
        go_wp2_with (first | (at_make; refine Held.out ?_) | (at_builtin; refine Held.out ?_))
        refine (HS.out _ _ _ _ r4 (by omega)).mono ?_
        rintro e w5 ⟨rfl, bel5⟩
        have o5 := o4.nx bel5
        have bel := below_nx bel bel.size bel5
        clear r4 o4 bel5 HS
        go_wp2_with (first | (at_make; refine Held.out ?_) | (at_builtin; refine Held.out ?_))
        refine (Put64_c _ _ _ _ F w5 _ (Nat.le_refl _) o5 (by omega) (by omega)).mono ?_
        rintro e w6 ⟨A6, c6, rfl, own6, bel6⟩
        rw [Int.toNat_natCast] at own6
        have bel7 := below_nx bel bel.size bel6
        go_wp2_with (first | (at_make; refine Held.out ?_) | (at_builtin; refine Held.out ?_))
        go_ret2
        have eL : (b ++ (le m 2 ++ x) ++ le F 8).length = n + (2 + m) + 8 := by rw [List.length_append, List.length_append, el, Hbl.out, le_length]
        rw [eL]
        exact ⟨A6, c6, rfl, own_mono own6 bel.size, bel7⟩
  · rw [apM_err (x := x) HQ.out h0]
    have h0' : (q4 != 0) = true := by rw [bne_iff_ne]; exact h0
    go_enter Try.func9, Try.ntmps9
    go_wp2_with (first | (at_make; refine Held.out ?_) | (at_builtin; refine Held.out ?_))
    refine H.out.mono ?_
    rintro e w1 ⟨A1, c1, rfl, vs, own, each, bel⟩
    go_wp2_with (first | (at_make; refine Held.out ?_) | (at_builtin; refine Held.out ?_))
    go_ret2
    exact ⟨none, 0, rfl, World.ownsRow_nil _ _ _ _, bel⟩
set_option maxRecDepth 100000 in
set_option maxHeartbeats 1000000 in
theorem rAppend_c (A A' : Option Addr) (c n c' m : Nat) (b x : List UInt8) (w : World) (hr : Rd w w.heap.size 1 A n (bv b)) (hnc : n ≤ c) (hn : n ≤ 1099511627776) (hx : Rd w w.heap.size 1 A' m (bv x)) (hm : m ≤ 1099511627776) :
    Calls Try.prog 10 #[.slice A n c, .slice A' m c'] w fun e w' => ∃ A1 c1, e = .returned (.tuple #[.slice A1 (apM b x).1.length c1, .int .i64 (apM b x).2]) ∧ OwB w w' A1 (apM b x).1.length c1 (apM b x).1 := by
  have hbl := hr.blen
  have hxl := hx.blen
  have H := Lib.hid (rall_c A c n b w hr hnc hn)
  have hlast := Lib.hid (J_last b)
  obtain ⟨⟨q1, q2, q3, q4⟩, hQ⟩ : ∃ Q, J b 0 = Q := ⟨_, rfl⟩
  have HQ := Lib.hid hQ
  rw [hQ] at H hlast
  clear hQ
  by_cases h0 : q4 = 0
  · subst h0
    by_cases h1 : 4096 < m
    · have ha := Lib.hid (apM_lim (x := x) HQ.out (.inl (by omega)))
      rw [ha.out]
      go_enter Try.func10, Try.ntmps10
      go_wp2_with (first | (at_make; refine Held.out ?_) | (at_builtin; refine Held.out ?_))
      refine H.out.mono ?_
      rintro e w1 ⟨A1, c1, rfl, vs, own, each, bel⟩
      go_wp2_with (first | (at_make; refine Held.out ?_) | (at_builtin; refine Held.out ?_))
      go_ret2
      exact ⟨none, 0, rfl, World.ownsRow_nil _ _ _ _, bel⟩
    · by_cases h2 : 65536 < n + 10 + m
      · have ha := Lib.hid (apM_lim (x := x) HQ.out (.inr (by omega)))
        rw [ha.out]
        have h2' : (65536 : Int) < (n : Int) + m + 10 := by omega
        go_enter Try.func10, Try.ntmps10
        go_wp2_with (first | (at_make; refine Held.out ?_) | (at_builtin; refine Held.out ?_))
        refine H.out.mono ?_
        rintro e w1 ⟨A1, c1, rfl, vs, own, each, bel⟩
        go_wp2_with (first | (at_make; refine Held.out ?_) | (at_builtin; refine Held.out ?_))
        go_ret2
        exact ⟨none, 0, rfl, World.ownsRow_nil _ _ _ _, bel⟩
      · rw [apM_ok (x := x) HQ.out (by omega) (by omega)]
        have hw : IntKind.u16.wrap (m : Int) = m := IntWalk.u16_in _ (by omega)
        have HS := Lib.hid (fun A c w hr => rhash_c A c m x q3 hlast.out w hr (by omega))
        rw [List.append_assoc] at HS
        have HF := Lib.hid (fnvOf_lt (le q3 8 ++ (le m 2 ++ x)))
        rw [hxl]
        have Hbl := Lib.hid hbl
        have Hxl := Lib.hid hxl
        clear hbl hxl
        generalize fnvOf (le q3 8 ++ (le m 2 ++ x)) = F at *
        go_enter Try.func10, Try.ntmps10
        go_wp2_with (first | (at_make; refine Held.out ?_) | (at_builtin; refine Held.out ?_))
        refine H.out.mono ?_
        rintro e w1 ⟨A1, c1, rfl, vs, own, each, bel⟩
        clear own each
        have hr1 := hr.nx bel
        have hx1 := hx.nx bel
        go_wp2_with (first | (at_make; refine Held.out ?_) | (at_builtin; refine Held.out ?_))
        refine ⟨?_⟩
        refine wpList_apb _ rfl _ _ 23 rfl sl8 (below_alloc w1 _) rfl (World.ownsRow_lit w1 #[] 0 (Nat.le_refl _) (by simp only [maxLen]; omega) rfl) rfl (hr1.alloc (Nat.le_refl _) _) (bv_one _) (by omega) (by simp only [maxLen]; omega) (by simp) ?_
        intro A2 c2 w2 own2 bel2 sz2
        simp only [Nat.zero_add, List.nil_append] at own2
        have hx2 := hx1.nx bel2
        have o2 := Rd.own own2
        have bel := below_nx bel bel.size bel2
        clear own2 bel2 hx1 hr1 sz2
        go_wp2_with (first | (at_make; refine Held.out ?_) | (at_builtin; refine Held.out ?_))
        refine (rPut16_c _ _ _ _ m w2 _ (Nat.le_refl _) o2 (by omega) (by omega) (by omega)).mono ?_
        rintro e w3 ⟨A3, c3, rfl, own3, bel3⟩
        rw [Int.toNat_natCast] at own3
        have hx3 := hx2.nx bel3
        have bel3' := below_nx bel bel.size bel3
        clear o2 hx2
        go_wp2_with (first | (at_make; refine Held.out ?_) | (at_builtin; refine Held.out ?_))
        refine ⟨?_⟩
        refine wpList_apb _ rfl _ _ 23 rfl sl8 (Below.refl w2.heap.size w3) rfl own3 rfl hx3 (bv_one _) (by omega) (by simp only [maxLen]; omega) bel3.size ?_
        intro A4 c4 w4 own4 bel4 sz4
        rw [← bv_append] at own4
        have o4 := Rd.own own4
        have bel4' := bel3'.trans (bel4.mono bel.size)
        have hx4 : Rd w4 w4.heap.size 1 A' m (bv x) := (hx.below bel4').more bel4'.size
        clear own3 bel3 bel3' own4 bel4 sz4 hx3 bel
        go_wp2_with (first | (at_make; refine Held.out ?_) | (at_builtin; refine Held.out ?_))
        refine (HS.out _ _ _ hx4).mono ?_
        rintro e w5 ⟨rfl, bel5⟩
        have o5 := o4.nx bel5
        have bel6 := below_nx bel4' bel4'.size bel5
        clear hx4 o4 bel5 HS
        go_wp2_with (first | (at_make; refine Held.out ?_) | (at_builtin; refine Held.out ?_))
        refine (rPut64_c _ _ _ _ F w5 _ (Nat.le_refl _) o5 (by omega) (by omega) (by have := HF.out; omega)).mono ?_
        rintro e w6 ⟨A6, c6, rfl, own6, bel7⟩
        rw [Int.toNat_natCast] at own6
        have bel8 := below_nx bel6 bel6.size bel7
        go_wp2_with (first | (at_make; refine Held.out ?_) | (at_builtin; refine Held.out ?_))
        go_ret2
        have eL : (b ++ (le m 2 ++ x) ++ le F 8).length = n + 2 + m + 8 := by simp only [List.length_append, Hbl.out, Hxl.out, le_length]; omega
        rw [eL]
        rw [List.append_assoc b] at own6
        exact ⟨A6, c6, rfl, own_mono own6 bel6.size, bel8⟩
  · rw [apM_err (x := x) HQ.out h0]
    have h0' : (q4 != 0) = true := by rw [bne_iff_ne]; exact h0
    go_enter Try.func10, Try.ntmps10
    go_wp2_with (first | (at_make; refine Held.out ?_) | (at_builtin; refine Held.out ?_))
    refine H.out.mono ?_
    rintro e w1 ⟨A1, c1, rfl, vs, own, each, bel⟩
    go_wp2_with (first | (at_make; refine Held.out ?_) | (at_builtin; refine Held.out ?_))
    go_ret2
    exact ⟨none, 0, rfl, World.ownsRow_nil _ _ _ _, bel⟩
set_option maxRecDepth 100000 in
theorem jRepair_c (A : Option Addr) (c n : Nat) (b : List UInt8) (w : World) (hr : Rd w w.heap.size 1 A n (bv b)) (hnc : n ≤ c) (hn : n ≤ 1099511627776) :
    Calls Try.prog 14 #[.slice A n c] w fun e w' => ∃ A1 c1, e = .returned (.slice A1 (J b 0).2.1 c1) ∧ OwB w w' A1 (J b 0).2.1 c1 (b.take (J b 0).2.1) := by
  have H := Lib.hid (jread_c A c n b w hr hnc hn)
  have hle := J_len b
  have hbl := hr.blen
  generalize J b 0 = Q at *
  obtain ⟨q1, q2, q3, q4⟩ := Q
  simp only at hle
  go_enter Try.func14, Try.ntmps14
  go_wp2_with (first | (at_make; refine Held.out ?_) | (at_builtin; refine Held.out ?_) | (refine hold_slice ?_))
  refine H.out.mono ?_
  rintro e w1 ⟨A1, c1, rfl, vs, own, each, bel⟩
  have hr1 := hr.nx bel
  clear own each
  go_wp2_with (first | (at_make; refine Held.out ?_) | (at_builtin; refine Held.out ?_) | (refine hold_slice ?_))
  refine ⟨?_⟩
  refine wpList_cutb _ rfl _ _ _ _ rfl sl8 rfl hr1 hnc 0 q2 q2 (.inr ⟨rfl, rfl⟩) (.inl ⟨_, rfl, by omega⟩) (by omega) (by omega) ?_
  intro A3 hr3 hc3
  go_wp2_with (first | (at_make; refine Held.out ?_) | (at_builtin; refine Held.out ?_) | (refine hold_slice ?_))
  refine (Clone8_c A3 _ q2 (seg b 0 q2) w1 hr3 (by omega)).mono ?_
  rintro e w2 ⟨A2, c2, rfl, own2, bel2⟩
  go_wp2_with (first | (at_make; refine Held.out ?_) | (at_builtin; refine Held.out ?_) | (refine hold_slice ?_))
  go_ret
  exact ⟨A2, c2, rfl, own_mono own2 bel.size, below_nx bel bel.size bel2⟩
set_option maxRecDepth 100000 in
theorem rRepair_c (A : Option Addr) (c n : Nat) (b : List UInt8) (w : World) (hr : Rd w w.heap.size 1 A n (bv b)) (hnc : n ≤ c) (hn : n ≤ 1099511627776) :
    Calls Try.prog 15 #[.slice A n c] w fun e w' => ∃ A1 c1, e = .returned (.slice A1 (J b 0).2.1 c1) ∧ OwB w w' A1 (J b 0).2.1 c1 (b.take (J b 0).2.1) := by
  have H := Lib.hid (rall_c A c n b w hr hnc hn)
  have hle := J_len b
  have hbl := hr.blen
  generalize J b 0 = Q at *
  obtain ⟨q1, q2, q3, q4⟩ := Q
  simp only at hle
  go_enter Try.func15, Try.ntmps15
  go_wp2_with (first | (at_make; refine Held.out ?_) | (at_builtin; refine Held.out ?_) | (refine hold_slice ?_))
  refine H.out.mono ?_
  rintro e w1 ⟨A1, c1, rfl, vs, own, each, bel⟩
  have hr1 := hr.nx bel
  clear own each
  go_wp2_with (first | (at_make; refine Held.out ?_) | (at_builtin; refine Held.out ?_) | (refine hold_slice ?_))
  refine ⟨?_⟩
  refine wpList_cutb _ rfl _ _ _ _ rfl sl8 rfl (hr1.alloc (Nat.le_refl _) _) hnc 0 q2 q2 (.inr ⟨rfl, rfl⟩) (.inl ⟨_, rfl, by omega⟩) (by omega) (by omega) ?_
  intro A3 hr3 hc3
  go_wp2_with (first | (at_make; refine Held.out ?_) | (at_builtin; refine Held.out ?_) | (refine hold_slice ?_))
  refine ⟨?_⟩
  refine wpList_apb _ rfl _ _ 23 rfl sl8 (below_alloc w1 _) rfl (World.ownsRow_lit w1 #[] 0 (Nat.le_refl _) (by simp only [maxLen]; omega) rfl) rfl hr3 (bv_one _) (by omega) (by simp only [maxLen]; omega) (by simp) ?_
  intro A2 c2 w2 own2 bel2 sz2
  simp only [Nat.zero_add, List.nil_append] at own2
  go_wp2_with (first | (at_make; refine Held.out ?_) | (at_builtin; refine Held.out ?_) | (refine hold_slice ?_))
  go_ret
  exact ⟨A2, c2, rfl, own_mono own2 bel.size, below_nx bel bel.size bel2⟩
end Go.Proofs.Ytbifgoaceolpoaa
