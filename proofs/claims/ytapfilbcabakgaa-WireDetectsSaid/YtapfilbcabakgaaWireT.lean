/-
  Walks of the texts of package wire and of its reference.
-/
import Derived.Test.YtapfilbcabakgaaWireW
namespace Go.Proofs.Ytapfilbcabakgaa
set_option linter.unusedVariables false
open Go.ChangeShapes Go.WideShapes Go.ChangeAt Go.RowKit
theorem u8str : Try.prog.underlying 5 = some (.int .u8) := by kernel_rfl
theorem len1 (s : ByteArray) (h : s.size ≤ 64) : (s.size : Int) = ((UInt8.ofNat s.size).toNat : Int) := by
  simp; omega

set_option maxHeartbeats 400000 in
theorem PutText_in (A : Option Addr) (c n : Nat) (l : List UInt8) (s : ByteArray) (w : World) (B : Nat) (hB : B ≤ w.heap.size) (hr : Rd w B 1 A n (bv l)) (hn : n ≤ 140737488351232) (hs : s.size ≤ 64) :
    Calls Try.prog 14 #[.slice A n c, .string s] w fun e w' => ∃ A' c', e = .returned (.tuple #[.slice A' (n + (1 + s.size)) c', .int .i64 0]) ∧ OwB w w' A' (n + (1 + s.size)) c' (putT l s.data.toList) := by
  go_enter Try.func14, Try.ntmps14
  go_wp2_with (first | (at_make; refine Held.out ?_) | (at_builtin; refine Held.out ?_))
  refine ⟨?_⟩
  refine wpList_mk0 _ rfl _ _ 22 rfl sl8 (Below.refl _ _) (n + 1 + s.size) rfl rfl (by omega) (by omega) (by simp only [maxLen]; omega) (Nat.le_refl _) ?_
  intro A1 w1 own1 bel1 sz1
  go_wp2_with (first | (at_make; refine Held.out ?_) | (at_builtin; refine Held.out ?_))
  refine ⟨?_⟩
  refine wpList_apb _ rfl _ _ 22 rfl sl8 bel1 rfl own1 rfl ((hr.more hB).below bel1) (bv_one _) (by omega) (by simp only [maxLen]; omega) sz1 ?_
  intro A2 c2 w2 own2 bel2 sz2
  simp only [Nat.zero_add, List.nil_append] at own2
  clear own1 sz1 bel1 hr
  have sz3 := bel2.size
  go_wp2_with (first | (at_make; refine Held.out ?_) | (at_builtin; refine Held.out ?_))
  refine ⟨?_⟩
  refine wpList_ap1 _ rfl _ _ 22 rfl sl8 bel2 rfl own2 rfl rfl (by simp [Value.oneCell']) (by omega) (by simp only [maxLen]; omega) sz3 ?_
  intro A3 c3 w3 own3 bel3 sz4
  clear own2 bel2 sz3
  have sz5 := bel3.size
  rw [show bv l ++ #[Value.int IntKind.u8 (s.size : Int)].toList = bv (l ++ [UInt8.ofNat s.size]) by rw [len1 s hs, bv_append]; rfl] at own3
  go_wp2_with (first | (at_make; refine Held.out ?_) | (at_builtin; refine Held.out ?_))
  refine ⟨?_⟩
  refine wpList_aps _ rfl _ _ 22 9 rfl sl8 Try.underlying9 bel3 rfl own3 rfl (by omega) sz5 ?_
  intro A4 c4 w4 own4 bel4 sz6
  clear own3 bel3 sz5
  go_wp2_with (first | (at_make; refine Held.out ?_) | (at_builtin; refine Held.out ?_))
  go_ret2
  have el : putT l s.data.toList = l ++ [UInt8.ofNat s.size] ++ s.data.toList := by
    unfold putT; rw [List.append_assoc]; simp
  refine ⟨A4, c4, by rw [← Nat.add_assoc]; rfl, ?_⟩
  unfold OwB
  rw [el, ← Nat.add_assoc]
  exact ⟨own4, bel4⟩
theorem PutText_out (A : Option Addr) (c n : Nat) (s : ByteArray) (w : World) (hs : 64 < s.size) (hs2 : s.size ≤ maxLen) :
    Calls Try.prog 14 #[.slice A n c, .string s] w fun e w' => e = .returned (.tuple #[.slice none 0 0, .int .i64 3]) ∧ w = w' := by
  unfold maxLen at hs2
  go_enter Try.func14, Try.ntmps14
  go_wp2_with (first | (at_make; refine Held.out ?_) | (at_builtin; refine Held.out ?_))
  go_ret2
  exact ⟨rfl, rfl⟩

set_option maxHeartbeats 400000 in
theorem rPutText_in (A : Option Addr) (c n : Nat) (l : List UInt8) (s : ByteArray) (w : World) (B : Nat) (hB : B ≤ w.heap.size) (hr : Rd w B 1 A n (bv l)) (hn : n ≤ 140737488351232) (hs : s.size ≤ 64) :
    Calls Try.prog 15 #[.slice A n c, .string s] w fun e w' => ∃ A' c', e = .returned (.tuple #[.slice A' (n + (1 + s.size)) c', .int .i64 0]) ∧ OwB w w' A' (n + (1 + s.size)) c' (putT l s.data.toList) := by
  have hw : IntKind.u64.wrap (s.size : Int) = s.size := IntWalk.u64_in _ (by omega)
  go_enter Try.func15, Try.ntmps15
  go_wp2_with (first | (at_make; refine Held.out ?_) | (at_builtin; refine Held.out ?_))
  refine (rput_n A c n l s.size 1 w B hB hr hn (by omega)).mono ?_
  rintro e w1 ⟨A1, c1, rfl, hb1⟩
  have own1 := hb1.1
  have bel1 := hb1.2
  have sz1 := bel1.size
  go_wp2_with (first | (at_make; refine Held.out ?_) | (at_builtin; refine Held.out ?_))
  refine ⟨?_⟩
  refine wpList_aps _ rfl _ _ 22 9 rfl sl8 Try.underlying9 bel1 rfl own1 rfl (by omega) sz1 ?_
  intro A4 c4 w4 own4 bel4 sz6
  go_wp2_with (first | (at_make; refine Held.out ?_) | (at_builtin; refine Held.out ?_))
  go_ret2
  have el : putT l s.data.toList = l ++ le s.size 1 ++ s.data.toList := by
    unfold putT
    have : s.size % 256 = s.size := by omega
    simp [le, this]
  refine ⟨A4, c4, by rw [← Nat.add_assoc]; rfl, ?_⟩
  unfold OwB
  rw [el, ← Nat.add_assoc]
  exact ⟨own4, bel4⟩

theorem rPutText_out (A : Option Addr) (c n : Nat) (s : ByteArray) (w : World) (hs : 64 < s.size) (hs2 : s.size ≤ maxLen) :
    Calls Try.prog 15 #[.slice A n c, .string s] w fun e w' => e = .returned (.tuple #[.slice none 0 0, .int .i64 3]) ∧ w = w' := by
  unfold maxLen at hs2
  go_enter Try.func15, Try.ntmps15
  go_wp2_with (first | (at_make; refine Held.out ?_) | (at_builtin; refine Held.out ?_))
  go_ret2
  exact ⟨rfl, rfl⟩
theorem str_len (s : ByteArray) : s.data.toList.length = s.size := by rw [Array.length_toList]; rfl
theorem PutText_c (A : Option Addr) (c n : Nat) (l : List UInt8) (s : ByteArray) (w : World) (B : Nat) (hB : B ≤ w.heap.size) (hr : Rd w B 1 A n (bv l)) (hn : n ≤ 140737488351232) (hs2 : s.size ≤ maxLen) :
    Calls Try.prog 14 #[.slice A n c, .string s] w fun e w' => ∃ A' c', e = .returned (.tuple #[.slice A' (ptM l s.data.toList).1.length c', .int .i64 (ptM l s.data.toList).2]) ∧ OwB w w' A' (ptM l s.data.toList).1.length c' (ptM l s.data.toList).1 := by
  by_cases h : 64 < s.size
  · rw [ptM_out _ _ (by rw [str_len]; exact h)]
    exact (PutText_out A c n s w h hs2).mono fun e w' ⟨he, hw⟩ => ⟨none, 0, he, by subst hw; exact ⟨World.ownsRow_nil _ _ _ _, Below.refl _ _⟩⟩
  · have hl : (putT l s.data.toList).length = n + (1 + s.size) := by rw [putT_length, str_len, hr.blen]
    rw [ptM_in _ _ (by rw [str_len]; exact h)]
    simp only [hl]
    exact PutText_in A c n l s w B hB hr hn (by omega)

theorem rPutText_c (A : Option Addr) (c n : Nat) (l : List UInt8) (s : ByteArray) (w : World) (B : Nat) (hB : B ≤ w.heap.size) (hr : Rd w B 1 A n (bv l)) (hn : n ≤ 140737488351232) (hs2 : s.size ≤ maxLen) :
    Calls Try.prog 15 #[.slice A n c, .string s] w fun e w' => ∃ A' c', e = .returned (.tuple #[.slice A' (ptM l s.data.toList).1.length c', .int .i64 (ptM l s.data.toList).2]) ∧ OwB w w' A' (ptM l s.data.toList).1.length c' (ptM l s.data.toList).1 := by
  by_cases h : 64 < s.size
  · rw [ptM_out _ _ (by rw [str_len]; exact h)]
    exact (rPutText_out A c n s w h hs2).mono fun e w' ⟨he, hw⟩ => ⟨none, 0, he, by subst hw; exact ⟨World.ownsRow_nil _ _ _ _, Below.refl _ _⟩⟩
  · have hl : (putT l s.data.toList).length = n + (1 + s.size) := by rw [putT_length, str_len, hr.blen]
    rw [ptM_in _ _ (by rw [str_len]; exact h)]
    simp only [hl]
    exact rPutText_in A c n l s w B hB hr hn (by omega)
set_option maxHeartbeats 400000 in
theorem GetText_c (A : Option Addr) (c n : Nat) (l : List UInt8) (a : Int) (w : World) (B : Nat) (hr : Rd w B 1 A n (bv l)) (hn : n ≤ 140737488351232) (hnc : n ≤ c) :
    Calls Try.prog 23 #[.slice A n c, .int .i64 a] w fun e w' => e = .returned (.tuple #[.string ⟨(textM l a).1.toArray⟩, .int .i64 (textM l a).2.1, .int .i64 (textM l a).2.2]) ∧ w = w' := by
  have hl := hr.blen
  by_cases h1 : a < 0 ∨ (n : Int) < a
  · rw [textM_out l a (by omega)]
    clear hr
    rcases h1 with h1 | h1
    · go_enter Try.func23, Try.ntmps23
      go_wp2_with (first | (at_make; refine Held.out ?_) | (at_builtin; refine Held.out ?_))
      go_ret3
      exact ⟨rfl, rfl⟩
    · have h2 : ¬ a < 0 := by omega
      go_enter Try.func23, Try.ntmps23
      go_wp2_with (first | (at_make; refine Held.out ?_) | (at_builtin; refine Held.out ?_))
      go_ret3
      exact ⟨rfl, rfl⟩
  · obtain ⟨a, rfl⟩ := Int.eq_ofNat_of_zero_le (show 0 ≤ a by omega)
    by_cases h2 : a = n
    · have e : a = l.length := by omega
      rw [e, textM_end l, ← e]
      subst h2
      clear hr hl e
      go_enter Try.func23, Try.ntmps23
      go_wp2_with (first | (at_make; refine Held.out ?_) | (at_builtin; refine Held.out ?_))
      go_ret3
      exact ⟨rfl, rfl⟩
    · have h3 : ¬ n < a := by omega
      have h4 : a < n := by omega
      obtain ⟨b, off, rfl⟩ := hr.some_ (by omega)
      have hc := hr.byte a (by omega)
      have H := Lib.hid (textM_at l a (by omega))
      have hcl := (l[a]'(by omega)).toNat_lt
      generalize hx : (l[a]'(by omega)).toNat = x at *
      have Hx := Lib.hid hx
      clear hx
      by_cases h5 : 64 < x
      · rw [H.out, if_pos h5]
        clear hr
        go_enter Try.func23, Try.ntmps23
        go_wp2_with (first | (at_make; refine Held.out ?_) | (at_builtin; refine Held.out ?_))
        go_ret3
        exact ⟨rfl, rfl⟩
      · by_cases h6 : (n : Int) - a - 1 < x
        · rw [H.out, if_neg h5, if_pos (by omega)]
          clear hr
          go_enter Try.func23, Try.ntmps23
          go_wp2_with (first | (at_make; refine Held.out ?_) | (at_builtin; refine Held.out ?_))
          go_ret3
          exact ⟨rfl, rfl⟩
        · rw [H.out, if_neg h5, if_neg (by omega)]
          go_enter Try.func23, Try.ntmps23
          go_wp2_with (first | (at_make; refine Held.out ?_) | (at_builtin; refine Held.out ?_) | (refine hold_slice ?_) | (refine hold_conv (s := 22) (t := 9) ?_))
          refine ⟨?_⟩
          refine wpList_cut _ rfl _ _ _ _ rfl sl8 rfl hr hnc (a + 1) (a + 1 + x) (.inl ⟨_, rfl, by omega⟩) (.inl ⟨_, rfl, by omega⟩) (by omega) (by omega) ?_
          intro A1 hr1 hc1
          rw [show a + 1 + x - (a + 1) = x by omega] at hr1 ⊢
          simp only [Nat.mul_one] at hr1
          have hr2 : Rd w B 1 A1 x (bv (seg l (a + 1) x)) := by
            unfold seg bv
            rw [List.map_take, List.map_drop]
            exact hr1
          clear hr hr1 hc
          go_wp2_with (first | (at_make; refine Held.out ?_) | (at_builtin; refine Held.out ?_) | (refine hold_slice ?_) | (refine hold_conv (s := 22) (t := 9) ?_))
          refine ⟨?_⟩
          refine wpList_b2s _ rfl _ _ _ _ rfl Try.underlying22 u8str Try.underlying9 rfl hr2 ?_
          go_wp2_with (first | (at_make; refine Held.out ?_) | (at_builtin; refine Held.out ?_) | (refine hold_slice ?_) | (refine hold_conv (s := 22) (t := 9) ?_))
          go_ret3
          exact ⟨rfl, rfl⟩

set_option maxHeartbeats 400000 in
theorem rGetText_c (A : Option Addr) (c n : Nat) (l : List UInt8) (a : Int) (w : World) (B : Nat) (hr : Rd w B 1 A n (bv l)) (hn : n ≤ 140737488351232) (hnc : n ≤ c) :
    Calls Try.prog 29 #[.slice A n c, .int .i64 a] w fun e w' => e = .returned (.tuple #[.string ⟨(textM l a).1.toArray⟩, .int .i64 (textM l a).2.1, .int .i64 (textM l a).2.2]) ∧ w = w' := by
  have hl := hr.blen
  have hG := Lib.hid (rget_a A c n l a 1 w B hr hn (by omega) (by omega))
  by_cases h1 : a < 0 ∨ (n : Int) < a
  · rw [textM_out l a (by omega)]
    rw [getM_out l a 1 (by omega)] at hG
    clear hr hl
    go_enter Try.func29, Try.ntmps29
    go_wp2_with (first | (at_make; refine Held.out ?_) | (at_builtin; refine Held.out ?_))
    refine hG.out.mono ?_
    rintro e w' ⟨rfl, rfl⟩
    go_wp2_with (first | (at_make; refine Held.out ?_) | (at_builtin; refine Held.out ?_))
    go_ret3
    exact ⟨rfl, rfl⟩
  · obtain ⟨a, rfl⟩ := Int.eq_ofNat_of_zero_le (show 0 ≤ a by omega)
    by_cases h2 : a = n
    · have e : a = l.length := by omega
      rw [getM_short l a 1 (by omega) (by omega)] at hG
      rw [e, textM_end l, ← e]
      subst h2
      clear hr hl e
      go_enter Try.func29, Try.ntmps29
      go_wp2_with (first | (at_make; refine Held.out ?_) | (at_builtin; refine Held.out ?_))
      refine hG.out.mono ?_
      rintro e w' ⟨rfl, rfl⟩
      go_wp2_with (first | (at_make; refine Held.out ?_) | (at_builtin; refine Held.out ?_))
      go_ret3
      exact ⟨rfl, rfl⟩
    · have h3 : ¬ n < a := by omega
      have h4 : a < n := by omega
      have H := Lib.hid (textM_at l a (by omega))
      have hcl := (l[a]'(by omega)).toNat_lt
      rw [getM_in l a 1 (by omega), seg_cons l a 0 (by omega), seg_zero, unle, unle, Nat.mul_zero, Nat.add_zero] at hG
      generalize hx : (l[a]'(by omega)).toNat = x at *
      have Hx := Lib.hid hx
      clear hx
      by_cases h5 : 64 < x
      · rw [H.out, if_pos h5]
        clear hr
        go_enter Try.func29, Try.ntmps29
        go_wp2_with (first | (at_make; refine Held.out ?_) | (at_builtin; refine Held.out ?_))
        refine hG.out.mono ?_
        rintro e w' ⟨rfl, rfl⟩
        go_wp2_with (first | (at_make; refine Held.out ?_) | (at_builtin; refine Held.out ?_))
        go_ret3
        exact ⟨rfl, rfl⟩
      · have hw : IntKind.u64.wrap ((n : Int) - ((a : Int) + 1)) = n - (a + 1) := IntWalk.u64_in _ (by omega)
        have hwx : IntKind.i64.wrap (x : Int) = x := IntWalk.i64_in _ (by omega)
        by_cases h6 : (n : Int) - (a + 1) < x
        · rw [H.out, if_neg h5, if_pos (by omega)]
          clear hr
          go_enter Try.func29, Try.ntmps29
          go_wp2_with (first | (at_make; refine Held.out ?_) | (at_builtin; refine Held.out ?_))
          refine hG.out.mono ?_
          rintro e w' ⟨rfl, rfl⟩
          go_wp2_with (first | (at_make; refine Held.out ?_) | (at_builtin; refine Held.out ?_))
          go_ret3
          exact ⟨rfl, rfl⟩
        · rw [H.out, if_neg h5, if_neg (by omega)]
          go_enter Try.func29, Try.ntmps29
          go_wp2_with (first | (at_make; refine Held.out ?_) | (at_builtin; refine Held.out ?_))
          refine hG.out.mono ?_
          rintro e w' ⟨rfl, rfl⟩
          go_wp2_with (first | (at_make; refine Held.out ?_) | (at_builtin; refine Held.out ?_) | (refine hold_slice ?_) | (refine hold_conv (s := 22) (t := 9) ?_))
          refine ⟨?_⟩
          refine wpList_cut _ rfl _ _ _ _ rfl sl8 rfl hr hnc (a + 1) (a + 1 + x) (.inl ⟨_, rfl, by omega⟩) (.inl ⟨_, rfl, by omega⟩) (by omega) (by omega) ?_
          intro A1 hr1 hc1
          rw [show a + 1 + x - (a + 1) = x by omega] at hr1 ⊢
          simp only [Nat.mul_one] at hr1
          have hr2 : Rd w B 1 A1 x (bv (seg l (a + 1) x)) := by
            unfold seg bv
            rw [List.map_take, List.map_drop]
            exact hr1
          clear hr hr1
          go_wp2_with (first | (at_make; refine Held.out ?_) | (at_builtin; refine Held.out ?_) | (refine hold_slice ?_) | (refine hold_conv (s := 22) (t := 9) ?_))
          refine ⟨?_⟩
          refine wpList_b2s _ rfl _ _ _ _ rfl Try.underlying22 u8str Try.underlying9 rfl hr2 ?_
          go_wp2_with (first | (at_make; refine Held.out ?_) | (at_builtin; refine Held.out ?_) | (refine hold_slice ?_) | (refine hold_conv (s := 22) (t := 9) ?_))
          go_ret3
          exact ⟨rfl, rfl⟩
end Go.Proofs.Ytapfilbcabakgaa
