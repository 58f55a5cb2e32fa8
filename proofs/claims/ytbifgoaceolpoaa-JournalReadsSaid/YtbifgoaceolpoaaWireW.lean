/-
  Walks of package wire and of its reference: each call returns what the plain functions compute; new memory apart nothing turns.
-/
import Derived.Test.YtbifgoaceolpoaaRows
import Derived.Test.YtbifgoaceolpoaaWireP
namespace Go.Proofs.Ytbifgoaceolpoaa
set_option linter.unusedVariables false
open Go.ChangeShapes Go.WideShapes Go.ChangeAt Go.RowKit
theorem u8str : Try.prog.underlying 5 = some (.int .u8) := by kernel_rfl
theorem str_len (s : ByteArray) : s.data.toList.length = s.size := by rw [Array.length_toList]; rfl
theorem sl8 : SlT Try.prog 23 5 1 1 (.int .u8 0) := ⟨Try.underlying23, by kernel_rfl, rfl, by decide⟩
/-- a slice of bytes that is new since world w -/
def OwB (w w' : World) (A : Option Addr) (n c : Nat) (l : List UInt8) : Prop := w'.ownsRow w.heap.size 5 1 (.slice A n c) n (bv l) ∧ Below w.heap.size w w'


set_option maxHeartbeats 400000 in
theorem put16_n (A : Option Addr) (c n : Nat) (l : List UInt8) (x : Nat) (w : World) (B : Nat) (hB : B ≤ w.heap.size) (hr : Rd w B 1 A n (bv l)) (hn : n ≤ 140737488351232) :
    Calls Try.prog 31 #[.slice A n c, .int .u16 x, .int .i64 2] w fun e w' => ∃ A' c', e = .returned (.slice A' (n + 2) c') ∧ OwB w w' A' (n + 2) c' (l ++ le x 2) := by
  go_enter Try.func31, Try.ntmps31
  go_wp2_with (first | (at_make; refine Held.out ?_) | (at_builtin; refine Held.out ?_))
  refine ⟨?_⟩
  refine wpList_mk0 _ rfl _ _ 23 rfl sl8 (Below.refl _ _) (n + 2) rfl rfl (by omega) (by omega) (by simp only [maxLen]; omega) (Nat.le_refl _) ?_
  intro A1 w1 own1 bel1 sz1
  go_wp2_with (first | (at_make; refine Held.out ?_) | (at_builtin; refine Held.out ?_))
  refine ⟨?_⟩
  refine wpList_apb _ rfl _ _ 23 rfl sl8 bel1 rfl own1 rfl ((hr.more hB).below bel1) (bv_one _) (by omega) (by simp only [maxLen]; omega) sz1 ?_
  intro A2 c2 w2 own2 bel2 sz2
  simp only [Nat.zero_add, List.nil_append] at own2
  clear own1 sz1 bel1 hr
  go_wp2_with (first | (at_make; refine Held.out ?_) | (at_builtin; refine Held.out ?_))
  go_loopw [7, 1, 16] (fun v y i wr => ∃ (k : Nat) (A' : Option Addr) (c' : Nat), k ≤ 2 ∧ i = .int .i64 k ∧ y = .int .u16 ((x / 256 ^ k : Nat) : Int) ∧ v = .slice A' (n + k) c' ∧
      wr.ownsRow w.heap.size 5 1 (.slice A' (n + k) c') (n + k) (bv (l ++ le x k)) ∧ Below w.heap.size w wr) (fun _ _ i _ => 2 - (intOf i).toNat)
  case atStart => exact ⟨0, A2, c2, by omega, rfl, by simp, by simp, by simpa [le] using own2, bel2⟩
  case round =>
    clear own2 sz2 bel2
    obtain ⟨k, A', c', hk, rfl, rfl, rfl, own, bel⟩ := hrel
    have hs := bel.size
    by_cases hlt : k < 2
    · go_wp2_with (first | (at_make; refine Held.out ?_) | (at_builtin; refine Held.out ?_))
      refine ⟨?_⟩
      refine wpList_ap1 _ rfl _ _ 23 rfl sl8 bel rfl own rfl rfl (by simp [Value.oneCell']) (by omega) (by simp only [maxLen]; omega) hs ?_
      intro A3 c3 w3 own3 bel3 sz3
      go_wp2_with (first | (at_make; refine Held.out ?_) | (at_builtin; refine Held.out ?_))
      refine ⟨⟨k + 1, A3, c3, by omega, by go_num, by rw [pow_step], rfl, by rw [← bv_le_snoc]; exact own3, bel3⟩, by simp [intOf]; omega⟩
    · go_wp2_with (first | (at_make; refine Held.out ?_) | (at_builtin; refine Held.out ?_))
      go_ret
      have : k = 2 := by omega
      subst this
      exact ⟨_, _, rfl, own, bel⟩
theorem Put16_c (A : Option Addr) (c n : Nat) (l : List UInt8) (x : Int) (w : World) (B : Nat) (hB : B ≤ w.heap.size) (hr : Rd w B 1 A n (bv l)) (hn : n ≤ 140737488351232) (hx : 0 ≤ x) :
    Calls Try.prog 19 #[.slice A n c, .int .u16 x] w fun e w' => ∃ A' c', e = .returned (.slice A' (n + 2) c') ∧ OwB w w' A' (n + 2) c' (l ++ le x.toNat 2) := by
  obtain ⟨x, rfl⟩ := Int.eq_ofNat_of_zero_le hx
  rw [Int.toNat_natCast]
  go_enter Try.func19, Try.ntmps19
  go_wp2_with (first | (at_make; refine Held.out ?_) | (at_builtin; refine Held.out ?_))
  refine (put16_n A c n l x w B hB hr hn).mono ?_
  rintro e w' ⟨A', c', rfl, hb⟩
  go_wp2_with (first | (at_make; refine Held.out ?_) | (at_builtin; refine Held.out ?_))
  go_ret
  exact ⟨A', c', rfl, hb⟩
set_option maxHeartbeats 400000 in
theorem get16_in (A : Option Addr) (c n : Nat) (l : List UInt8) (at_ : Nat) (w : World) (B : Nat) (hr : Rd w B 1 A n (bv l)) (hn : n ≤ 140737488351232) (h : at_ + 2 ≤ n) :
    Calls Try.prog 39 #[.slice A n c, .int .i64 at_, .int .i64 2] w fun e w' => e = .returned (.tuple #[.int .u16 (unle (seg l at_ 2) : Nat), .int .i64 (at_ + 2), .int .i64 0]) ∧ w = w' := by
  obtain ⟨b, off, rfl⟩ := hr.some_ (by omega)
  have hl := hr.blen
  go_enter Try.func39, Try.ntmps39
  go_wp2_with (first | (at_make; refine Held.out ?_) | (at_builtin; refine Held.out ?_))
  go_loop [9, 10, 28] (fun v _ i => ∃ (k : Nat), k ≤ 2 ∧ i = .int .i64 k ∧ v = .int .u16 (unle (seg l at_ k) : Nat)) (fun _ _ i => 2 - (intOf i).toNat)
  case atStart => exact ⟨0, by omega, rfl, rfl⟩
  case round =>
    obtain ⟨k, hk, rfl, rfl⟩ := hrel
    by_cases hlt : k < 2
    · have hc := hr.byte (at_ + k) (by omega)
      have hlt' := unle_lt (seg l at_ k)
      rw [seg_length l at_ k (by omega)] at hlt'
      have hst := Lib.hid (unle_snoc (seg l at_ k) (l[at_ + k]'(by omega)))
      clear hr
      generalize hv : unle (seg l at_ k) = r at *
      have Hv := Lib.hid hv
      clear hv
      go_wp2_with (first | (at_make; refine Held.out ?_) | (at_builtin; refine Held.out ?_))
      refine ⟨⟨k + 1, by omega, by go_num, ?_⟩, by simp [intOf]; omega⟩
      rw [or16 r k _ hlt' hlt, seg_snoc l at_ k (by omega), hst.out, seg_length l at_ k (by omega)]
    · go_wp2_with (first | (at_make; refine Held.out ?_) | (at_builtin; refine Held.out ?_))
      have : k = 2 := by omega
      subst this
      go_ret3
      exact ⟨rfl, rfl⟩
theorem get16_a (A : Option Addr) (c n : Nat) (l : List UInt8) (a : Int) (w : World) (B : Nat) (hr : Rd w B 1 A n (bv l)) (hn : n ≤ 140737488351232) :
    Calls Try.prog 39 #[.slice A n c, .int .i64 a, .int .i64 2] w fun e w' => e = .returned (.tuple #[.int .u16 ((getM l a 2).1 : Nat), .int .i64 (getM l a 2).2.1, .int .i64 (getM l a 2).2.2]) ∧ w = w' := by
  have hl := hr.blen
  by_cases h1 : a < 0 ∨ (n : Int) < a
  · rw [getM_out l a 2 (by omega)]
    clear hr
    rcases h1 with h1 | h1
    · go_enter Try.func39, Try.ntmps39
      go_wp2_with (first | (at_make; refine Held.out ?_) | (at_builtin; refine Held.out ?_))
      go_ret3
      exact ⟨rfl, rfl⟩
    · have h2 : ¬ a < 0 := by omega
      go_enter Try.func39, Try.ntmps39
      go_wp2_with (first | (at_make; refine Held.out ?_) | (at_builtin; refine Held.out ?_))
      go_ret3
      exact ⟨rfl, rfl⟩
  · obtain ⟨at_, rfl⟩ := Int.eq_ofNat_of_zero_le (show 0 ≤ a by omega)
    by_cases h2 : at_ + 2 ≤ n
    · rw [getM_in l at_ 2 (by omega)]
      exact get16_in A c n l at_ w B hr hn h2
    · rw [getM_short l at_ 2 (by omega) (by omega)]
      clear hr
      have h3 : ¬ n < at_ := by omega
      have h4 : (n : Int) - at_ < 2 := by omega
      go_enter Try.func39, Try.ntmps39
      go_wp2_with (first | (at_make; refine Held.out ?_) | (at_builtin; refine Held.out ?_))
      go_ret3
      exact ⟨rfl, rfl⟩
theorem Get16_c (A : Option Addr) (c n : Nat) (l : List UInt8) (a : Int) (w : World) (B : Nat) (hr : Rd w B 1 A n (bv l)) (hn : n ≤ 140737488351232) :
    Calls Try.prog 29 #[.slice A n c, .int .i64 a] w fun e w' => e = .returned (.tuple #[.int .u16 ((getM l a 2).1 : Nat), .int .i64 (getM l a 2).2.1, .int .i64 (getM l a 2).2.2]) ∧ w = w' := by
  generalize hg : getM l a 2 = g at *
  have Hg := Lib.hid hg
  clear hg
  go_enter Try.func29, Try.ntmps29
  go_wp2_with (first | (at_make; refine Held.out ?_) | (at_builtin; refine Held.out ?_))
  refine (get16_a A c n l a w B hr hn).mono ?_
  rw [Hg.out]
  rintro e w' ⟨rfl, rfl⟩
  go_wp2_with (first | (at_make; refine Held.out ?_) | (at_builtin; refine Held.out ?_))
  go_ret3
  exact ⟨rfl, rfl⟩




set_option maxHeartbeats 400000 in
theorem put64_n (A : Option Addr) (c n : Nat) (l : List UInt8) (x : Nat) (w : World) (B : Nat) (hB : B ≤ w.heap.size) (hr : Rd w B 1 A n (bv l)) (hn : n ≤ 140737488351232) :
    Calls Try.prog 32 #[.slice A n c, .int .u64 x, .int .i64 8] w fun e w' => ∃ A' c', e = .returned (.slice A' (n + 8) c') ∧ OwB w w' A' (n + 8) c' (l ++ le x 8) := by
  go_enter Try.func32, Try.ntmps32
  go_wp2_with (first | (at_make; refine Held.out ?_) | (at_builtin; refine Held.out ?_))
  refine ⟨?_⟩
  refine wpList_mk0 _ rfl _ _ 23 rfl sl8 (Below.refl _ _) (n + 8) rfl rfl (by omega) (by omega) (by simp only [maxLen]; omega) (Nat.le_refl _) ?_
  intro A1 w1 own1 bel1 sz1
  go_wp2_with (first | (at_make; refine Held.out ?_) | (at_builtin; refine Held.out ?_))
  refine ⟨?_⟩
  refine wpList_apb _ rfl _ _ 23 rfl sl8 bel1 rfl own1 rfl ((hr.more hB).below bel1) (bv_one _) (by omega) (by simp only [maxLen]; omega) sz1 ?_
  intro A2 c2 w2 own2 bel2 sz2
  simp only [Nat.zero_add, List.nil_append] at own2
  clear own1 sz1 bel1 hr
  go_wp2_with (first | (at_make; refine Held.out ?_) | (at_builtin; refine Held.out ?_))
  go_loopw [7, 1, 16] (fun v y i wr => ∃ (k : Nat) (A' : Option Addr) (c' : Nat), k ≤ 8 ∧ i = .int .i64 k ∧ y = .int .u64 ((x / 256 ^ k : Nat) : Int) ∧ v = .slice A' (n + k) c' ∧
      wr.ownsRow w.heap.size 5 1 (.slice A' (n + k) c') (n + k) (bv (l ++ le x k)) ∧ Below w.heap.size w wr) (fun _ _ i _ => 8 - (intOf i).toNat)
  case atStart => exact ⟨0, A2, c2, by omega, rfl, by simp, by simp, by simpa [le] using own2, bel2⟩
  case round =>
    clear own2 sz2 bel2
    obtain ⟨k, A', c', hk, rfl, rfl, rfl, own, bel⟩ := hrel
    have hs := bel.size
    by_cases hlt : k < 8
    · go_wp2_with (first | (at_make; refine Held.out ?_) | (at_builtin; refine Held.out ?_))
      refine ⟨?_⟩
      refine wpList_ap1 _ rfl _ _ 23 rfl sl8 bel rfl own rfl rfl (by simp [Value.oneCell']) (by omega) (by simp only [maxLen]; omega) hs ?_
      intro A3 c3 w3 own3 bel3 sz3
      go_wp2_with (first | (at_make; refine Held.out ?_) | (at_builtin; refine Held.out ?_))
      refine ⟨⟨k + 1, A3, c3, by omega, by go_num, by rw [pow_step], rfl, by rw [← bv_le_snoc]; exact own3, bel3⟩, by simp [intOf]; omega⟩
    · go_wp2_with (first | (at_make; refine Held.out ?_) | (at_builtin; refine Held.out ?_))
      go_ret
      have : k = 8 := by omega
      subst this
      exact ⟨_, _, rfl, own, bel⟩
theorem Put64_c (A : Option Addr) (c n : Nat) (l : List UInt8) (x : Int) (w : World) (B : Nat) (hB : B ≤ w.heap.size) (hr : Rd w B 1 A n (bv l)) (hn : n ≤ 140737488351232) (hx : 0 ≤ x) :
    Calls Try.prog 20 #[.slice A n c, .int .u64 x] w fun e w' => ∃ A' c', e = .returned (.slice A' (n + 8) c') ∧ OwB w w' A' (n + 8) c' (l ++ le x.toNat 8) := by
  obtain ⟨x, rfl⟩ := Int.eq_ofNat_of_zero_le hx
  rw [Int.toNat_natCast]
  go_enter Try.func20, Try.ntmps20
  go_wp2_with (first | (at_make; refine Held.out ?_) | (at_builtin; refine Held.out ?_))
  refine (put64_n A c n l x w B hB hr hn).mono ?_
  rintro e w' ⟨A', c', rfl, hb⟩
  go_wp2_with (first | (at_make; refine Held.out ?_) | (at_builtin; refine Held.out ?_))
  go_ret
  exact ⟨A', c', rfl, hb⟩
set_option maxHeartbeats 400000 in
theorem get64_in (A : Option Addr) (c n : Nat) (l : List UInt8) (at_ : Nat) (w : World) (B : Nat) (hr : Rd w B 1 A n (bv l)) (hn : n ≤ 140737488351232) (h : at_ + 8 ≤ n) :
    Calls Try.prog 40 #[.slice A n c, .int .i64 at_, .int .i64 8] w fun e w' => e = .returned (.tuple #[.int .u64 (unle (seg l at_ 8) : Nat), .int .i64 (at_ + 8), .int .i64 0]) ∧ w = w' := by
  obtain ⟨b, off, rfl⟩ := hr.some_ (by omega)
  have hl := hr.blen
  go_enter Try.func40, Try.ntmps40
  go_wp2_with (first | (at_make; refine Held.out ?_) | (at_builtin; refine Held.out ?_))
  go_loop [9, 10, 28] (fun v _ i => ∃ (k : Nat), k ≤ 8 ∧ i = .int .i64 k ∧ v = .int .u64 (unle (seg l at_ k) : Nat)) (fun _ _ i => 8 - (intOf i).toNat)
  case atStart => exact ⟨0, by omega, rfl, rfl⟩
  case round =>
    obtain ⟨k, hk, rfl, rfl⟩ := hrel
    by_cases hlt : k < 8
    · have hc := hr.byte (at_ + k) (by omega)
      have hlt' := unle_lt (seg l at_ k)
      rw [seg_length l at_ k (by omega)] at hlt'
      have hst := Lib.hid (unle_snoc (seg l at_ k) (l[at_ + k]'(by omega)))
      clear hr
      generalize hv : unle (seg l at_ k) = r at *
      have Hv := Lib.hid hv
      clear hv
      go_wp2_with (first | (at_make; refine Held.out ?_) | (at_builtin; refine Held.out ?_))
      refine ⟨⟨k + 1, by omega, by go_num, ?_⟩, by simp [intOf]; omega⟩
      rw [or64 r k _ hlt' hlt, seg_snoc l at_ k (by omega), hst.out, seg_length l at_ k (by omega)]
    · go_wp2_with (first | (at_make; refine Held.out ?_) | (at_builtin; refine Held.out ?_))
      have : k = 8 := by omega
      subst this
      go_ret3
      exact ⟨rfl, rfl⟩
theorem get64_a (A : Option Addr) (c n : Nat) (l : List UInt8) (a : Int) (w : World) (B : Nat) (hr : Rd w B 1 A n (bv l)) (hn : n ≤ 140737488351232) :
    Calls Try.prog 40 #[.slice A n c, .int .i64 a, .int .i64 8] w fun e w' => e = .returned (.tuple #[.int .u64 ((getM l a 8).1 : Nat), .int .i64 (getM l a 8).2.1, .int .i64 (getM l a 8).2.2]) ∧ w = w' := by
  have hl := hr.blen
  by_cases h1 : a < 0 ∨ (n : Int) < a
  · rw [getM_out l a 8 (by omega)]
    clear hr
    rcases h1 with h1 | h1
    · go_enter Try.func40, Try.ntmps40
      go_wp2_with (first | (at_make; refine Held.out ?_) | (at_builtin; refine Held.out ?_))
      go_ret3
      exact ⟨rfl, rfl⟩
    · have h2 : ¬ a < 0 := by omega
      go_enter Try.func40, Try.ntmps40
      go_wp2_with (first | (at_make; refine Held.out ?_) | (at_builtin; refine Held.out ?_))
      go_ret3
      exact ⟨rfl, rfl⟩
  · obtain ⟨at_, rfl⟩ := Int.eq_ofNat_of_zero_le (show 0 ≤ a by omega)
    by_cases h2 : at_ + 8 ≤ n
    · rw [getM_in l at_ 8 (by omega)]
      exact get64_in A c n l at_ w B hr hn h2
    · rw [getM_short l at_ 8 (by omega) (by omega)]
      clear hr
      have h3 : ¬ n < at_ := by omega
      have h4 : (n : Int) - at_ < 8 := by omega
      go_enter Try.func40, Try.ntmps40
      go_wp2_with (first | (at_make; refine Held.out ?_) | (at_builtin; refine Held.out ?_))
      go_ret3
      exact ⟨rfl, rfl⟩
theorem Get64_c (A : Option Addr) (c n : Nat) (l : List UInt8) (a : Int) (w : World) (B : Nat) (hr : Rd w B 1 A n (bv l)) (hn : n ≤ 140737488351232) :
    Calls Try.prog 30 #[.slice A n c, .int .i64 a] w fun e w' => e = .returned (.tuple #[.int .u64 ((getM l a 8).1 : Nat), .int .i64 (getM l a 8).2.1, .int .i64 (getM l a 8).2.2]) ∧ w = w' := by
  generalize hg : getM l a 8 = g at *
  have Hg := Lib.hid hg
  clear hg
  go_enter Try.func30, Try.ntmps30
  go_wp2_with (first | (at_make; refine Held.out ?_) | (at_builtin; refine Held.out ?_))
  refine (get64_a A c n l a w B hr hn).mono ?_
  rw [Hg.out]
  rintro e w' ⟨rfl, rfl⟩
  go_wp2_with (first | (at_make; refine Held.out ?_) | (at_builtin; refine Held.out ?_))
  go_ret3
  exact ⟨rfl, rfl⟩






set_option maxHeartbeats 800000 in
theorem Hash_c (A : Option Addr) (c n : Nat) (l : List UInt8) (w : World) (B : Nat) (hr : Rd w B 1 A n (bv l)) (hn : n ≤ 140737488351232) :
    Calls Try.prog 34 #[.slice A n c] w fun e w' => e = .returned (.int .u64 (fnvOf l : Nat)) ∧ w = w' := by
  have hl := hr.blen
  go_enter Try.func34, Try.ntmps34
  go_wp2_with (first | (at_make; refine Held.out ?_) | (at_builtin; refine Held.out ?_))
  go_loop [3, 8] (fun r i => ∃ k : Nat, k ≤ n ∧ i = .int .i64 k ∧ r = .int .u64 (fnvOf (l.take k) : Nat)) (fun _ i => n - (intOf i).toNat)
  case atStart => exact ⟨0, by omega, rfl, rfl⟩
  case round =>
    obtain ⟨k, hk, rfl, rfl⟩ := hrel
    by_cases hlt : k < n
    · obtain ⟨b, off, rfl⟩ := hr.some_ (by omega)
      have hc := hr.byte k (by omega)
      have hst := Lib.hid (fnvOf_snoc l k (by omega))
      have hq := fnvOf_lt (l.take k)
      have hf := Lib.hid (fnv_step (fnvOf (l.take k)) (l[k]'(by omega)) hq)
      clear hr hq
      generalize fnvOf (l.take k) = q at *
      go_wp2_with (first | (at_make; refine Held.out ?_) | (at_builtin; refine Held.out ?_))
      refine ⟨⟨k + 1, by omega, by go_num, ?_⟩, by simp [intOf]; omega⟩
      rw [hf.out, hst.out]
    · have hk2 : k = n := by omega
      subst hk2
      rw [show l.take k = l from List.take_of_length_le (by omega)]
      go_wp2_with (first | (at_make; refine Held.out ?_) | (at_builtin; refine Held.out ?_))
      go_ret
      exact ⟨rfl, rfl⟩


set_option maxHeartbeats 800000 in
theorem rHash_c (A : Option Addr) (c n : Nat) (l : List UInt8) (w : World) (B : Nat) (hr : Rd w B 1 A n (bv l)) (hn : n ≤ 140737488351232) :
    Calls Try.prog 38 #[.slice A n c] w fun e w' => e = .returned (.int .u64 (fnvOf l : Nat)) ∧ w = w' := by
  have hl := hr.blen
  go_enter Try.func38, Try.ntmps38
  go_wp2_with (first | (at_make; refine Held.out ?_) | (at_builtin; refine Held.out ?_))
  go_loop [3, 8] (fun r i => ∃ k : Nat, k ≤ n ∧ i = .int .i64 k ∧ r = .int .u64 (fnvOf (l.take k) : Nat)) (fun _ i => n - (intOf i).toNat)
  case atStart => exact ⟨0, by omega, rfl, rfl⟩
  case round =>
    obtain ⟨k, hk, rfl, rfl⟩ := hrel
    by_cases hlt : k < n
    · obtain ⟨b, off, rfl⟩ := hr.some_ (by omega)
      have hc := hr.byte k (by omega)
      have hst := Lib.hid (fnvOf_snoc l k (by omega))
      have hq := fnvOf_lt (l.take k)
      have hf := Lib.hid (fnv_step (fnvOf (l.take k)) (l[k]'(by omega)) hq)
      clear hr hq
      generalize fnvOf (l.take k) = q at *
      go_wp2_with (first | (at_make; refine Held.out ?_) | (at_builtin; refine Held.out ?_))
      refine ⟨⟨k + 1, by omega, by go_num, ?_⟩, by simp [intOf]; omega⟩
      rw [hf.out, hst.out]
    · have hk2 : k = n := by omega
      subst hk2
      rw [show l.take k = l from List.take_of_length_le (by omega)]
      go_wp2_with (first | (at_make; refine Held.out ?_) | (at_builtin; refine Held.out ?_))
      go_ret
      exact ⟨rfl, rfl⟩


set_option maxHeartbeats 400000 in
theorem rput_n (A : Option Addr) (c n : Nat) (l : List UInt8) (x m : Nat) (w : World) (B : Nat) (hB : B ≤ w.heap.size) (hr : Rd w B 1 A n (bv l)) (hn : n ≤ 140737488351232) (hm : m ≤ 8) :
    Calls Try.prog 37 #[.slice A n c, .int .u64 x, .int .i64 m] w fun e w' => ∃ A' c', e = .returned (.slice A' (n + m) c') ∧ OwB w w' A' (n + m) c' (l ++ le x m) := by
  go_enter Try.func37, Try.ntmps37
  go_wp2_with (first | (at_make; refine Held.out ?_) | (at_builtin; refine Held.out ?_))
  refine ⟨?_⟩
  refine wpList_apb _ rfl _ _ 23 rfl sl8 (Below.refl w.heap.size w) rfl (World.ownsRow_nil w _ _ _) rfl (hr.more hB) (bv_one _) (by omega) (by simp only [maxLen]; omega) (Nat.le_refl _) ?_
  intro A2 c2 w2 own2 bel2 sz2
  simp only [Nat.zero_add, List.nil_append] at own2
  clear hr
  go_wp2_with (first | (at_make; refine Held.out ?_) | (at_builtin; refine Held.out ?_))
  go_loopw [7, 8] (fun v i wr => ∃ (k : Nat) (A' : Option Addr) (c' : Nat), k ≤ m ∧ i = .int .i64 k ∧ v = .slice A' (n + k) c' ∧
      wr.ownsRow w.heap.size 5 1 (.slice A' (n + k) c') (n + k) (bv (l ++ le x k)) ∧ Below w.heap.size w wr) (fun _ i _ => m - (intOf i).toNat)
  case atStart => exact ⟨0, A2, c2, by omega, rfl, by simp, by simpa [le] using own2, bel2⟩
  case round =>
    clear own2 sz2 bel2
    obtain ⟨k, A', c', hk, rfl, rfl, own, bel⟩ := hrel
    have hs := bel.size
    by_cases hlt : k < m
    · go_wp2_with (first | (at_make; refine Held.out ?_) | (at_builtin; refine Held.out ?_))
      refine ⟨?_⟩
      refine wpList_ap1 _ rfl _ _ 23 rfl sl8 bel rfl own rfl rfl (by simp [Value.oneCell']) (by omega) (by simp only [maxLen]; omega) hs ?_
      intro A3 c3 w3 own3 bel3 sz3
      rw [pow_step', bv_le_snoc] at own3
      go_wp2_with (first | (at_make; refine Held.out ?_) | (at_builtin; refine Held.out ?_))
      refine ⟨⟨k + 1, A3, c3, by omega, by go_num, rfl, own3, bel3⟩, by simp [intOf]; omega⟩
    · go_wp2_with (first | (at_make; refine Held.out ?_) | (at_builtin; refine Held.out ?_))
      go_ret
      have : k = m := by omega
      subst this
      exact ⟨_, _, rfl, own, bel⟩


theorem rPut16_c (A : Option Addr) (c n : Nat) (l : List UInt8) (x : Int) (w : World) (B : Nat) (hB : B ≤ w.heap.size) (hr : Rd w B 1 A n (bv l)) (hn : n ≤ 140737488351232) (hx : 0 ≤ x) (hx2 : x < 65536) :
    Calls Try.prog 24 #[.slice A n c, .int .u16 x] w fun e w' => ∃ A' c', e = .returned (.slice A' (n + 2) c') ∧ OwB w w' A' (n + 2) c' (l ++ le x.toNat 2) := by
  obtain ⟨x, rfl⟩ := Int.eq_ofNat_of_zero_le hx
  rw [Int.toNat_natCast]
  have hx3 : IntKind.u64.wrap (x : Int) = x := IntWalk.u64_in _ (by omega)
  
  have hP := fun W (hB : B ≤ W.heap.size) (hr : Rd W B 1 A n (bv l)) => rput_n A c n l x 2 W B hB hr hn (by omega)
  have HP := Lib.hid hP
  clear hP
  go_enter Try.func24, Try.ntmps24
  go_wp2_with (first | (at_make; refine Held.out ?_) | (at_builtin; refine Held.out ?_))
  refine (HP.out _ hB hr).mono ?_
  rintro e w' ⟨A', c', rfl, hb⟩
  go_wp2_with (first | (at_make; refine Held.out ?_) | (at_builtin; refine Held.out ?_))
  go_ret
  exact ⟨A', c', rfl, hb⟩




theorem rPut64_c (A : Option Addr) (c n : Nat) (l : List UInt8) (x : Int) (w : World) (B : Nat) (hB : B ≤ w.heap.size) (hr : Rd w B 1 A n (bv l)) (hn : n ≤ 140737488351232) (hx : 0 ≤ x) (hx2 : x < 18446744073709551616) :
    Calls Try.prog 25 #[.slice A n c, .int .u64 x] w fun e w' => ∃ A' c', e = .returned (.slice A' (n + 8) c') ∧ OwB w w' A' (n + 8) c' (l ++ le x.toNat 8) := by
  obtain ⟨x, rfl⟩ := Int.eq_ofNat_of_zero_le hx
  rw [Int.toNat_natCast]
  
  clear hx2
  have hP := fun W (hB : B ≤ W.heap.size) (hr : Rd W B 1 A n (bv l)) => rput_n A c n l x 8 W B hB hr hn (by omega)
  have HP := Lib.hid hP
  clear hP
  go_enter Try.func25, Try.ntmps25
  go_wp2_with (first | (at_make; refine Held.out ?_) | (at_builtin; refine Held.out ?_))
  refine (HP.out _ hB hr).mono ?_
  rintro e w' ⟨A', c', rfl, hb⟩
  go_wp2_with (first | (at_make; refine Held.out ?_) | (at_builtin; refine Held.out ?_))
  go_ret
  exact ⟨A', c', rfl, hb⟩


set_option maxHeartbeats 400000 in
theorem rget_in (A : Option Addr) (c n : Nat) (l : List UInt8) (at_ m : Nat) (w : World) (B : Nat) (hr : Rd w B 1 A n (bv l)) (hn : n ≤ 140737488351232) (hm : m ≤ 8) (hm1 : 1 ≤ m) (h : at_ + m ≤ n) :
    Calls Try.prog 41 #[.slice A n c, .int .i64 at_, .int .i64 m] w fun e w' => e = .returned (.tuple #[.int .u64 (unle (seg l at_ m) : Nat), .int .i64 (at_ + m), .int .i64 0]) ∧ w = w' := by
  obtain ⟨b, off, rfl⟩ := hr.some_ (by omega)
  have hl := hr.blen
  go_enter Try.func41, Try.ntmps41
  go_wp2_with (first | (at_make; refine Held.out ?_) | (at_builtin; refine Held.out ?_))
  go_loop [9, 10] (fun v i => ∃ k : Nat, k ≤ m ∧ i = .int .i64 ((k : Int) - 1) ∧ v = .int .u64 (unle (seg l (at_ + k) (m - k)) : Nat)) (fun _ i => (intOf i + 1).toNat)
  case atStart => exact ⟨m, by omega, by simp, by simp [seg, unle]⟩
  case round =>
    obtain ⟨k, hk, rfl, rfl⟩ := hrel
    by_cases hlt : 0 < k
    · have hc := hr.byte (at_ + (k - 1)) (by omega)
      have hb := unle_lt (seg l (at_ + k) (m - k))
      rw [seg_length _ _ _ (by omega)] at hb
      have hst := seg_cons l (at_ + (k - 1)) (m - k) (by omega)
      rw [show at_ + (k - 1) + 1 = at_ + k by omega, show m - k + 1 = m - (k - 1) by omega] at hst
      have Hst := Lib.hid hst
      clear hr hst
      generalize hv : seg l (at_ + k) (m - k) = s at *
      have Hv := Lib.hid hv
      clear hv
      have Hor := Lib.hid (or64' (unle s) (m - k) (l[at_ + (k - 1)]'(by omega)) hb (by omega))
      clear hb
      generalize hr0 : unle s = r at *
      have Hr0 := Lib.hid hr0
      clear hr0
      go_wp2_with (first | (at_make; refine Held.out ?_) | (at_builtin; refine Held.out ?_))
      refine ⟨⟨k - 1, by omega, by go_num, ?_⟩, by simp [intOf]; omega⟩
      rw [Hor.out, Hst.out, unle, Hr0.out]
    · obtain rfl : k = 0 := by omega
      rw [Nat.add_zero, Nat.sub_zero]
      go_wp2_with (first | (at_make; refine Held.out ?_) | (at_builtin; refine Held.out ?_))
      go_ret3
      exact ⟨rfl, rfl⟩
theorem rget_a (A : Option Addr) (c n : Nat) (l : List UInt8) (a : Int) (m : Nat) (w : World) (B : Nat) (hr : Rd w B 1 A n (bv l)) (hn : n ≤ 140737488351232) (hm : m ≤ 8) (hm1 : 1 ≤ m) :
    Calls Try.prog 41 #[.slice A n c, .int .i64 a, .int .i64 m] w fun e w' => e = .returned (.tuple #[.int .u64 ((getM l a m).1 : Nat), .int .i64 (getM l a m).2.1, .int .i64 (getM l a m).2.2]) ∧ w = w' := by
  have hl := hr.blen
  by_cases h1 : a < 0 ∨ (n : Int) < a
  · rw [getM_out l a m (by omega)]
    clear hr
    rcases h1 with h1 | h1
    · go_enter Try.func41, Try.ntmps41
      go_wp2_with (first | (at_make; refine Held.out ?_) | (at_builtin; refine Held.out ?_))
      go_ret3
      exact ⟨rfl, rfl⟩
    · have h2 : ¬ a < 0 := by omega
      go_enter Try.func41, Try.ntmps41
      go_wp2_with (first | (at_make; refine Held.out ?_) | (at_builtin; refine Held.out ?_))
      go_ret3
      exact ⟨rfl, rfl⟩
  · obtain ⟨at_, rfl⟩ := Int.eq_ofNat_of_zero_le (show 0 ≤ a by omega)
    by_cases h2 : at_ + m ≤ n
    · rw [getM_in l at_ m (by omega)]
      exact rget_in A c n l at_ m w B hr hn hm hm1 h2
    · rw [getM_short l at_ m (by omega) (by omega)]
      clear hr
      have h3 : ¬ n < at_ := by omega
      have h4 : (n : Int) - at_ < m := by omega
      go_enter Try.func41, Try.ntmps41
      go_wp2_with (first | (at_make; refine Held.out ?_) | (at_builtin; refine Held.out ?_))
      go_ret3
      exact ⟨rfl, rfl⟩


theorem rGet16_c (A : Option Addr) (c n : Nat) (l : List UInt8) (a : Int) (w : World) (B : Nat) (hr : Rd w B 1 A n (bv l)) (hn : n ≤ 140737488351232) :
    Calls Try.prog 35 #[.slice A n c, .int .i64 a] w fun e w' => e = .returned (.tuple #[.int .u16 ((getM l a 2).1 : Nat), .int .i64 (getM l a 2).2.1, .int .i64 (getM l a 2).2.2]) ∧ w = w' := by
  have hlt := getM_lt l a 2
  have hcv := Lib.hid (show IntKind.u16.wrap ((getM l a 2).1 : Int) = ((getM l a 2).1 : Int) from IntWalk.u16_in _ (by omega))
  clear hlt
  have hG := Lib.hid (rget_a A c n l a 2 w B hr hn (by omega) (by omega))
  clear hr
  generalize getM l a 2 = g at *
  obtain ⟨g1, g2, g3⟩ := g
  go_enter Try.func35, Try.ntmps35
  go_wp2_with (first | (at_make; refine Held.out ?_) | (at_builtin; refine Held.out ?_))
  refine hG.out.mono ?_
  rintro e w' ⟨rfl, rfl⟩
  go_wp2_with (first | (at_make; refine Held.out ?_) | (at_builtin; refine Held.out ?_))
  go_ret3
  exact ⟨by simp only [hcv.out]; rfl, rfl⟩




theorem rGet64_c (A : Option Addr) (c n : Nat) (l : List UInt8) (a : Int) (w : World) (B : Nat) (hr : Rd w B 1 A n (bv l)) (hn : n ≤ 140737488351232) :
    Calls Try.prog 36 #[.slice A n c, .int .i64 a] w fun e w' => e = .returned (.tuple #[.int .u64 ((getM l a 8).1 : Nat), .int .i64 (getM l a 8).2.1, .int .i64 (getM l a 8).2.2]) ∧ w = w' := by
  have hlt := getM_lt l a 8
  have hcv := Lib.hid (show (0:Int) = (0:Int) from rfl)
  clear hlt
  have hG := Lib.hid (rget_a A c n l a 8 w B hr hn (by omega) (by omega))
  clear hr
  generalize getM l a 8 = g at *
  obtain ⟨g1, g2, g3⟩ := g
  go_enter Try.func36, Try.ntmps36
  go_wp2_with (first | (at_make; refine Held.out ?_) | (at_builtin; refine Held.out ?_))
  refine hG.out.mono ?_
  rintro e w' ⟨rfl, rfl⟩
  go_wp2_with (first | (at_make; refine Held.out ?_) | (at_builtin; refine Held.out ?_))
  go_ret3
  exact ⟨rfl, rfl⟩

end Go.Proofs.Ytbifgoaceolpoaa