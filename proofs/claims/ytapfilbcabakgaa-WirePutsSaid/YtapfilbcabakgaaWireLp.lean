/-
  The law WirePuts returns true.
-/
import Derived.Test.YtapfilbcabakgaaWireS
import Derived.Test.YtapfilbcabakgaaReg
namespace Go.Proofs.Ytapfilbcabakgaa
set_option linter.unusedVariables false
set_option linter.unusedSimpArgs false
open Go.ChangeShapes Go.WideShapes Go.ChangeAt Go.RowKit
set_option maxRecDepth 100000 in
set_option maxHeartbeats 2000000 in
theorem WirePuts_in (A : Option Addr) (c n : Nat) (l : List UInt8) (x : Int) (hx0 : 0 ≤ x) (hx1 : x ≤ 18446744073709551615) (s : ByteArray) (hsm : s.size ≤ maxLen) (w : World) (hr : Rd w w.heap.size 1 A n (bv l)) (hn : n ≤ 500) (hs : s.size ≤ 500) :
    Calls Try.prog 5 #[.slice A n c, .int .u64 x, .string s] w fun e w' => e = .returned (.bool true) ∧ Below w.heap.size w w' := by
  have hx1 := Lib.hid hx1
  have h16 : 0 ≤ IntKind.u16.wrap x ∧ IntKind.u16.wrap x < 65536 := by
    have := bounds_u16 (wf_wrap .u16 x); omega
  have h32 : 0 ≤ x % 4294967296 ∧ x % 4294967296 < 4294967296 := by omega
  have hP := fun W B hB hr => PutText_c A c n l s W B hB hr (by omega) hsm
  have hQ := fun W B hB hr => rPutText_c A c n l s W B hB hr (by omega) hsm
  generalize ptM l s.data.toList = p at *
  obtain ⟨T, E⟩ := p
  have HP := Lib.hid hP
  have HQ := Lib.hid hQ
  clear hP hQ
  go_enter Try.func5, Try.ntmps5
  go_wp2_with (first | (at_make; refine Held.out ?_) | (at_builtin; refine Held.out ?_) | (refine hold_slice ?_) | (refine hold_conv (s := 22) (t := 9) ?_))
  refine (sane_c _).mono ?_
  rintro e w1 ⟨rfl, bel1⟩
  have hr1 := hr.nx bel1
  clear hr
  go_wp2_with (first | (at_make; refine Held.out ?_) | (at_builtin; refine Held.out ?_) | (refine hold_slice ?_) | (refine hold_conv (s := 22) (t := 9) ?_))
  refine (HP.out _ _ (Nat.le_refl _) hr1).mono ?_
  rintro e w2 ⟨A2, c2, rfl, own2, bel2⟩
  have hr2 := hr1.nx bel2
  have o2 := Rd.own own2
  have bel := below_nx bel1 bel1.size bel2
  clear hr1 bel1 own2 bel2
  go_wp2_with (first | (at_make; refine Held.out ?_) | (at_builtin; refine Held.out ?_) | (refine hold_slice ?_) | (refine hold_conv (s := 22) (t := 9) ?_))
  refine (HQ.out _ _ (Nat.le_refl _) hr2).mono ?_
  rintro e w3 ⟨A3, c3, rfl, own3, bel3⟩
  have hrW := hr2.nx bel3
  have o23 := o2.nx bel3
  have o3 := Rd.own own3
  have bel := below_nx bel bel.size bel3
  clear hr2 bel3 own3 o2 HP HQ
  go_wp2_with (first | (at_make; refine Held.out ?_) | (at_builtin; refine Held.out ?_) | (refine hold_slice ?_) | (refine hold_conv (s := 22) (t := 9) ?_))
  refine wp_region_spec (n := 48) (fun j => match j with
      | 0 => Is ((.slice A n c))
      | 1 => Is ((.int .u64 x))
      | 2 => Is ((.int .u16 (IntKind.u16.wrap x)))
      | 3 => IsB (n + 2) (l ++ le (IntKind.u16.wrap x).toNat 2)
      | 4 => Is ((.string ⟨(l ++ le (IntKind.u16.wrap x).toNat 2).toArray⟩))
      | 5 => Is ((.slice A n c))
      | 6 => Is ((.int .u64 x))
      | 7 => Is ((.int .u16 (IntKind.u16.wrap x)))
      | 8 => IsB (n + 2) (l ++ le (IntKind.u16.wrap x).toNat 2)
      | 9 => Is ((.string ⟨(l ++ le (IntKind.u16.wrap x).toNat 2).toArray⟩))
      | 10 => Is ((.bool true))
      | 11 => Is ((.bool true))
      | 12 => Is ((.slice A n c))
      | 13 => Is ((.int .u64 x))
      | 14 => Is ((.int .u32 (x % 4294967296)))
      | 15 => IsB (n + 4) (l ++ le (x % 4294967296).toNat 4)
      | 16 => Is ((.string ⟨(l ++ le (x % 4294967296).toNat 4).toArray⟩))
      | 17 => Is ((.slice A n c))
      | 18 => Is ((.int .u64 x))
      | 19 => Is ((.int .u32 (x % 4294967296)))
      | 20 => IsB (n + 4) (l ++ le (x % 4294967296).toNat 4)
      | 21 => Is ((.string ⟨(l ++ le (x % 4294967296).toNat 4).toArray⟩))
      | 22 => Is ((.bool true))
      | 23 => Is ((.bool true))
      | 24 => Is ((.bool true))
      | 25 => Is ((.slice A n c))
      | 26 => Is ((.int .u64 x))
      | 27 => IsB (n + 8) (l ++ le (x).toNat 8)
      | 28 => Is ((.string ⟨(l ++ le (x).toNat 8).toArray⟩))
      | 29 => Is ((.slice A n c))
      | 30 => Is ((.int .u64 x))
      | 31 => IsB (n + 8) (l ++ le (x).toNat 8)
      | 32 => Is ((.string ⟨(l ++ le (x).toNat 8).toArray⟩))
      | 33 => Is ((.bool true))
      | 34 => Is ((.bool true))
      | 35 => Is ((.bool true))
      | 36 => Is ((.slice A2 T.length c2))
      | 37 => Is ((.string ⟨T.toArray⟩))
      | 38 => Is ((.slice A3 T.length c3))
      | 39 => Is ((.string ⟨T.toArray⟩))
      | 40 => Is ((.bool true))
      | 41 => Is ((.bool true))
      | 42 => Is ((.bool true))
      | 43 => Is ((.int .i64 E))
      | 44 => Is ((.int .i64 E))
      | 45 => Is ((.bool true))
      | 46 => Is ((.bool true))
      | 47 => Is ((.bool true))
      | _ => fun _ _ => True) (Below.refl _ w3) (Nat.le_refl _) (by kernel_rfl) (by kernel_rfl) (by kernel_rfl) rfl (F := ?F) ?hF ?mono ?step ?fin
  case hF =>
    intro vals
    simp only [putAll, dstsOf, Act.put, List.map_cons, List.map_nil, List.setIfInBounds_toArray, List.set_cons_succ, List.set_cons_zero, Nat.reduceAdd]
    rfl
  case mono => exact ⟨⟨⟨⟨⟨⟨⟨⟨⟨⟨⟨⟨⟨⟨⟨⟨⟨⟨⟨⟨⟨⟨⟨⟨⟨⟨⟨⟨⟨⟨⟨⟨⟨⟨⟨⟨⟨⟨⟨⟨⟨⟨⟨⟨⟨⟨⟨⟨trivial, mono_is _⟩, mono_is _⟩, mono_is _⟩, mono_isB _ _⟩, mono_is _⟩, mono_is _⟩, mono_is _⟩, mono_is _⟩, mono_isB _ _⟩, mono_is _⟩, mono_is _⟩, mono_is _⟩, mono_is _⟩, mono_is _⟩, mono_is _⟩, mono_isB _ _⟩, mono_is _⟩, mono_is _⟩, mono_is _⟩, mono_is _⟩, mono_isB _ _⟩, mono_is _⟩, mono_is _⟩, mono_is _⟩, mono_is _⟩, mono_is _⟩, mono_is _⟩, mono_isB _ _⟩, mono_is _⟩, mono_is _⟩, mono_is _⟩, mono_isB _ _⟩, mono_is _⟩, mono_is _⟩, mono_is _⟩, mono_is _⟩, mono_is _⟩, mono_is _⟩, mono_is _⟩, mono_is _⟩, mono_is _⟩, mono_is _⟩, mono_is _⟩, mono_is _⟩, mono_is _⟩, mono_is _⟩, mono_is _⟩, mono_is _⟩
  case step =>
    refine ⟨⟨⟨⟨⟨⟨⟨⟨⟨⟨⟨⟨⟨⟨⟨⟨⟨⟨⟨⟨⟨⟨⟨⟨⟨⟨⟨⟨⟨⟨⟨⟨⟨⟨⟨⟨⟨⟨⟨⟨⟨⟨⟨⟨⟨⟨⟨⟨trivial, ?_⟩, ?_⟩, ?_⟩, ?_⟩, ?_⟩, ?_⟩, ?_⟩, ?_⟩, ?_⟩, ?_⟩, ?_⟩, ?_⟩, ?_⟩, ?_⟩, ?_⟩, ?_⟩, ?_⟩, ?_⟩, ?_⟩, ?_⟩, ?_⟩, ?_⟩, ?_⟩, ?_⟩, ?_⟩, ?_⟩, ?_⟩, ?_⟩, ?_⟩, ?_⟩, ?_⟩, ?_⟩, ?_⟩, ?_⟩, ?_⟩, ?_⟩, ?_⟩, ?_⟩, ?_⟩, ?_⟩, ?_⟩, ?_⟩, ?_⟩, ?_⟩, ?_⟩, ?_⟩, ?_⟩, ?_⟩
    · intro vals wR hbR hd hk K hK
      clear hd hk
      clear hbR
      refine wpOp_step rfl (fun K' hK' => ?_)
      go_simp
      refine hK' _ _ ?_
      exact hK _ _ rfl (Below.refl _ _)
    · intro vals wR hbR hd hk K hK
      clear hd hk
      clear hbR
      refine wpOp_step rfl (fun K' hK' => ?_)
      go_simp
      refine hK' _ _ ?_
      exact hK _ _ rfl (Below.refl _ _)
    · intro vals wR hbR hd hk K hK
      have e1 : vals 1 = (.int .u64 x) := hd 1 rfl
      clear hd hk
      simp only [e1] at hK
      clear hbR
      refine wpOp_step rfl (fun K' hK' => ?_)
      go_simp
      refine hK' _ _ ?_
      exact hK _ _ rfl (Below.refl _ _)
    · intro vals wR hbR hd hk K hK
      have e0 : vals 0 = (.slice A n c) := hd 0 rfl
      have e2 : vals 2 = (.int .u16 (IntKind.u16.wrap x)) := hd 2 rfl
      clear hd hk
      simp only [e0, e2] at hK
      refine wpOp_step rfl (fun K' hK' => ?_)
      go_simp
      refine (Put16_c _ _ _ l _ wR wR.heap.size (Nat.le_refl _) (hrW.nx hbR) (by omega) h16.1).mono ?_
      rintro e w2 ⟨A2, c2, rfl, own2, bel2⟩
      refine hK' _ _ ?_
      exact hK _ _ ⟨A2, c2, rfl, own_cap own2, Rd.own own2⟩ bel2
    · intro vals wR hbR hd hk K hK
      have e3 : IsB (n + 2) (l ++ le (IntKind.u16.wrap x).toNat 2) (vals 3) wR := hd 3 rfl
      clear hd hk
      obtain ⟨A1, c1, ev, hc1, hr1⟩ := e3
      simp only [ev] at hK
      have hrun := run_b2s (P := Try.prog) wR 22 9 5 Try.underlying22 u8str Try.underlying9 (c := c1) hr1
      clear hbR hr1
      refine wpOp_step rfl (fun K' hK' => ?_)
      go_simp
      refine hK' _ _ ?_
      exact hK _ _ rfl (Below.refl _ _)
    · intro vals wR hbR hd hk K hK
      clear hd hk
      clear hbR
      refine wpOp_step rfl (fun K' hK' => ?_)
      go_simp
      refine hK' _ _ ?_
      exact hK _ _ rfl (Below.refl _ _)
    · intro vals wR hbR hd hk K hK
      clear hd hk
      clear hbR
      refine wpOp_step rfl (fun K' hK' => ?_)
      go_simp
      refine hK' _ _ ?_
      exact hK _ _ rfl (Below.refl _ _)
    · intro vals wR hbR hd hk K hK
      have e6 : vals 6 = (.int .u64 x) := hd 6 rfl
      clear hd hk
      simp only [e6] at hK
      clear hbR
      refine wpOp_step rfl (fun K' hK' => ?_)
      go_simp
      refine hK' _ _ ?_
      exact hK _ _ rfl (Below.refl _ _)
    · intro vals wR hbR hd hk K hK
      have e5 : vals 5 = (.slice A n c) := hd 5 rfl
      have e7 : vals 7 = (.int .u16 (IntKind.u16.wrap x)) := hd 7 rfl
      clear hd hk
      simp only [e5, e7] at hK
      refine wpOp_step rfl (fun K' hK' => ?_)
      go_simp
      refine (rPut16_c _ _ _ l _ wR wR.heap.size (Nat.le_refl _) (hrW.nx hbR) (by omega) h16.1 h16.2).mono ?_
      rintro e w2 ⟨A2, c2, rfl, own2, bel2⟩
      refine hK' _ _ ?_
      exact hK _ _ ⟨A2, c2, rfl, own_cap own2, Rd.own own2⟩ bel2
    · intro vals wR hbR hd hk K hK
      have e8 : IsB (n + 2) (l ++ le (IntKind.u16.wrap x).toNat 2) (vals 8) wR := hd 8 rfl
      clear hd hk
      obtain ⟨A1, c1, ev, hc1, hr1⟩ := e8
      simp only [ev] at hK
      have hrun := run_b2s (P := Try.prog) wR 22 9 5 Try.underlying22 u8str Try.underlying9 (c := c1) hr1
      clear hbR hr1
      refine wpOp_step rfl (fun K' hK' => ?_)
      go_simp
      refine hK' _ _ ?_
      exact hK _ _ rfl (Below.refl _ _)
    · intro vals wR hbR hd hk K hK
      have e4 : vals 4 = (.string ⟨(l ++ le (IntKind.u16.wrap x).toNat 2).toArray⟩) := hd 4 rfl
      have e9 : vals 9 = (.string ⟨(l ++ le (IntKind.u16.wrap x).toNat 2).toArray⟩) := hd 9 rfl
      clear hd hk
      simp only [e4, e9] at hK
      clear hbR
      refine wpOp_step rfl (fun K' hK' => ?_)
      go_simp
      refine hK' _ _ ?_
      exact hK _ _ rfl (Below.refl _ _)
    · intro vals wR hbR hd hk K hK
      have e10 : vals 10 = (.bool true) := hd 10 rfl
      clear hd hk
      simp only [e10] at hK
      clear hbR
      refine wpOp_step rfl (fun K' hK' => ?_)
      go_simp
      refine hK' _ _ ?_
      exact hK _ _ rfl (Below.refl _ _)
    · intro vals wR hbR hd hk K hK
      have e11 : vals 11 = (.bool true) := hd 11 rfl
      clear hd hk
      simp only [e11] at hK
      clear hbR
      refine wpOp_step rfl (fun K' hK' => ?_)
      go_simp
      refine hK' _ _ ?_
      exact hK _ _ rfl (Below.refl _ _)
    · intro vals wR hbR hd hk K hK
      have e11 : vals 11 = (.bool true) := hd 11 rfl
      clear hd hk
      simp only [e11] at hK
      clear hbR
      refine wpOp_step rfl (fun K' hK' => ?_)
      go_simp
      refine hK' _ _ ?_
      exact hK _ _ rfl (Below.refl _ _)
    · intro vals wR hbR hd hk K hK
      have e13 : vals 13 = (.int .u64 x) := hd 13 rfl
      have e11 : vals 11 = (.bool true) := hd 11 rfl
      clear hd hk
      simp only [e13, e11] at hK
      clear hbR
      refine wpOp_step rfl (fun K' hK' => ?_)
      go_simp
      refine hK' _ _ ?_
      exact hK _ _ rfl (Below.refl _ _)
    · intro vals wR hbR hd hk K hK
      have e12 : vals 12 = (.slice A n c) := hd 12 rfl
      have e14 : vals 14 = (.int .u32 (x % 4294967296)) := hd 14 rfl
      have e11 : vals 11 = (.bool true) := hd 11 rfl
      clear hd hk
      simp only [e12, e14, e11] at hK
      refine wpOp_step rfl (fun K' hK' => ?_)
      go_simp
      refine (Put32_c _ _ _ l _ wR wR.heap.size (Nat.le_refl _) (hrW.nx hbR) (by omega) h32.1).mono ?_
      rintro e w2 ⟨A2, c2, rfl, own2, bel2⟩
      refine hK' _ _ ?_
      exact hK _ _ ⟨A2, c2, rfl, own_cap own2, Rd.own own2⟩ bel2
    · intro vals wR hbR hd hk K hK
      have e15 : IsB (n + 4) (l ++ le (x % 4294967296).toNat 4) (vals 15) wR := hd 15 rfl
      have e11 : vals 11 = (.bool true) := hd 11 rfl
      clear hd hk
      simp only [e11] at hK
      obtain ⟨A1, c1, ev, hc1, hr1⟩ := e15
      simp only [ev] at hK
      have hrun := run_b2s (P := Try.prog) wR 22 9 5 Try.underlying22 u8str Try.underlying9 (c := c1) hr1
      clear hbR hr1
      refine wpOp_step rfl (fun K' hK' => ?_)
      go_simp
      refine hK' _ _ ?_
      exact hK _ _ rfl (Below.refl _ _)
    · intro vals wR hbR hd hk K hK
      have e11 : vals 11 = (.bool true) := hd 11 rfl
      clear hd hk
      simp only [e11] at hK
      clear hbR
      refine wpOp_step rfl (fun K' hK' => ?_)
      go_simp
      refine hK' _ _ ?_
      exact hK _ _ rfl (Below.refl _ _)
    · intro vals wR hbR hd hk K hK
      have e11 : vals 11 = (.bool true) := hd 11 rfl
      clear hd hk
      simp only [e11] at hK
      clear hbR
      refine wpOp_step rfl (fun K' hK' => ?_)
      go_simp
      refine hK' _ _ ?_
      exact hK _ _ rfl (Below.refl _ _)
    · intro vals wR hbR hd hk K hK
      have e18 : vals 18 = (.int .u64 x) := hd 18 rfl
      have e11 : vals 11 = (.bool true) := hd 11 rfl
      clear hd hk
      simp only [e18, e11] at hK
      clear hbR
      refine wpOp_step rfl (fun K' hK' => ?_)
      go_simp
      refine hK' _ _ ?_
      exact hK _ _ rfl (Below.refl _ _)
    · intro vals wR hbR hd hk K hK
      have e17 : vals 17 = (.slice A n c) := hd 17 rfl
      have e19 : vals 19 = (.int .u32 (x % 4294967296)) := hd 19 rfl
      have e11 : vals 11 = (.bool true) := hd 11 rfl
      clear hd hk
      simp only [e17, e19, e11] at hK
      refine wpOp_step rfl (fun K' hK' => ?_)
      go_simp
      refine (rPut32_c _ _ _ l _ wR wR.heap.size (Nat.le_refl _) (hrW.nx hbR) (by omega) h32.1 h32.2).mono ?_
      rintro e w2 ⟨A2, c2, rfl, own2, bel2⟩
      refine hK' _ _ ?_
      exact hK _ _ ⟨A2, c2, rfl, own_cap own2, Rd.own own2⟩ bel2
    · intro vals wR hbR hd hk K hK
      have e20 : IsB (n + 4) (l ++ le (x % 4294967296).toNat 4) (vals 20) wR := hd 20 rfl
      have e11 : vals 11 = (.bool true) := hd 11 rfl
      clear hd hk
      simp only [e11] at hK
      obtain ⟨A1, c1, ev, hc1, hr1⟩ := e20
      simp only [ev] at hK
      have hrun := run_b2s (P := Try.prog) wR 22 9 5 Try.underlying22 u8str Try.underlying9 (c := c1) hr1
      clear hbR hr1
      refine wpOp_step rfl (fun K' hK' => ?_)
      go_simp
      refine hK' _ _ ?_
      exact hK _ _ rfl (Below.refl _ _)
    · intro vals wR hbR hd hk K hK
      have e16 : vals 16 = (.string ⟨(l ++ le (x % 4294967296).toNat 4).toArray⟩) := hd 16 rfl
      have e21 : vals 21 = (.string ⟨(l ++ le (x % 4294967296).toNat 4).toArray⟩) := hd 21 rfl
      have e11 : vals 11 = (.bool true) := hd 11 rfl
      clear hd hk
      simp only [e16, e21, e11] at hK
      clear hbR
      refine wpOp_step rfl (fun K' hK' => ?_)
      go_simp
      refine hK' _ _ ?_
      exact hK _ _ rfl (Below.refl _ _)
    · intro vals wR hbR hd hk K hK
      have e11 : vals 11 = (.bool true) := hd 11 rfl
      have e22 : vals 22 = (.bool true) := hd 22 rfl
      clear hd hk
      simp only [e11, e22] at hK
      clear hbR
      refine wpOp_step rfl (fun K' hK' => ?_)
      go_simp
      refine hK' _ _ ?_
      exact hK _ _ rfl (Below.refl _ _)
    · intro vals wR hbR hd hk K hK
      have e23 : vals 23 = (.bool true) := hd 23 rfl
      clear hd hk
      simp only [e23] at hK
      clear hbR
      refine wpOp_step rfl (fun K' hK' => ?_)
      go_simp
      refine hK' _ _ ?_
      exact hK _ _ rfl (Below.refl _ _)
    · intro vals wR hbR hd hk K hK
      have e24 : vals 24 = (.bool true) := hd 24 rfl
      clear hd hk
      simp only [e24] at hK
      clear hbR
      refine wpOp_step rfl (fun K' hK' => ?_)
      go_simp
      refine hK' _ _ ?_
      exact hK _ _ rfl (Below.refl _ _)
    · intro vals wR hbR hd hk K hK
      have e24 : vals 24 = (.bool true) := hd 24 rfl
      clear hd hk
      simp only [e24] at hK
      clear hbR
      refine wpOp_step rfl (fun K' hK' => ?_)
      go_simp
      refine hK' _ _ ?_
      exact hK _ _ rfl (Below.refl _ _)
    · intro vals wR hbR hd hk K hK
      have e25 : vals 25 = (.slice A n c) := hd 25 rfl
      have e26 : vals 26 = (.int .u64 x) := hd 26 rfl
      have e24 : vals 24 = (.bool true) := hd 24 rfl
      clear hd hk
      simp only [e25, e26, e24] at hK
      refine wpOp_step rfl (fun K' hK' => ?_)
      go_simp
      refine (Put64_c _ _ _ l _ wR wR.heap.size (Nat.le_refl _) (hrW.nx hbR) (by omega) hx0).mono ?_
      rintro e w2 ⟨A2, c2, rfl, own2, bel2⟩
      refine hK' _ _ ?_
      exact hK _ _ ⟨A2, c2, rfl, own_cap own2, Rd.own own2⟩ bel2
    · intro vals wR hbR hd hk K hK
      have e27 : IsB (n + 8) (l ++ le (x).toNat 8) (vals 27) wR := hd 27 rfl
      have e24 : vals 24 = (.bool true) := hd 24 rfl
      clear hd hk
      simp only [e24] at hK
      obtain ⟨A1, c1, ev, hc1, hr1⟩ := e27
      simp only [ev] at hK
      have hrun := run_b2s (P := Try.prog) wR 22 9 5 Try.underlying22 u8str Try.underlying9 (c := c1) hr1
      clear hbR hr1
      refine wpOp_step rfl (fun K' hK' => ?_)
      go_simp
      refine hK' _ _ ?_
      exact hK _ _ rfl (Below.refl _ _)
    · intro vals wR hbR hd hk K hK
      have e24 : vals 24 = (.bool true) := hd 24 rfl
      clear hd hk
      simp only [e24] at hK
      clear hbR
      refine wpOp_step rfl (fun K' hK' => ?_)
      go_simp
      refine hK' _ _ ?_
      exact hK _ _ rfl (Below.refl _ _)
    · intro vals wR hbR hd hk K hK
      have e24 : vals 24 = (.bool true) := hd 24 rfl
      clear hd hk
      simp only [e24] at hK
      clear hbR
      refine wpOp_step rfl (fun K' hK' => ?_)
      go_simp
      refine hK' _ _ ?_
      exact hK _ _ rfl (Below.refl _ _)
    · intro vals wR hbR hd hk K hK
      have e29 : vals 29 = (.slice A n c) := hd 29 rfl
      have e30 : vals 30 = (.int .u64 x) := hd 30 rfl
      have e24 : vals 24 = (.bool true) := hd 24 rfl
      clear hd hk
      simp only [e29, e30, e24] at hK
      refine wpOp_step rfl (fun K' hK' => ?_)
      go_simp
      refine (rPut64_c _ _ _ l _ wR wR.heap.size (Nat.le_refl _) (hrW.nx hbR) (by omega) hx0 (Int.lt_of_le_of_lt hx1.out (by omega))).mono ?_
      rintro e w2 ⟨A2, c2, rfl, own2, bel2⟩
      refine hK' _ _ ?_
      exact hK _ _ ⟨A2, c2, rfl, own_cap own2, Rd.own own2⟩ bel2
    · intro vals wR hbR hd hk K hK
      have e31 : IsB (n + 8) (l ++ le (x).toNat 8) (vals 31) wR := hd 31 rfl
      have e24 : vals 24 = (.bool true) := hd 24 rfl
      clear hd hk
      simp only [e24] at hK
      obtain ⟨A1, c1, ev, hc1, hr1⟩ := e31
      simp only [ev] at hK
      have hrun := run_b2s (P := Try.prog) wR 22 9 5 Try.underlying22 u8str Try.underlying9 (c := c1) hr1
      clear hbR hr1
      refine wpOp_step rfl (fun K' hK' => ?_)
      go_simp
      refine hK' _ _ ?_
      exact hK _ _ rfl (Below.refl _ _)
    · intro vals wR hbR hd hk K hK
      have e28 : vals 28 = (.string ⟨(l ++ le (x).toNat 8).toArray⟩) := hd 28 rfl
      have e32 : vals 32 = (.string ⟨(l ++ le (x).toNat 8).toArray⟩) := hd 32 rfl
      have e24 : vals 24 = (.bool true) := hd 24 rfl
      clear hd hk
      simp only [e28, e32, e24] at hK
      clear hbR
      refine wpOp_step rfl (fun K' hK' => ?_)
      go_simp
      refine hK' _ _ ?_
      exact hK _ _ rfl (Below.refl _ _)
    · intro vals wR hbR hd hk K hK
      have e24 : vals 24 = (.bool true) := hd 24 rfl
      have e33 : vals 33 = (.bool true) := hd 33 rfl
      clear hd hk
      simp only [e24, e33] at hK
      clear hbR
      refine wpOp_step rfl (fun K' hK' => ?_)
      go_simp
      refine hK' _ _ ?_
      exact hK _ _ rfl (Below.refl _ _)
    · intro vals wR hbR hd hk K hK
      have e34 : vals 34 = (.bool true) := hd 34 rfl
      clear hd hk
      simp only [e34] at hK
      clear hbR
      refine wpOp_step rfl (fun K' hK' => ?_)
      go_simp
      refine hK' _ _ ?_
      exact hK _ _ rfl (Below.refl _ _)
    · intro vals wR hbR hd hk K hK
      have e35 : vals 35 = (.bool true) := hd 35 rfl
      clear hd hk
      simp only [e35] at hK
      clear hbR
      refine wpOp_step rfl (fun K' hK' => ?_)
      go_simp
      refine hK' _ _ ?_
      exact hK _ _ rfl (Below.refl _ _)
    · intro vals wR hbR hd hk K hK
      have e36 : vals 36 = (.slice A2 T.length c2) := hd 36 rfl
      have e35 : vals 35 = (.bool true) := hd 35 rfl
      clear hd hk
      simp only [e36, e35] at hK
      have hrun := run_b2s (P := Try.prog) wR 22 9 5 Try.underlying22 u8str Try.underlying9 (c := c2) (o23.nx hbR)
      clear hbR
      refine wpOp_step rfl (fun K' hK' => ?_)
      go_simp
      refine hK' _ _ ?_
      exact hK _ _ rfl (Below.refl _ _)
    · intro vals wR hbR hd hk K hK
      have e35 : vals 35 = (.bool true) := hd 35 rfl
      clear hd hk
      simp only [e35] at hK
      clear hbR
      refine wpOp_step rfl (fun K' hK' => ?_)
      go_simp
      refine hK' _ _ ?_
      exact hK _ _ rfl (Below.refl _ _)
    · intro vals wR hbR hd hk K hK
      have e38 : vals 38 = (.slice A3 T.length c3) := hd 38 rfl
      have e35 : vals 35 = (.bool true) := hd 35 rfl
      clear hd hk
      simp only [e38, e35] at hK
      have hrun := run_b2s (P := Try.prog) wR 22 9 5 Try.underlying22 u8str Try.underlying9 (c := c3) (o3.nx hbR)
      clear hbR
      refine wpOp_step rfl (fun K' hK' => ?_)
      go_simp
      refine hK' _ _ ?_
      exact hK _ _ rfl (Below.refl _ _)
    · intro vals wR hbR hd hk K hK
      have e37 : vals 37 = (.string ⟨T.toArray⟩) := hd 37 rfl
      have e39 : vals 39 = (.string ⟨T.toArray⟩) := hd 39 rfl
      have e35 : vals 35 = (.bool true) := hd 35 rfl
      clear hd hk
      simp only [e37, e39, e35] at hK
      clear hbR
      refine wpOp_step rfl (fun K' hK' => ?_)
      go_simp
      refine hK' _ _ ?_
      exact hK _ _ rfl (Below.refl _ _)
    · intro vals wR hbR hd hk K hK
      have e35 : vals 35 = (.bool true) := hd 35 rfl
      have e40 : vals 40 = (.bool true) := hd 40 rfl
      clear hd hk
      simp only [e35, e40] at hK
      clear hbR
      refine wpOp_step rfl (fun K' hK' => ?_)
      go_simp
      refine hK' _ _ ?_
      exact hK _ _ rfl (Below.refl _ _)
    · intro vals wR hbR hd hk K hK
      have e41 : vals 41 = (.bool true) := hd 41 rfl
      clear hd hk
      simp only [e41] at hK
      clear hbR
      refine wpOp_step rfl (fun K' hK' => ?_)
      go_simp
      refine hK' _ _ ?_
      exact hK _ _ rfl (Below.refl _ _)
    · intro vals wR hbR hd hk K hK
      have e42 : vals 42 = (.bool true) := hd 42 rfl
      clear hd hk
      simp only [e42] at hK
      clear hbR
      refine wpOp_step rfl (fun K' hK' => ?_)
      go_simp
      refine hK' _ _ ?_
      exact hK _ _ rfl (Below.refl _ _)
    · intro vals wR hbR hd hk K hK
      have e42 : vals 42 = (.bool true) := hd 42 rfl
      clear hd hk
      simp only [e42] at hK
      clear hbR
      refine wpOp_step rfl (fun K' hK' => ?_)
      go_simp
      refine hK' _ _ ?_
      exact hK _ _ rfl (Below.refl _ _)
    · intro vals wR hbR hd hk K hK
      have e43 : vals 43 = (.int .i64 E) := hd 43 rfl
      have e44 : vals 44 = (.int .i64 E) := hd 44 rfl
      have e42 : vals 42 = (.bool true) := hd 42 rfl
      clear hd hk
      simp only [e43, e44, e42] at hK
      clear hbR
      refine wpOp_step rfl (fun K' hK' => ?_)
      go_simp
      refine hK' _ _ ?_
      exact hK _ _ rfl (Below.refl _ _)
    · intro vals wR hbR hd hk K hK
      have e42 : vals 42 = (.bool true) := hd 42 rfl
      have e45 : vals 45 = (.bool true) := hd 45 rfl
      clear hd hk
      simp only [e42, e45] at hK
      clear hbR
      refine wpOp_step rfl (fun K' hK' => ?_)
      go_simp
      refine hK' _ _ ?_
      exact hK _ _ rfl (Below.refl _ _)
    · intro vals wR hbR hd hk K hK
      have e46 : vals 46 = (.bool true) := hd 46 rfl
      clear hd hk
      simp only [e46] at hK
      clear hbR
      refine wpOp_step rfl (fun K' hK' => ?_)
      go_simp
      refine hK' _ _ ?_
      exact hK _ _ rfl (Below.refl _ _)
  case fin =>
    intro vals wE hbE hAll
    obtain ⟨⟨⟨⟨⟨⟨⟨⟨⟨⟨⟨⟨⟨⟨⟨⟨⟨⟨⟨⟨⟨⟨⟨⟨⟨⟨⟨⟨⟨⟨⟨⟨⟨⟨⟨⟨⟨⟨⟨⟨⟨⟨⟨⟨⟨⟨⟨⟨_, _⟩, _⟩, _⟩, _⟩, _⟩, _⟩, _⟩, _⟩, _⟩, _⟩, _⟩, _⟩, _⟩, _⟩, _⟩, _⟩, _⟩, _⟩, _⟩, _⟩, _⟩, _⟩, _⟩, _⟩, _⟩, _⟩, _⟩, _⟩, _⟩, _⟩, _⟩, _⟩, _⟩, _⟩, _⟩, _⟩, _⟩, _⟩, _⟩, _⟩, _⟩, _⟩, _⟩, _⟩, _⟩, _⟩, _⟩, f47⟩ := hAll
    have e47 : vals 47 = .bool true := f47
    clear f47
    generalize vals 47 = v47 at *
    subst e47
    go_wp2_with (first | (at_make; refine Held.out ?_) | (at_builtin; refine Held.out ?_))
    go_ret
    exact ⟨rfl, below_nx bel bel.size hbE⟩
set_option maxRecDepth 100000 in
set_option maxHeartbeats 2000000 in
theorem WirePuts_w (A : Option Addr) (c n : Nat) (l : List UInt8) (x : Int) (hx0 : 0 ≤ x) (hx1 : x ≤ 18446744073709551615) (s : ByteArray) (hsm : s.size ≤ maxLen) (w : World) (hr : Rd w w.heap.size 1 A n (bv l)) :
    Calls Try.prog 5 #[.slice A n c, .int .u64 x, .string s] w fun e w' => e = .returned (.bool true) ∧ Below w.heap.size w w' := by
  by_cases hn : n ≤ 500 ∧ s.size ≤ 500
  · exact WirePuts_in A c n l x hx0 hx1 s hsm w hr hn.1 hn.2
  · have hx1 := Lib.hid hx1
    unfold maxLen at hsm
    go_enter Try.func5, Try.ntmps5
    go_wp2_with (first | (at_make; refine Held.out ?_) | (at_builtin; refine Held.out ?_))
    refine (sane_c _).mono ?_
    rintro e w1 ⟨rfl, bel1⟩
    go_wp2_with (first | (at_make; refine Held.out ?_) | (at_builtin; refine Held.out ?_))
    all_goals go_ret
    all_goals exact ⟨rfl, bel1⟩
end Go.Proofs.Ytapfilbcabakgaa
