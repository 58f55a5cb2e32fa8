/-
  The laws of layer 1 return true: walks over the contracts of the calls.
-/
import Derived.Test.YtapfilbcabakgaaWireS
namespace Go.Proofs.Ytapfilbcabakgaa
set_option linter.unusedVariables false
open Go.ChangeShapes Go.WideShapes Go.ChangeAt Go.RowKit
set_option maxHeartbeats 400000 in
theorem WireSums_w (A : Option Addr) (c n : Nat) (l : List UInt8) (w : World) (hr : Rd w w.heap.size 1 A n (bv l)) :
    Calls Try.prog 3 #[.slice A n c] w fun e w' => e = .returned (.bool true) ∧ Below w.heap.size w w' := by
  by_cases hn : n ≤ 500
  · go_enter Try.func3, Try.ntmps3
    go_wp2_with (first | (at_make; refine Held.out ?_) | (at_builtin; refine Held.out ?_))
    refine (sane_c _).mono ?_
    rintro e w1 ⟨rfl, bel1⟩
    have hr1 := hr.nx bel1
    go_wp2_with (first | (at_make; refine Held.out ?_) | (at_builtin; refine Held.out ?_))
    refine (Sum_c _ _ _ _ _ _ hr1 (by omega)).mono ?_
    rintro e w2 ⟨rfl, rfl⟩
    go_wp2_with (first | (at_make; refine Held.out ?_) | (at_builtin; refine Held.out ?_))
    refine (rSum_c _ _ _ _ _ _ hr1 (by omega)).mono ?_
    rintro e w2 ⟨rfl, rfl⟩
    go_wp2_with (first | (at_make; refine Held.out ?_) | (at_builtin; refine Held.out ?_))
    refine (Hash_c _ _ _ _ _ _ hr1 (by omega)).mono ?_
    rintro e w2 ⟨rfl, rfl⟩
    go_wp2_with (first | (at_make; refine Held.out ?_) | (at_builtin; refine Held.out ?_))
    refine (rHash_c _ _ _ _ _ _ hr1 (by omega)).mono ?_
    rintro e w2 ⟨rfl, rfl⟩
    go_wp2_with (first | (at_make; refine Held.out ?_) | (at_builtin; refine Held.out ?_))
    go_ret
    exact ⟨rfl, bel1⟩
  · go_enter Try.func3, Try.ntmps3
    go_wp2_with (first | (at_make; refine Held.out ?_) | (at_builtin; refine Held.out ?_))
    refine (sane_c _).mono ?_
    rintro e w1 ⟨rfl, bel1⟩
    go_wp2_with (first | (at_make; refine Held.out ?_) | (at_builtin; refine Held.out ?_))
    go_ret
    exact ⟨rfl, bel1⟩

set_option maxHeartbeats 400000 in
theorem WireGets_w (A : Option Addr) (c n : Nat) (l : List UInt8) (a : Int) (w : World) (hr : Rd w w.heap.size 1 A n (bv l)) (hnc : n ≤ c) :
    Calls Try.prog 7 #[.slice A n c, .int .i64 a] w fun e w' => e = .returned (.bool true) ∧ Below w.heap.size w w' := by
  by_cases hn : n ≤ 500
  · have h16 := Lib.hid (fun W hr => Get16_c A c n l a W W.heap.size hr (by omega))
    have r16 := Lib.hid (fun W hr => rGet16_c A c n l a W W.heap.size hr (by omega))
    have h32 := Lib.hid (fun W hr => Get32_c A c n l a W W.heap.size hr (by omega))
    have r32 := Lib.hid (fun W hr => rGet32_c A c n l a W W.heap.size hr (by omega))
    have h64 := Lib.hid (fun W hr => Get64_c A c n l a W W.heap.size hr (by omega))
    have r64 := Lib.hid (fun W hr => rGet64_c A c n l a W W.heap.size hr (by omega))
    have ht := Lib.hid (fun W hr => GetText_c A c n l a W W.heap.size hr (by omega) hnc)
    have rt := Lib.hid (fun W hr => rGetText_c A c n l a W W.heap.size hr (by omega) hnc)
    generalize getM l a 2 = g16 at *
    generalize getM l a 4 = g32 at *
    generalize getM l a 8 = g64 at *
    generalize textM l a = gt at *
    obtain ⟨x1, x2, x3⟩ := g16
    obtain ⟨y1, y2, y3⟩ := g32
    obtain ⟨z1, z2, z3⟩ := g64
    obtain ⟨t1, t2, t3⟩ := gt
    go_enter Try.func7, Try.ntmps7
    go_wp2_with (first | (at_make; refine Held.out ?_) | (at_builtin; refine Held.out ?_))
    refine (sane_c _).mono ?_
    rintro e w1 ⟨rfl, bel1⟩
    have hr1 := hr.nx bel1
    clear hr
    go_wp2_with (first | (at_make; refine Held.out ?_) | (at_builtin; refine Held.out ?_))
    refine (h16.out _ hr1).mono ?_
    rintro e w2 ⟨rfl, rfl⟩
    go_wp2_with (first | (at_make; refine Held.out ?_) | (at_builtin; refine Held.out ?_))
    refine (r16.out _ hr1).mono ?_
    rintro e w2 ⟨rfl, rfl⟩
    go_wp2_with (first | (at_make; refine Held.out ?_) | (at_builtin; refine Held.out ?_))
    refine (h32.out _ hr1).mono ?_
    rintro e w2 ⟨rfl, rfl⟩
    go_wp2_with (first | (at_make; refine Held.out ?_) | (at_builtin; refine Held.out ?_))
    refine (r32.out _ hr1).mono ?_
    rintro e w2 ⟨rfl, rfl⟩
    go_wp2_with (first | (at_make; refine Held.out ?_) | (at_builtin; refine Held.out ?_))
    refine (h64.out _ hr1).mono ?_
    rintro e w2 ⟨rfl, rfl⟩
    go_wp2_with (first | (at_make; refine Held.out ?_) | (at_builtin; refine Held.out ?_))
    refine (r64.out _ hr1).mono ?_
    rintro e w2 ⟨rfl, rfl⟩
    go_wp2_with (first | (at_make; refine Held.out ?_) | (at_builtin; refine Held.out ?_))
    refine (ht.out _ hr1).mono ?_
    rintro e w2 ⟨rfl, rfl⟩
    go_wp2_with (first | (at_make; refine Held.out ?_) | (at_builtin; refine Held.out ?_))
    refine (rt.out _ hr1).mono ?_
    rintro e w2 ⟨rfl, rfl⟩
    go_wp2_with (first | (at_make; refine Held.out ?_) | (at_builtin; refine Held.out ?_))
    go_ret
    exact ⟨rfl, bel1⟩
  · go_enter Try.func7, Try.ntmps7
    go_wp2_with (first | (at_make; refine Held.out ?_) | (at_builtin; refine Held.out ?_))
    refine (sane_c _).mono ?_
    rintro e w1 ⟨rfl, bel1⟩
    go_wp2_with (first | (at_make; refine Held.out ?_) | (at_builtin; refine Held.out ?_))
    go_ret
    exact ⟨rfl, bel1⟩
end Go.Proofs.Ytapfilbcabakgaa
