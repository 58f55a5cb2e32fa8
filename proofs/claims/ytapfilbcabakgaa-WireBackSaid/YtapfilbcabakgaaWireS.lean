/-
  The sanity check of the laws of layer 1 returns true.
-/
import Derived.Test.YtapfilbcabakgaaWireT
namespace Go.Proofs.Ytapfilbcabakgaa
set_option linter.unusedVariables false
open Go.ChangeShapes Go.WideShapes Go.ChangeAt Go.RowKit
theorem bytes258 : ([] : List UInt8) ++ le (258 : Int).toNat 2 = [2, 1] := by decide
theorem crc9 : crc [49, 50, 51, 52, 53, 54, 55, 56, 57] = 3421780262 := by decide +kernel
theorem crc0 : crc [] = 0 := by decide +kernel
theorem fnv0 : fnvOf [] = 14695981039346656037 := by unfold fnvOf; rfl
set_option maxHeartbeats 400000 in
theorem sane_c (w : World) :
    Calls Try.prog 9 #[] w fun e w' => e = .returned (.bool true) ∧ Below w.heap.size w w' := by
  go_enter Try.func9, Try.ntmps9
  go_wp2_with (first | (at_make; refine Held.out ?_) | (at_builtin; refine Held.out ?_) | (refine hold_slice ?_) | (refine hold_conv (s := 22) (t := 9) ?_))
  refine (Put16_c none 0 0 [] 258 w w.heap.size (Nat.le_refl _) (Rd.nil _ _ _ _) (by omega) (by omega)).mono ?_
  rintro e w1 ⟨A1, c1, rfl, hb1⟩
  rw [bytes258] at hb1
  have own1 := hb1.1
  have bel1 := hb1.2
  clear hb1
  go_wp2_with (first | (at_make; refine Held.out ?_) | (at_builtin; refine Held.out ?_) | (refine hold_slice ?_) | (refine hold_conv (s := 22) (t := 9) ?_))
  refine ⟨?_⟩
  refine wpList_b2s _ rfl _ _ _ _ rfl Try.underlying22 u8str Try.underlying9 rfl (Rd.own own1) ?_
  have kc := fun (w : World) (C : Array Value) (n c : Nat) => Lib.run_convert_bytes_const (P := Try.prog) w 22 5 C n c Try.underlying22 Try.underlying5
  go_wp2_with (first | (at_make; refine Held.out ?_) | (at_builtin; refine Held.out ?_) | (refine hold_slice ?_) | (refine hold_conv (s := 22) (t := 9) ?_))
  have e9 : (#[Value.int .u8 49, .int .u8 50, .int .u8 51, .int .u8 52, .int .u8 53, .int .u8 54, .int .u8 55, .int .u8 56, .int .u8 57] : Array Value).toList = bv [49, 50, 51, 52, 53, 54, 55, 56, 57] := rfl
  have hr9 := Rd.litF w1 #[Value.int .u8 49, .int .u8 50, .int .u8 51, .int .u8 52, .int .u8 53, .int .u8 54, .int .u8 55, .int .u8 56, .int .u8 57] 5 (9, 10) 9 1 rfl
  rw [e9] at hr9
  refine (Sum_c _ 9 9 _ _ _ hr9 (by omega)).mono ?_
  rw [crc9]
  rintro e w2 ⟨rfl, rfl⟩
  clear kc own1 e9 hr9
  go_wp2_with (first | (at_make; refine Held.out ?_) | (at_builtin; refine Held.out ?_))
  refine (Sum_c none 0 0 [] _ 0 (Rd.nil _ _ _ _) (by omega)).mono ?_
  rw [crc0]
  rintro e w2 ⟨rfl, rfl⟩
  go_wp2_with (first | (at_make; refine Held.out ?_) | (at_builtin; refine Held.out ?_))
  refine (Hash_c none 0 0 [] _ 0 (Rd.nil _ _ _ _) (by omega)).mono ?_
  rw [fnv0]
  rintro e w2 ⟨rfl, rfl⟩
  go_wp2_with (first | (at_make; refine Held.out ?_) | (at_builtin; refine Held.out ?_))
  go_ret
  exact ⟨rfl, bel1.alloc bel1.size _⟩
end Go.Proofs.Ytapfilbcabakgaa
