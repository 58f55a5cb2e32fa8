/-
  The library's slices.Clone, slices.Grow (from nil) and slices.Concat at []byte.
-/
import Derived.Test.YtbifgoaceolpoaaWireW
import Derived.Test.YtbifgoaceolpoaaMem
import Derived.Lib.LazyBuf
namespace Go.Proofs.Ytbifgoaceolpoaa
set_option linter.unusedVariables false
open Go.ChangeShapes Go.WideShapes Go.ChangeAt Go.RowKit
theorem intT : Try.prog.underlying 3 = some (.int .i64) := by kernel_rfl
set_option maxHeartbeats 400000 in
theorem Clone8_c (A : Option Addr) (c n : Nat) (l : List UInt8) (w : World) (hr : Rd w w.heap.size 1 A n (bv l)) (hn : n ≤ 140737488351232) :
    Calls Try.prog 27 #[.slice A n c] w fun e w' => ∃ A' c', e = .returned (.slice A' n c') ∧ OwB w w' A' n c' l := by
  have hnil := fun w => run_eql_slice_nil (P := Try.prog) w 23 5 A n c Try.underlying23
  cases A with
  | none =>
    have h0 : n = 0 := by
      rcases Nat.eq_zero_or_pos n with h | h
      · exact h
      · obtain ⟨b, off, h2, _⟩ := hr.at_ h; cases h2
    subst h0
    have hl : l = [] := List.eq_nil_of_length_eq_zero hr.blen
    subst hl
    go_enter Try.func27, Try.ntmps27
    go_wp2_with (first | (at_make; refine Held.out ?_) | (at_builtin; refine Held.out ?_))
    go_ret
    exact ⟨_, _, rfl, World.ownsRow_nil _ _ _ _, Below.refl _ _⟩
  | some ad =>
    go_enter Try.func27, Try.ntmps27
    go_wp2_with (first | (at_make; refine Held.out ?_) | (at_builtin; refine Held.out ?_))
    refine ⟨?_⟩
    refine wpList_apb _ rfl _ _ 23 rfl sl8 ((Below.refl w.heap.size w).alloc (Nat.le_refl _) _) rfl (World.ownsRow_lit w #[] 0 (Nat.le_refl _) (by simp only [maxLen]; omega) rfl) rfl (hr.alloc (Nat.le_refl _) _) (bv_one _) (by omega) (by simp only [maxLen]; omega) (by simp) ?_
    intro A2 c2 w2 own2 bel2 sz2
    simp only [Nat.zero_add, List.nil_append] at own2
    go_wp2_with (first | (at_make; refine Held.out ?_) | (at_builtin; refine Held.out ?_))
    go_ret
    exact ⟨_, _, rfl, own2, bel2⟩
set_option maxHeartbeats 400000 in
theorem Grow8_nil (n : Nat) (w : World) (hn : n ≤ 140737488351232) :
    Calls Try.prog 33 #[.slice none 0 0, .int .i64 n] w fun e w' => ∃ A' c', e = .returned (.slice A' 0 c') ∧ n ≤ c' ∧ OwB w w' A' 0 c' [] := by
  by_cases h0 : n = 0
  · subst h0
    go_enter Try.func33, Try.ntmps33
    go_wp2_with (first | (at_make; refine Held.out ?_) | (at_builtin; refine Held.out ?_))
    go_ret
    exact ⟨_, _, rfl, Nat.le_refl _, World.ownsRow_nil _ _ _ _, Below.refl _ _⟩
  · go_enter Try.func33, Try.ntmps33
    go_wp2_with (first | (at_make; refine Held.out ?_) | (at_builtin; refine Held.out ?_))
    refine ⟨?_⟩
    refine wpList_apz _ rfl _ _ 23 3 rfl sl8 intT rfl (Below.refl w.heap.size w) rfl n rfl (by omega) (by omega) (by omega) (by simp only [maxLen]; omega) (Nat.le_refl _) ?_
    intro g c1 w1 own1 bel1 sz1
    have hc := own_cap own1
    go_wp2_with (first | (at_make; refine Held.out ?_) | (at_builtin; refine Held.out ?_))
    go_ret
    have own2 := own_take (k := 0) own1 (by omega) (by omega)
    exact ⟨_, _, rfl, hc, by simpa [bv] using own2, bel1⟩
set_option maxHeartbeats 800000 in
theorem Concat8_c (A : Option Addr) (c n : Nat) (vs : List Value) (ls : List (List UInt8)) (w : World) (hr : Rd w w.heap.size 1 A n vs) (he : EachR w vs ls) (ht : ls.flatten.length ≤ 70368744175616) (hn2 : n ≤ 140737488351232) :
    Calls Try.prog 21 #[.slice A n c] w fun e w' => ∃ A' c', e = .returned (.slice A' ls.flatten.length c') ∧ OwB w w' A' ls.flatten.length c' ls.flatten := by
  have hn : n = ls.length := by have := hr.len; have := he.1; omega
  have hF := flat_le ls
  obtain ⟨N, hN⟩ : ∃ N, ls.flatten.length = N := ⟨_, rfl⟩
  obtain ⟨q, hq⟩ : ∃ q : Nat → Nat, ∀ k, q k = (ls.take k).flatten.length := ⟨_, fun _ => rfl⟩
  have hq0 : q 0 = 0 := by rw [hq]; rfl
  have hqn : q n = N := by rw [hq, List.take_of_length_le (by omega), hN]
  have hqk : ∀ k, q k ≤ N := fun k => by rw [hq, ← hN]; exact hF k
  have hqs : ∀ (k : Nat) (h : k < ls.length), q (k + 1) = q k + ls[k].length := fun k h => by rw [hq, hq, flat_snoc ls k h, List.length_append]
  rw [hN] at ht
  have HN := Lib.hid hN
  have HQ := Lib.hid hq
  have HQS := Lib.hid hqs
  have HQ0 := Lib.hid hq0
  have HQN := Lib.hid hqn
  have HQK := Lib.hid hqk
  clear hq hqs hq0 hqn hqk hF
  rw [hN]
  clear hN
  go_enter Try.func21, Try.ntmps21
  go_wp2_with (first | (at_make; refine Held.out ?_) | (at_builtin; refine Held.out ?_))
  go_loop [3, 11] (fun s i => ∃ k : Nat, k ≤ n ∧ i = .int .i64 k ∧ s = .int .i64 (q k : Nat)) (fun _ i => n - (intOf i).toNat)
  case atStart => exact ⟨0, by omega, rfl, by rw [HQ0.out]; rfl⟩
  case round =>
    obtain ⟨k, hk, rfl, rfl⟩ := hrel
    by_cases hlt : k < n
    · obtain ⟨b, off, rfl⟩ := hr.some_ (by omega)
      obtain ⟨Ak, ck, hvk, hck, hrk⟩ := he.2 k (ls[k]'(by omega)) (by simp [show k < ls.length by omega])
      have hc := hr.cell1 hvk
      have h3 := Lib.hid (HQS.out k (by omega))
      have h4 := HQK.out k
      have h5 := HQK.out (k + 1)
      rw [h3.out] at h5
      clear hr he hvk hck hrk
      generalize (ls[k]'(by omega)).length = m at *
      go_wp2_with (first | (at_make; refine Held.out ?_) | (at_builtin; refine Held.out ?_))
      refine ⟨⟨k + 1, by omega, by go_num, ?_⟩, by simp [intOf]; omega⟩
      rw [h3.out]; go_num
    · obtain rfl : k = n := by omega
      have h4 := HQK.out k
      rw [HQN.out]
      go_wp2_with (first | (at_make; refine Held.out ?_) | (at_builtin; refine Held.out ?_))
      refine (Grow8_nil N w (by omega)).mono ?_
      rintro e w1 ⟨A1, c1, rfl, hc1, own1, bel1⟩
      go_wp2_with (first | (at_make; refine Held.out ?_) | (at_builtin; refine Held.out ?_))
      go_loopw [6, 27] (fun v i wr => ∃ (j : Nat) (A' : Option Addr) (c' : Nat), j ≤ k ∧ i = .int .i64 j ∧ v = .slice A' (q j) c' ∧
        wr.ownsRow w.heap.size 5 1 (.slice A' (q j) c') (q j) (bv (ls.take j).flatten) ∧ Below w.heap.size w wr) (fun _ i _ => k - (intOf i).toNat)
      case atStart => exact ⟨0, A1, c1, by omega, rfl, by rw [HQ0.out], by rw [HQ0.out]; exact own1, bel1⟩
      case round =>
        obtain ⟨j, A2, c2, hj, rfl, rfl, own2, bel2⟩ := hrel
        have hr2 : Rd wr wr.heap.size 1 A k vs := (hr.below bel2).more bel2.size
        have he2 := he.nx bel2
        by_cases hlt2 : j < k
        · obtain ⟨b, off, rfl⟩ := hr.some_ (by omega)
          obtain ⟨Ak, ck, hvk, hck, hrk⟩ := he.2 j (ls[j]'(by omega)) (by simp [show j < ls.length by omega])
          have hrk2 := hrk.below bel2
          have hc := hr2.cell1 hvk
          have h3 := Lib.hid (HQS.out j (by omega))
          have h5 := HQK.out (j + 1)
          rw [h3.out] at h5
          have h6 := Lib.hid (flat_snoc ls j (by omega))
          have h7 := bel2.size
          generalize hm : (ls[j]'(by omega)) = m at *
          have Hm := Lib.hid hm
          generalize hmm : m.length = mm at *
          have Hmm := Lib.hid hmm
          clear hm hmm hr2 he2 hvk hck hrk own1 bel1 hlt
          go_wp2_with (first | (at_make; refine Held.out ?_) | (at_builtin; refine Held.out ?_))
          refine ⟨?_⟩
          refine wpList_apb _ rfl _ _ 23 rfl sl8 bel2 rfl own2 rfl hrk2 (bv_one _) (by omega) (by simp only [maxLen]; omega) h7 ?_
          intro A3 c3 w3 own3 bel3 sz3
          rw [← bv_append, ← h6.out] at own3
          go_wp2_with (first | (at_make; refine Held.out ?_) | (at_builtin; refine Held.out ?_))
          refine ⟨⟨j + 1, A3, c3, by omega, by go_num, by rw [h3.out], by rw [h3.out]; exact own3, bel3⟩, by simp [intOf]; omega⟩
        · obtain rfl : j = k := by omega
          rw [HQN.out] at own2
          rw [HQN.out]
          rw [show ls.take j = ls from List.take_of_length_le (by omega)] at own2
          go_wp2_with (first | (at_make; refine Held.out ?_) | (at_builtin; refine Held.out ?_))
          go_ret
          exact ⟨_, _, rfl, own2, bel2⟩
end Go.Proofs.Ytbifgoaceolpoaa
