/-
  Walks of Same and of the law's sanity check.
-/
import Derived.Test.YtbifgoaceolpoaaJourM
import Derived.Test.YtbifgoaceolpoaaQuiet
namespace Go.Proofs.Ytbifgoaceolpoaa
set_option linter.unusedVariables false
set_option linter.unusedSimpArgs false
open Go.ChangeShapes Go.WideShapes Go.ChangeAt Go.RowKit
theorem EachR.drewN {w : World} {vs : List Value} {ls : List (List UInt8)} (h : EachR w vs ls) (q : Nat) : EachR (w.drewN q) vs ls :=
  ⟨h.1, fun i l hl => by
    obtain ⟨A, c, h1, h2, h3⟩ := h.2 i l hl
    exact ⟨A, c, h1, h2, h3.drewN q⟩⟩
theorem str_eq (l m : List UInt8) : ((⟨l.toArray⟩ : ByteArray) = ⟨m.toArray⟩) ↔ l = m := by
  constructor
  · intro h
    injection h with h
    exact List.toArray_inj h
  · rintro rfl; rfl
theorem bytes_ne (l m : List UInt8) (h : l ≠ m) : ((⟨l.toArray⟩ : ByteArray).toList == (⟨m.toArray⟩ : ByteArray).toList) = false := by
  rw [beq_eq_false_iff_ne, ByteArray.toList_eq, ByteArray.toList_eq]
  exact h
theorem take_ne {α : Type} {a b : List α} {k : Nat} {x y : α} (ha : a[k]? = some x) (hb : b[k]? = some y) (h : x ≠ y) : a ≠ b := by
  rintro rfl
  rw [ha] at hb
  exact h (by simpa using hb)
theorem take_step {α : Type} {a b : List α} {k : Nat} {x : α} (ha : a[k]? = some x) (hb : b[k]? = some x) (h : a.take k = b.take k) : a.take (k + 1) = b.take (k + 1) := by
  rw [List.take_add_one, List.take_add_one, ha, hb, h]
set_option maxRecDepth 100000 in
set_option maxHeartbeats 1000000 in
theorem Same_c (A B : Option Addr) (c d n m : Nat) (vs us : List Value) (ls ms : List (List UInt8)) (w : World) (hA : Rd w w.heap.size 1 A n vs) (eA : EachR w vs ls) (hB : Rd w w.heap.size 1 B m us) (eB : EachR w us ms) (hn : n ≤ 1099511627776) (hm : m ≤ 1099511627776) :
    Calls Try.prog 13 #[.slice A n c, .slice B m d] w fun e w' => e = .returned (.bool (decide (ls = ms))) ∧ ∃ q, w' = w.drewN q := by
  have hln : ls.length = n := by have := hA.len; have := eA.1; omega
  have hlm : ms.length = m := by have := hB.len; have := eB.1; omega
  by_cases hnm : n = m
  · subst hnm
    clear hm
    have hne : ((n : Int) != n) = false := by simp
    have Hln := Lib.hid hln
    have Hlm := Lib.hid hlm
    clear hln hlm
    go_enter Try.func13, Try.ntmps13
    go_wp2_with (first | (at_make; refine Held.out ?_) | (at_builtin; refine Held.out ?_))
    go_loopw [5] (fun iv_ wr => ∃ (k q : Nat), k ≤ n ∧ iv_ = .int .i64 k ∧ wr = w.drewN q ∧ Hid (ls.take k = ms.take k)) (fun i _ => n - (intOf i).toNat)
    case atStart => exact ⟨0, 0, by omega, rfl, rfl, Lib.hid (by simp)⟩
    case round =>
      obtain ⟨k, q, hk, rfl, rfl, heq⟩ := hrel
      by_cases hkn : k < n
      · obtain ⟨b1, o1, rfl⟩ := hA.some_ (by omega)
        obtain ⟨b2, o2, rfl⟩ := hB.some_ (by omega)
        have hl1 := List.getElem?_eq_getElem (l := ls) (i := k) (by rw [Hln.out]; exact hkn)
        have hl2 := List.getElem?_eq_getElem (l := ms) (i := k) (by rw [Hlm.out]; exact hkn)
        obtain ⟨A1, c1, hv1, hc1, hr1⟩ := eA.2 k _ hl1
        obtain ⟨A2, c2, hv2, hc2, hr2⟩ := eB.2 k _ hl2
        have cell1 := hA.cell1 hv1
        have cell2 := hB.cell1 hv2
        have hr1 := hr1.drewN q
        have hr2 := hr2.drewN q
        clear hA hB hv1 hv2
        by_cases hlk : ls[k]'(by rw [Hln.out]; exact hkn) = ms[k]'(by rw [Hlm.out]; exact hkn)
        · have hse : ((ls[k]'(by rw [Hln.out]; exact hkn)) == (ms[k]'(by rw [Hlm.out]; exact hkn))) = true := beq_iff_eq.2 hlk
          have hts := Lib.hid (take_step hl1 (by rw [hl2, hlk]) heq.out)
          generalize (ls[k]'(by rw [Hln.out]; exact hkn)) = l1 at *
          generalize (ms[k]'(by rw [Hlm.out]; exact hkn)) = l2 at *
          clear hl1 hl2 hlk eA eB
          go_wp2_with (first | (at_make; refine Held.out ?_) | (at_builtin; refine Held.out ?_))
          (refine wp_region_quiet_lit (by kernel_rfl) (by kernel_rfl) ?_; (repeat (first | ((first | refine wpQuiet_b2s rfl _ _ _ _ rfl Try.underlying23 u8str Try.underlying9 rfl hr1 ?_ | refine wpQuiet_b2s rfl _ _ _ _ rfl Try.underlying23 u8str Try.underlying9 rfl hr2 ?_); simp only [Act.put, List.setIfInBounds_toArray, List.set_cons_succ, List.set_cons_zero, Nat.reduceAdd]) | go_big_quiet_step (fail))); refine wpQuiet_nil ?_; intro _ hw'; obtain ⟨nq, hw''⟩ := hw'; subst hw'')
          go_wp2_with (first | (at_make; refine Held.out ?_) | (at_builtin; refine Held.out ?_))
          exact ⟨⟨k + 1, q + nq, by omega, by go_num, rfl, hts⟩, by simp [intOf]; omega⟩
        · have hse : ((ls[k]'(by rw [Hln.out]; exact hkn)) == (ms[k]'(by rw [Hlm.out]; exact hkn))) = false := beq_eq_false_iff_ne.2 hlk
          have hd : decide (ls = ms) = false := by
            rw [decide_eq_false_iff_not]
            exact take_ne hl1 hl2 hlk
          have hd := Lib.hid hd
          generalize (ls[k]'(by rw [Hln.out]; exact hkn)) = l1 at *
          generalize (ms[k]'(by rw [Hlm.out]; exact hkn)) = l2 at *
          clear hl1 hl2 hlk eA eB
          go_wp2_with (first | (at_make; refine Held.out ?_) | (at_builtin; refine Held.out ?_))
          (refine wp_region_quiet_lit (by kernel_rfl) (by kernel_rfl) ?_; (repeat (first | ((first | refine wpQuiet_b2s rfl _ _ _ _ rfl Try.underlying23 u8str Try.underlying9 rfl hr1 ?_ | refine wpQuiet_b2s rfl _ _ _ _ rfl Try.underlying23 u8str Try.underlying9 rfl hr2 ?_); simp only [Act.put, List.setIfInBounds_toArray, List.set_cons_succ, List.set_cons_zero, Nat.reduceAdd]) | go_big_quiet_step (fail))); refine wpQuiet_nil ?_; intro _ hw'; obtain ⟨nq, hw''⟩ := hw'; subst hw'')
          go_wp2_with (first | (at_make; refine Held.out ?_) | (at_builtin; refine Held.out ?_))
          go_ret
          exact ⟨by rw [hd.out]; rfl, q + nq, by rw [World.drewN_drewN]⟩
      · go_wp2_with (first | (at_make; refine Held.out ?_) | (at_builtin; refine Held.out ?_))
        go_ret
        have : k = n := by omega
        subst this
        have h := heq.out
        rw [List.take_of_length_le (by rw [Hln.out]; exact Nat.le_refl _), List.take_of_length_le (by rw [Hlm.out]; exact Nat.le_refl _)] at h
        exact ⟨by simp [h], q, rfl⟩
  · have hne : ((n : Int) != m) = true := by rw [bne_iff_ne]; omega
    have hd : decide (ls = ms) = false := by
      rw [decide_eq_false_iff_not]
      rintro rfl
      omega
    rw [hd]
    go_enter Try.func13, Try.ntmps13
    go_wp2_with (first | (at_make; refine Held.out ?_) | (at_builtin; refine Held.out ?_))
    go_ret
    exact ⟨rfl, 0, rfl⟩
end Go.Proofs.Ytbifgoaceolpoaa
