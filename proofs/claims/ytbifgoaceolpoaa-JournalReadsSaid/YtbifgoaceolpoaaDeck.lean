/-
  The deck of numbers of package mill: Mod, New, Left, Next.
-/
import Derived.Test.YtbifgoaceolpoaaRows
import Derived.Test.YtbifgoaceolpoaaMem
import Derived.Deep.QuietTactic
import Derived.BigQuiet
namespace Go.Proofs.Ytbifgoaceolpoaa
set_option linter.unusedVariables false
open Go.ChangeShapes Go.WideShapes Go.ChangeAt Go.RowKit
/-- numbers as cells -/
def iv (l : List Int) : List Value := l.map (Value.int .i64)
theorem iv_get (l : List Int) (k : Nat) (h : k < l.length) : (iv l)[k]? = some (.int .i64 l[k]) := by simp [iv, h]
theorem iv_length (l : List Int) : (iv l).length = l.length := by simp [iv]
def Fits (l : List Int) : Prop := ∀ z ∈ l, -9223372036854775808 ≤ z ∧ z ≤ 9223372036854775807
/-- Block g holds a deck: the slice of its numbers, and how many are taken. -/
def Dk (w : World) (g : Nat) (A : Option Addr) (n c : Nat) (k : Nat) : Prop := w.heap[g]? = some (.cells #[.slice A n c, .int .i64 k] 51 (0, 0))
/-- the next number, and how many are taken then -/
def dnext (l : List Int) (k : Nat) (m : Int) : Int × Nat := if h : k < l.length then (l[k] % m, k + 1) else (0, k)
theorem dnext_in (l : List Int) (k : Nat) (m : Int) (h : k < l.length) : dnext l k m = (l[k] % m, k + 1) := by unfold dnext; rw [dif_pos h]
theorem dnext_out (l : List Int) (k : Nat) (m : Int) (h : ¬ k < l.length) : dnext l k m = (0, k) := by unfold dnext; rw [dif_neg h]
theorem dnext_bd (l : List Int) (k : Nat) (m : Int) (hm : 0 < m) : 0 ≤ (dnext l k m).1 ∧ (dnext l k m).1 < m := by
  unfold dnext
  split
  · exact ⟨Int.emod_nonneg _ (by omega), Int.emod_lt_of_pos _ hm⟩
  · exact ⟨by simp, hm⟩

theorem Mod_c (v m : Int) (w : World) (hv : -9223372036854775808 ≤ v ∧ v ≤ 9223372036854775807) (hm : 0 < m) (hm2 : m ≤ 1099511627776) :
    Calls Try.prog 8 #[.int .i64 v, .int .i64 m] w fun e w' => e = .returned (.int .i64 (v % m)) ∧ w = w' := by
  have hm0 : (m == 0) = false := by rw [beq_eq_false_iff_ne]; omega
  by_cases h0 : 0 ≤ v
  · have h1 := Int.emod_nonneg v (show m ≠ 0 by omega)
    have h2 := Int.emod_lt_of_pos v hm
    go_enter Try.func8, Try.ntmps8
    go_wp2_with (first | (at_make; refine Held.out ?_) | (at_builtin; refine Held.out ?_))
    go_ret
    exact ⟨rfl, rfl⟩
  · have h1 := Int.emod_nonneg v (show m ≠ 0 by omega)
    have h2 := Int.emod_lt_of_pos v hm
    have e1 := @Int.tmod_eq_emod v m
    by_cases hz : m ∣ v
    · rw [if_pos (.inr hz), Int.emod_eq_zero_of_dvd hz] at e1
      rw [Int.emod_eq_zero_of_dvd hz]
      clear h1 h2 hz
      have e2 : v.tmod m = 0 := by rw [e1]; rfl
      clear e1
      have hw : IntKind.i64.wrap (v.tmod m) = 0 := by rw [e2]; rfl
      go_enter Try.func8, Try.ntmps8
      go_wp2_with (first | (at_make; refine Held.out ?_) | (at_builtin; refine Held.out ?_))
      go_ret
      exact ⟨rfl, rfl⟩
    · rw [if_neg (by intro h; rcases h with h | h; exact h0 h; exact hz h)] at e1
      have hp : v % m ≠ 0 := fun h => hz (Int.dvd_of_emod_eq_zero h)
      have e2 : v.tmod m = v % m - m := by rw [e1]; omega
      clear e1 hz
      generalize v % m = r at *
      have hw : IntKind.i64.wrap (r - m) = r - m := IntWalk.i64_in _ (by omega)
      have hlt : r - m < 0 := by omega
      go_enter Try.func8, Try.ntmps8
      go_wp2_with (first | (at_make; refine Held.out ?_) | (at_builtin; refine Held.out ?_))
      go_ret
      exact ⟨rfl, rfl⟩
theorem New_c (A : Option Addr) (n c : Nat) (w : World) :
    Calls Try.prog 16 #[.slice A n c] w fun e w' => e = .returned (.pointer (some ⟨w.heap.size, 0, none⟩)) ∧ w' = w.alloc (.cells #[.slice A n c, .int .i64 0] 51) := by
  go_enter Try.func16, Try.ntmps16
  go_wp2_with (first | (at_make; refine Held.out ?_) | (at_builtin; refine Held.out ?_))
  go_ret
  exact ⟨rfl, rfl⟩
theorem Left_c (g : Nat) (A : Option Addr) (n c k : Nat) (w : World) (hd : Dk w g A n c k) (hn : n ≤ maxLen) :
    Calls Try.prog 28 #[.pointer (some ⟨g, 0, none⟩)] w fun e w' => e = .returned (.bool (decide (k < n))) ∧ ∃ q, w' = w.drewN q := by
  have h0 : w.cell? ⟨g, 0, none⟩ = some (.slice A n c) := by simp [World.cell?, show w.heap[g]? = _ from hd]
  have h1 : w.cell? ⟨g, 1, none⟩ = some (.int .i64 k) := by simp [World.cell?, show w.heap[g]? = _ from hd]
  clear hd
  unfold maxLen at hn
  go_enter Try.func28, Try.ntmps28
  go_wp2_with (first | (at_make; refine Held.out ?_) | (at_builtin; refine Held.out ?_))
  go_quiet (fail)
  go_wp2_with (first | (at_make; refine Held.out ?_) | (at_builtin; refine Held.out ?_))
  go_ret
  exact ⟨rfl, nq, rfl⟩
/-- what taking a number does to memory -/
structure Took (w w' : World) (g : Nat) : Prop where
  grown : w.grownBy w' (some g)
  size : w'.heap.size = w.heap.size
theorem Took.drewN (w : World) (g q : Nat) : Took w (w.drewN q) g := ⟨⟨rfl, rfl, rfl, Nat.le_refl _, fun _ _ _ => rfl⟩, rfl⟩
theorem Took.set (w : World) (g q r : Nat) (u : Value) : Took w (((w.drewN q).setCell ⟨g, 1, none⟩ u).drewN r) g :=
  ⟨⟨rfl, rfl, rfl, by simp [World.setCell], fun k _ hk => Below.heap_setCell (w.drewN q) ⟨g, 1, none⟩ u k (fun e => hk (by rw [e]))⟩, by simp [World.setCell]⟩
theorem Took.below {w w' : World} {g : Nat} (h : Took w w' g) : Below g w w' :=
  ⟨h.grown.os, h.grown.tape, h.grown.output, h.grown.size, fun k hk => by
    rcases Nat.lt_or_ge k w.heap.size with h1 | h1
    · exact h.grown.block k h1 (fun e => by
        have h2 : k = g := by simpa using e
        omega)
    · rw [Array.getElem?_eq_none h1, Array.getElem?_eq_none (by rw [h.size]; exact h1)]⟩
theorem Took.below0 {B : Nat} {w0 w w' : World} {g : Nat} (h : Took w w' g) (b : Below B w0 w) (hg : B ≤ g) : Below B w0 w' := b.trans (h.below.mono hg)
theorem Dk.below {w w' : World} {g : Nat} {A : Option Addr} {n c k : Nat} (h : Dk w g A n c k) (b : Below w.heap.size w w') : Dk w' g A n c k := by
  unfold Dk at h ⊢
  rw [b.block g (Array.getElem?_eq_some_iff.1 h).1]; exact h
theorem Dk.belowB {w w' : World} {g B : Nat} {A : Option Addr} {n c k : Nat} (h : Dk w g A n c k) (b : Below B w w') (hg : g < B) : Dk w' g A n c k := by
  unfold Dk at h ⊢
  rw [b.block g hg]; exact h
theorem Dk.lt {w : World} {g : Nat} {A : Option Addr} {n c k : Nat} (h : Dk w g A n c k) : g < w.heap.size := (Array.getElem?_eq_some_iff.1 h).1
theorem Dk.new (w : World) (A : Option Addr) (n c : Nat) : Dk (w.alloc (.cells #[.slice A n c, .int .i64 0] 51)) w.heap.size A n c 0 := heap_alloc_new w _
theorem own_took {w w' : World} {g base : Nat} {e : TypeId} {size : Nat} {v : Value} {n : Nat} {xs : List Value} (h : w.ownsRow base e size v n xs) (t : Took w w' g) (hg : g < base) : w'.ownsRow base e size v n xs :=
  h.kept t.grown (.inr (fun hh => by have := (h.lt g hh).1; omega))
theorem Dk.set {w : World} {g : Nat} {A : Option Addr} {n c k : Nat} (h : Dk w g A n c k) (q r : Nat) : Dk (((w.drewN q).setCell ⟨g, 1, none⟩ (.int .i64 ((k : Int) + 1))).drewN r) g A n c (k + 1) := by
  unfold Dk at h ⊢
  simp [World.setCell, Array.getElem?_modify, h]
set_option maxHeartbeats 400000 in
theorem Next_c (g : Nat) (A : Option Addr) (n c k : Nat) (l : List Int) (m : Int) (w : World) (hd : Dk w g A n c k) (hr : Rd w g 1 A n (iv l)) (hf : Fits l) (hn : n ≤ maxLen) (hm : 0 < m) (hm2 : m ≤ 1099511627776) :
    Calls Try.prog 17 #[.pointer (some ⟨g, 0, none⟩), .int .i64 m] w fun e w' => e = .returned (.int .i64 (dnext l k m).1) ∧ Dk w' g A n c (dnext l k m).2 ∧ Took w w' g := by
  have hl : l.length = n := by have := hr.len; rw [iv_length] at this; omega
  by_cases hk : k < n
  · rw [dnext_in l k m (by omega)]
    obtain ⟨b, off, rfl, hbg, hcell⟩ := hr.at_ (by omega)
    have hc := hcell k _ (iv_get l k (by omega))
    have hz := hf (l[k]'(by omega)) (List.getElem_mem _)
    have h0 : w.cell? ⟨g, 0, none⟩ = some (.slice (some ⟨b, off, none⟩) n c) := by simp [World.cell?, show w.heap[g]? = _ from hd]
    have h1 : w.cell? ⟨g, 1, none⟩ = some (.int .i64 k) := by simp [World.cell?, show w.heap[g]? = _ from hd]
    have hfz : w.frozen? ⟨g, 1, none⟩ = false := by simp [World.frozen?, show w.heap[g]? = _ from hd]
    have hL := Lib.hid (fun w hd => Left_c g (some ⟨b, off, none⟩) n c k w hd hn)
    have hdk : decide (k < n) = true := by simp [hk]
    have hne : ¬ b = g := by omega
    have hne' : ¬ g = b := by omega
    have hd' := Lib.hid hd
    have hk1 := Lib.hid (show ((k : Int) + 1 - 1) = (k : Int) by omega)
    clear hd hr hcell hf
    generalize hzz : (l[k]'(by omega)) = z at *
    have Hz := Lib.hid hzz
    clear hzz
    unfold maxLen at hn
    go_enter Try.func17, Try.ntmps17
    go_wp2_with (first | (at_make; refine Held.out ?_) | (at_builtin; refine Held.out ?_))
    refine (hL.out w hd'.out).mono ?_
    rw [hdk]
    rintro e w' ⟨rfl, q, rfl⟩
    go_wp2_with (first | (at_make; refine Held.out ?_) | (at_builtin; refine Held.out ?_))
    go_quiet ((go_at_call 8; exact Calls.quiet_of_same ((Mod_c _ _ _ hz hm hm2).mono fun _ _ h => ⟨h.1, h.2.symm⟩)))
    go_wp2_with (first | (at_make; refine Held.out ?_) | (at_builtin; refine Held.out ?_))
    go_ret
    exact ⟨rfl, Dk.set hd'.out _ _, Took.set _ _ _ _ _⟩
  · rw [dnext_out l k m (by omega)]
    have hL := Lib.hid (Left_c g A n c k w hd hn)
    have hd' := Lib.hid hd
    have hdk : decide (k < n) = false := by simp [hk]
    clear hd hr hf
    go_enter Try.func17, Try.ntmps17
    go_wp2_with (first | (at_make; refine Held.out ?_) | (at_builtin; refine Held.out ?_))
    refine hL.out.mono ?_
    rw [hdk]
    rintro e w' ⟨rfl, q, rfl⟩
    go_wp2_with (first | (at_make; refine Held.out ?_) | (at_builtin; refine Held.out ?_))
    go_ret
    exact ⟨rfl, hd'.out, Took.drewN _ _ _⟩
end Go.Proofs.Ytbifgoaceolpoaa
