/-
  Walk of the law RulesFormats.
-/
import Derived.Test.YtpacgphnpalepaaDoorQAA
import Derived.Test.YtpacgphnpalepaaDoorFoD
import Derived.Test.YtpacgphnpalepaaDoorQBJ
import Derived.Test.YtpacgphnpalepaaDoorQCC
import Derived.Test.YtpacgphnpalepaaDoorQAO
import Derived.Test.YtpacgphnpalepaaDoorASh
namespace Go.Proofs.YtpacgphnpalepaaDoor
set_option linter.unusedVariables false
set_option linter.unusedSimpArgs false
abbrev lsP (L : List (List Ru)) : List (List PV) := L.map fun y => [PV.sl 5 (ruP y)]
def RuW (r : Ru) : Prop := r.cond.length ≤ 9223372036854775807 ∧ (∀ t ∈ r.cond, t.2.length ≤ 9223372036854775807) ∧ r.hd.role.length ≤ 9223372036854775807 ∧ r.hd.cls.length ≤ 9223372036854775807
set_option maxHeartbeats 4000000 in
theorem RulesFormats_c (l : List Int) (f g : Bool) (hl : Fits l) (raw : List Ru) (hw : raw.length ≤ 9223372036854775807) (hr : ∀ r ∈ raw, RuW r) : ACalls Tryd.prog 3 [.sl 1 (ivs l) f, .sl 5 (ruP raw) g] [] (.v (.bool true)) [] := by
  have hrl : (ruP raw).length = raw.length := by simp
  obtain ⟨g1, g2, g3⟩ := rulesL_ok l 0 (Nat.zero_le _)
  have hN := New_c l f
  have hR := Rules_c l hl 0 (Nat.zero_le _)
  generalize rulesL l 0 = X at hR g1 g2
  generalize rulesA l 0 = a at hR
  refine (ACalls.of (fn := Tryd.f3) Tryd.func3 Z Z Tryd.ntmps3 (fun I M w own => ?_))
  by_cases h8 : 8 < raw.length
  · have d0 : ((ruP raw).length : Int) > 8 := by omega
    (repeat' (first|refine AW.seq_k (fun K hK=>?_)|(refine hK _ ?_;clear hK)|refine AW.uC (fun hc=>?_) (fun hc=>?_)|refine AW.ret ?_|refine AW.skip ?_|exact trivial|refine AW.rI [0, 1, 3, 4] Z ?_|refine Run.c0 sane_c Z Z Z Z Z Z Z Z ?_|refine Ud ?_|fail))
    ((first|refine RetOk.tupS [] Z Z Z Z Z ?_ ?_|refine RetOk.oneS [] Z Z Z Z ?_ ?_)<;>(repeat' (first|exact V0|refine V1 ?_|refine V2 ?_ ?_|fail)))
  have d0 : ¬ ((ruP raw).length : Int) > 8 := by omega
  (repeat' (first|refine AW.seq_k (fun K hK=>?_)|(refine hK _ ?_;clear hK)|refine AW.uC (fun hc=>?_) (fun hc=>?_)|refine AW.block ?_|refine AW.skip ?_|exact trivial|refine AW.rI [0, 1, 3, 5] Z ?_|refine Run.c0 sane_c Z Z Z Z Z Z Z Z ?_|refine Ud ?_|fail))
  refine AW.loopF (X := Nat) (fun y => ⟨[(0, .sl 1 (ivs l) f), (1, .sl 5 (ruP raw) g), (19, .sl 5 (ruP raw) g), (20, .v (.int .i64 ((ruP raw).length : Int))), (21, .v (.int .i64 (y : Int)))], []⟩) (fun y => y ≤ raw.length ∧ ∀ i : Nat, i < y → ∀ r, raw[i]? = some r → r.cond.length ≤ 20) (fun y => raw.length - y) 0 ?_ ⟨Nat.zero_le _, fun i hi => by omega⟩ ?_
  · refine Conv.mk [] Z Z Z ?_ Z ?_
    · (repeat' (first|exact V0|refine V3 ?_|refine V2 ?_ ?_|fail))
    · (repeat' (first|exact V0|refine V3 ?_|refine V2 ?_ ?_|fail))
  rintro y ⟨hy, hc⟩
  rcases Nat.lt_or_ge y raw.length with h | h
  · obtain ⟨r, hry⟩ : ∃ r, raw[y]? = some r := ⟨raw[y], by simp [h]⟩
    have hA : At (ruP raw) (y : Int) [PV.v (.int .i64 r.hd.kind), PV.v (.string (bs r.hd.role)), PV.v (.string (bs r.hd.cls)), PV.v (.int .i64 r.hd.pct), PV.sl 2 (tmP r.cond)] := At.mk y Z (by simp [hry])
    have hlt : (y : Int) < ((ruP raw).length : Int) := by omega
    obtain ⟨w1, w2, w3, w4⟩ := hr r (List.mem_of_getElem? hry)
    have hcl : (tmP r.cond).length = r.cond.length := by simp
    by_cases h20 : 20 < r.cond.length
    · have d1 : ((tmP r.cond).length : Int) > 20 := by omega
      (repeat' (first|refine AW.seq_k (fun K hK=>?_)|(refine hK _ ?_;clear hK)|refine AW.uC (fun hc=>?_) (fun hc=>?_)|refine AW.block ?_|refine AW.ret ?_|refine AW.skip ?_|exact trivial|refine AW.draw (id := 8) (by kernel_rfl) ?_|refine AW.rI [6, 7, 9] Z ?_|refine Ud ?_|fail))
      ((first|refine RetOk.tupS [] Z Z Z Z Z ?_ ?_|refine RetOk.oneS [] Z Z Z Z ?_ ?_)<;>(repeat' (first|exact V0|refine V1 ?_|refine V2 ?_ ?_|fail)))
    · have d1 : ¬ ((tmP r.cond).length : Int) > 20 := by omega
      have hv := Valid_c false r (by omega) w2 w3 w4
      have hv2 := rvalid_c false r (by omega) w2 w3 w4
      have hnx : ∀ i : Nat, i < y + 1 → ∀ r, raw[i]? = some r → r.cond.length ≤ 20 := by
        intro i hi r' hr'
        rcases Nat.lt_or_ge i y with q | q
        · exact hc i q r' hr'
        · obtain rfl : i = y := by omega
          rw [hry] at hr'
          obtain rfl := Option.some.inj hr'
          omega
      generalize validF r = v at hv hv2
      cases v with
      | true =>
        (repeat' (first|refine AW.seq_k (fun K hK=>?_)|(refine hK _ ?_;clear hK)|refine AW.uC (fun hc=>?_) (fun hc=>?_)|refine AW.block ?_|refine AW.skip ?_|exact trivial|refine AW.draw (id := 8) (by kernel_rfl) ?_|refine AW.rI [6, 7, 10] Z ?_|refine Run.c0 hv Z Z Z Z Z Z Z Z ?_|refine Run.c0 hv2 Z Z Z Z Z Z Z Z ?_|refine Ud ?_|fail))
        ((repeat (with_reducible refine inB_n ?_)); refine thenA_n ?_)
        refine ⟨y + 1, ⟨h, hnx⟩, by omega, ?_⟩
        refine Conv.mk [] Z Z Z ?_ Z ?_
        · (repeat' (first|exact V0|refine V3 ?_|refine V2 ?_ ?_|fail))
          all_goals first | rfl | (refine Cv.eq ?_; simp [AV.ren, renL]; done)
        · (repeat' (first|exact V0|refine V3 ?_|refine V2 ?_ ?_|fail))
      | false =>
        (repeat' (first|refine AW.seq_k (fun K hK=>?_)|(refine hK _ ?_;clear hK)|refine AW.uC (fun hc=>?_) (fun hc=>?_)|refine AW.block ?_|refine AW.skip ?_|exact trivial|refine AW.draw (id := 8) (by kernel_rfl) ?_|refine AW.rI [6, 7, 10] Z ?_|refine Run.c0 hv Z Z Z Z Z Z Z Z ?_|refine Run.c0 hv2 Z Z Z Z Z Z Z Z ?_|refine Ud ?_|fail))
        ((repeat (with_reducible refine inB_n ?_)); refine thenA_n ?_)
        refine ⟨y + 1, ⟨h, hnx⟩, by omega, ?_⟩
        refine Conv.mk [] Z Z Z ?_ Z ?_
        · (repeat' (first|exact V0|refine V3 ?_|refine V2 ?_ ?_|fail))
          all_goals first | rfl | (refine Cv.eq ?_; simp [AV.ren, renL]; done)
        · (repeat' (first|exact V0|refine V3 ?_|refine V2 ?_ ?_|fail))
  have hge : ¬ (y : Int) < ((ruP raw).length : Int) := by omega
  obtain rfl : y = raw.length := by omega
  have hok : ∀ r ∈ X ++ raw, r.cond.length ≤ 1000000 ∧ (∀ t ∈ r.cond, t.2.length ≤ 9223372036854775807) ∧ r.hd.role.length ≤ 9223372036854775807 ∧ r.hd.cls.length ≤ 9223372036854775807 := by
    intro r hm
    rcases List.mem_append.1 hm with hm | hm
    · obtain ⟨q1, q2, q3, q4⟩ := g1 r hm
      exact ⟨by omega, fun t ht => by have := q2 t ht; omega, by omega, by omega⟩
    · obtain ⟨i, hi, e⟩ := List.mem_iff_getElem.1 hm
      obtain ⟨_, w2, w3, w4⟩ := hr r hm
      exact ⟨by have := hc i hi r (by rw [List.getElem?_eq_getElem hi, e]); omega, w2, w3, w4⟩
  have hxl : (ruP X).length = X.length := by simp
  (repeat' (first|refine AW.seq_k (fun K hK=>?_)|(refine hK _ ?_;clear hK)|refine AW.uC (fun hc=>?_) (fun hc=>?_)|refine AW.block ?_|refine AW.exit ?_|(clear hK;refine hK _ ?_;clear hK)|exact trivial|refine AW.rI [6, 11, 12] Z ?_|refine Run.cSA [] hN Z Z Z Z Z Z Z Z Z Z Z Z ?_|refine Run.cSA [0] hR Z Z Z Z Z Z Z Z Z Z Z Z ?_|refine Ud ?_|fail))
  obtain ⟨L, hL, hLl⟩ : ∃ L : List (List Ru), lsP L = [[PV.sl 5 (ruP X)], [PV.sl 5 (ruP raw)], [PV.sl 5 ([] ++ ruP X ++ ruP raw)]] ∧ ∀ y ∈ L, y.length ≤ 20 ∧ ∀ r ∈ y, r ∈ X ++ raw := by
    refine ⟨[X, raw, X ++ raw], by simp, ?_⟩
    intro y hy
    simp only [List.mem_cons, List.not_mem_nil, or_false] at hy
    rcases hy with rfl | rfl | rfl
    · exact ⟨by omega, fun r h => List.mem_append_left _ h⟩
    · exact ⟨by omega, fun r h => List.mem_append_right _ h⟩
    · exact ⟨by rw [List.length_append]; omega, fun r h => h⟩
  have hL3 : (lsP L).length = 3 := by rw [hL]; rfl
  have hLL : (lsP L).length = L.length := by simp
  rw [← hL]
  refine AW.loopF (X := Nat) (fun y => ⟨[(7, .sl 5 (ruP X) false), (51, .sl 1 (lsP L) true), (52, .v (.int .i64 ((lsP L).length : Int))), (53, .v (.int .i64 (y : Int)))], []⟩) (fun y => y ≤ 3) (fun y => 3 - y) 0 ?_ (Nat.zero_le _) ?_
  · refine Conv.mk [] Z Z Z ?_ Z ?_
    · (repeat' (first|exact V0|refine V3 ?_|refine V2 ?_ ?_|fail))
    · (repeat' (first|exact V0|refine V3 ?_|refine V2 ?_ ?_|fail))
  rintro y hy
  rcases Nat.lt_or_ge y 3 with h | h
  · obtain ⟨Y, hY⟩ : ∃ Y, L[y]? = some Y := ⟨L[y]'(by omega), by simp [show y < L.length by omega]⟩
    have hA : At (lsP L) (y : Int) [PV.sl 5 (ruP Y)] := At.mk y Z (by simp [hY])
    have hlt : (y : Int) < ((lsP L).length : Int) := by omega
    obtain ⟨y1, y2⟩ := hLl Y (List.mem_of_getElem? hY)
    have hp1 := pform_c Y false (by omega) (fun r hr => hok r (y2 r hr))
    have hp2 := rform_c Y false (by omega) (fun r hr => hok r (y2 r hr))
    have hs1 := pSame_c X Y false false (by omega) (fun r hr => by have := (hok r (List.mem_append_left _ hr)).1; omega)
    have hs2 := rSame_c X Y false false (by omega) (fun r hr => by have := (hok r (List.mem_append_left _ hr)).1; omega)
    generalize formatF Y = F at hp1 hp2
    obtain ⟨E, e⟩ := F
    simp only at hp1 hp2
    have d1 : ¬ (E ≠ E) := fun h => h Z
    have d2 : ¬ (e ≠ e) := fun h => h Z
    generalize decide (X = Y) = v at hs1 hs2
    cases v with
    | true =>
      (repeat' (first|refine AW.seq_k (fun K hK=>?_)|(refine hK _ ?_;clear hK)|refine AW.uC (fun hc=>?_) (fun hc=>?_)|refine AW.block ?_|refine AW.skip ?_|exact trivial|refine AW.rI [13, 14, 15, 16, 17, 19] Z ?_|refine Run.c0 hp1 Z Z Z Z Z Z Z Z ?_|refine Run.c0 hp2 Z Z Z Z Z Z Z Z ?_|refine Run.c0 hs1 Z Z Z Z Z Z Z Z ?_|refine Run.c0 hs2 Z Z Z Z Z Z Z Z ?_|refine Ud ?_|fail))
      ((repeat (with_reducible refine inB_n ?_)); refine thenA_n ?_)
      refine ⟨y + 1, h, by omega, ?_⟩
      refine Conv.mk [] Z Z Z ?_ Z ?_
      · (repeat' (first|exact V0|refine V3 ?_|refine V2 ?_ ?_|fail))
        all_goals first | rfl | (refine Cv.eq ?_; simp [AV.ren, renL]; done)
      · (repeat' (first|exact V0|refine V3 ?_|refine V2 ?_ ?_|fail))
    | false =>
      (repeat' (first|refine AW.seq_k (fun K hK=>?_)|(refine hK _ ?_;clear hK)|refine AW.uC (fun hc=>?_) (fun hc=>?_)|refine AW.block ?_|refine AW.skip ?_|exact trivial|refine AW.rI [13, 14, 15, 16, 17, 19] Z ?_|refine Run.c0 hp1 Z Z Z Z Z Z Z Z ?_|refine Run.c0 hp2 Z Z Z Z Z Z Z Z ?_|refine Run.c0 hs1 Z Z Z Z Z Z Z Z ?_|refine Run.c0 hs2 Z Z Z Z Z Z Z Z ?_|refine Ud ?_|fail))
      ((repeat (with_reducible refine inB_n ?_)); refine thenA_n ?_)
      refine ⟨y + 1, h, by omega, ?_⟩
      refine Conv.mk [] Z Z Z ?_ Z ?_
      · (repeat' (first|exact V0|refine V3 ?_|refine V2 ?_ ?_|fail))
        all_goals first | rfl | (refine Cv.eq ?_; simp [AV.ren, renL]; done)
      · (repeat' (first|exact V0|refine V3 ?_|refine V2 ?_ ?_|fail))
  · have hge2 : ¬ (y : Int) < ((lsP L).length : Int) := by omega
    (repeat' (first|refine AW.seq_k (fun K hK=>?_)|(refine hK _ ?_;clear hK)|refine AW.uC (fun hc=>?_) (fun hc=>?_)|refine AW.exit ?_|refine AW.ret ?_|(clear hK;refine hK _ ?_;clear hK)|exact trivial|refine AW.rI [13, 20] Z ?_|refine Ud ?_|fail))
    ((first|refine RetOk.tupS [] Z Z Z Z Z ?_ ?_|refine RetOk.oneS [] Z Z Z Z ?_ ?_)<;>(repeat' (first|exact V0|refine V1 ?_|refine V2 ?_ ?_|fail)))
theorem fitsI_of (xs : List (List PV)) (w : xs.length ≤ maxLen) (h : ∀ x ∈ xs, (Sh.int .i64).fits x) : ∃ l, xs = ivs l ∧ Fits l := by
  obtain ⟨l, rfl, hl⟩ := ints_of .i64 xs h
  exact ⟨l, rfl, by simpa [maxLen] using w, fun n hn => wfi64 (hl n hn)⟩
theorem tms_of : ∀ (xs : List (List PV)), (∀ x ∈ xs, (Sh.st [.int .i64, .str]).fits x) → ∃ c : List Tm, xs = tmP c ∧ ∀ t ∈ c, t.2.length ≤ 9223372036854775807 := by
  intro xs
  induction xs with
  | nil => intro _; exact ⟨[], rfl, by simp⟩
  | cons x xs ih =>
    intro h
    obtain ⟨c, rfl, hc⟩ := ih (fun y hy => h y (List.mem_cons_of_mem _ hy))
    obtain ⟨_, _, rfl, ⟨k, rfl, _⟩, _, g, rfl, ⟨s, rfl, hs⟩, hd⟩ := h x (by simp)
    obtain rfl : g = [] := hd
    refine ⟨(k, s) :: c, rfl, fun t ht => ?_⟩
    rcases List.mem_cons.1 ht with rfl | ht
    · simpa [maxLen] using hs
    · exact hc t ht
theorem rus_of : ∀ (xs : List (List PV)), (∀ x ∈ xs, (Sh.st [.int .i64, .str, .str, .int .i64, .sl (.st [.int .i64, .str])]).fits x) → ∃ l : List Ru, xs = ruP l ∧ ∀ r ∈ l, RuW r := by
  intro xs
  induction xs with
  | nil => intro _; exact ⟨[], rfl, by simp⟩
  | cons x xs ih =>
    intro h
    obtain ⟨l, rfl, hl⟩ := ih (fun y hy => h y (List.mem_cons_of_mem _ hy))
    obtain ⟨_, _, rfl, ⟨k, rfl, _⟩, _, _, rfl, ⟨ro, rfl, h1⟩, _, _, rfl, ⟨cl, rfl, h2⟩, _, _, rfl, ⟨pc, rfl, _⟩, _, g, rfl, ⟨ys, rfl, hy, he⟩, hd⟩ := h x (by simp)
    obtain rfl : g = [] := hd
    obtain ⟨c, rfl, hc⟩ := tms_of ys he
    refine ⟨⟨⟨k, ro, cl, pc⟩, c⟩ :: l, rfl, fun r hr => ?_⟩
    rcases List.mem_cons.1 hr with rfl | hr
    · exact ⟨by simpa [maxLen] using hy, hc, by simpa [maxLen] using h1, by simpa [maxLen] using h2⟩
    · exact hl r hr
end Go.Proofs.YtpacgphnpalepaaDoor
