/-
  Walk of the law RulesParses.
-/
import Derived.Test.YtpacgphnpalepaaQAA
import Derived.Test.YtpacgphnpalepaaTxA
import Derived.Test.YtpacgphnpalepaaQBF
import Derived.Test.YtpacgphnpalepaaQAO
import Derived.Test.YtpacgphnpalepaaASh
namespace Go.Proofs.Ytpacgphnpalepaa
set_option linter.unusedVariables false
set_option linter.unusedSimpArgs false
set_option maxHeartbeats 4000000 in
theorem RulesParses_c (l : List Int) (f : Bool) (hl : Fits l) (raw : List UInt8) (hrw : raw.length ≤ 9223372036854775807) : ACalls Try.prog 3 [.sl 1 (ivs l) f, .v (.string (bs raw))] [] (.v (.bool true)) [] := by
  have hT := text_c l f hl
  have hTl := textL_len l
  generalize textL l = T at hT hTl
  refine (ACalls.of (fn := Try.f3) Try.func3 Z Z Try.ntmps3 (fun I M w own => ?_))
  by_cases hr : 300 < raw.length
  · have d0 : ((raw.length : Nat) : Int) > 300 := by omega
    (repeat' (first|refine AW.seq_k (fun K hK=>?_)|(refine hK _ ?_;clear hK)|refine AW.uC (fun hc=>?_) (fun hc=>?_)|refine AW.ret ?_|refine AW.skip ?_|exact trivial|refine AW.rI [0, 1, 3, 4] Z ?_|refine Run.c0 sane_c Z Z Z Z Z Z Z Z ?_|refine Ud ?_|fail))
    ((first|refine RetOk.tupS [] Z Z Z Z Z ?_ ?_|refine RetOk.oneS [] Z Z Z Z ?_ ?_)<;>(repeat' (first|exact V0|refine V1 ?_|refine V2 ?_ ?_|fail)))
  have d0 : ¬ ((raw.length : Nat) : Int) > 300 := by omega
  (repeat' (first|refine AW.seq_k (fun K hK=>?_)|(refine hK _ ?_;clear hK)|refine AW.uC (fun hc=>?_) (fun hc=>?_)|refine AW.block ?_|refine AW.skip ?_|exact trivial|refine AW.rI [0, 1, 3, 5] Z ?_|refine Run.c0 sane_c Z Z Z Z Z Z Z Z ?_|refine Run.c0 hT Z Z Z Z Z Z Z Z ?_|refine Ud ?_|fail))
  obtain ⟨L, hL, hLl⟩ : ∃ L : List Wd, wdsP L = [[PV.v (.string (bs T))], [PV.v (.string (bs raw))], [PV.v (.string (bs (T ++ [10] ++ raw)))], [PV.v (.string (bs ([100, 117, 99, 107, 32, 97, 32, 49, 32, 119, 104, 101, 110, 32] ++ raw)))]] ∧ ∀ x ∈ L, x.length ≤ 1099511627776 := by
    refine ⟨[T, raw, T ++ [10] ++ raw, [100, 117, 99, 107, 32, 97, 32, 49, 32, 119, 104, 101, 110, 32] ++ raw], rfl, ?_⟩
    intro x hx
    simp only [List.mem_cons, List.not_mem_nil, or_false] at hx
    rcases hx with rfl | rfl | rfl | rfl <;> (try simp only [List.length_append, List.length_cons, List.length_nil]) <;> omega
  have hLw : (wdsP L).length = L.length := by simp
  have hL5 : (wdsP L).length = 4 := by rw [hL]; rfl
  refine AW.loopF (X := Nat) (fun y => ⟨[(28, .sl 1 (wdsP L) true), (29, .v (.int .i64 4)), (30, .v (.int .i64 (y : Int)))], []⟩) (fun y => y ≤ 4) (fun y => 4 - y) 0 ?_ (Nat.zero_le _) ?_
  · refine Conv.mk [] Z Z Z ?_ Z ?_
    · (repeat' (first|exact V0|refine V3 ?_|refine V2 ?_ ?_|fail))
      all_goals (rw [hL]; exact Cv.refl)
    · (repeat' (first|exact V0|refine V3 ?_|refine V2 ?_ ?_|fail))
  rintro y hy
  rcases Nat.lt_or_ge y 4 with h | h
  · obtain ⟨ln, hln⟩ : ∃ ln, L[y]? = some ln := ⟨L[y]'(by omega), by simp [show y < L.length by omega]⟩
    have hA : At (wdsP L) (y : Int) [PV.v (.string (bs ln))] := At.mk y Z (by simp [hln])
    have hlt : (y : Int) < 4 := by omega
    have hll := hLl ln (List.mem_of_getElem? hln)
    have hp1 := Parse_c ln hll
    have hp2 := rParse_p ln hll
    have hpc : ∀ x, parseF ln = .inl x → x.2.length ≤ 64 ∧ ∀ r ∈ x.2, r.cond.length ≤ 16 := fun x h => parse_cond h
    generalize parseF ln = R at hp1 hp2 hpc
    cases R with
    | inl x =>
      obtain ⟨n, rs⟩ := x
      obtain ⟨b1, b2⟩ := hpc _ Z
      simp only [parseE] at hp1 hp2 b1 b2
      have hs := rSame_c rs rs false false (by omega) (fun r hr => by have := b2 r hr; omega)
      rw [decide_eq_true Z] at hs
      have d1 : ¬ ((n : Int) ≠ (n : Int)) := fun h => h Z
      have d2 : ¬ ((0 : Int) ≠ 0) := fun h => h Z
      (repeat' (first|refine AW.seq_k (fun K hK=>?_)|(refine hK _ ?_;clear hK)|refine AW.uC (fun hc=>?_) (fun hc=>?_)|refine AW.block ?_|refine AW.skip ?_|exact trivial|refine AW.rI [6, 7, 8, 9, 10, 12] Z ?_|refine Run.c0 hp1 Z Z Z Z Z Z Z Z ?_|refine Run.c0 hp2 Z Z Z Z Z Z Z Z ?_|refine Run.c0 hs Z Z Z Z Z Z Z Z ?_|refine Ud ?_|fail))
      ((repeat (with_reducible refine inB_n ?_)); refine thenA_n ?_)
      refine ⟨y + 1, h, by omega, ?_⟩
      refine Conv.mk [] Z Z Z ?_ Z ?_
      · (repeat' (first|exact V0|refine V3 ?_|refine V2 ?_ ?_|fail))
        all_goals first | rfl | (refine Cv.eq ?_; simp [AV.ren, renL]; done)
      · (repeat' (first|exact V0|refine V3 ?_|refine V2 ?_ ?_|fail))
    | inr x =>
      obtain ⟨n, e⟩ := x
      simp only [parseE] at hp1 hp2
      have hs := (rSame_c [] [] false false (by simp) (by simp)).weak (args' := [.v (.slice none 0 0), .v (.slice none 0 0)]) (.cons .nil (.cons .nil .nil))
      rw [decide_eq_true Z] at hs
      have d1 : ¬ ((n : Int) ≠ (n : Int)) := fun h => h Z
      have d2 : ¬ (e ≠ e) := fun h => h Z
      (repeat' (first|refine AW.seq_k (fun K hK=>?_)|(refine hK _ ?_;clear hK)|refine AW.uC (fun hc=>?_) (fun hc=>?_)|refine AW.block ?_|refine AW.skip ?_|exact trivial|refine AW.rI [6, 7, 8, 9, 10, 12] Z ?_|refine Run.c0 hp1 Z Z Z Z Z Z Z Z ?_|refine Run.c0 hp2 Z Z Z Z Z Z Z Z ?_|refine Run.c0 hs Z Z Z Z Z Z Z Z ?_|refine Ud ?_|fail))
      ((repeat (with_reducible refine inB_n ?_)); refine thenA_n ?_)
      refine ⟨y + 1, h, by omega, ?_⟩
      refine Conv.mk [] Z Z Z ?_ Z ?_
      · (repeat' (first|exact V0|refine V3 ?_|refine V2 ?_ ?_|fail))
        all_goals first | rfl | (refine Cv.eq ?_; simp [AV.ren, renL]; done)
      · (repeat' (first|exact V0|refine V3 ?_|refine V2 ?_ ?_|fail))
  · have hge : ¬ (y : Int) < 4 := by omega
    (repeat' (first|refine AW.seq_k (fun K hK=>?_)|(refine hK _ ?_;clear hK)|refine AW.uC (fun hc=>?_) (fun hc=>?_)|refine AW.exit ?_|refine AW.ret ?_|(clear hK;refine hK _ ?_;clear hK)|exact trivial|refine AW.rI [6, 13] Z ?_|refine Ud ?_|fail))
    ((first|refine RetOk.tupS [] Z Z Z Z Z ?_ ?_|refine RetOk.oneS [] Z Z Z Z ?_ ?_)<;>(repeat' (first|exact V0|refine V1 ?_|refine V2 ?_ ?_|fail)))
theorem fitsI_of (xs : List (List PV)) (w : xs.length ≤ maxLen) (h : ∀ x ∈ xs, (Sh.int .i64).fits x) : ∃ l, xs = ivs l ∧ Fits l := by
  obtain ⟨l, rfl, hl⟩ := ints_of .i64 xs h
  exact ⟨l, rfl, by simpa [maxLen] using w, fun n hn => wfi64 (hl n hn)⟩
end Go.Proofs.Ytpacgphnpalepaa
