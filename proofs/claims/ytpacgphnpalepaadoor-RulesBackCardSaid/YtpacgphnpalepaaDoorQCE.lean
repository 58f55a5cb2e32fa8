/-
  Walk of the law RulesBack.
-/
import Derived.Test.YtpacgphnpalepaaDoorQAA
import Derived.Test.YtpacgphnpalepaaDoorQCD
import Derived.Test.YtpacgphnpalepaaDoorFoD
import Derived.Test.YtpacgphnpalepaaDoorQCC
import Derived.Test.YtpacgphnpalepaaDoorQAO
import Derived.Test.YtpacgphnpalepaaDoorASh
namespace Go.Proofs.YtpacgphnpalepaaDoor
set_option linter.unusedVariables false
set_option linter.unusedSimpArgs false
theorem ACalls.rowArg2 {P : Program} {f : FuncId} {sz : Nat} {xs : List (List PV)} {x : AV} {r : AV} (h : ACalls P f [x, .sl sz xs false] [] r []) (hr : r.lt 0 = true) (ha : x.lt 0 = true) : ACalls P f [x, .row 0 xs.length] [.row sz xs] r [.no] := by
  intro I M w cargs hsz hav hs hno
  have h0 : (sto [.row sz xs]) 0 = .row sz xs := rfl
  have hs0 : (sto [Res.no] : Nat → Res) = fun _ => .no := by
    funext k
    cases k <;> simp [sto]
  refine (h (fun _ => .no) M w cargs (by simpa using hsz) ?_ ?_ (fun _ _ => rfl)).mono ?_
  · intro i v c hv hc
    match i, hc with
    | 0, hc =>
      obtain rfl := Option.some.inj hc
      exact (hav 0 v _ hv Z).agree (n := 0) (fun k hk => absurd hk (Nat.not_lt_zero k)) ha
    | 1, hc =>
      obtain rfl := Option.some.inj hc
      have hv0 := hav 1 v _ hv Z
      exact (Cv.rowf (σ := sto [.row sz xs]) h0 Z I M w v hs hv0).agree (n := 0) (fun k hk => absurd hk (Nat.not_lt_zero k)) Z
    | i + 2, hc => cases hc
  · rw [sto_nil]
    exact ⟨fun k => trivial, fun k k' b _ hb => (blkno hb).elim, hs.top, hs.tab⟩
  · rintro e w' ⟨cv, I', M', rfl, k1, k2, k3, k4, k5⟩
    refine ⟨cv, I, M', rfl, k1.agree (n := 0) (fun k hk => absurd hk (Nat.not_lt_zero k)) hr, ?_, hno, ⟨k4.os, k4.tape, k4.output, fun _ => CI.le_refl _, k4.evo, fun b hb ho => k4.oth b hb fun ⟨k, hk⟩ => ?_⟩, fun k b hb => ?_⟩
    · rw [hs0]
      exact ⟨fun k => trivial, fun k k' b _ hb => (blkno hb).elim, k2.top, k2.tab⟩
    · rw [sto_nil] at hk; exact (blkno hk).elim
    · rw [hs0] at hb; exact (blkno hb).elim
theorem rules_facts (l : List Int) : (∀ r ∈ rulesL l 0, validF r = true) ∧ (rulesL l 0).length ≤ 5 ∧ (∀ r ∈ rulesL l 0, r.cond.length ≤ 1000000 ∧ (∀ t ∈ r.cond, t.2.length ≤ 9223372036854775807) ∧ r.hd.role.length ≤ 9223372036854775807 ∧ r.hd.cls.length ≤ 9223372036854775807) := by
  obtain ⟨g1, g2, g3⟩ := rulesL_ok l 0 (Nat.zero_le _)
  exact ⟨rulesL_valid l 0, g2, fun r hr => by
    obtain ⟨q1, q2, q3, q4⟩ := g1 r hr
    exact ⟨by omega, fun t ht => by have := q2 t ht; omega, by omega, by omega⟩⟩
set_option maxHeartbeats 4000000 in
theorem RulesBack_c (l m : List Int) (f g : Bool) (hl : Fits l) (hm : Fits m) : ACalls Tryd.prog 4 [.sl 1 (ivs l) f, .sl 1 (ivs m) g] [] (.v (.bool true)) [] := by
  obtain ⟨a1, a2, a3⟩ := rules_facts l
  obtain ⟨b1, b2, b3⟩ := rules_facts m
  have hN1 := New_c l f
  have hN2 := New_c m g
  have hR1 := Rules_c l hl 0 (Nat.zero_le _)
  have hR2 := Rules_c m hm 0 (Nat.zero_le _)
  generalize rulesL l 0 = X at hR1 a1 a2 a3
  generalize rulesL m 0 = Y at hR2 b1 b2 b3
  generalize rulesA l 0 = p at hR1
  generalize rulesA m 0 = q at hR2
  have hF1 := pform_c X false (by omega) a3
  have hF2 := pform_c Y false (by omega) b3
  rw [format_ok a1 (by omega)] at hF1
  rw [format_ok b1 (by omega)] at hF2
  have s1 := textR_len X a1
  have s2 := textR_len Y b1
  have hp1 := Parse_c (textR X) (by omega)
  rw [parse_back a1 (by omega)] at hp1
  have hp2 := Parse_c (textR X ++ midL ++ textR Y) (by
    have : midL.length = 11 := rfl
    simp only [List.length_append]; omega)
  rw [parse_two a1 b1 (by omega) (by omega)] at hp2
  simp only [parseE, midL] at hp1 hp2 hF1 hF2
  have hS1 := pSame_c X X false false (by omega) (fun r hr => by have := (a3 r hr).1; omega)
  have hS2 := pSame_c (X ++ Y) (X ++ Y) false false (by rw [List.length_append]; omega) (fun r hr => by
    rcases List.mem_append.1 hr with hr | hr
    · have := (a3 r hr).1; omega
    · have := (b3 r hr).1; omega)
  rw [decide_eq_true Z] at hS1 hS2
  have e2 : ruP (X ++ Y) = [] ++ ruP X ++ ruP Y := by simp
  have hS3 : ACalls Tryd.prog 12 [.sl 5 (ruP (X ++ Y)) false, .sl 5 ([] ++ ruP X ++ ruP Y) false] [] (.v (.bool true)) [] := by rw [← e2]; exact hS2
  have hS4 := ACalls.rowArg2 hS3 Z Z
  have hxl : (ruP X).length = X.length := by simp
  have hyl : (ruP Y).length = Y.length := by simp
  generalize textR X = S at hF1 hp1 hp2 s1
  generalize textR Y = T at hF2 hp2 s2
  have d0 : (0 : Int) = 0 := rfl
  have d1 : (X.length : Int) = ((ruP X).length : Int) := by omega
  have d2 : ((X.length + 2 + Y.length : Nat) : Int) = ((ruP X).length : Int) + 2 + ((ruP Y).length : Int) := by omega
  refine (ACalls.of (fn := Tryd.f4) Tryd.func4 Z Z Tryd.ntmps4 (fun I M w own => ?_))
  (repeat' (first|refine AW.seq_k (fun K hK=>?_)|(refine hK _ ?_;clear hK)|refine AW.uC (fun hc=>?_) (fun hc=>?_)|refine AW.ret ?_|refine AW.skip ?_|exact trivial|refine AW.rI [0, 1, 3, 4, 5, 6, 7, 8] Z ?_|refine Run.c0 sane_c Z Z Z Z Z Z Z Z ?_|refine Run.cSA [] hN1 Z Z Z Z Z Z Z Z Z Z Z Z ?_|refine Run.cSA [0] hR1 Z Z Z Z Z Z Z Z Z Z Z Z ?_|refine Run.cSA [] hN2 Z Z Z Z Z Z Z Z Z Z Z Z ?_|refine Run.cSA [1] hR2 Z Z Z Z Z Z Z Z Z Z Z Z ?_|refine Run.c0 hF1 Z Z Z Z Z Z Z Z ?_|refine Run.c0 hF2 Z Z Z Z Z Z Z Z ?_|refine Run.c0 hp1 Z Z Z Z Z Z Z Z ?_|refine Run.c0 hp2 Z Z Z Z Z Z Z Z ?_|refine Run.c0 hS1 Z Z Z Z Z Z Z Z ?_|refine Run.cSA [2] hS4 Z Z Z Z Z Z Z Z Z Z Z Z ?_|refine Ud ?_|fail))
  ((first|refine RetOk.tupS [] Z Z Z Z Z ?_ ?_|refine RetOk.oneS [] Z Z Z Z ?_ ?_)<;>(repeat' (first|exact V0|refine V1 ?_|refine V2 ?_ ?_|fail)))
theorem fitsI_of (xs : List (List PV)) (w : xs.length ≤ maxLen) (h : ∀ x ∈ xs, (Sh.int .i64).fits x) : ∃ l, xs = ivs l ∧ Fits l := by
  obtain ⟨l, rfl, hl⟩ := ints_of .i64 xs h
  exact ⟨l, rfl, by simpa [maxLen] using w, fun n hn => wfi64 (hl n hn)⟩
end Go.Proofs.YtpacgphnpalepaaDoor
