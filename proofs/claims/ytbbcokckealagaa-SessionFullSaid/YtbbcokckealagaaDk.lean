/-
  Walks of the deck of numbers.
-/
import Derived.Test.YtbbcokckealagaaTy
import Derived.Test.YtbbcokckealagaaAAu
namespace Go.Proofs.Ytbbcokckealagaa
set_option linter.unusedVariables false
set_option linter.unusedSimpArgs false
theorem Mod_c (v n : Int) (hv : -9223372036854775808 ≤ v ∧ v ≤ 9223372036854775807) (hn : 1 ≤ n ∧ n ≤ 1000000000) : ACalls Try.prog 5 [.v (.int .i64 v), .v (.int .i64 n)] [] (.v (.int .i64 (v % n))) [] := by
  have h1 : v.tmod n < n := Int.tmod_lt_of_pos _ (by omega)
  have h2 : -n < v.tmod n := Int.lt_tmod_of_pos _ (by omega)
  have h3 := Int.emod_nonneg v (show n ≠ 0 by omega)
  have h4 := Int.emod_lt_of_pos v (show 0 < n by omega)
  have h5 : v.tmod n = v % n ∨ v.tmod n = v % n - n := by
    have := Int.tmod_eq_emod (a := v) (b := n)
    split at this
    · left; omega
    · right; have : ((n.natAbs : Nat) : Int) = n := by omega
      omega
  refine (ACalls.of (fn := Try.f5) Try.func5 rfl rfl Try.ntmps5 (fun I M w own => ?_))
  (repeat' (first | refine AW.seq_k (fun K hK => ?_) | (refine hK _ ?_; clear hK) | (refine AW.condD rfl (fun hc => ?_) (fun hc => ?_) <;> try (first | (exfalso; omega) | (cases hc; done))) | refine AW.ret ?_ | refine AW.skip ?_ | (first | (refine AW.region (id := 0) ?_ <;> (try (refine Run.p rfl rfl rfl (OpP.asA rfl) ?_)) <;> (try refine Run.fin rfl ?_)) | (refine AW.region (id := 1) ?_ <;> (try (refine Run.p rfl rfl rfl (OpP.mvA rfl) ?_)) <;> (try (refine Run.p rfl rfl rfl (OpP.mvA rfl) ?_)) <;> (try (refine Run.p rfl rfl rfl (OpP.rem rfl rfl rfl (by omega) rfl) ?_)) <;> (try (refine Run.p rfl rfl rfl (OpP.asA rfl) ?_)) <;> (try refine Run.fin rfl ?_)) | (refine AW.region (id := 2) ?_ <;> (try (refine Run.p rfl rfl rfl (OpP.mvA rfl) ?_)) <;> (try (refine Run.p rfl rfl rfl (OpP.ltt rfl rfl rfl) ?_)) <;> (try refine Run.fin rfl ?_)) | (refine AW.region (id := 3) ?_ <;> (try (refine Run.p rfl rfl rfl (OpP.mvA rfl) ?_)) <;> (try (refine Run.p rfl rfl rfl (OpP.mvA rfl) ?_)) <;> (try (refine Run.p rfl rfl rfl (OpP.addA rfl rfl rfl) ?_)) <;> (try (refine Run.p rfl rfl rfl (OpP.asA rfl) ?_)) <;> (try refine Run.fin rfl ?_)) | (refine AW.region (id := 4) ?_ <;> (try (refine Run.p rfl rfl rfl (OpP.mvA rfl) ?_)) <;> (try (refine Run.p rfl rfl rfl (OpP.asA rfl) ?_)) <;> (try refine Run.fin rfl ?_)))))
  all_goals ((first | refine RetOk.tup rfl rfl ?_ | refine RetOk.one rfl ?_) <;> (repeat' (first | exact Cv.nil | exact Cv.rowf rfl rfl | exact RetC.nil | exact CvL.refl _ | exact Cv.refl | refine RetC.tmp (by (conv => lhs; whnf) <;> rfl) ?_ ?_ | refine RetC.cell1 rfl rfl rfl rfl ?_ ?_ | refine RetC.cellN rfl rfl rfl (by repeat constructor) ?_ ?_ | refine Cv.rowE rfl rfl ?_ | exact Cv.full | exact CvL.nil | refine CvL.cons ?_ ?_)))
  (all_goals (try (first | refine CvL.eq ?_ | refine Cv.eq ?_)))
  all_goals (simp only [AV.ren, AV.v.injEq, Value.int.injEq, true_and]; omega)
/-- numbers as elements -/
abbrev ivs (l : List Int) : List (List PV) := l.map fun n => [PV.v (.int .i64 n)]
def Fits (l : List Int) : Prop := l.length ≤ 9223372036854775807 ∧ ∀ n ∈ l, -9223372036854775808 ≤ n ∧ n ≤ 9223372036854775807
/-- a deck: its numbers, how many are taken -/
abbrev dkR (l : List Int) (a : Nat) : Res := .box [.sl 1 (ivs l) false, .v (.int .i64 (a : Int))]
def dkN (l : List Int) (a : Nat) (n : Int) : Int := if h : a < l.length then l[a] % n else 0
def dkA (l : List Int) (a : Nat) : Nat := if a < l.length then a + 1 else a
theorem dkA_le {l : List Int} {a : Nat} (h : a ≤ l.length) : dkA l a ≤ l.length := by unfold dkA; split <;> omega
theorem dkN_rng (l : List Int) (a : Nat) (n : Int) (hn : 1 ≤ n) : 0 ≤ dkN l a n ∧ dkN l a n < n := by
  unfold dkN
  split
  · exact ⟨Int.emod_nonneg _ (by omega), Int.emod_lt_of_pos _ (by omega)⟩
  · omega
end Go.Proofs.Ytbbcokckealagaa
