/-
  A literal's array as an array of the call's own, and its conversion to bytes, which marks it. Nothing of the dump is used; no condition.
-/
import Derived.Test.YtpacgphnpalepaaQAJ
import Derived.Test.YtpacgphnpalepaaQBF
import Derived.Test.YtpacgphnpalepaaQAO
namespace Go.Proofs.Ytpacgphnpalepaa
open Go.RowKit
set_option linter.unusedVariables false
set_option linter.unusedSimpArgs false
section
variable {P : Program} {o : Oper} {ρ : Operand → AV}
end
section
variable {P : Program} {n : Nat} {ops : List Oper} {chk : List FP → Bool} {K : State → Prop} {rest : List Oper} {o : Oper} {fr : Fr} {σ : List Res} {acc : List FP}
end
end Go.Proofs.Ytpacgphnpalepaa
/-
  Walk of the law RulesLimits.
-/
namespace Go.Proofs.Ytpacgphnpalepaa
set_option linter.unusedVariables false
set_option linter.unusedSimpArgs false
theorem lineF_cond {x : PX} {line : List UInt8} {x' : PX} (h : lineF x line = .inl x') (hx : ∀ r ∈ x.2, r.cond.length ≤ 16) : ∀ r ∈ x'.2, r.cond.length ≤ 16 := by
  rw [lineF] at h
  split at h
  · obtain rfl := Sum.inl.inj h
    exact hx
  split at h
  · cases h
  split at h
  · cases h
  split at h
  · cases h
  · obtain rfl := Sum.inl.inj h
    rename_i h1
    intro r hr
    rcases List.mem_append.1 hr with hr | hr
    · exact hx r hr
    · obtain rfl := List.mem_singleton.1 hr
      omega
theorem foldS_cond : ∀ (ls : List (List UInt8)) (x x' : PX), foldS lineF x ls = .inl x' → x.2.length ≤ 64 → (∀ r ∈ x.2, r.cond.length ≤ 16) → x'.2.length ≤ 64 ∧ ∀ r ∈ x'.2, r.cond.length ≤ 16
  | [], x, x', h, h1, h2 => by
    obtain rfl := Sum.inl.inj h
    exact ⟨h1, h2⟩
  | l :: r, x, x', h, h1, h2 => by
    rw [foldS] at h
    cases hf : lineF x l with
    | inl y =>
      rw [hf] at h
      exact foldS_cond r y x' h ((lineF_ok hf).2 h1) (lineF_cond hf h2)
    | inr y => rw [hf] at h; cases h
theorem parse_cond {s : List UInt8} {x : PX} (h : parseF s = .inl x) : x.2.length ≤ 64 ∧ ∀ r ∈ x.2, r.cond.length ≤ 16 := by
  rw [parseF] at h
  split at h
  · cases h
  · exact foldS_cond _ _ _ h (by simp) (by simp)
set_option maxHeartbeats 4000000 in
theorem RulesLimits_c (n0 : Int) (hn : -9223372036854775808 ≤ n0 ∧ n0 ≤ 9223372036854775807) : ACalls Try.prog 4 [.v (.int .i64 n0)] [] (.v (.bool true)) [] := by
  have hM := Mod_c n0 3 hn (by decide)
  have hm : 0 ≤ n0 % 3 ∧ n0 % 3 < 3 := by omega
  generalize n0 % 3 = m at hM hm
  obtain ⟨q, hq⟩ : ∃ q : Nat, m = (q : Int) := ⟨m.toNat, by omega⟩
  subst hq
  refine (ACalls.of (fn := Try.f4) Try.func4 rfl rfl Try.ntmps4 (fun I M w own => ?_))
  (repeat' (first | refine AW.seq_k (fun K hK => ?_) | (refine hK _ ?_; clear hK) | (refine AW.cond rfl (fun hc => ?_) (fun hc => ?_) <;> (try simp only [Bool.and_eq_true, Bool.or_eq_true, Bool.not_eq_true', Bool.not_eq_false', Bool.and_eq_false_iff, Bool.or_eq_false_iff, Bool.and_eq_false_imp, decide_eq_true_eq, decide_eq_false_iff_not, Decidable.not_not, Int.not_lt, Int.not_le, ne_eq, Bool.not_not] at hc) <;> try (first | (exfalso; omega) | (cases hc; done))) | refine AW.block ?_ | refine AW.skip ?_ | refine AW.region (id := 0) ?_ | refine AW.region (id := 1) ?_ | refine AW.region (id := 3) ?_ | refine AW.region (id := 4) ?_ | refine AW.region (id := 5) ?_ | refine Run.p rfl rfl rfl (OpP.asA rfl) ?_ | refine Run.c0 sane_c rfl rfl rfl rfl rfl rfl rfl rfl ?_ | refine Run.p rfl rfl rfl (OpP.not rfl rfl) ?_ | refine Run.p rfl rfl rfl (OpP.mvA rfl) ?_ | refine Run.c0 hM rfl rfl rfl rfl rfl rfl rfl rfl ?_ | refine Run.fin rfl ?_))
  refine AW.loopF (X := List UInt8 × Nat) (fun y => ⟨[(3, .v (.int .i64 (q : Int))), (4, .v (.string (bs y.1))), (5, .v (.string (bs []))), (6, .v (.int .i64 (y.2 : Int)))], []⟩) (fun y => y.2 ≤ 7 + q ∧ y.1.length ≤ 30 + 20 * y.2) (fun y => 7 + q - y.2) ([109, 117, 116, 101, 32, 97, 32, 119, 104, 101, 110, 32, 97, 99, 116, 105, 118, 101, 32, 97], 0) ?_ ⟨by simp only; omega, by decide⟩ ?_
  · refine Conv.mk [] rfl rfl rfl ?_ rfl ?_
    · (repeat' (first | exact Cf.nil | exact Cv.refl | refine Cf.cons' (by (conv => lhs; whnf) <;> rfl) ?_ ?_))
    · (repeat' (first | exact Crs.nil))
  rintro ⟨T, i⟩ ⟨g1, g2⟩
  simp only at g1 g2 ⊢
  rcases Nat.lt_or_ge i (7 + q) with h | h
  · have hlt : (i : Int) < 7 + (q : Int) := by omega
    (repeat' (first | refine AW.seq_k (fun K hK => ?_) | (refine hK _ ?_; clear hK) | (refine AW.cond rfl (fun hc => ?_) (fun hc => ?_) <;> (try simp only [Bool.and_eq_true, Bool.or_eq_true, Bool.not_eq_true', Bool.not_eq_false', Bool.and_eq_false_iff, Bool.or_eq_false_iff, Bool.and_eq_false_imp, decide_eq_true_eq, decide_eq_false_iff_not, Decidable.not_not, Int.not_lt, Int.not_le, ne_eq, Bool.not_not] at hc) <;> try (first | (exfalso; omega) | (cases hc; done))) | refine AW.block ?_ | refine AW.skip ?_ | refine AW.region (id := 6) ?_ | refine AW.region (id := 8) ?_ | refine AW.region (id := 7) ?_ | refine Run.p rfl rfl rfl (OpP.mvA rfl) ?_ | refine Run.p rfl rfl rfl (OpP.addA rfl rfl rfl) ?_ | refine Run.p rfl rfl rfl (OpP.decT (OpP.ltt rfl rfl rfl) (by assumption)) ?_ | refine Run.p rfl rfl rfl (OpP.cat rfl rfl rfl (by first | omega | (simp only [List.length_append, List.length_cons, List.length_nil, List.length_map, maxLen]; omega) | (simp [maxLen]; omega) | simp [maxLen])) ?_ | refine Run.p rfl rfl rfl (OpP.asA rfl) ?_ | refine Run.fin rfl ?_))
    ((repeat (with_reducible refine inB_n ?_)); refine thenA_n ?_)
    refine ⟨(T ++ [32, 111, 114, 32, 97, 99, 116, 105, 118, 101, 32, 97], i + 1), ⟨by simp only; omega, by simp only [List.length_append, List.length_cons, List.length_nil]; omega⟩, by simp only; omega, ?_⟩
    refine Conv.mk [] rfl rfl rfl ?_ rfl ?_
    · (repeat' (first | exact Cf.nil | exact Cv.refl | refine Cf.cons' (by (conv => lhs; whnf) <;> rfl) ?_ ?_))
      all_goals first | rfl | (refine Cv.eq ?_; simp [AV.ren, renL]; done)
    · (repeat' (first | exact Crs.nil))
  have hge : ¬ (i : Int) < 7 + (q : Int) := by omega
  obtain rfl : i = 7 + q := by omega
  (repeat' (first | refine AW.seq_k (fun K hK => ?_) | (refine hK _ ?_; clear hK) | (refine AW.cond rfl (fun hc => ?_) (fun hc => ?_) <;> (try simp only [Bool.and_eq_true, Bool.or_eq_true, Bool.not_eq_true', Bool.not_eq_false', Bool.and_eq_false_iff, Bool.or_eq_false_iff, Bool.and_eq_false_imp, decide_eq_true_eq, decide_eq_false_iff_not, Decidable.not_not, Int.not_lt, Int.not_le, ne_eq, Bool.not_not] at hc) <;> try (first | (exfalso; omega) | (cases hc; done))) | refine AW.block ?_ | refine AW.exit ?_ | (clear hK; refine hK _ ?_; clear hK) | refine AW.region (id := 6) ?_ | refine AW.region (id := 9) ?_ | refine Run.p rfl rfl rfl (OpP.mvA rfl) ?_ | refine Run.p rfl rfl rfl (OpP.addA rfl rfl rfl) ?_ | refine Run.p rfl rfl rfl (OpP.asA rfl) ?_ | refine Run.p rfl rfl rfl (OpP.decF (OpP.ltt rfl rfl rfl) (by assumption)) ?_ | refine Run.fin rfl ?_))
  refine AW.loopF (X := List UInt8 × Nat) (fun y => ⟨[(3, .v (.int .i64 (q : Int))), (4, .v (.string (bs T))), (5, .v (.string (bs y.1))), (7, .v (.int .i64 (y.2 : Int)))], []⟩) (fun y => y.2 ≤ 63 + q ∧ y.1.length ≤ 30 + 20 * y.2) (fun y => 63 + q - y.2) ([], 0) ?_ ⟨by simp only; omega, by decide⟩ ?_
  · refine Conv.mk [] rfl rfl rfl ?_ rfl ?_
    · (repeat' (first | exact Cf.nil | exact Cv.refl | refine Cf.cons' (by (conv => lhs; whnf) <;> rfl) ?_ ?_))
    · (repeat' (first | exact Crs.nil))
  rintro ⟨S, i⟩ ⟨k1, k2⟩
  simp only at k1 k2 ⊢
  rcases Nat.lt_or_ge i (63 + q) with h | h
  · have hlt : (i : Int) < 63 + (q : Int) := by omega
    (repeat' (first | refine AW.seq_k (fun K hK => ?_) | (refine hK _ ?_; clear hK) | (refine AW.cond rfl (fun hc => ?_) (fun hc => ?_) <;> (try simp only [Bool.and_eq_true, Bool.or_eq_true, Bool.not_eq_true', Bool.not_eq_false', Bool.and_eq_false_iff, Bool.or_eq_false_iff, Bool.and_eq_false_imp, decide_eq_true_eq, decide_eq_false_iff_not, Decidable.not_not, Int.not_lt, Int.not_le, ne_eq, Bool.not_not] at hc) <;> try (first | (exfalso; omega) | (cases hc; done))) | refine AW.block ?_ | refine AW.skip ?_ | refine AW.region (id := 10) ?_ | refine AW.region (id := 12) ?_ | refine AW.region (id := 11) ?_ | refine Run.p rfl rfl rfl (OpP.mvA rfl) ?_ | refine Run.p rfl rfl rfl (OpP.addA rfl rfl rfl) ?_ | refine Run.p rfl rfl rfl (OpP.decT (OpP.ltt rfl rfl rfl) (by assumption)) ?_ | refine Run.p rfl rfl rfl (OpP.cat rfl rfl rfl (by first | omega | (simp only [List.length_append, List.length_cons, List.length_nil, List.length_map, maxLen]; omega) | (simp [maxLen]; omega) | simp [maxLen])) ?_ | refine Run.p rfl rfl rfl (OpP.asA rfl) ?_ | refine Run.fin rfl ?_))
    ((repeat (with_reducible refine inB_n ?_)); refine thenA_n ?_)
    refine ⟨(S ++ [109, 117, 116, 101, 32, 97, 10], i + 1), ⟨by simp only; omega, by simp only [List.length_append, List.length_cons, List.length_nil]; omega⟩, by simp only; omega, ?_⟩
    refine Conv.mk [] rfl rfl rfl ?_ rfl ?_
    · (repeat' (first | exact Cf.nil | exact Cv.refl | refine Cf.cons' (by (conv => lhs; whnf) <;> rfl) ?_ ?_))
      all_goals first | rfl | (refine Cv.eq ?_; simp [AV.ren, renL]; done)
    · (repeat' (first | exact Crs.nil))
  have hge2 : ¬ (i : Int) < 63 + (q : Int) := by omega
  obtain rfl : i = 63 + q := by omega
  (repeat' (first | refine AW.seq_k (fun K hK => ?_) | (refine hK _ ?_; clear hK) | (refine AW.cond rfl (fun hc => ?_) (fun hc => ?_) <;> (try simp only [Bool.and_eq_true, Bool.or_eq_true, Bool.not_eq_true', Bool.not_eq_false', Bool.and_eq_false_iff, Bool.or_eq_false_iff, Bool.and_eq_false_imp, decide_eq_true_eq, decide_eq_false_iff_not, Decidable.not_not, Int.not_lt, Int.not_le, ne_eq, Bool.not_not] at hc) <;> try (first | (exfalso; omega) | (cases hc; done))) | refine AW.block ?_ | refine AW.exit ?_ | (clear hK; refine hK _ ?_; clear hK) | refine AW.region (id := 10) ?_ | refine AW.region (id := 13) ?_ | refine AW.region (id := 14) ?_ | refine Run.p rfl rfl rfl (OpP.mvA rfl) ?_ | refine Run.p rfl rfl rfl (OpP.addA rfl rfl rfl) ?_ | refine Run.mkB rfl rfl rfl rfl rfl rfl ?_ | refine Run.p rfl rfl rfl (OpP.asA rfl) ?_ | refine Run.p rfl rfl rfl (OpP.decF (OpP.ltt rfl rfl rfl) (by assumption)) ?_ | refine Run.p rfl rfl rfl (OpP.lenB rfl rfl) ?_ | refine Run.fin rfl ?_))
  refine AW.loopF (X := List UInt8 × Nat) (fun y => ⟨[(4, .v (.string (bs T))), (5, .v (.string (bs S))), (8, .bsl 0 1 0 (65535 + q) (65535 + q)), (42, .v (.int .i64 ((65535 + q : Nat) : Int))), (43, .v (.int .i64 (y.2 : Int)))], [.box (bxs (bsP y.1))]⟩) (fun y => y.2 ≤ 65535 + q ∧ y.1.length = 65535 + q) (fun y => 65535 + q - y.2) (List.replicate (65535 + q) 0, 0) ?_ ⟨Nat.zero_le _, by simp⟩ ?_
  · refine Conv.mk [0] rfl rfl rfl ?_ rfl ?_
    · (repeat' (first | exact Cf.nil | exact Cv.refl | refine Cf.cons' (by (conv => lhs; whnf) <;> rfl) ?_ ?_))
    · refine Crs.cons (Cr.bxs ?_) (bxs_lt' _ _) Crs.nil
      show List.replicate (65535 + q) [PV.v (.int .u8 0)] = _
      simp
  rintro ⟨l, i⟩ ⟨j1, j2⟩
  simp only at j1 j2 ⊢
  have hbl : (bsP l).length = 65535 + q := by simp [j2]
  have hbl' : 65535 + q = (bsP l).length := hbl.symm
  rcases Nat.lt_or_ge i (65535 + q) with h | h
  · have hlt : (i : Int) < ((65535 + q : Nat) : Int) := by omega
    have hO : Over (bxs (bsP l)) (0 * 1 + ((i : Int)).toNat * 1) [.v (.int .u8 10)] (bxs ((bsP l).set i [PV.v (.int .u8 10)])) := by
      rw [Nat.zero_mul, Nat.zero_add, Nat.mul_one]
      exact over_set (PV.v (.int .u8 10)) (bsP l) i (by simp) (by rw [hbl]; omega)
    have hset : (bsP l).set i [PV.v (.int .u8 10)] = bsP (l.set i 10) := by simp [List.map_set]
    generalize (bsP l).set i [PV.v (.int .u8 10)] = Y at hO hset
    (repeat' (first | refine AW.seq_k (fun K hK => ?_) | (refine hK _ ?_; clear hK) | (refine AW.cond rfl (fun hc => ?_) (fun hc => ?_) <;> (try simp only [Bool.and_eq_true, Bool.or_eq_true, Bool.not_eq_true', Bool.not_eq_false', Bool.and_eq_false_iff, Bool.or_eq_false_iff, Bool.and_eq_false_imp, decide_eq_true_eq, decide_eq_false_iff_not, Decidable.not_not, Int.not_lt, Int.not_le, ne_eq, Bool.not_not] at hc) <;> try (first | (exfalso; omega) | (cases hc; done))) | refine AW.block ?_ | refine AW.skip ?_ | refine AW.region (id := 15) ?_ | refine AW.region (id := 16) ?_ | refine AW.region (id := 17) ?_ | refine AW.region (id := 18) ?_ | refine Run.p rfl rfl rfl (OpP.decT (OpP.ltt rfl rfl rfl) (by assumption)) ?_ | refine Run.p rfl rfl rfl (OpP.mvA rfl) ?_ | refine Run.p rfl rfl rfl (OpP.asA rfl) ?_ | refine Run.p rfl rfl rfl (OpP.addA rfl rfl rfl) ?_ | refine Run.p rfl rfl rfl (OpP.indexAddrB rfl rfl rfl (by omega) (by omega) rfl) ?_ | refine Run.stF rfl rfl rfl rfl rfl ?_ | refine Run.fin rfl ?_))
    ((repeat (with_reducible refine inB_n ?_)); refine thenA_n ?_)
    refine ⟨(l.set i 10, i + 1), ⟨h, by simp [j2]⟩, by simp only; omega, ?_⟩
    refine Conv.mk [0] rfl rfl rfl ?_ rfl ?_
    · (repeat' (first | exact Cf.nil | exact Cv.refl | refine Cf.cons' (by (conv => lhs; whnf) <;> rfl) ?_ ?_))
      all_goals first | rfl | (refine Cv.eq ?_; simp [AV.ren, renL]; done)
    · exact Crs.cons (Cr.bxs hset) (bxs_lt' _ _) Crs.nil
  have hge3 : ¬ (i : Int) < ((65535 + q : Nat) : Int) := by omega
  (repeat' (first | refine AW.seq_k (fun K hK => ?_) | (refine hK _ ?_; clear hK) | (refine AW.cond rfl (fun hc => ?_) (fun hc => ?_) <;> (try simp only [Bool.and_eq_true, Bool.or_eq_true, Bool.not_eq_true', Bool.not_eq_false', Bool.and_eq_false_iff, Bool.or_eq_false_iff, Bool.and_eq_false_imp, decide_eq_true_eq, decide_eq_false_iff_not, Decidable.not_not, Int.not_lt, Int.not_le, ne_eq, Bool.not_not] at hc) <;> try (first | (exfalso; omega) | (cases hc; done))) | refine AW.exit ?_ | (clear hK; refine hK _ ?_; clear hK) | refine AW.region (id := 15) ?_ | refine Run.p rfl rfl rfl (OpP.decF (OpP.ltt rfl rfl rfl) (by assumption)) ?_ | refine Run.fin rfl ?_))
  refine AW.freezeA 0 1 (bsP l) [] rfl (by simp) (by simp) ?_
  (repeat' (first | (refine hK _ ?_; clear hK) | refine AW.block ?_ | refine AW.region (id := 19) ?_ | refine Run.p rfl rfl rfl (OpP.mvA rfl) ?_ | refine Run.p rfl rfl rfl (OpP.cat rfl rfl rfl (by first | omega | (simp only [List.length_append, List.length_cons, List.length_nil, List.length_map, maxLen]; omega) | (simp [maxLen]; omega) | simp [maxLen])) ?_ | refine Run.ri rfl rfl rfl (OpRI.toStrA rfl) rfl ?_ | refine Run.bsA rfl rfl rfl rfl rfl rfl ?_ | refine Run.ri rfl rfl rfl (OpRI.lenA rfl rfl) rfl ?_ | refine Run.fin rfl ?_))
  obtain ⟨L, hL, hLl⟩ : ∃ L : List Wd, wdsP L = [[PV.v (.string (bs T))], [PV.v (.string (bs (T ++ [32, 97, 110, 100, 32, 110, 111, 116, 32, 97, 99, 116, 105, 118, 101, 32, 98])))], [PV.v (.string (bs S))], [PV.v (.string (bs (S ++ [120])))], [PV.v (.string (bs l))]] ∧ ∀ x ∈ L, x.length ≤ 1099511627776 := by
    refine ⟨[T, T ++ [32, 97, 110, 100, 32, 110, 111, 116, 32, 97, 99, 116, 105, 118, 101, 32, 98], S, S ++ [120], l], rfl, ?_⟩
    intro x hx
    simp only [List.mem_cons, List.not_mem_nil, or_false] at hx
    rcases hx with rfl | rfl | rfl | rfl | rfl <;> (try simp only [List.length_append, List.length_cons, List.length_nil]) <;> omega
  have hLw : (wdsP L).length = L.length := by simp
  have hL5 : (wdsP L).length = 5 := by rw [hL]; rfl
  refine AW.loopF (X := Nat) (fun y => ⟨[(58, .sl 1 (wdsP L) true), (59, .v (.int .i64 5)), (60, .v (.int .i64 (y : Int)))], []⟩) (fun y => y ≤ 5) (fun y => 5 - y) 0 ?_ (Nat.zero_le _) ?_
  · refine Conv.mk [] rfl rfl rfl ?_ rfl ?_
    · (repeat' (first | exact Cf.nil | exact Cv.refl | refine Cf.cons' (by (conv => lhs; whnf) <;> rfl) ?_ ?_))
      all_goals (rw [hL]; exact Cv.refl)
    · (repeat' (first | exact Crs.nil))
  rintro y hy
  rcases Nat.lt_or_ge y 5 with h | h
  · obtain ⟨ln, hln⟩ : ∃ ln, L[y]? = some ln := ⟨L[y]'(by omega), by simp [show y < L.length by omega]⟩
    have hA : At (wdsP L) (y : Int) [PV.v (.string (bs ln))] := At.mk y rfl (by simp [hln])
    have hlt : (y : Int) < 5 := by omega
    have hll := hLl ln (List.mem_of_getElem? hln)
    have hp1 := Parse_c ln hll
    have hp2 := rParse_p ln hll
    have hpc : ∀ x, parseF ln = .inl x → x.2.length ≤ 64 ∧ ∀ r ∈ x.2, r.cond.length ≤ 16 := fun x h => parse_cond h
    generalize parseF ln = R at hp1 hp2 hpc
    cases R with
    | inl x =>
      obtain ⟨n, rs⟩ := x
      obtain ⟨b1, b2⟩ := hpc _ rfl
      simp only [parseE] at hp1 hp2 b1 b2
      have hs := rSame_c rs rs false false (by omega) (fun r hr => by have := b2 r hr; omega)
      rw [decide_eq_true rfl] at hs
      have d1 : ¬ ((n : Int) ≠ (n : Int)) := fun h => h rfl
      have d2 : ¬ ((0 : Int) ≠ 0) := fun h => h rfl
      (repeat' (first | refine AW.seq_k (fun K hK => ?_) | (refine hK _ ?_; clear hK) | (refine AW.cond rfl (fun hc => ?_) (fun hc => ?_) <;> (try simp only [Bool.and_eq_true, Bool.or_eq_true, Bool.not_eq_true', Bool.not_eq_false', Bool.and_eq_false_iff, Bool.or_eq_false_iff, Bool.and_eq_false_imp, decide_eq_true_eq, decide_eq_false_iff_not, Decidable.not_not, Int.not_lt, Int.not_le, ne_eq, Bool.not_not] at hc) <;> try (first | (exfalso; omega) | (cases hc; done))) | refine AW.block ?_ | refine AW.skip ?_ | refine AW.region (id := 20) ?_ | refine AW.region (id := 21) ?_ | refine AW.region (id := 22) ?_ | refine AW.region (id := 23) ?_ | refine AW.region (id := 24) ?_ | refine AW.region (id := 26) ?_ | refine Run.p rfl rfl rfl (OpP.decT (OpP.ltt rfl rfl rfl) (by assumption)) ?_ | refine Run.ri rfl rfl rfl (OpRI.indexAddrA rfl rfl) rfl ?_ | refine Run.p rfl rfl rfl (OpP.asA rfl) ?_ | refine Run.p rfl rfl rfl (OpP.mvA rfl) ?_ | refine Run.c0 hp1 rfl rfl rfl rfl rfl rfl rfl rfl ?_ | refine Run.p rfl rfl rfl (OpP.extract rfl rfl rfl) ?_ | refine Run.c0 hp2 rfl rfl rfl rfl rfl rfl rfl rfl ?_ | refine Run.c0 hs rfl rfl rfl rfl rfl rfl rfl rfl ?_ | refine Run.p rfl rfl rfl (OpP.not rfl rfl) ?_ | refine Run.p rfl rfl rfl (OpP.addA rfl rfl rfl) ?_ | refine Run.p rfl rfl rfl (OpP.loadE1 rfl rfl rfl rfl (by (conv => lhs; whnf) <;> rfl)) ?_ | refine Run.p rfl rfl rfl (OpP.decF (OpP.ne rfl rfl rfl) (by assumption)) ?_ | refine Run.p rfl rfl rfl (OpP.pickA rfl rfl) ?_ | refine Run.fin rfl ?_))
      ((repeat (with_reducible refine inB_n ?_)); refine thenA_n ?_)
      refine ⟨y + 1, h, by omega, ?_⟩
      refine Conv.mk [] rfl rfl rfl ?_ rfl ?_
      · (repeat' (first | exact Cf.nil | exact Cv.refl | refine Cf.cons' (by (conv => lhs; whnf) <;> rfl) ?_ ?_))
        all_goals first | rfl | (refine Cv.eq ?_; simp [AV.ren, renL]; done)
      · (repeat' (first | exact Crs.nil))
    | inr x =>
      obtain ⟨n, e⟩ := x
      simp only [parseE] at hp1 hp2
      have hs := (rSame_c [] [] false false (by simp) (by simp)).weak (args' := [.v (.slice none 0 0), .v (.slice none 0 0)]) (.cons .nil (.cons .nil .nil))
      rw [decide_eq_true rfl] at hs
      have d1 : ¬ ((n : Int) ≠ (n : Int)) := fun h => h rfl
      have d2 : ¬ (e ≠ e) := fun h => h rfl
      (repeat' (first | refine AW.seq_k (fun K hK => ?_) | (refine hK _ ?_; clear hK) | (refine AW.cond rfl (fun hc => ?_) (fun hc => ?_) <;> (try simp only [Bool.and_eq_true, Bool.or_eq_true, Bool.not_eq_true', Bool.not_eq_false', Bool.and_eq_false_iff, Bool.or_eq_false_iff, Bool.and_eq_false_imp, decide_eq_true_eq, decide_eq_false_iff_not, Decidable.not_not, Int.not_lt, Int.not_le, ne_eq, Bool.not_not] at hc) <;> try (first | (exfalso; omega) | (cases hc; done))) | refine AW.block ?_ | refine AW.skip ?_ | refine AW.region (id := 20) ?_ | refine AW.region (id := 21) ?_ | refine AW.region (id := 22) ?_ | refine AW.region (id := 23) ?_ | refine AW.region (id := 24) ?_ | refine AW.region (id := 26) ?_ | refine Run.p rfl rfl rfl (OpP.decT (OpP.ltt rfl rfl rfl) (by assumption)) ?_ | refine Run.ri rfl rfl rfl (OpRI.indexAddrA rfl rfl) rfl ?_ | refine Run.p rfl rfl rfl (OpP.asA rfl) ?_ | refine Run.p rfl rfl rfl (OpP.mvA rfl) ?_ | refine Run.c0 hp1 rfl rfl rfl rfl rfl rfl rfl rfl ?_ | refine Run.p rfl rfl rfl (OpP.extract rfl rfl rfl) ?_ | refine Run.c0 hp2 rfl rfl rfl rfl rfl rfl rfl rfl ?_ | refine Run.c0 hs rfl rfl rfl rfl rfl rfl rfl rfl ?_ | refine Run.p rfl rfl rfl (OpP.not rfl rfl) ?_ | refine Run.p rfl rfl rfl (OpP.addA rfl rfl rfl) ?_ | refine Run.p rfl rfl rfl (OpP.loadE1 rfl rfl rfl rfl (by (conv => lhs; whnf) <;> rfl)) ?_ | refine Run.p rfl rfl rfl (OpP.decF (OpP.ne rfl rfl rfl) (by assumption)) ?_ | refine Run.p rfl rfl rfl (OpP.pickA rfl rfl) ?_ | refine Run.fin rfl ?_))
      ((repeat (with_reducible refine inB_n ?_)); refine thenA_n ?_)
      refine ⟨y + 1, h, by omega, ?_⟩
      refine Conv.mk [] rfl rfl rfl ?_ rfl ?_
      · (repeat' (first | exact Cf.nil | exact Cv.refl | refine Cf.cons' (by (conv => lhs; whnf) <;> rfl) ?_ ?_))
        all_goals first | rfl | (refine Cv.eq ?_; simp [AV.ren, renL]; done)
      · (repeat' (first | exact Crs.nil))
  · have hge : ¬ (y : Int) < 5 := by omega
    (repeat' (first | refine AW.seq_k (fun K hK => ?_) | (refine hK _ ?_; clear hK) | (refine AW.cond rfl (fun hc => ?_) (fun hc => ?_) <;> (try simp only [Bool.and_eq_true, Bool.or_eq_true, Bool.not_eq_true', Bool.not_eq_false', Bool.and_eq_false_iff, Bool.or_eq_false_iff, Bool.and_eq_false_imp, decide_eq_true_eq, decide_eq_false_iff_not, Decidable.not_not, Int.not_lt, Int.not_le, ne_eq, Bool.not_not] at hc) <;> try (first | (exfalso; omega) | (cases hc; done))) | refine AW.exit ?_ | refine AW.ret ?_ | (clear hK; refine hK _ ?_; clear hK) | refine AW.region (id := 20) ?_ | refine AW.region (id := 27) ?_ | refine Run.p rfl rfl rfl (OpP.asA rfl) ?_ | refine Run.p rfl rfl rfl (OpP.decF (OpP.ltt rfl rfl rfl) (by assumption)) ?_ | refine Run.fin rfl ?_))
    ((first | refine RetOk.tupS [] rfl rfl rfl rfl rfl ?_ ?_ | refine RetOk.oneS [] rfl rfl rfl rfl ?_ ?_) <;> (repeat' (first | exact RetC.nil | exact Cv.refl | exact Crs.nil | refine RetC.tmp (by (conv => lhs; whnf) <;> rfl) ?_ ?_)))
end Go.Proofs.Ytpacgphnpalepaa
