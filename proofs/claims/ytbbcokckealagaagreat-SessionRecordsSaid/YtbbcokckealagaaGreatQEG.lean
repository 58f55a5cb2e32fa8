/-
  Walks of chapter 41: sessions of the dice, changed records, many records.
-/
import Derived.Test.YtbbcokckealagaaGreatQAA
import Derived.Test.YtbbcokckealagaaGreatQCH
import Derived.Test.YtbbcokckealagaaGreatQCI
namespace Go.Proofs.YtbbcokckealagaaGreat
set_option linter.unusedVariables false
set_option linter.unusedSimpArgs false
theorem recTx_len (n : Nat) : (recTx n).length ≤ 100 := by
  rcases n with _ | _ | _ | n
  all_goals simp [recTx]
theorem recP_ok (l : List Int) (a : Nat) (ha : a ≤ l.length) : (recP l a).1.ok ∧ (recP l a).1.text.length ≤ 100 ∧ (recP l a).2 ≤ l.length := by
  rw [recP]
  have b1 := dkA_le ha
  generalize dkA l a = a1 at b1
  generalize kindAt (dkN l a 9).toNat = k
  have b2 := dkA_le b1
  have b3 := dkA_le b2
  have b4 := dkA_le b3
  have b5 := dkA_le b4
  have b6 := dkA_le b5
  have hro : ∀ n, (roleAt n).length ≤ 9223372036854775807 := by
    intro n
    have h : (roleAt n).length ≤ 100 := by
      rw [roleAt]
      rcases n.toNat with _ | _ | _ | _ | m
      all_goals first | decide | simp [roleL]
    omega
  obtain ⟨c1, c2, c3⟩ := choiceP_ok l a1 b1
  rw [recB]
  split
  · exact ⟨⟨hro _, by simp, by simp⟩, by simp, b6⟩
  split
  · exact ⟨⟨by simp, by simp, by simp⟩, by simp, b2⟩
  split
  · exact ⟨⟨by simp, by simp, by simp⟩, by simp, b3⟩
  split
  · exact ⟨⟨by simp, by simp, by simp⟩, by simp, b3⟩
  split
  · exact ⟨⟨by simp, by simp, by simp⟩, by simp, b3⟩
  split
  · exact ⟨⟨c2.1, c2.2, by simp⟩, by simp, c3⟩
  · have := recTx_len (dkN l a1 3).toNat
    exact ⟨⟨by simp, by simp, by simp only; omega⟩, this, b2⟩
def badP (r : Rc) (w : Int) : Rc :=
  if w % 8 = 0 then { r with kind := w % 10 } else if w % 8 = 1 then { r with id := -1 } else if w % 8 = 2 then { r with n := 200 } else if w % 8 = 3 then { r with text := [114, 111, 117, 116, 101, 10] }
  else if w % 8 = 4 then { r with set := 9 :: r.set } else if w % 8 = 5 then { r with lat := -5 } else if w % 8 = 6 then { r with dev := IntKind.u64.wrap (r.dev + 1) } else r
set_option maxHeartbeats 4000000 in
theorem bad_c (r : Rc) (w : Int) (hw : -9223372036854775808 ≤ w ∧ w ≤ 9223372036854775807) (hs : r.set.length ≤ 1000000) : ACalls Tryz.prog 13 [.agg r.cells, .v (.int .i64 w)] [] (.agg (badP r w).cells) [] := by
  have hM := Mod_c w 8 hw (by decide)
  have hM2 := Mod_c w 10 hw (by decide)
  have hb : 0 ≤ w % 8 ∧ w % 8 < 8 := ⟨Int.emod_nonneg _ (by decide), Int.emod_lt_of_pos _ (by decide)⟩
  generalize hR : badP r w = R
  rw [badP] at hR
  generalize w % 8 = v at hM hR hb
  generalize w % 10 = u at hM2 hR
  obtain ⟨kind, id, role, dir, ch, rate, lat, n, dev, set, text⟩ := r
  simp only at hR hs
  have hsl : (ids set).length = set.length := by simp
  refine (ACalls.of (fn := Tryz.f13) Tryz.func13 O O Tryz.ntmps13 (fun I M w own => ?_))
  by_cases v0 : v = 0
  · rw [if_pos v0] at hR
    subst hR
    (repeat' (first|refine AW.seq_k (fun K hK=>?_)|(refine hK _ ?_;clear hK)|refine AW.uC (fun hc=>?_) (fun hc=>?_)|refine AW.block ?_|refine AW.ret ?_|exact trivial|refine AW.rI [0, 1, 2, 3, 16] O ?_|refine Run.c0 hM O O O O O O O O ?_|refine Run.c0 hM2 O O O O O O O O ?_|refine Ud ?_|fail))
    ((first|refine RetOk.tup O O ?_|refine RetOk.one O ?_)<;>(repeat' (first|exact V0|refine V1 ?_|refine V2 ?_ ?_|fail)))
  rw [if_neg v0] at hR
  by_cases v1 : v = 1
  · rw [if_pos v1] at hR
    subst hR
    (repeat' (first|refine AW.seq_k (fun K hK=>?_)|(refine hK _ ?_;clear hK)|refine AW.uC (fun hc=>?_) (fun hc=>?_)|refine AW.block ?_|refine AW.ret ?_|exact trivial|refine AW.rI [0, 1, 2, 4, 5, 16] O ?_|refine Run.c0 hM O O O O O O O O ?_|refine Ud ?_|fail))
    ((first|refine RetOk.tup O O ?_|refine RetOk.one O ?_)<;>(repeat' (first|exact V0|refine V1 ?_|refine V2 ?_ ?_|fail)))
  rw [if_neg v1] at hR
  by_cases v2 : v = 2
  · rw [if_pos v2] at hR
    subst hR
    (repeat' (first|refine AW.seq_k (fun K hK=>?_)|(refine hK _ ?_;clear hK)|refine AW.uC (fun hc=>?_) (fun hc=>?_)|refine AW.block ?_|refine AW.ret ?_|exact trivial|refine AW.rI [0, 1, 2, 4, 6, 7, 16] O ?_|refine Run.c0 hM O O O O O O O O ?_|refine Ud ?_|fail))
    ((first|refine RetOk.tup O O ?_|refine RetOk.one O ?_)<;>(repeat' (first|exact V0|refine V1 ?_|refine V2 ?_ ?_|fail)))
  rw [if_neg v2] at hR
  by_cases v3 : v = 3
  · rw [if_pos v3] at hR
    subst hR
    (repeat' (first|refine AW.seq_k (fun K hK=>?_)|(refine hK _ ?_;clear hK)|refine AW.uC (fun hc=>?_) (fun hc=>?_)|refine AW.block ?_|refine AW.ret ?_|exact trivial|refine AW.rI [0, 1, 2, 4, 6, 8, 9, 16] O ?_|refine Run.c0 hM O O O O O O O O ?_|refine Ud ?_|fail))
    ((first|refine RetOk.tup O O ?_|refine RetOk.one O ?_)<;>(repeat' (first|exact V0|refine V1 ?_|refine V2 ?_ ?_|fail)))
  rw [if_neg v3] at hR
  by_cases v4 : v = 4
  · rw [if_pos v4] at hR
    subst hR
    (repeat' (first|refine AW.seq_k (fun K hK=>?_)|(refine hK _ ?_;clear hK)|refine AW.uC (fun hc=>?_) (fun hc=>?_)|refine AW.block ?_|refine AW.ret ?_|exact trivial|refine AW.rI [0, 1, 2, 4, 6, 8, 10, 11, 16] O ?_|refine Run.c0 hM O O O O O O O O ?_|refine Ud ?_|fail))
    ((first|refine RetOk.tup O O ?_|refine RetOk.one O ?_)<;>(repeat' (first|exact V0|refine V1 ?_|refine V2 ?_ ?_|fail)))
  rw [if_neg v4] at hR
  by_cases v5 : v = 5
  · rw [if_pos v5] at hR
    subst hR
    (repeat' (first|refine AW.seq_k (fun K hK=>?_)|(refine hK _ ?_;clear hK)|refine AW.uC (fun hc=>?_) (fun hc=>?_)|refine AW.block ?_|refine AW.ret ?_|exact trivial|refine AW.rI [0, 1, 2, 4, 6, 8, 10, 12, 13, 16] O ?_|refine Run.c0 hM O O O O O O O O ?_|refine Ud ?_|fail))
    ((first|refine RetOk.tup O O ?_|refine RetOk.one O ?_)<;>(repeat' (first|exact V0|refine V1 ?_|refine V2 ?_ ?_|fail)))
  rw [if_neg v5] at hR
  by_cases v6 : v = 6
  · rw [if_pos v6] at hR
    subst hR
    (repeat' (first|refine AW.seq_k (fun K hK=>?_)|(refine hK _ ?_;clear hK)|refine AW.uC (fun hc=>?_) (fun hc=>?_)|refine AW.block ?_|refine AW.ret ?_|exact trivial|refine AW.rI [0, 1, 2, 4, 6, 8, 10, 12, 14, 15, 16] O ?_|refine Run.c0 hM O O O O O O O O ?_|refine Ud ?_|fail))
    ((first|refine RetOk.tup O O ?_|refine RetOk.one O ?_)<;>(repeat' (first|exact V0|refine V1 ?_|refine V2 ?_ ?_|fail)))
    all_goals first | rfl | (refine Cv.eq ?_; simp [AV.ren, renL]; done)
  · rw [if_neg v6] at hR
    subst hR
    (repeat' (first|refine AW.seq_k (fun K hK=>?_)|(refine hK _ ?_;clear hK)|refine AW.uC (fun hc=>?_) (fun hc=>?_)|refine AW.block ?_|refine AW.ret ?_|refine AW.skip ?_|exact trivial|refine AW.rI [0, 1, 2, 4, 6, 8, 10, 12, 14, 16] O ?_|refine Run.c0 hM O O O O O O O O ?_|refine Ud ?_|fail))
    ((first|refine RetOk.tup O O ?_|refine RetOk.one O ?_)<;>(repeat' (first|exact V0|refine V1 ?_|refine V2 ?_ ?_|fail)))
def sesGo (l : List Int) : Nat → Nat → Se → List Rc → Se × List Rc × Nat
  | 0, a, s, o => (s, o, a)
  | k + 1, a, s, o => if (applyP okR s (recP l a).1).2 = 0 then sesGo l k (recP l a).2 (applyP okR s (recP l a).1).1 (o ++ [(recP l a).1]) else sesGo l k (recP l a).2 s o
def sesP (l : List Int) (a : Nat) : Se × List Rc × Nat := sesGo l (dkN l a 14).toNat (dkA l a) Se.zero []
set_option maxHeartbeats 4000000 in
theorem small_c (r : Rc) : ∃ b, (b = true → r.set.length ≤ 12 ∧ r.text.length ≤ 300 ∧ r.role.length ≤ 80) ∧ ACalls Tryz.prog 8 [.agg r.cells] [] (.v (.bool b)) [] := by
  have hsl : (ids r.set).length = r.set.length := by simp
  by_cases h1 : ((ids r.set).length : Int) ≤ 12
  · by_cases h2 : (r.text.length : Int) ≤ 300
    · by_cases h3 : (r.role.length : Int) ≤ 80
      · refine ⟨true, fun _ => ⟨by omega, by omega, by omega⟩, ?_⟩
        refine (ACalls.of (fn := Tryz.f8) Tryz.func8 O O Tryz.ntmps8 (fun I M w own => ?_))
        (repeat' (first|refine AW.seq_k (fun K hK=>?_)|(refine hK _ ?_;clear hK)|refine AW.ret ?_|refine AW.region ?_|refine Ud ?_|fail))
        ((first|refine RetOk.tup O O ?_|refine RetOk.one O ?_)<;>(repeat' (first|exact V0|refine V1 ?_|refine V2 ?_ ?_|fail)))
      · refine ⟨false, by simp, ?_⟩
        refine (ACalls.of (fn := Tryz.f8) Tryz.func8 O O Tryz.ntmps8 (fun I M w own => ?_))
        (repeat' (first|refine AW.seq_k (fun K hK=>?_)|(refine hK _ ?_;clear hK)|refine AW.ret ?_|refine AW.region ?_|refine Ud ?_|fail))
        ((first|refine RetOk.tup O O ?_|refine RetOk.one O ?_)<;>(repeat' (first|exact V0|refine V1 ?_|refine V2 ?_ ?_|fail)))
    · refine ⟨false, by simp, ?_⟩
      refine (ACalls.of (fn := Tryz.f8) Tryz.func8 O O Tryz.ntmps8 (fun I M w own => ?_))
      (repeat' (first|refine AW.seq_k (fun K hK=>?_)|(refine hK _ ?_;clear hK)|refine AW.ret ?_|refine AW.region ?_|refine Ud ?_|fail))
      ((first|refine RetOk.tup O O ?_|refine RetOk.one O ?_)<;>(repeat' (first|exact V0|refine V1 ?_|refine V2 ?_ ?_|fail)))
  · refine ⟨false, by simp, ?_⟩
    refine (ACalls.of (fn := Tryz.f8) Tryz.func8 O O Tryz.ntmps8 (fun I M w own => ?_))
    (repeat' (first|refine AW.seq_k (fun K hK=>?_)|(refine hK _ ?_;clear hK)|refine AW.ret ?_|refine AW.region ?_|refine Ud ?_|fail))
    ((first|refine RetOk.tup O O ?_|refine RetOk.one O ?_)<;>(repeat' (first|exact V0|refine V1 ?_|refine V2 ?_ ?_|fail)))
end Go.Proofs.YtbbcokckealagaaGreat
