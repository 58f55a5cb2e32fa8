/-
  Walk of the writer of rules: a list of rules, by a builder.
-/
import Derived.Test.YtpacgphnpalepaaDoorQAA
import Derived.Test.YtpacgphnpalepaaDoorQCA
import Derived.Test.YtpacgphnpalepaaDoorBld
namespace Go.Proofs.YtpacgphnpalepaaDoor
set_option linter.unusedVariables false
set_option linter.unusedSimpArgs false
def fmtSt (l : List Ru) (f : Bool) (i : Nat) (s : List UInt8) : State :=
  match s with
  | [] => ⟨[(2, .v (.string (bs []))), (4, .tp 0 bT 2), (10, .sl 5 (ruP l) f), (11, .v (.int .i64 ((ruP l).length : Int))), (12, .v (.int .i64 (i : Int)))], [.box [.v (.pointer none), .v (.slice none 0 0)]]⟩
  | _ :: _ => ⟨[(2, .v (.string (bs []))), (4, .tp 0 bT 2), (10, .sl 5 (ruP l) f), (11, .v (.int .i64 ((ruP l).length : Int))), (12, .v (.int .i64 (i : Int)))], [.box [.tp 0 bT 2, .mb 1 0 (some s.length)], .mby s]⟩
theorem lineP_ne (r : Ru) : lineP r ≠ [] := by
  rw [lineP]; simp
set_option maxHeartbeats 4000000 in
theorem pform_c (l : List Ru) (f : Bool) (hl : l.length ≤ 9223372036854775807) (hcn : ∀ r ∈ l, r.cond.length ≤ 1000000 ∧ (∀ t ∈ r.cond, t.2.length ≤ 9223372036854775807) ∧ r.hd.role.length ≤ 9223372036854775807 ∧ r.hd.cls.length ≤ 9223372036854775807) :
    ACalls Tryd.prog 10 [.sl 5 (ruP l) f] [] (.tup [.v (.string (bs (formatF l).1)), .v (.int .i64 (formatF l).2)]) [] := by
  have hll : (ruP l).length = l.length := by simp
  generalize hR : formatF l = R
  rw [formatF] at hR
  refine (ACalls.of (fn := Tryd.f10) Tryd.func10 Z Z Tryd.ntmps10 (fun I M w own => ?_))
  by_cases hb : 64 < l.length
  · rw [if_pos hb] at hR
    subst hR
    have hb' : ((ruP l).length : Int) > 64 := by omega
    (repeat' (first|refine AW.seq_k (fun K hK=>?_)|(refine hK _ ?_;clear hK)|refine AW.uC (fun hc=>?_) (fun hc=>?_)|refine AW.ret ?_|exact trivial|refine AW.rI [0, 1, 2] Z ?_|refine Ud ?_|fail))
    ((first|refine RetOk.tupS [] Z Z Z Z Z ?_ ?_|refine RetOk.oneS [] Z Z Z Z ?_ ?_)<;>(repeat' (first|exact V0|refine V1 ?_|refine V2 ?_ ?_|fail)))
  rw [if_neg hb] at hR
  have hb' : ¬ ((ruP l).length : Int) > 64 := by omega
  (repeat' (first|refine AW.seq_k (fun K hK=>?_)|(refine hK _ ?_;clear hK)|refine AW.uC (fun hc=>?_) (fun hc=>?_)|refine AW.block ?_|refine AW.skip ?_|exact trivial|refine AW.rI [0, 1, 3, 4] Z ?_|refine UdB ?_|fail))
  refine AW.loopF (X := Nat × List UInt8) (fun y => fmtSt l f y.1 y.2)
    (fun y => y.1 ≤ l.length ∧ y.2.length ≤ 4000 * y.1 ∧ fmtGo y.2 (l.drop y.1) = R) (fun y => l.length - y.1) (0, []) ?_ ⟨Nat.zero_le _, by simp, hR⟩ ?_
  · refine Conv.mk [0] Z Z Z ?_ Z ?_
    · (repeat' (first|exact V0|refine V3 ?_|refine V2 ?_ ?_|fail))
    · (repeat' (first|exact V0|refine V3 ?_|refine V2 ?_ ?_|fail))
  rintro ⟨i, s⟩ ⟨h1, h2, h3⟩
  simp only at h1 h2 h3 ⊢
  rcases Nat.lt_or_ge i l.length with h | h
  · obtain ⟨r, hr⟩ : ∃ r, l[i]? = some r := ⟨l[i], by simp [h]⟩
    have hdr : l.drop i = r :: l.drop (i + 1) := by
      rw [List.drop_eq_getElem_cons h]
      congr 1
      simpa [h] using hr
    have hlt : (i : Int) < ((ruP l).length : Int) := by omega
    have hA : At (ruP l) (i : Int) [PV.v (.int .i64 r.hd.kind), PV.v (.string (bs r.hd.role)), PV.v (.string (bs r.hd.cls)), PV.v (.int .i64 r.hd.pct), PV.sl 2 (tmP r.cond)] := At.mk i Z (by simp [hr])
    rw [hdr, fmtGo] at h3
    obtain ⟨n1, n2, n3, n4⟩ := hcn r (List.mem_of_getElem? hr)
    have hv := Valid_c false r n1 n2 n3 n4
    cases hq : validF r with
    | false =>
      rw [hq] at hv
      rw [hq, if_neg (by decide)] at h3
      subst h3
      cases s with
      | nil =>
        simp only [fmtSt]
        (repeat' (first|refine AW.seq_k (fun K hK=>?_)|(refine hK _ ?_;clear hK)|refine AW.uC (fun hc=>?_) (fun hc=>?_)|refine AW.block ?_|refine AW.ret ?_|refine AW.skip ?_|exact trivial|refine AW.rI [5, 6, 7, 8] Z ?_|refine Run.c0 hv Z Z Z Z Z Z Z Z ?_|refine Ud ?_|fail))
        ((first|refine RetOk.tupS [] Z Z Z Z Z ?_ ?_|refine RetOk.oneS [] Z Z Z Z ?_ ?_)<;>(repeat' (first|exact V0|refine V1 ?_|refine V2 ?_ ?_|fail)))
      | cons c s =>
        simp only [fmtSt]
        (repeat' (first|refine AW.seq_k (fun K hK=>?_)|(refine hK _ ?_;clear hK)|refine AW.uC (fun hc=>?_) (fun hc=>?_)|refine AW.block ?_|refine AW.ret ?_|refine AW.skip ?_|exact trivial|refine AW.rI [5, 6, 7, 8] Z ?_|refine Run.c0 hv Z Z Z Z Z Z Z Z ?_|refine Ud ?_|fail))
        ((first|refine RetOk.tupS [] Z Z Z Z Z ?_ ?_|refine RetOk.oneS [] Z Z Z Z ?_ ?_)<;>(repeat' (first|exact V0|refine V1 ?_|refine V2 ?_ ?_|fail)))
    | true =>
      have hL := line_c false r hq
      rw [hq] at hv
      rw [hq, if_pos Z] at h3
      obtain ⟨w1, w2⟩ := lineP_len hq
      have wl : (lineP r).length ≤ 2201 := by rw [lineP]; simp only [List.length_append, List.length_cons, List.length_nil]; omega
      have wn := lineP_ne r
      generalize lineP r = g at hL h3 wl wn
      cases s with
      | nil =>
        simp only [fmtSt]
        have hW := writeString0_c g (by omega)
        (repeat' (first|refine AW.seq_k (fun K hK=>?_)|(refine hK _ ?_;clear hK)|refine AW.uC (fun hc=>?_) (fun hc=>?_)|refine AW.block ?_|refine AW.skip ?_|exact trivial|refine AW.rI [5, 6, 7, 9, 10] Z ?_|refine Run.c0 hv Z Z Z Z Z Z Z Z ?_|refine Run.c0 hL Z Z Z Z Z Z Z Z ?_|refine Run.cSA [0] hW Z Z Z Z Z Z Z Z Z Z Z Z ?_|refine Ud ?_|fail))
        ((repeat (with_reducible refine inB_n ?_)); refine thenA_n ?_)
        refine ⟨(i + 1, [] ++ g), ⟨h, by simp; omega, h3⟩, by simp only; omega, ?_⟩
        cases g with
        | nil => exact absurd Z wn
        | cons c g =>
          refine Conv.mk [0, 2] Z Z Z ?_ Z ?_
          · (repeat' (first|exact V0|refine V3 ?_|refine V2 ?_ ?_|fail))
            all_goals first | rfl | (refine Cv.eq ?_; simp [AV.ren, renL]; done)
          · (repeat' (first|exact V0|refine V3 ?_|refine V2 ?_ ?_|fail))
            all_goals first | rfl | (refine Cv.eq ?_; simp [AV.ren, renL]; done)
      | cons c s =>
        simp only [fmtSt]
        have hW := writeString1_c (c :: s) g (by omega) (by omega)
        (repeat' (first|refine AW.seq_k (fun K hK=>?_)|(refine hK _ ?_;clear hK)|refine AW.uC (fun hc=>?_) (fun hc=>?_)|refine AW.block ?_|refine AW.skip ?_|exact trivial|refine AW.rI [5, 6, 7, 9, 10] Z ?_|refine Run.c0 hv Z Z Z Z Z Z Z Z ?_|refine Run.c0 hL Z Z Z Z Z Z Z Z ?_|refine Run.cSA [0, 1] hW Z Z Z Z Z Z Z Z Z Z Z Z ?_|refine Ud ?_|fail))
        ((repeat (with_reducible refine inB_n ?_)); refine thenA_n ?_)
        refine ⟨(i + 1, (c :: s) ++ g), ⟨h, by rw [List.length_append]; omega, h3⟩, by simp only; omega, ?_⟩
        refine Conv.mk [0, 3] Z Z Z ?_ Z ?_
        · (repeat' (first|exact V0|refine V3 ?_|refine V2 ?_ ?_|fail))
          all_goals first | rfl | (refine Cv.eq ?_; simp [AV.ren, renL]; done)
        · (repeat' (first|exact V0|refine V3 ?_|refine V2 ?_ ?_|fail))
          all_goals first | rfl | (refine Cv.eq ?_; simp [AV.ren, renL]; done)
  · have hge : ¬ (i : Int) < ((ruP l).length : Int) := by omega
    rw [List.drop_eq_nil_of_le h, fmtGo] at h3
    subst h3
    cases s with
    | nil =>
      simp only [fmtSt]
      (repeat' (first|refine AW.seq_k (fun K hK=>?_)|(refine hK _ ?_;clear hK)|refine AW.uC (fun hc=>?_) (fun hc=>?_)|refine AW.exit ?_|refine AW.ret ?_|(clear hK;refine hK _ ?_;clear hK)|exact trivial|refine AW.rI [5, 11] Z ?_|refine Run.cSA [0] builderString0_c Z Z Z Z Z Z Z Z Z Z Z Z ?_|refine Ud ?_|fail))
      ((first|refine RetOk.tupS [] Z Z Z Z Z ?_ ?_|refine RetOk.oneS [] Z Z Z Z ?_ ?_)<;>(repeat' (first|exact V0|refine V1 ?_|refine V2 ?_ ?_|fail)))
    | cons c s =>
      simp only [fmtSt]
      have hS := builderString_c (c :: s) (by simp) (by omega)
      (repeat' (first|refine AW.seq_k (fun K hK=>?_)|(refine hK _ ?_;clear hK)|refine AW.uC (fun hc=>?_) (fun hc=>?_)|refine AW.exit ?_|refine AW.ret ?_|(clear hK;refine hK _ ?_;clear hK)|exact trivial|refine AW.rI [5, 11] Z ?_|refine Run.cSA [0, 1] hS Z Z Z Z Z Z Z Z Z Z Z Z ?_|refine Ud ?_|fail))
      ((first|refine RetOk.tupS [] Z Z Z Z Z ?_ ?_|refine RetOk.oneS [] Z Z Z Z ?_ ?_)<;>(repeat' (first|exact V0|refine V1 ?_|refine V2 ?_ ?_|fail)))
end Go.Proofs.YtpacgphnpalepaaDoor
