/-
  Walk of the rules: the fold of a condition, by nothing: whether it is proper.
-/
import Derived.Test.YtpacgphnpalepaaDoorQAA
import Derived.Test.YtpacgphnpalepaaDoorQAN
import Derived.Test.YtpacgphnpalepaaDoorTy
import Derived.Test.YtpacgphnpalepaaDoorQAD
namespace Go.Proofs.YtpacgphnpalepaaDoor
set_option linter.unusedVariables false
set_option linter.unusedSimpArgs false
set_option maxHeartbeats 4000000 in
theorem proper1_c (k : Int) (nm : Wd) (xs : List (List PV)) (f : Bool) : ACalls Tryd.prog 38 [.agg [.v (.int .i64 k), .v (.string (bs nm))], .sl 0 xs f] [] (.agg []) [] := by
  refine (ACalls.of (fn := Tryd.f38) Tryd.func38 Z Z Tryd.ntmps38 (fun I M w own => ?_))
  (repeat' (first|refine AW.seq_k (fun K hK=>?_)|(refine hK _ ?_;clear hK)|refine AW.ret ?_|refine AW.region ?_|refine UA ?_|fail))
  ((first|refine RetOk.tupS [] Z Z Z Z Z ?_ ?_|refine RetOk.oneS [] Z Z Z Z ?_ ?_)<;>(repeat' (first|exact V0|refine V1 ?_|refine V2 ?_ ?_|fail)))
abbrev unP (n : Nat) : List (List PV) := List.replicate n []
def foldN : Nat → List Tm → Option Nat
  | n, [] => some n
  | n, t :: r => if badT n t = true then none else foldN (n - (arityF t.1).toNat + 1) r
def foldNE (c : List Tm) : Bool := if 16 < c.length then false else decide (foldN 0 c = some 1)
set_option maxHeartbeats 4000000 in
theorem foldN_c (f : Bool) (c : List Tm) (hc : c.length ≤ 1000000) (hn : ∀ t ∈ c, t.2.length ≤ 9223372036854775807) :
    ACalls Tryd.prog 37 [.sl 2 (tmP c) f, .fn 38 []] [] (.tup [.agg [], .v (.bool (foldNE c))]) [] := by
  generalize hR : foldNE c = R
  rw [foldNE] at hR
  have hcl : (tmP c).length = c.length := by simp
  refine (ACalls.of (fn := Tryd.f37) Tryd.func37 Z Z Tryd.ntmps37 (fun I M w own => ?_))
  by_cases hb : 16 < c.length
  · rw [if_pos hb] at hR
    subst hR
    (repeat' (first|refine AW.seq_k (fun K hK=>?_)|(refine hK _ ?_;clear hK)|refine AW.uC (fun hc=>?_) (fun hc=>?_)|refine AW.ret ?_|exact trivial|refine AW.rI [0, 1, 2, 3, 4] Z ?_|refine Ud ?_|fail))
    all_goals first | (exfalso; simp only [List.length_map] at *; omega) | skip
    ((first|refine RetOk.tupS [] Z Z Z Z Z ?_ ?_|refine RetOk.oneS [] Z Z Z Z ?_ ?_)<;>(repeat' (first|exact V0|refine V1 ?_|refine V2 ?_ ?_|fail)))
  rw [if_neg hb] at hR
  (repeat' (first|refine AW.seq_k (fun K hK=>?_)|(refine hK _ ?_;clear hK)|refine AW.uC (fun hc=>?_) (fun hc=>?_)|refine AW.block ?_|refine AW.skip ?_|exact trivial|refine AW.rI [0, 1, 2, 3, 5] Z ?_|refine Ud ?_|fail))
  all_goals first | (exfalso; simp only [List.length_map] at *; omega) | skip
  refine AW.loopF (X := Nat × Nat) (fun x => ⟨[(0, .sl 2 (tmP c) f), (1, .fn 38 []), (4, .ptr 0 0), (6, .ptr 1 0), (7, .sl 0 (unP x.2) false), (16, .sl 2 (tmP c) f), (17, .v (.int .i64 ((tmP c).length : Int))), (18, .v (.int .i64 (x.1 : Int)))], [.box [], .box []]⟩)
    (fun x => x.1 ≤ c.length ∧ x.2 ≤ x.1 ∧ foldN 0 c = foldN x.2 (c.drop x.1)) (fun x => c.length - x.1) (0, 0) ?_ ?_ ?_
  · refine Conv.mk [0, 1] Z Z Z ?_ Z ?_
    · (repeat' (first|exact V0|refine V3 ?_|refine V2 ?_ ?_|fail))
      all_goals first | rfl | exact Cv.slN _ | skip
    · (repeat' (first|exact V0|refine V3 ?_|refine V2 ?_ ?_|fail))
  · exact ⟨Nat.zero_le _, Nat.le_refl _, rfl⟩
  rintro ⟨j, st⟩ ⟨h1, h2, h3⟩
  simp only at h1 h2 h3 ⊢
  rcases Nat.lt_or_ge j c.length with h | h
  · obtain ⟨t, ht⟩ : ∃ t, c[j]? = some t := ⟨c[j], by simp [h]⟩
    have hdr : c.drop j = t :: c.drop (j + 1) := by
      rw [List.drop_eq_getElem_cons h]
      congr 1
      simpa [h] using ht
    rw [hdr, foldN] at h3
    have htm : t ∈ c := List.mem_of_getElem? ht
    have hnl := hn t htm
    have hA : At (tmP c) (j : Int) [PV.v (.int .i64 t.1), PV.v (.string (bs t.2))] := At.mk j Z (by simp [ht])
    have har := arity_c t.1
    have hna := Name_c t.2 hnl
    have hsl : (unP st).length = st := by simp
    obtain ⟨k, nm⟩ := t
    simp only at h3 hnl hA har hna
    generalize hak : arityF k = ar at har h3
    by_cases hneg : ar < 0
    · have hbad : badT st (k, nm) = true := by simp [badT, hak, hneg]
      rw [if_pos hbad] at h3
      (repeat' (first|refine AW.seq_k (fun K hK=>?_)|(refine hK _ ?_;clear hK)|refine AW.uC (fun hc=>?_) (fun hc=>?_)|refine AW.block ?_|refine AW.skip ?_|exact trivial|refine AW.rI [6, 7, 8] Z ?_|refine Run.c0 har Z Z Z Z Z Z Z Z ?_|refine Ud ?_|fail))
      have e1 : decide (ar < 0) = true := by simp [hneg]
      refine rG 9 ?_
      (iterate 3 (try (first|refine UA ?_|fail)))
      rw [e1]
      (iterate 24 (try (first|refine UA ?_|fail)))
      refine Run.fin Z ?_
      refine hK _ ?_
      clear hK
      (repeat' (first|refine AW.seq_k (fun K hK=>?_)|(refine hK _ ?_;clear hK)|refine AW.uC (fun hc=>?_) (fun hc=>?_)|refine AW.ret ?_|exact trivial|refine rG 10 ?_|refine Ud ?_|fail))
      rw [h3] at hR
      obtain rfl : false = R := by rw [← hR]; rfl
      ((first|refine RetOk.tupS [] Z Z Z Z Z ?_ ?_|refine RetOk.oneS [] Z Z Z Z ?_ ?_)<;>(repeat' (first|exact V0|refine V1 ?_|refine V2 ?_ ?_|fail)))
    have e1 : decide (ar < 0) = false := by simp; omega
    by_cases hlt : (st : Int) < ar
    · have hbad : badT st (k, nm) = true := by simp [badT, hak, hlt]
      rw [if_pos hbad] at h3
      have e2 : decide (((unP st).length : Int) < ar) = true := by simp [hlt]
      (repeat' (first|refine AW.seq_k (fun K hK=>?_)|(refine hK _ ?_;clear hK)|refine AW.uC (fun hc=>?_) (fun hc=>?_)|refine AW.block ?_|refine AW.skip ?_|exact trivial|refine AW.rI [6, 7, 8] Z ?_|refine Run.c0 har Z Z Z Z Z Z Z Z ?_|refine Ud ?_|fail))
      refine rG 9 ?_
      (iterate 3 (try (first|refine UA ?_|fail)))
      rw [e1]
      (iterate 6 (try (first|refine UA ?_|fail)))
      rw [e2]
      (iterate 18 (try (first|refine UA ?_|fail)))
      refine Run.fin Z ?_
      refine hK _ ?_
      clear hK
      (repeat' (first|refine AW.seq_k (fun K hK=>?_)|(refine hK _ ?_;clear hK)|refine AW.uC (fun hc=>?_) (fun hc=>?_)|refine AW.ret ?_|exact trivial|refine rG 10 ?_|refine Ud ?_|fail))
      rw [h3] at hR
      obtain rfl : false = R := by rw [← hR]; rfl
      ((first|refine RetOk.tupS [] Z Z Z Z Z ?_ ?_|refine RetOk.oneS [] Z Z Z Z ?_ ?_)<;>(repeat' (first|exact V0|refine V1 ?_|refine V2 ?_ ?_|fail)))
    have e2 : decide (((unP st).length : Int) < ar) = false := by simp; omega
    have h0r : 0 ≤ ar := by omega
    have hlr : ar ≤ st := by omega
    have e5 : ((((unP st).length : Nat) : Int) - ar).toNat = st - ar.toNat := by rw [hsl]; omega
    have hcall : ACalls Tryd.prog 38 [.agg [.v (.int .i64 k), .v (.string (bs nm))], .sl 0 ((unP st).drop ((((unP st).length : Nat) : Int) - ar).toNat) false] [] (.agg []) [] := proper1_c k nm _ false
    have hbl : (unP st).take ((((unP st).length : Nat) : Int) - ar).toNat ++ [[]] = unP (st - ar.toNat + 1) := by
      rw [e5, List.take_replicate, show min (st - ar.toNat) st = st - ar.toNat by omega]
      exact List.replicate_succ'.symm
    have hnl2 : st - ar.toNat + 1 ≤ j + 1 := by omega
    by_cases hz : ar = 0
    · have e3 : decide (ar = 0) = true := by simp [hz]
      cases hnb : nameB nm with
      | false =>
        have hbad : badT st (k, nm) = true := by simp [badT, hak, hz, hnb]
        rw [if_pos hbad] at h3
        rw [hnb] at hna
        (repeat' (first|refine AW.seq_k (fun K hK=>?_)|(refine hK _ ?_;clear hK)|refine AW.uC (fun hc=>?_) (fun hc=>?_)|refine AW.block ?_|refine AW.skip ?_|exact trivial|refine AW.rI [6, 7, 8] Z ?_|refine Run.c0 har Z Z Z Z Z Z Z Z ?_|refine Ud ?_|fail))
        refine rG 9 ?_
        (iterate 3 (try (first|refine UA ?_|fail)))
        rw [e1]
        (iterate 6 (try (first|refine UA ?_|fail)))
        rw [e2]
        (iterate 4 (try (first|refine UA ?_|fail)))
        rw [e3]
        (iterate 14 (try (first|refine Run.gccA (fun hg=>hna) (by first|exact Gd.t Z Z Z Z|exact Gd.t2 Z Z Z Z) Z Z Z Z Z Z Z ?_|refine UA ?_|fail)))
        refine Run.fin Z ?_
        refine hK _ ?_
        clear hK
        (repeat' (first|refine AW.seq_k (fun K hK=>?_)|(refine hK _ ?_;clear hK)|refine AW.uC (fun hc=>?_) (fun hc=>?_)|refine AW.ret ?_|exact trivial|refine rG 10 ?_|refine Ud ?_|fail))
        rw [h3] at hR
        obtain rfl : false = R := by rw [← hR]; rfl
        ((first|refine RetOk.tupS [] Z Z Z Z Z ?_ ?_|refine RetOk.oneS [] Z Z Z Z ?_ ?_)<;>(repeat' (first|exact V0|refine V1 ?_|refine V2 ?_ ?_|fail)))
      | true =>
        have hbad : ¬ badT st (k, nm) = true := by simp [badT, hak, hz, hnb]
        rw [if_neg hbad] at h3
        rw [hnb] at hna
        have e4 : decide (0 < ar) = false := by simp [hz]
        (repeat' (first|refine AW.seq_k (fun K hK=>?_)|(refine hK _ ?_;clear hK)|refine AW.uC (fun hc=>?_) (fun hc=>?_)|refine AW.block ?_|refine AW.skip ?_|exact trivial|refine AW.rI [6, 7, 8] Z ?_|refine Run.c0 har Z Z Z Z Z Z Z Z ?_|refine Ud ?_|fail))
        refine rG 9 ?_
        (iterate 3 (try (first|refine UA ?_|fail)))
        rw [e1]
        (iterate 6 (try (first|refine UA ?_|fail)))
        rw [e2]
        (iterate 4 (try (first|refine UA ?_|fail)))
        rw [e3]
        (iterate 8 (try (first|refine Run.gccA (fun hg=>hna) (by first|exact Gd.t Z Z Z Z|exact Gd.t2 Z Z Z Z) Z Z Z Z Z Z Z ?_|refine UA ?_|fail)))
        rw [e4]
        (iterate 6 (try (first|refine UA ?_|fail)))
        refine Run.fin Z ?_
        refine hK _ ?_
        clear hK
        (repeat' (first|refine AW.seq_k (fun K hK=>?_)|(refine hK _ ?_;clear hK)|refine AW.uC (fun hc=>?_) (fun hc=>?_)|refine AW.skip ?_|exact trivial|refine AW.draw (id := 12) (by kernel_rfl) ?_|refine AW.rI [11, 13] Z ?_|refine Run.c0 hcall Z Z Z Z Z Z Z Z ?_|refine Ud ?_|fail))
        rw [hbl]
        ((repeat (with_reducible refine inB_n ?_)); refine thenA_n ?_)
        refine ⟨(j + 1, st - ar.toNat + 1), ⟨h, hnl2, h3⟩, by omega, ?_⟩
        refine Conv.mk [0, 1] Z Z Z ?_ Z ?_
        · (repeat' (first|exact V0|refine V3 ?_|refine V2 ?_ ?_|fail))
        · (repeat' (first|exact V0|refine V3 ?_|refine V2 ?_ ?_|fail))
    · have e3 : decide (ar = 0) = false := by simp [hz]
      have e4 : decide (0 < ar) = true := by simp; omega
      by_cases hnn : nm = []
      · have hbad : ¬ badT st (k, nm) = true := by simp [badT, hak, hz, hnn]; omega
        rw [if_neg hbad] at h3
        subst hnn
        have e6 : decide (([] : List UInt8) ≠ []) = false := by simp
        (repeat' (first|refine AW.seq_k (fun K hK=>?_)|(refine hK _ ?_;clear hK)|refine AW.uC (fun hc=>?_) (fun hc=>?_)|refine AW.block ?_|refine AW.skip ?_|exact trivial|refine AW.rI [6, 7, 8] Z ?_|refine Run.c0 har Z Z Z Z Z Z Z Z ?_|refine Ud ?_|fail))
        refine rG 9 ?_
        (iterate 3 (try (first|refine UA ?_|fail)))
        rw [e1]
        (iterate 6 (try (first|refine UA ?_|fail)))
        rw [e2]
        (iterate 4 (try (first|refine UA ?_|fail)))
        rw [e3]
        (iterate 8 (try (first|refine UA ?_|fail)))
        rw [e4]
        (iterate 4 (try (first|refine UA ?_|fail)))
        rw [e6]
        (iterate 2 (try (first|refine UA ?_|fail)))
        refine Run.fin Z ?_
        refine hK _ ?_
        clear hK
        (repeat' (first|refine AW.seq_k (fun K hK=>?_)|(refine hK _ ?_;clear hK)|refine AW.uC (fun hc=>?_) (fun hc=>?_)|refine AW.skip ?_|exact trivial|refine AW.draw (id := 12) (by kernel_rfl) ?_|refine AW.rI [11, 13] Z ?_|refine Run.c0 hcall Z Z Z Z Z Z Z Z ?_|refine Ud ?_|fail))
        rw [hbl]
        ((repeat (with_reducible refine inB_n ?_)); refine thenA_n ?_)
        refine ⟨(j + 1, st - ar.toNat + 1), ⟨h, hnl2, h3⟩, by omega, ?_⟩
        refine Conv.mk [0, 1] Z Z Z ?_ Z ?_
        · (repeat' (first|exact V0|refine V3 ?_|refine V2 ?_ ?_|fail))
        · (repeat' (first|exact V0|refine V3 ?_|refine V2 ?_ ?_|fail))
      · have hbad : badT st (k, nm) = true := by simp [badT, hak, hnn]; omega
        rw [if_pos hbad] at h3
        have e6 : decide (nm ≠ []) = true := by simp [hnn]
        (repeat' (first|refine AW.seq_k (fun K hK=>?_)|(refine hK _ ?_;clear hK)|refine AW.uC (fun hc=>?_) (fun hc=>?_)|refine AW.block ?_|refine AW.skip ?_|exact trivial|refine AW.rI [6, 7, 8] Z ?_|refine Run.c0 har Z Z Z Z Z Z Z Z ?_|refine Ud ?_|fail))
        refine rG 9 ?_
        (iterate 3 (try (first|refine UA ?_|fail)))
        rw [e1]
        (iterate 6 (try (first|refine UA ?_|fail)))
        rw [e2]
        (iterate 4 (try (first|refine UA ?_|fail)))
        rw [e3]
        (iterate 8 (try (first|refine UA ?_|fail)))
        rw [e4]
        (iterate 4 (try (first|refine UA ?_|fail)))
        rw [e6]
        (iterate 2 (try (first|refine UA ?_|fail)))
        refine Run.fin Z ?_
        refine hK _ ?_
        clear hK
        (repeat' (first|refine AW.seq_k (fun K hK=>?_)|(refine hK _ ?_;clear hK)|refine AW.uC (fun hc=>?_) (fun hc=>?_)|refine AW.ret ?_|exact trivial|refine rG 10 ?_|refine Ud ?_|fail))
        rw [h3] at hR
        obtain rfl : false = R := by rw [← hR]; rfl
        ((first|refine RetOk.tupS [] Z Z Z Z Z ?_ ?_|refine RetOk.oneS [] Z Z Z Z ?_ ?_)<;>(repeat' (first|exact V0|refine V1 ?_|refine V2 ?_ ?_|fail)))
  · have hj : c.drop j = [] := List.drop_eq_nil_of_le h
    rw [hj, foldN] at h3
    rw [h3] at hR
    by_cases hone : st = 1
    · subst hone
      obtain rfl : true = R := by rw [← hR]; rfl
      have hA : At (unP 1) (0 : Int) [] := At.mk 0 Z Z
      have hone2 : ¬ (((unP 1).length : Int) ≠ 1) := fun h => h Z
      (repeat' (first|refine AW.seq_k (fun K hK=>?_)|(refine hK _ ?_;clear hK)|refine AW.uC (fun hc=>?_) (fun hc=>?_)|refine AW.exit ?_|refine AW.ret ?_|refine AW.skip ?_|(clear hK;refine hK _ ?_;clear hK)|exact trivial|refine AW.rI [6, 14, 16] Z ?_|refine Ud ?_|fail))
      all_goals first | (exfalso; exact hone2 (by assumption)) | skip
      ((first|refine RetOk.tupS [] Z Z Z Z Z ?_ ?_|refine RetOk.oneS [] Z Z Z Z ?_ ?_)<;>(repeat' (first|exact V0|refine V1 ?_|refine V2 ?_ ?_|fail)))
    · obtain rfl : false = R := by rw [← hR]; symm; simpa using hone
      have hone' : ((unP st).length : Int) ≠ 1 := by rw [List.length_replicate]; omega
      (repeat' (first|refine AW.seq_k (fun K hK=>?_)|(refine hK _ ?_;clear hK)|refine AW.uC (fun hc=>?_) (fun hc=>?_)|refine AW.exit ?_|refine AW.ret ?_|(clear hK;refine hK _ ?_;clear hK)|exact trivial|refine AW.rI [6, 14, 15] Z ?_|refine Ud ?_|fail))
      all_goals first | (exfalso; rename_i hx; exact hx hone') | skip
      ((first|refine RetOk.tupS [] Z Z Z Z Z ?_ ?_|refine RetOk.oneS [] Z Z Z Z ?_ ?_)<;>(repeat' (first|exact V0|refine V1 ?_|refine V2 ?_ ?_|fail)))
end Go.Proofs.YtpacgphnpalepaaDoor
namespace Go.Proofs.YtpacgphnpalepaaDoor
set_option linter.unusedVariables false
set_option linter.unusedSimpArgs false
def properF (c : List Tm) : Bool := foldNE c || decide (c = [])
set_option maxHeartbeats 4000000 in
theorem proper_c (f : Bool) (c : List Tm) (hc : c.length ≤ 1000000) (hn : ∀ t ∈ c, t.2.length ≤ 9223372036854775807) : ACalls Tryd.prog 16 [.sl 2 (tmP c) f] [] (.v (.bool (properF c))) [] := by
  have hf := foldN_c f c hc hn
  have hcl : (tmP c).length = c.length := by simp
  have hz : properF c = (foldNE c || decide (((tmP c).length : Int) = 0)) := by
    rw [properF]
    congr 1
    rw [decide_eq_decide, hcl]
    constructor
    · rintro rfl; rfl
    · intro h; exact List.length_eq_zero_iff.1 (by omega)
  rw [hz]
  cases hq : foldNE c with
  | true =>
    rw [hq] at hf
    refine (ACalls.of (fn := Tryd.f16) Tryd.func16 Z Z Tryd.ntmps16 (fun I M w own => ?_))
    (repeat' (first|refine AW.seq_k (fun K hK=>?_)|(refine hK _ ?_;clear hK)|refine AW.ret ?_|refine AW.region ?_|refine Run.c0 hf Z Z Z Z Z Z Z Z ?_|refine Ud ?_|fail))
    ((first|refine RetOk.tupS [] Z Z Z Z Z ?_ ?_|refine RetOk.oneS [] Z Z Z Z ?_ ?_)<;>(repeat' (first|exact V0|refine V1 ?_|refine V2 ?_ ?_|fail)))
  | false =>
    rw [hq] at hf
    refine (ACalls.of (fn := Tryd.f16) Tryd.func16 Z Z Tryd.ntmps16 (fun I M w own => ?_))
    (repeat' (first|refine AW.seq_k (fun K hK=>?_)|(refine hK _ ?_;clear hK)|refine AW.ret ?_|refine AW.region ?_|refine Run.c0 hf Z Z Z Z Z Z Z Z ?_|refine Ud ?_|fail))
    ((first|refine RetOk.tupS [] Z Z Z Z Z ?_ ?_|refine RetOk.oneS [] Z Z Z Z ?_ ?_)<;>(repeat' (first|exact V0|refine V1 ?_|refine V2 ?_ ?_|fail)))
abbrev ruC (r : Ru) (f : Bool) : List AV := r.hd.cells ++ [.sl 2 (tmP r.cond) f]
def validF (r : Ru) : Bool :=
  if properF r.cond = true ∧ nameB r.hd.role = true then
    (if r.hd.kind = 1 then nameB r.hd.cls && decide (r.hd.pct = 0)
     else if r.hd.kind = 2 then (decide (r.hd.cls = []) && decide (0 ≤ r.hd.pct)) && decide (r.hd.pct ≤ 100)
     else if r.hd.kind = 3 then decide (r.hd.cls = []) && decide (r.hd.pct = 0) else false)
  else false
set_option maxHeartbeats 4000000 in
theorem Valid_c (f : Bool) (r : Ru) (hc : r.cond.length ≤ 1000000) (hn : ∀ t ∈ r.cond, t.2.length ≤ 9223372036854775807) (h1 : r.hd.role.length ≤ 9223372036854775807) (h2 : r.hd.cls.length ≤ 9223372036854775807) :
    ACalls Tryd.prog 6 [.agg (ruC r f)] [] (.v (.bool (validF r))) [] := by
  generalize hR : validF r = R
  rw [validF] at hR
  have hp := proper_c f r.cond hc hn
  have hna := Name_c r.hd.role h1
  have hnc := Name_c r.hd.cls h2
  obtain ⟨⟨kind, role, cls, pct⟩, cond⟩ := r
  simp only at hR hp hna hnc
  show ACalls Tryd.prog 6 [.agg [.v (.int .i64 kind), .v (.string (bs role)), .v (.string (bs cls)), .v (.int .i64 pct), .sl 2 (tmP cond) f]] [] (.v (.bool R)) []
  refine (ACalls.of (fn := Tryd.f6) Tryd.func6 Z Z Tryd.ntmps6 (fun I M w own => ?_))
  cases hq : properF cond with
  | false =>
    rw [hq] at hp hR
    rw [if_neg (by simp)] at hR
    subst hR
    (repeat' (first|refine AW.seq_k (fun K hK=>?_)|(refine hK _ ?_;clear hK)|refine AW.uC (fun hc=>?_) (fun hc=>?_)|refine AW.ret ?_|exact trivial|refine AW.rI [0, 1, 2] Z ?_|refine Run.c0 hp Z Z Z Z Z Z Z Z ?_|refine Ud ?_|fail))
    ((first|refine RetOk.tupS [] Z Z Z Z Z ?_ ?_|refine RetOk.oneS [] Z Z Z Z ?_ ?_)<;>(repeat' (first|exact V0|refine V1 ?_|refine V2 ?_ ?_|fail)))
  | true =>
    rw [hq] at hp hR
    cases hq2 : nameB role with
    | false =>
      rw [hq2] at hna hR
      rw [if_neg (by simp)] at hR
      subst hR
      (repeat' (first|refine AW.seq_k (fun K hK=>?_)|(refine hK _ ?_;clear hK)|refine AW.uC (fun hc=>?_) (fun hc=>?_)|refine AW.ret ?_|exact trivial|refine AW.rI [0, 1, 2] Z ?_|refine Run.c0 hp Z Z Z Z Z Z Z Z ?_|refine Run.c0 hna Z Z Z Z Z Z Z Z ?_|refine Ud ?_|fail))
      ((first|refine RetOk.tupS [] Z Z Z Z Z ?_ ?_|refine RetOk.oneS [] Z Z Z Z ?_ ?_)<;>(repeat' (first|exact V0|refine V1 ?_|refine V2 ?_ ?_|fail)))
    | true =>
      rw [hq2] at hna hR
      rw [if_pos (by simp)] at hR
      by_cases k1 : kind = 1
      · rw [if_pos k1] at hR
        subst k1
        cases hq3 : nameB cls with
        | false =>
          rw [hq3] at hnc hR
          subst hR
          (repeat' (first|refine AW.seq_k (fun K hK=>?_)|(refine hK _ ?_;clear hK)|refine AW.uC (fun hc=>?_) (fun hc=>?_)|refine AW.skip ?_|exact trivial|refine AW.rI [0, 1] Z ?_|refine Run.c0 hp Z Z Z Z Z Z Z Z ?_|refine Run.c0 hna Z Z Z Z Z Z Z Z ?_|refine Ud ?_|fail))
          (repeat' (first|refine AW.seq_k (fun K hK=>?_)|(refine hK _ ?_;clear hK)|refine AW.uC (fun hc=>?_) (fun hc=>?_)|refine AW.block ?_|refine AW.ret ?_|exact trivial|refine AW.rI [3, 4, 5] Z ?_|refine Run.c0 hnc Z Z Z Z Z Z Z Z ?_|refine Ud ?_|fail))
          ((first|refine RetOk.tupS [] Z Z Z Z Z ?_ ?_|refine RetOk.oneS [] Z Z Z Z ?_ ?_)<;>(repeat' (first|exact V0|refine V1 ?_|refine V2 ?_ ?_|fail)))
        | true =>
          rw [hq3] at hnc hR
          subst hR
          (repeat' (first|refine AW.seq_k (fun K hK=>?_)|(refine hK _ ?_;clear hK)|refine AW.uC (fun hc=>?_) (fun hc=>?_)|refine AW.skip ?_|exact trivial|refine AW.rI [0, 1] Z ?_|refine Run.c0 hp Z Z Z Z Z Z Z Z ?_|refine Run.c0 hna Z Z Z Z Z Z Z Z ?_|refine Ud ?_|fail))
          (repeat' (first|refine AW.seq_k (fun K hK=>?_)|(refine hK _ ?_;clear hK)|refine AW.uC (fun hc=>?_) (fun hc=>?_)|refine AW.block ?_|refine AW.ret ?_|exact trivial|refine AW.rI [3, 4, 5] Z ?_|refine Run.c0 hnc Z Z Z Z Z Z Z Z ?_|refine Ud ?_|fail))
          ((first|refine RetOk.tupS [] Z Z Z Z Z ?_ ?_|refine RetOk.oneS [] Z Z Z Z ?_ ?_)<;>(repeat' (first|exact V0|refine V1 ?_|refine V2 ?_ ?_|fail)))
      rw [if_neg k1] at hR
      by_cases k2 : kind = 2
      · rw [if_pos k2] at hR
        subst k2 hR
        (repeat' (first|refine AW.seq_k (fun K hK=>?_)|(refine hK _ ?_;clear hK)|refine AW.uC (fun hc=>?_) (fun hc=>?_)|refine AW.skip ?_|exact trivial|refine AW.rI [0, 1] Z ?_|refine Run.c0 hp Z Z Z Z Z Z Z Z ?_|refine Run.c0 hna Z Z Z Z Z Z Z Z ?_|refine Ud ?_|fail))
        (repeat' (first|refine AW.seq_k (fun K hK=>?_)|(refine hK _ ?_;clear hK)|refine AW.uC (fun hc=>?_) (fun hc=>?_)|refine AW.block ?_|refine AW.ret ?_|exact trivial|refine AW.rI [3, 4, 6, 7] Z ?_|refine Ud ?_|fail))
        ((first|refine RetOk.tupS [] Z Z Z Z Z ?_ ?_|refine RetOk.oneS [] Z Z Z Z ?_ ?_)<;>(repeat' (first|exact V0|refine V1 ?_|refine V2 ?_ ?_|fail)))
      rw [if_neg k2] at hR
      by_cases k3 : kind = 3
      · rw [if_pos k3] at hR
        subst k3 hR
        (repeat' (first|refine AW.seq_k (fun K hK=>?_)|(refine hK _ ?_;clear hK)|refine AW.uC (fun hc=>?_) (fun hc=>?_)|refine AW.skip ?_|exact trivial|refine AW.rI [0, 1] Z ?_|refine Run.c0 hp Z Z Z Z Z Z Z Z ?_|refine Run.c0 hna Z Z Z Z Z Z Z Z ?_|refine Ud ?_|fail))
        (repeat' (first|refine AW.seq_k (fun K hK=>?_)|(refine hK _ ?_;clear hK)|refine AW.uC (fun hc=>?_) (fun hc=>?_)|refine AW.block ?_|refine AW.ret ?_|exact trivial|refine AW.rI [3, 4, 6, 8, 9] Z ?_|refine Ud ?_|fail))
        ((first|refine RetOk.tupS [] Z Z Z Z Z ?_ ?_|refine RetOk.oneS [] Z Z Z Z ?_ ?_)<;>(repeat' (first|exact V0|refine V1 ?_|refine V2 ?_ ?_|fail)))
      rw [if_neg k3] at hR
      subst hR
      (repeat' (first|refine AW.seq_k (fun K hK=>?_)|(refine hK _ ?_;clear hK)|refine AW.uC (fun hc=>?_) (fun hc=>?_)|refine AW.skip ?_|exact trivial|refine AW.rI [0, 1] Z ?_|refine Run.c0 hp Z Z Z Z Z Z Z Z ?_|refine Run.c0 hna Z Z Z Z Z Z Z Z ?_|refine Ud ?_|fail))
      (repeat' (first|refine AW.seq_k (fun K hK=>?_)|(refine hK _ ?_;clear hK)|refine AW.uC (fun hc=>?_) (fun hc=>?_)|refine AW.block ?_|refine AW.ret ?_|refine AW.skip ?_|exact trivial|refine AW.rI [3, 4, 6, 8, 10] Z ?_|refine Ud ?_|fail))
      ((first|refine RetOk.tupS [] Z Z Z Z Z ?_ ?_|refine RetOk.oneS [] Z Z Z Z ?_ ?_)<;>(repeat' (first|exact V0|refine V1 ?_|refine V2 ?_ ?_|fail)))
end Go.Proofs.YtpacgphnpalepaaDoor
namespace Go.Proofs.YtpacgphnpalepaaDoor
set_option linter.unusedVariables false
set_option linter.unusedSimpArgs false
set_option maxRecDepth 20000
abbrev saneT : List UInt8 := [100, 117, 99, 107, 32, 109, 117, 115, 105, 99, 32, 50, 48, 32, 119, 104, 101, 110, 32, 97, 99, 116, 105, 118, 101, 32, 118, 111, 105, 99, 101, 32, 97, 110, 100, 32, 110, 111, 116, 32, 112, 114, 101, 115, 101, 110, 116, 32, 104, 101, 97, 100, 115, 101, 116]
abbrev wVoice : Wd := [118, 111, 105, 99, 101]
abbrev wMusic : Wd := [109, 117, 115, 105, 99]
abbrev wHeadset : Wd := [104, 101, 97, 100, 115, 101, 116]
abbrev saneC : List Tm := [(1, wVoice), (2, wHeadset), (3, []), (4, [])]
abbrev saneR : Ru := ⟨⟨2, wMusic, [], 20⟩, saneC⟩
theorem sane_parse : parseF saneT = .inl (1, [saneR]) := by kernel_rfl
theorem sane_valid : validF saneR = true := by kernel_rfl
theorem sane_h1 : holdsF [wVoice] [] saneC = true := by kernel_rfl
theorem sane_h2 : holdsF [] [] saneC = false := by kernel_rfl
set_option maxHeartbeats 4000000 in
theorem sane_c : ACalls Tryd.prog 5 [] [] (.v (.bool true)) [] := by
  have hp := Parse_c saneT (by decide)
  rw [sane_parse] at hp
  have hv := Valid_c false saneR (by decide) (by decide) (by decide) (by decide)
  rw [sane_valid] at hv
  have hh1 := (Holds_c [wVoice] [] true false false saneC (by decide) (by decide) (by decide) (by decide))
  rw [sane_h1] at hh1
  have hh2 := (Holds_c [] [] false false false saneC (by decide) (by decide) (by decide) (by decide))
  rw [sane_h2] at hh2
  have hA : At (ruP [saneR]) (0 : Int) [PV.v (.int .i64 2), PV.v (.string (bs wMusic)), PV.v (.string (bs [])), PV.v (.int .i64 20), PV.sl 2 (tmP saneC)] := At.mk 0 Z Z
  have hA2 : At (tmP saneC) (2 : Int) [PV.v (.int .i64 3), PV.v (.string (bs []))] := At.mk 2 Z Z
  refine (ACalls.of (fn := Tryd.f5) Tryd.func5 Z Z Tryd.ntmps5 (fun I M w own => ?_))
  (repeat' (first|refine AW.seq_k (fun K hK=>?_)|(refine hK _ ?_;clear hK)|refine AW.ret ?_|refine AW.region ?_|refine Run.c0 hp Z Z Z Z Z Z Z Z ?_|refine Run.c0 hv Z Z Z Z Z Z Z Z ?_|refine Run.gccA (fun hg=>hh1.weak (.cons .same (.cons .same (.cons .nil .nil)))) (by first|exact Gd.t Z Z Z Z|exact Gd.t2 Z Z Z Z) Z Z Z Z Z Z Z ?_|refine Run.gccA (fun hg=>hh2.weak (.cons .same (.cons .nil (.cons .nil .nil)))) (by first|exact Gd.t Z Z Z Z|exact Gd.t2 Z Z Z Z) Z Z Z Z Z Z Z ?_|refine Ud ?_|fail))
  ((first|refine RetOk.tupS [] Z Z Z Z Z ?_ ?_|refine RetOk.oneS [] Z Z Z Z ?_ ?_)<;>(repeat' (first|exact V0|refine V1 ?_|refine V2 ?_ ?_|fail)))
end Go.Proofs.YtpacgphnpalepaaDoor
namespace Go.Proofs.YtpacgphnpalepaaDoor
set_option linter.unusedVariables false
set_option linter.unusedSimpArgs false
set_option maxHeartbeats 4000000 in
theorem Mod_c (v n : Int) (hv : -9223372036854775808 ≤ v ∧ v ≤ 9223372036854775807) (hn : 1 ≤ n ∧ n ≤ 1000000000) : ACalls Tryd.prog 41 [.v (.int .i64 v), .v (.int .i64 n)] [] (.v (.int .i64 (v % n))) [] := by
  have h1 : v.tmod n < n := Int.tmod_lt_of_pos _ (by omega)
  have h2 : -n < v.tmod n := Int.lt_tmod_of_pos _ (by omega)
  have h3 := Int.emod_nonneg v (show n ≠ 0 by omega)
  have h4 := Int.emod_lt_of_pos v (show 0 < n by omega)
  have h5 : v.tmod n = v % n ∨ v.tmod n = v % n - n := by
    have := Int.tmod_eq_emod (a := v) (b := n)
    split at this
    · left; omega
    · right; have : ((n.natAbs : Nat) : Int) = n := by omega
      omega
  refine (ACalls.of (fn := Tryd.f41) Tryd.func41 Z Z Tryd.ntmps41 (fun I M w own => ?_))
  (repeat' (first|refine AW.seq_k (fun K hK=>?_)|(refine hK _ ?_;clear hK)|refine AW.uC (fun hc=>?_) (fun hc=>?_)|refine AW.ret ?_|refine AW.skip ?_|exact trivial|refine AW.region ?_|refine UA ?_|fail))
  all_goals ((first|refine RetOk.tup Z Z ?_|refine RetOk.one Z ?_)<;>(repeat' (first|exact V0|refine V1 ?_|refine V2 ?_ ?_|fail)))
  (all_goals (try (first|refine CvL.eq ?_|refine Cv.eq ?_)))
  all_goals (simp only [AV.ren, AV.v.injEq, Value.int.injEq, true_and]; omega)
abbrev ivs (l : List Int) : List (List PV) := l.map fun n => [PV.v (.int .i64 n)]
def Fits (l : List Int) : Prop := l.length ≤ 9223372036854775807 ∧ ∀ n ∈ l, -9223372036854775808 ≤ n ∧ n ≤ 9223372036854775807
abbrev dkR (l : List Int) (a : Nat) : Res := .box [.sl 1 (ivs l) false, .v (.int .i64 (a : Int))]
def dkN (l : List Int) (a : Nat) (n : Int) : Int := if h : a < l.length then l[a] % n else 0
def dkA (l : List Int) (a : Nat) : Nat := if a < l.length then a + 1 else a
theorem dkA_le {l : List Int} {a : Nat} (h : a ≤ l.length) : dkA l a ≤ l.length := by unfold dkA; split <;> omega
theorem dkN_rng (l : List Int) (a : Nat) (n : Int) (hn : 1 ≤ n) : 0 ≤ dkN l a n ∧ dkN l a n < n := by
  unfold dkN
  split
  · exact ⟨Int.emod_nonneg _ (by omega), Int.emod_lt_of_pos _ (by omega)⟩
  · omega
set_option maxHeartbeats 4000000 in
theorem New_c (l : List Int) (f : Bool) : ACalls Tryd.prog 9 [.sl 1 (ivs l) f] [] (.ptr 0 0) [dkR l 0] := by
  refine (ACalls.of (fn := Tryd.f9) Tryd.func9 Z Z Tryd.ntmps9 (fun I M w own => ?_))
  (repeat' (first|refine AW.seq_k (fun K hK=>?_)|(refine hK _ ?_;clear hK)|refine AW.ret ?_|refine AW.region ?_|refine UA ?_|fail))
  ((first|refine RetOk.tupS [0] Z Z Z Z Z ?_ ?_|refine RetOk.oneS [0] Z Z Z Z ?_ ?_)<;>(repeat' (first|exact V0|refine V1 ?_|refine V2 ?_ ?_|fail)))
set_option maxHeartbeats 4000000 in
theorem Left_c (l : List Int) (a : Nat) : ACalls Tryd.prog 40 [.ptr 0 0] [dkR l a] (.v (.bool (decide ((a : Int) < (l.length : Int))))) [dkR l a] := by
  refine (ACalls.of (fn := Tryd.f40) Tryd.func40 Z Z Tryd.ntmps40 (fun I M w own => ?_))
  (repeat' (first|refine AW.seq_k (fun K hK=>?_)|(refine hK _ ?_;clear hK)|refine AW.ret ?_|refine AW.draw (id := 1) (by kernel_rfl) ?_|refine AW.region ?_|refine UA ?_|fail))
  ((first|refine RetOk.tupS [0] Z Z Z Z Z ?_ ?_|refine RetOk.oneS [0] Z Z Z Z ?_ ?_)<;>(repeat' (first|exact V0|refine V1 ?_|refine V2 ?_ ?_|fail)))
  (all_goals (try (first|refine CvL.eq ?_|refine Cv.eq ?_)))
  all_goals simp [AV.ren, AV.rens, renL]
set_option maxHeartbeats 4000000 in
theorem Next_c (l : List Int) (hl : Fits l) (a : Nat) (ha : a ≤ l.length) (n : Int) (hn : 1 ≤ n ∧ n ≤ 1000000000) : ACalls Tryd.prog 20 [.ptr 0 0, .v (.int .i64 n)] [dkR l a] (.v (.int .i64 (dkN l a n))) [dkR l (dkA l a)] := by
  have hL := Left_c l a
  have hlen := hl.1
  by_cases h : a < l.length
  · have hM := Mod_c l[a] n (hl.2 _ (List.getElem_mem _)) hn
    have hA : At (ivs l) ((a : Int) + 1 - 1) [PV.v (.int .i64 l[a])] := At.mk a (by omega) (by simp [h])
    have hA' : At (ivs l) (a : Int) [PV.v (.int .i64 l[a])] := At.mk a Z (by simp [h])
    generalize hr : dkN l a n = r
    generalize hr' : dkA l a = a'
    rw [dkN, dif_pos h] at hr
    rw [dkA, if_pos h] at hr'
    refine (ACalls.of (fn := Tryd.f20) Tryd.func20 Z Z Tryd.ntmps20 (fun I M w own => ?_))
    (repeat' (first|refine AW.seq_k (fun K hK=>?_)|(refine hK _ ?_;clear hK)|refine AW.uC (fun hc=>?_) (fun hc=>?_)|refine AW.ret ?_|refine AW.skip ?_|exact trivial|refine AW.draw (id := 4) (by kernel_rfl) ?_|refine AW.rI [0, 1, 3] Z ?_|refine Run.cSA [0] hL Z Z Z Z Z Z Z Z Z Z Z Z ?_|refine Run.c0 hM Z Z Z Z Z Z Z Z ?_|refine UA ?_|fail))
    all_goals subst hr hr'
    all_goals ((first|refine RetOk.tupS [0] Z Z Z Z Z ?_ ?_|refine RetOk.oneS [0] Z Z Z Z ?_ ?_)<;>(repeat' (first|exact V0|refine V1 ?_|refine V2 ?_ ?_|fail)))
    (all_goals (try (first|refine CvL.eq ?_|refine Cv.eq ?_)))
    all_goals simp [AV.ren, AV.rens, renL]
  · generalize hr : dkN l a n = r
    generalize hr' : dkA l a = a'
    rw [dkN, dif_neg h] at hr
    rw [dkA, if_neg h] at hr'
    refine (ACalls.of (fn := Tryd.f20) Tryd.func20 Z Z Tryd.ntmps20 (fun I M w own => ?_))
    (repeat' (first|refine AW.seq_k (fun K hK=>?_)|(refine hK _ ?_;clear hK)|refine AW.uC (fun hc=>?_) (fun hc=>?_)|refine AW.ret ?_|exact trivial|refine AW.rI [0, 1, 2] Z ?_|refine Run.cSA [0] hL Z Z Z Z Z Z Z Z Z Z Z Z ?_|refine UA ?_|fail))
    all_goals subst hr hr'
    all_goals ((first|refine RetOk.tupS [0] Z Z Z Z Z ?_ ?_|refine RetOk.oneS [0] Z Z Z Z ?_ ?_)<;>(repeat' (first|exact V0|refine V1 ?_|refine V2 ?_ ?_|fail)))
    (all_goals (try (first|refine CvL.eq ?_|refine Cv.eq ?_)))
    all_goals simp [AV.ren, AV.rens, renL]
end Go.Proofs.YtpacgphnpalepaaDoor
