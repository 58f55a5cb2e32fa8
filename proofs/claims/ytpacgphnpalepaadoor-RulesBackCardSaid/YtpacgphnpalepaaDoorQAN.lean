/-
  Walk of the rules: what one term of a condition says.
-/
import Derived.Test.YtpacgphnpalepaaDoorQAA
import Derived.Test.YtpacgphnpalepaaDoorQAM
import Derived.Test.YtpacgphnpalepaaDoorQAD
namespace Go.Proofs.YtpacgphnpalepaaDoor
set_option linter.unusedVariables false
set_option linter.unusedSimpArgs false
abbrev blP (l : List Bool) : List (List PV) := l.map fun b => [PV.v (.bool b)]
def holdB (rs ds : List Wd) (k : Int) (nm : Wd) (st : List Bool) : Bool := if k = 1 then inB rs nm else if k = 2 then inB ds nm else if k = 3 then !(st.getD 0 false) else if k = 4 then st.getD 0 false && st.getD 1 false else st.getD 0 false || st.getD 1 false
set_option maxHeartbeats 4000000 in
theorem holds1_c (rs ds : List Wd) (fr fd fs : Bool) (k : Int) (nm : Wd) (st : List Bool) (hk : arityF k = st.length) (hr : rs.length ≤ 9223372036854775807) (hd : ds.length ≤ 9223372036854775807) :
    ACalls Tryd.prog 35 [.agg [.v (.int .i64 k), .v (.string (bs nm))], .sl 1 (blP st) fs, .ptr 0 0, .ptr 1 0] [.box [.sl 1 (wdsP rs) fr], .box [.sl 1 (wdsP ds) fd]] (.v (.bool (holdB rs ds k nm st))) [.box [.sl 1 (wdsP rs) fr], .box [.sl 1 (wdsP ds) fd]] := by
  generalize hR : holdB rs ds k nm st = R
  rw [holdB] at hR
  rw [arityF] at hk
  by_cases h1 : k = 1
  · rw [if_pos h1] at hR
    have hin := in_c nm rs fr hr
    rw [hR] at hin
    refine (ACalls.of (fn := Tryd.f35) Tryd.func35 Z Z Tryd.ntmps35 (fun I M w own => ?_))
    (repeat' (first|refine AW.seq_k (fun K hK=>?_)|(refine hK _ ?_;clear hK)|refine AW.uC (fun hc=>?_) (fun hc=>?_)|refine AW.block ?_|refine AW.ret ?_|exact trivial|refine AW.rI [0, 1, 2, 3] Z ?_|refine Run.c0 hin Z Z Z Z Z Z Z Z ?_|refine Ud ?_|fail))
    ((first|refine RetOk.tupS [0, 1] Z Z Z Z Z ?_ ?_|refine RetOk.oneS [0, 1] Z Z Z Z ?_ ?_)<;>(repeat' (first|exact V0|refine V1 ?_|refine V2 ?_ ?_|fail)))
  rw [if_neg h1] at hR
  by_cases h2 : k = 2
  · rw [if_pos h2] at hR
    have hin := in_c nm ds fd hd
    rw [hR] at hin
    refine (ACalls.of (fn := Tryd.f35) Tryd.func35 Z Z Tryd.ntmps35 (fun I M w own => ?_))
    (repeat' (first|refine AW.seq_k (fun K hK=>?_)|(refine hK _ ?_;clear hK)|refine AW.uC (fun hc=>?_) (fun hc=>?_)|refine AW.block ?_|refine AW.ret ?_|exact trivial|refine AW.rI [0, 1, 2, 4, 5] Z ?_|refine Run.c0 hin Z Z Z Z Z Z Z Z ?_|refine Ud ?_|fail))
    ((first|refine RetOk.tupS [0, 1] Z Z Z Z Z ?_ ?_|refine RetOk.oneS [0, 1] Z Z Z Z ?_ ?_)<;>(repeat' (first|exact V0|refine V1 ?_|refine V2 ?_ ?_|fail)))
  rw [if_neg h2] at hR
  by_cases h3 : k = 3
  · rw [if_pos h3] at hR
    rw [if_neg (by omega), if_pos h3] at hk
    obtain ⟨a, rfl⟩ : ∃ a, st = [a] := List.length_eq_one_iff.1 (by omega)
    have hA : At (blP [a]) (0 : Int) [PV.v (.bool a)] := At.mk 0 Z Z
    subst hR
    refine (ACalls.of (fn := Tryd.f35) Tryd.func35 Z Z Tryd.ntmps35 (fun I M w own => ?_))
    (repeat' (first|refine AW.seq_k (fun K hK=>?_)|(refine hK _ ?_;clear hK)|refine AW.uC (fun hc=>?_) (fun hc=>?_)|refine AW.block ?_|refine AW.ret ?_|exact trivial|refine AW.rI [0, 1, 2, 4, 6, 7] Z ?_|refine Ud ?_|fail))
    ((first|refine RetOk.tupS [0, 1] Z Z Z Z Z ?_ ?_|refine RetOk.oneS [0, 1] Z Z Z Z ?_ ?_)<;>(repeat' (first|exact V0|refine V1 ?_|refine V2 ?_ ?_|fail)))
  rw [if_neg h3] at hR
  have hk2 : st.length = 2 := by
    by_cases h4 : k = 4 ∨ k = 5
    · rw [if_neg (by omega), if_neg h3, if_pos h4] at hk; omega
    · rw [if_neg (by omega), if_neg h3, if_neg h4] at hk; omega
  obtain ⟨a, b, rfl⟩ : ∃ a b, st = [a, b] := by
    match st, hk2 with
    | [a, b], _ => exact ⟨a, b, rfl⟩
  have hA : At (blP [a, b]) (0 : Int) [PV.v (.bool a)] := At.mk 0 Z Z
  have hA1 : At (blP [a, b]) (1 : Int) [PV.v (.bool b)] := At.mk 1 Z Z
  by_cases h4 : k = 4
  · rw [if_pos h4] at hR
    subst hR
    cases a with
    | true =>
      refine (ACalls.of (fn := Tryd.f35) Tryd.func35 Z Z Tryd.ntmps35 (fun I M w own => ?_))
      (repeat' (first|refine AW.seq_k (fun K hK=>?_)|(refine hK _ ?_;clear hK)|refine AW.uC (fun hc=>?_) (fun hc=>?_)|refine AW.block ?_|refine AW.ret ?_|exact trivial|refine AW.rI [0, 1, 2, 4, 6, 8, 9] Z ?_|refine Ud ?_|fail))
      ((first|refine RetOk.tupS [0, 1] Z Z Z Z Z ?_ ?_|refine RetOk.oneS [0, 1] Z Z Z Z ?_ ?_)<;>(repeat' (first|exact V0|refine V1 ?_|refine V2 ?_ ?_|fail)))
    | false =>
      refine (ACalls.of (fn := Tryd.f35) Tryd.func35 Z Z Tryd.ntmps35 (fun I M w own => ?_))
      (repeat' (first|refine AW.seq_k (fun K hK=>?_)|(refine hK _ ?_;clear hK)|refine AW.uC (fun hc=>?_) (fun hc=>?_)|refine AW.block ?_|refine AW.ret ?_|exact trivial|refine AW.rI [0, 1, 2, 4, 6, 8, 9] Z ?_|refine Ud ?_|fail))
      ((first|refine RetOk.tupS [0, 1] Z Z Z Z Z ?_ ?_|refine RetOk.oneS [0, 1] Z Z Z Z ?_ ?_)<;>(repeat' (first|exact V0|refine V1 ?_|refine V2 ?_ ?_|fail)))
  rw [if_neg h4] at hR
  subst hR
  cases a with
  | true =>
    refine (ACalls.of (fn := Tryd.f35) Tryd.func35 Z Z Tryd.ntmps35 (fun I M w own => ?_))
    (repeat' (first|refine AW.seq_k (fun K hK=>?_)|(refine hK _ ?_;clear hK)|refine AW.uC (fun hc=>?_) (fun hc=>?_)|refine AW.block ?_|refine AW.ret ?_|refine AW.skip ?_|exact trivial|refine AW.rI [0, 1, 2, 4, 6, 8, 10] Z ?_|refine Ud ?_|fail))
    ((first|refine RetOk.tupS [0, 1] Z Z Z Z Z ?_ ?_|refine RetOk.oneS [0, 1] Z Z Z Z ?_ ?_)<;>(repeat' (first|exact V0|refine V1 ?_|refine V2 ?_ ?_|fail)))
  | false =>
    refine (ACalls.of (fn := Tryd.f35) Tryd.func35 Z Z Tryd.ntmps35 (fun I M w own => ?_))
    (repeat' (first|refine AW.seq_k (fun K hK=>?_)|(refine hK _ ?_;clear hK)|refine AW.uC (fun hc=>?_) (fun hc=>?_)|refine AW.block ?_|refine AW.ret ?_|refine AW.skip ?_|exact trivial|refine AW.rI [0, 1, 2, 4, 6, 8, 10] Z ?_|refine Ud ?_|fail))
    ((first|refine RetOk.tupS [0, 1] Z Z Z Z Z ?_ ?_|refine RetOk.oneS [0, 1] Z Z Z Z ?_ ?_)<;>(repeat' (first|exact V0|refine V1 ?_|refine V2 ?_ ?_|fail)))
inductive NilAs : PV → PV → Prop
  | same {p q : PV} (h : p = q) : NilAs p q
  | nil {sz : Nat} : NilAs (.v (.slice none 0 0)) (.sl sz [])
inductive NilRow : List PV → List PV → Prop
  | nil : NilRow [] []
  | cons {p q : PV} {l m : List PV} (h : NilAs p q) (hs : NilRow l m) : NilRow (p :: l) (q :: m)
inductive NilRows : List (List PV) → List (List PV) → Prop
  | nil : NilRows [] []
  | cons {p q : List PV} {l m : List (List PV)} (h : NilRow p q) (hs : NilRows l m) : NilRows (p :: l) (q :: m)
def badT (n : Nat) (t : Tm) : Bool := decide (arityF t.1 < 0 ∨ (n : Int) < arityF t.1 ∨ (arityF t.1 = 0 ∧ nameB t.2 = false) ∨ (0 < arityF t.1 ∧ t.2 ≠ []))
def foldB (rs ds : List Wd) : List Bool → List Tm → Option (List Bool)
  | st, [] => some st
  | st, t :: r => if badT st.length t = true then none else foldB rs ds (st.take (st.length - (arityF t.1).toNat) ++ [holdB rs ds t.1 t.2 (st.drop (st.length - (arityF t.1).toNat))]) r
def foldE (rs ds : List Wd) (c : List Tm) : Bool × Bool :=
  if 16 < c.length then (false, false) else match foldB rs ds [] c with
  | some [b] => (b, true)
  | _ => (false, false)
set_option maxHeartbeats 4000000 in
theorem fold_c (rs ds : List Wd) (fr fd f : Bool) (c : List Tm) (hc : c.length ≤ 1000000) (hn : ∀ t ∈ c, t.2.length ≤ 9223372036854775807) (hr : rs.length ≤ 9223372036854775807) (hd : ds.length ≤ 9223372036854775807) :
    ACalls Tryd.prog 34 [.sl 2 (tmP c) f, .fn 35 [.ptr 0 0, .ptr 1 0]] [.box [.sl 1 (wdsP rs) fr], .box [.sl 1 (wdsP ds) fd]] (.tup [.v (.bool (foldE rs ds c).1), .v (.bool (foldE rs ds c).2)]) [.box [.sl 1 (wdsP rs) fr], .box [.sl 1 (wdsP ds) fd]] := by
  generalize hR : foldE rs ds c = R
  rw [foldE] at hR
  have hcl : (tmP c).length = c.length := by simp
  refine (ACalls.of (fn := Tryd.f34) Tryd.func34 Z Z Tryd.ntmps34 (fun I M w own => ?_))
  by_cases hb : 16 < c.length
  · rw [if_pos hb] at hR
    subst hR
    (repeat' (first|refine AW.seq_k (fun K hK=>?_)|(refine hK _ ?_;clear hK)|refine AW.uC (fun hc=>?_) (fun hc=>?_)|refine AW.ret ?_|exact trivial|refine AW.rI [0, 1, 2, 3, 4] Z ?_|refine Ud ?_|fail))
    all_goals first | (exfalso; simp only [List.length_map] at *; omega) | skip
    ((first|refine RetOk.tupS [0, 1] Z Z Z Z Z ?_ ?_|refine RetOk.oneS [0, 1] Z Z Z Z ?_ ?_)<;>(repeat' (first|exact V0|refine V1 ?_|refine V2 ?_ ?_|fail)))
  rw [if_neg hb] at hR
  (repeat' (first|refine AW.seq_k (fun K hK=>?_)|(refine hK _ ?_;clear hK)|refine AW.uC (fun hc=>?_) (fun hc=>?_)|refine AW.block ?_|refine AW.skip ?_|exact trivial|refine AW.rI [0, 1, 2, 3, 5] Z ?_|refine Ud ?_|fail))
  all_goals first | (exfalso; simp only [List.length_map] at *; omega) | skip
  refine AW.loopF (X := Nat × List Bool) (fun x => ⟨[(0, .sl 2 (tmP c) f), (1, .fn 35 [.ptr 0 0, .ptr 1 0]), (6, .v (.bool false)), (7, .sl 1 (blP x.2) false), (16, .sl 2 (tmP c) f), (17, .v (.int .i64 ((tmP c).length : Int))), (18, .v (.int .i64 (x.1 : Int)))], [.box [.sl 1 (wdsP rs) fr], .box [.sl 1 (wdsP ds) fd]]⟩)
    (fun x => x.1 ≤ c.length ∧ x.2.length ≤ x.1 ∧ foldB rs ds [] c = foldB rs ds x.2 (c.drop x.1)) (fun x => c.length - x.1) (0, []) ?_ ?_ ?_
  · refine Conv.mk [0, 1] Z Z Z ?_ Z ?_
    · (repeat' (first|exact V0|refine V3 ?_|refine V2 ?_ ?_|fail))
      all_goals first | rfl | exact Cv.slN _ | skip
    · (repeat' (first|exact V0|refine V3 ?_|refine V2 ?_ ?_|fail))
  · exact ⟨Nat.zero_le _, Nat.le_refl _, rfl⟩
  rintro ⟨j, st⟩ ⟨h1, h2, h3⟩
  simp only at h1 h2 h3 ⊢
  rcases Nat.lt_or_ge j c.length with h | h
  · obtain ⟨t, ht⟩ : ∃ t, c[j]? = some t := ⟨c[j], by simp [h]⟩
    have hdr : c.drop j = t :: c.drop (j + 1) := by
      rw [List.drop_eq_getElem_cons h]
      congr 1
      simpa [h] using ht
    rw [hdr, foldB] at h3
    have htm : t ∈ c := List.mem_of_getElem? ht
    have hnl := hn t htm
    have hA : At (tmP c) (j : Int) [PV.v (.int .i64 t.1), PV.v (.string (bs t.2))] := At.mk j Z (by simp [ht])
    have har := arity_c t.1
    have hna := Name_c t.2 hnl
    have hsl : (blP st).length = st.length := by simp
    obtain ⟨k, nm⟩ := t
    simp only at h3 hnl hA har hna
    generalize hak : arityF k = ar at har h3
    by_cases hneg : ar < 0
    · have hbad : badT st.length (k, nm) = true := by simp [badT, hak, hneg]
      rw [if_pos hbad] at h3
      (repeat' (first|refine AW.seq_k (fun K hK=>?_)|(refine hK _ ?_;clear hK)|refine AW.uC (fun hc=>?_) (fun hc=>?_)|refine AW.block ?_|refine AW.skip ?_|exact trivial|refine AW.rI [6, 7, 8] Z ?_|refine Run.c0 har Z Z Z Z Z Z Z Z ?_|refine Ud ?_|fail))
      have e1 : decide (ar < 0) = true := by simp [hneg]
      refine rG 9 ?_
      (iterate 3 (try (first|refine UA ?_|fail)))
      rw [e1]
      (iterate 24 (try (first|refine UA ?_|fail)))
      refine Run.fin Z ?_
      refine hK _ ?_
      clear hK
      (repeat' (first|refine AW.seq_k (fun K hK=>?_)|(refine hK _ ?_;clear hK)|refine AW.uC (fun hc=>?_) (fun hc=>?_)|refine AW.ret ?_|exact trivial|refine rG 10 ?_|refine Ud ?_|fail))
      rw [h3] at hR
      simp only at hR
      subst hR
      ((first|refine RetOk.tupS [0, 1] Z Z Z Z Z ?_ ?_|refine RetOk.oneS [0, 1] Z Z Z Z ?_ ?_)<;>(repeat' (first|exact V0|refine V1 ?_|refine V2 ?_ ?_|fail)))
    have e1 : decide (ar < 0) = false := by simp; omega
    by_cases hlt : (st.length : Int) < ar
    · have hbad : badT st.length (k, nm) = true := by simp [badT, hak, hlt]
      rw [if_pos hbad] at h3
      have e2 : decide (((blP st).length : Int) < ar) = true := by simp [hlt]
      (repeat' (first|refine AW.seq_k (fun K hK=>?_)|(refine hK _ ?_;clear hK)|refine AW.uC (fun hc=>?_) (fun hc=>?_)|refine AW.block ?_|refine AW.skip ?_|exact trivial|refine AW.rI [6, 7, 8] Z ?_|refine Run.c0 har Z Z Z Z Z Z Z Z ?_|refine Ud ?_|fail))
      refine rG 9 ?_
      (iterate 3 (try (first|refine UA ?_|fail)))
      rw [e1]
      (iterate 6 (try (first|refine UA ?_|fail)))
      rw [e2]
      (iterate 18 (try (first|refine UA ?_|fail)))
      refine Run.fin Z ?_
      refine hK _ ?_
      clear hK
      (repeat' (first|refine AW.seq_k (fun K hK=>?_)|(refine hK _ ?_;clear hK)|refine AW.uC (fun hc=>?_) (fun hc=>?_)|refine AW.ret ?_|exact trivial|refine rG 10 ?_|refine Ud ?_|fail))
      rw [h3] at hR
      simp only at hR
      subst hR
      ((first|refine RetOk.tupS [0, 1] Z Z Z Z Z ?_ ?_|refine RetOk.oneS [0, 1] Z Z Z Z ?_ ?_)<;>(repeat' (first|exact V0|refine V1 ?_|refine V2 ?_ ?_|fail)))
    have e2 : decide (((blP st).length : Int) < ar) = false := by simp; omega
    have h0r : 0 ≤ ar := by omega
    have hlr : ar ≤ st.length := by omega
    have e5 : ((((blP st).length : Nat) : Int) - ar).toNat = st.length - ar.toNat := by rw [hsl]; omega
    have hcall : ACalls Tryd.prog 35 [.agg [.v (.int .i64 k), .v (.string (bs nm))], .sl 1 ((blP st).drop ((((blP st).length : Nat) : Int) - ar).toNat) false, .ptr 0 0, .ptr 1 0] [.box [.sl 1 (wdsP rs) fr], .box [.sl 1 (wdsP ds) fd]] (.v (.bool (holdB rs ds k nm (st.drop (st.length - ar.toNat))))) [.box [.sl 1 (wdsP rs) fr], .box [.sl 1 (wdsP ds) fd]] := by
      rw [e5, ← List.map_drop]
      exact holds1_c rs ds fr fd false k nm _ (by rw [hak, List.length_drop]; omega) hr hd
    have hbl : ∀ b : Bool, (blP st).take ((((blP st).length : Nat) : Int) - ar).toNat ++ [[PV.v (.bool b)]] = blP (st.take (st.length - ar.toNat) ++ [b]) := by
      intro b
      rw [e5, ← List.map_take]
      simp
    have hnl2 : ∀ b : Bool, (st.take (st.length - ar.toNat) ++ [b]).length ≤ j + 1 := by
      intro b
      simp only [List.length_append, List.length_take, List.length_cons, List.length_nil]
      omega
    by_cases hz : ar = 0
    · have e3 : decide (ar = 0) = true := by simp [hz]
      cases hnb : nameB nm with
      | false =>
        have hbad : badT st.length (k, nm) = true := by simp [badT, hak, hz, hnb]
        rw [if_pos hbad] at h3
        rw [hnb] at hna
        (repeat' (first|refine AW.seq_k (fun K hK=>?_)|(refine hK _ ?_;clear hK)|refine AW.uC (fun hc=>?_) (fun hc=>?_)|refine AW.block ?_|refine AW.skip ?_|exact trivial|refine AW.rI [6, 7, 8] Z ?_|refine Run.c0 har Z Z Z Z Z Z Z Z ?_|refine Ud ?_|fail))
        refine rG 9 ?_
        (iterate 3 (try (first|refine UA ?_|fail)))
        rw [e1]
        (iterate 6 (try (first|refine UA ?_|fail)))
        rw [e2]
        (iterate 4 (try (first|refine UA ?_|fail)))
        rw [e3]
        (iterate 14 (try (first|refine Run.gccA (fun hg=>hna) (by first|exact Gd.t Z Z Z Z|exact Gd.t2 Z Z Z Z) Z Z Z Z Z Z Z ?_|refine UA ?_|fail)))
        refine Run.fin Z ?_
        refine hK _ ?_
        clear hK
        (repeat' (first|refine AW.seq_k (fun K hK=>?_)|(refine hK _ ?_;clear hK)|refine AW.uC (fun hc=>?_) (fun hc=>?_)|refine AW.ret ?_|exact trivial|refine rG 10 ?_|refine Ud ?_|fail))
        rw [h3] at hR
        simp only at hR
        subst hR
        ((first|refine RetOk.tupS [0, 1] Z Z Z Z Z ?_ ?_|refine RetOk.oneS [0, 1] Z Z Z Z ?_ ?_)<;>(repeat' (first|exact V0|refine V1 ?_|refine V2 ?_ ?_|fail)))
      | true =>
        have hbad : ¬ badT st.length (k, nm) = true := by simp [badT, hak, hz, hnb]
        rw [if_neg hbad] at h3
        rw [hnb] at hna
        have e4 : decide (0 < ar) = false := by simp [hz]
        (repeat' (first|refine AW.seq_k (fun K hK=>?_)|(refine hK _ ?_;clear hK)|refine AW.uC (fun hc=>?_) (fun hc=>?_)|refine AW.block ?_|refine AW.skip ?_|exact trivial|refine AW.rI [6, 7, 8] Z ?_|refine Run.c0 har Z Z Z Z Z Z Z Z ?_|refine Ud ?_|fail))
        refine rG 9 ?_
        (iterate 3 (try (first|refine UA ?_|fail)))
        rw [e1]
        (iterate 6 (try (first|refine UA ?_|fail)))
        rw [e2]
        (iterate 4 (try (first|refine UA ?_|fail)))
        rw [e3]
        (iterate 8 (try (first|refine Run.gccA (fun hg=>hna) (by first|exact Gd.t Z Z Z Z|exact Gd.t2 Z Z Z Z) Z Z Z Z Z Z Z ?_|refine UA ?_|fail)))
        rw [e4]
        (iterate 6 (try (first|refine UA ?_|fail)))
        refine Run.fin Z ?_
        refine hK _ ?_
        clear hK
        (repeat' (first|refine AW.seq_k (fun K hK=>?_)|(refine hK _ ?_;clear hK)|refine AW.uC (fun hc=>?_) (fun hc=>?_)|refine AW.skip ?_|exact trivial|refine AW.draw (id := 12) (by kernel_rfl) ?_|refine AW.rI [11, 13] Z ?_|refine Run.cSA [0, 1] hcall Z Z Z Z Z Z Z Z Z Z Z Z ?_|refine Ud ?_|fail))
        rw [hbl]
        ((repeat (with_reducible refine inB_n ?_)); refine thenA_n ?_)
        refine ⟨(j + 1, st.take (st.length - ar.toNat) ++ [holdB rs ds k nm (st.drop (st.length - ar.toNat))]), ⟨h, hnl2 _, h3⟩, by omega, ?_⟩
        refine Conv.mk [0, 1] Z Z Z ?_ Z ?_
        · (repeat' (first|exact V0|refine V3 ?_|refine V2 ?_ ?_|fail))
        · (repeat' (first|exact V0|refine V3 ?_|refine V2 ?_ ?_|fail))
    · have e3 : decide (ar = 0) = false := by simp [hz]
      have e4 : decide (0 < ar) = true := by simp; omega
      by_cases hnn : nm = []
      · have hbad : ¬ badT st.length (k, nm) = true := by simp [badT, hak, hz, hnn]; omega
        rw [if_neg hbad] at h3
        subst hnn
        have e6 : decide (([] : List UInt8) ≠ []) = false := by simp
        (repeat' (first|refine AW.seq_k (fun K hK=>?_)|(refine hK _ ?_;clear hK)|refine AW.uC (fun hc=>?_) (fun hc=>?_)|refine AW.block ?_|refine AW.skip ?_|exact trivial|refine AW.rI [6, 7, 8] Z ?_|refine Run.c0 har Z Z Z Z Z Z Z Z ?_|refine Ud ?_|fail))
        refine rG 9 ?_
        (iterate 3 (try (first|refine UA ?_|fail)))
        rw [e1]
        (iterate 6 (try (first|refine UA ?_|fail)))
        rw [e2]
        (iterate 4 (try (first|refine UA ?_|fail)))
        rw [e3]
        (iterate 8 (try (first|refine UA ?_|fail)))
        rw [e4]
        (iterate 4 (try (first|refine UA ?_|fail)))
        rw [e6]
        (iterate 2 (try (first|refine UA ?_|fail)))
        refine Run.fin Z ?_
        refine hK _ ?_
        clear hK
        (repeat' (first|refine AW.seq_k (fun K hK=>?_)|(refine hK _ ?_;clear hK)|refine AW.uC (fun hc=>?_) (fun hc=>?_)|refine AW.skip ?_|exact trivial|refine AW.draw (id := 12) (by kernel_rfl) ?_|refine AW.rI [11, 13] Z ?_|refine Run.cSA [0, 1] hcall Z Z Z Z Z Z Z Z Z Z Z Z ?_|refine Ud ?_|fail))
        rw [hbl]
        ((repeat (with_reducible refine inB_n ?_)); refine thenA_n ?_)
        refine ⟨(j + 1, st.take (st.length - ar.toNat) ++ [holdB rs ds k [] (st.drop (st.length - ar.toNat))]), ⟨h, hnl2 _, h3⟩, by omega, ?_⟩
        refine Conv.mk [0, 1] Z Z Z ?_ Z ?_
        · (repeat' (first|exact V0|refine V3 ?_|refine V2 ?_ ?_|fail))
        · (repeat' (first|exact V0|refine V3 ?_|refine V2 ?_ ?_|fail))
      · have hbad : badT st.length (k, nm) = true := by simp [badT, hak, hnn]; omega
        rw [if_pos hbad] at h3
        have e6 : decide (nm ≠ []) = true := by simp [hnn]
        (repeat' (first|refine AW.seq_k (fun K hK=>?_)|(refine hK _ ?_;clear hK)|refine AW.uC (fun hc=>?_) (fun hc=>?_)|refine AW.block ?_|refine AW.skip ?_|exact trivial|refine AW.rI [6, 7, 8] Z ?_|refine Run.c0 har Z Z Z Z Z Z Z Z ?_|refine Ud ?_|fail))
        refine rG 9 ?_
        (iterate 3 (try (first|refine UA ?_|fail)))
        rw [e1]
        (iterate 6 (try (first|refine UA ?_|fail)))
        rw [e2]
        (iterate 4 (try (first|refine UA ?_|fail)))
        rw [e3]
        (iterate 8 (try (first|refine UA ?_|fail)))
        rw [e4]
        (iterate 4 (try (first|refine UA ?_|fail)))
        rw [e6]
        (iterate 2 (try (first|refine UA ?_|fail)))
        refine Run.fin Z ?_
        refine hK _ ?_
        clear hK
        (repeat' (first|refine AW.seq_k (fun K hK=>?_)|(refine hK _ ?_;clear hK)|refine AW.uC (fun hc=>?_) (fun hc=>?_)|refine AW.ret ?_|exact trivial|refine rG 10 ?_|refine Ud ?_|fail))
        rw [h3] at hR
        simp only at hR
        subst hR
        ((first|refine RetOk.tupS [0, 1] Z Z Z Z Z ?_ ?_|refine RetOk.oneS [0, 1] Z Z Z Z ?_ ?_)<;>(repeat' (first|exact V0|refine V1 ?_|refine V2 ?_ ?_|fail)))
  · have hj : c.drop j = [] := List.drop_eq_nil_of_le h
    rw [hj, foldB] at h3
    rw [h3] at hR
    by_cases hone : st.length = 1
    · obtain ⟨b, rfl⟩ := List.length_eq_one_iff.1 hone
      simp only at hR
      subst hR
      have hA : At (blP [b]) (0 : Int) [PV.v (.bool b)] := At.mk 0 Z Z
      have hone2 : ¬ (((blP [b]).length : Int) ≠ 1) := fun h => h Z
      (repeat' (first|refine AW.seq_k (fun K hK=>?_)|(refine hK _ ?_;clear hK)|refine AW.uC (fun hc=>?_) (fun hc=>?_)|refine AW.exit ?_|refine AW.ret ?_|refine AW.skip ?_|(clear hK;refine hK _ ?_;clear hK)|exact trivial|refine AW.rI [6, 14, 16] Z ?_|refine Ud ?_|fail))
      all_goals first | (exfalso; exact hone2 (by assumption)) | skip
      ((first|refine RetOk.tupS [0, 1] Z Z Z Z Z ?_ ?_|refine RetOk.oneS [0, 1] Z Z Z Z ?_ ?_)<;>(repeat' (first|exact V0|refine V1 ?_|refine V2 ?_ ?_|fail)))
    · have hR' : (false, false) = R := by
        rw [← hR]
        match st, hone with
        | [], _ => rfl
        | [b], h => exact absurd Z h
        | _ :: _ :: _, _ => rfl
      subst hR'
      have hone' : ((blP st).length : Int) ≠ 1 := by rw [List.length_map]; omega
      (repeat' (first|refine AW.seq_k (fun K hK=>?_)|(refine hK _ ?_;clear hK)|refine AW.uC (fun hc=>?_) (fun hc=>?_)|refine AW.exit ?_|refine AW.ret ?_|(clear hK;refine hK _ ?_;clear hK)|exact trivial|refine AW.rI [6, 14, 15] Z ?_|refine Ud ?_|fail))
      all_goals first | (exfalso; rename_i hx; exact hx hone') | skip
      ((first|refine RetOk.tupS [0, 1] Z Z Z Z Z ?_ ?_|refine RetOk.oneS [0, 1] Z Z Z Z ?_ ?_)<;>(repeat' (first|exact V0|refine V1 ?_|refine V2 ?_ ?_|fail)))
def holdsF (rs ds : List Wd) (c : List Tm) : Bool := if c = [] then true else (foldE rs ds c).1 && (foldE rs ds c).2
set_option maxHeartbeats 4000000 in
theorem Holds_c (rs ds : List Wd) (fr fd f : Bool) (c : List Tm) (hc : c.length ≤ 1000000) (hn : ∀ t ∈ c, t.2.length ≤ 9223372036854775807) (hr : rs.length ≤ 9223372036854775807) (hd : ds.length ≤ 9223372036854775807) :
    ACalls Tryd.prog 15 [.sl 2 (tmP c) f, .sl 1 (wdsP rs) fr, .sl 1 (wdsP ds) fd] [] (.v (.bool (holdsF rs ds c))) [] := by
  have hf := fold_c rs ds fr fd f c hc hn hr hd
  generalize hR : holdsF rs ds c = R
  rw [holdsF] at hR
  have hcl : (tmP c).length = c.length := by simp
  refine (ACalls.of (fn := Tryd.f15) Tryd.func15 Z Z Tryd.ntmps15 (fun I M w own => ?_))
  by_cases hz : c = []
  · rw [if_pos hz] at hR
    subst hR
    have hz1 : ¬ ¬ (((tmP c).length : Int) = 0) := by rw [hcl, hz]; simp
    (repeat' (first|refine AW.seq_k (fun K hK=>?_)|(refine hK _ ?_;clear hK)|refine AW.uC (fun hc=>?_) (fun hc=>?_)|refine AW.ret ?_|exact trivial|refine AW.rI [0, 1, 2] Z ?_|refine Ud ?_|fail))
    all_goals first | (exfalso; exact hz1 (by assumption)) | skip
    ((first|refine RetOk.tupS [] Z Z Z Z Z ?_ ?_|refine RetOk.oneS [] Z Z Z Z ?_ ?_)<;>(repeat' (first|exact V0|refine V1 ?_|refine V2 ?_ ?_|fail)))
  · rw [if_neg hz] at hR
    subst hR
    have hz1 : ¬ (((tmP c).length : Int) = 0) := by
      rw [hcl]
      intro h
      exact hz (List.length_eq_zero_iff.1 (by omega))
    generalize foldE rs ds c = q at hf
    obtain ⟨q1, q2⟩ := q
    cases q1 with
    | true =>
      (repeat' (first|refine AW.seq_k (fun K hK=>?_)|(refine hK _ ?_;clear hK)|refine AW.uC (fun hc=>?_) (fun hc=>?_)|refine AW.ret ?_|refine AW.skip ?_|exact trivial|refine AW.rI [0, 1, 3, 4] Z ?_|refine Run.cSA [0, 1] hf Z Z Z Z Z Z Z Z Z Z Z Z ?_|refine Ud ?_|fail))
      all_goals first | (exfalso; exact hz1 (by assumption)) | skip
      ((first|refine RetOk.tupS [] Z Z Z Z Z ?_ ?_|refine RetOk.oneS [] Z Z Z Z ?_ ?_)<;>(repeat' (first|exact V0|refine V1 ?_|refine V2 ?_ ?_|fail)))
    | false =>
      (repeat' (first|refine AW.seq_k (fun K hK=>?_)|(refine hK _ ?_;clear hK)|refine AW.uC (fun hc=>?_) (fun hc=>?_)|refine AW.ret ?_|refine AW.skip ?_|exact trivial|refine AW.rI [0, 1, 3, 4] Z ?_|refine Run.cSA [0, 1] hf Z Z Z Z Z Z Z Z Z Z Z Z ?_|refine Ud ?_|fail))
      all_goals first | (exfalso; exact hz1 (by assumption)) | skip
      ((first|refine RetOk.tupS [] Z Z Z Z Z ?_ ?_|refine RetOk.oneS [] Z Z Z Z ?_ ?_)<;>(repeat' (first|exact V0|refine V1 ?_|refine V2 ?_ ?_|fail)))
end Go.Proofs.YtpacgphnpalepaaDoor
