/-
  Walks of chapter 41: streams that are kept, sessions; the copy of a session; the search for a stream, by halving.
-/
import Derived.Test.YtbbcokckealagaaGreatQAA
import Derived.Test.YtbbcokckealagaaGreatSlK
import Derived.Test.YtbbcokckealagaaGreatQCC
import Derived.Test.YtbbcokckealagaaGreatQCA
namespace Go.Proofs.YtbbcokckealagaaGreat
set_option linter.unusedVariables false
set_option linter.unusedSimpArgs false
structure Kp where
  id : Int
  role : List UInt8
  dir : Int
  ch : Int
  rate : Int
  lat : Int
  vol : Int
  muted : Bool
  pin : Int
deriving DecidableEq
abbrev Kp.pv (k : Kp) : List PV := [PV.v (.int .i64 k.id), PV.v (.string (bs k.role)), PV.v (.int .i64 k.dir), PV.v (.int .i64 k.ch), PV.v (.int .i64 k.rate), PV.v (.int .i64 k.lat), PV.v (.int .i64 k.vol), PV.v (.bool k.muted), PV.v (.int .u64 k.pin)]
abbrev Kp.cells (k : Kp) : List AV := [.v (.int .i64 k.id), .v (.string (bs k.role)), .v (.int .i64 k.dir), .v (.int .i64 k.ch), .v (.int .i64 k.rate), .v (.int .i64 k.lat), .v (.int .i64 k.vol), .v (.bool k.muted), .v (.int .u64 k.pin)]
abbrev kps (l : List Kp) : List (List PV) := l.map Kp.pv
theorem kps_len9 (l : List Kp) : ∀ y ∈ kps l, y.length = 9 := by
  intro y hy
  obtain ⟨s, _, rfl⟩ := List.mem_map.1 hy
  rfl
theorem chs_len3 (l : List Ch) : ∀ y ∈ chs l, y.length = 3 := by
  intro y hy
  obtain ⟨s, _, rfl⟩ := List.mem_map.1 hy
  rfl
structure Se where
  streams : List Kp
  mem : List Ch
  text : List UInt8
abbrev Se.cells (s : Se) : List AV := [.sl 9 (kps s.streams) false, .sl 3 (chs s.mem) false, .v (.string (bs s.text))]
abbrev z3 : List PV := [PV.v (.string (bs [])), PV.v (.slice none 0 0), PV.v (.int .u64 0)]
set_option maxHeartbeats 4000000 in
theorem cloneC_e (f : Bool) : ACalls Tryz.prog 73 [.sl 3 [] f] [] (.sl 3 [] true) [] := by
  refine (ACalls.of (fn := Tryz.f73) Tryz.func73 O O Tryz.ntmps73 (fun I M w own => ?_))
  (repeat' (first|refine AW.seq_k (fun K hK=>?_)|(refine hK _ ?_;clear hK)|refine AW.uC (fun hc=>?_) (fun hc=>?_)|refine AW.ret ?_|refine AW.skip ?_|exact trivial|refine AW.region ?_|refine Run.eqN O O (fun _=>rfl) O O (by first|exact Dat.sl|exact Dat.nil|exact Dat.rowf O O|exact Dat.row O) O (fun b hb=>?_)|refine Run.ap0 O O O O (Or.inl ⟨_, rfl⟩) O O (SrcNI.dat Dat.sl) (by simp) (by simp) O ?_|refine UA ?_|fail))
  all_goals ((first|refine RetOk.tup O O ?_|refine RetOk.one O ?_)<;>(repeat' (first|exact V0|refine V1 ?_|refine V2 ?_ ?_|fail)))
set_option maxHeartbeats 4000000 in
theorem cloneC_n (xs : List (List PV)) (f : Bool) (hz : ∀ y ∈ xs, y.length = 3) (h0 : 0 < xs.length) (hl : xs.length ≤ 1000000) : ACallsN Tryz.prog 73 [.sl 3 xs f] [] (fun d : Nat => .bsl 0 3 0 xs.length (xs.length + d)) (fun d => [.box (bxs (xs ++ List.replicate d z3))]) := by
  refine ACallsN.of (fn := Tryz.f73) Tryz.func73 O O Tryz.ntmps73 (fun I M w own => ?_)
  (repeat' (first|refine AW.seq_k (fun K hK=>?_)|(refine hK _ ?_;clear hK)|refine AW.uC (fun hc=>?_) (fun hc=>?_)|refine AW.ret ?_|refine AW.skip ?_|exact trivial|refine AW.region ?_|refine Run.eqN O O (fun _=>rfl) O O (by first|exact Dat.sl|exact Dat.nil|exact Dat.rowf O O|exact Dat.row O) O (fun b hb=>?_)|refine Run.apBS (fun _=>rfl) O O O O (Or.inl ⟨_, rfl⟩) O O (Or.inl O) (SrcNI.dat Dat.sl) (m := xs.length) (by simp) h0 (by omega) (by simp [maxLen];omega) O (by simp [keys]) (fun dd=>?_)|refine UA ?_|fail))
  · have := hb hc
    subst this
    simp at h0
  · refine RetOkN.mk dd ?_
    refine RetOk.oneS [0] O O O O ?_ ?_
    · refine Crs.cons (Cr.bxs ?_) (bxs_lt' _ _) Crs.nil
      rfl
    · (repeat' (first|exact V0|refine V1 ?_|refine V2 ?_ ?_|fail))
def cmpI (a b : Int) : Int := if a < b then -1 else if b < a then 1 else 0
theorem cmpI_lt (a b : Int) : cmpI a b < 0 ↔ a < b := by unfold cmpI; (repeat' split) <;> omega
theorem cmpI_eq (a b : Int) : cmpI a b = 0 ↔ a = b := by unfold cmpI; (repeat' split) <;> omega
set_option maxHeartbeats 4000000 in
theorem isNaN_c (a : Int) : ACalls Tryz.prog 114 [.v (.int .i64 a)] [] (.v (.bool false)) [] := by
  refine (ACalls.of (fn := Tryz.f114) Tryz.func114 O O Tryz.ntmps114 (fun I M w own => ?_))
  (repeat' (first|refine AW.seq_k (fun K hK=>?_)|(refine hK _ ?_;clear hK)|refine AW.ret ?_|refine AW.region ?_|refine UA ?_|fail))
  ((first|refine RetOk.tup O O ?_|refine RetOk.one O ?_)<;>(repeat' (first|exact V0|refine V1 ?_|refine V2 ?_ ?_|fail)))
  (all_goals (try (first|refine CvL.eq ?_|refine Cv.eq ?_)))
  all_goals simp [AV.ren]
set_option maxHeartbeats 4000000 in
theorem Compare_c (a b : Int) : ACalls Tryz.prog 76 [.v (.int .i64 a), .v (.int .i64 b)] [] (.v (.int .i64 (cmpI a b))) [] := by
  refine (ACalls.of (fn := Tryz.f76) Tryz.func76 O O Tryz.ntmps76 (fun I M w own => ?_))
  (repeat' (first|refine AW.seq_k (fun K hK=>?_)|(refine hK _ ?_;clear hK)|refine AW.uC (fun hc=>?_) (fun hc=>?_)|refine AW.ret ?_|refine AW.skip ?_|exact trivial|refine AW.rI [0, 1, 2, 3, 7, 9, 10, 11, 12, 13] O ?_|refine Run.c0 (isNaN_c _) O O O O O O O O ?_|refine UA ?_|fail))
  all_goals ((first|refine RetOk.tup O O ?_|refine RetOk.one O ?_)<;>(repeat' (first|exact V0|refine V1 ?_|refine V2 ?_ ?_|fail)))
  (all_goals (try (first|refine CvL.eq ?_|refine Cv.eq ?_)))
  all_goals (simp only [AV.ren, AV.v.injEq, Value.int.injEq, true_and, cmpI]; (repeat' split) <;> first | rfl | omega)
set_option maxHeartbeats 4000000 in
theorem cl_c (k : Kp) (id : Int) : ACalls Tryz.prog 75 [.agg k.cells, .v (.int .i64 id)] [] (.v (.int .i64 (cmpI k.id id))) [] := by
  refine (ACalls.of (fn := Tryz.f75) Tryz.func75 O O Tryz.ntmps75 (fun I M w own => ?_))
  (repeat' (first|refine AW.seq_k (fun K hK=>?_)|(refine hK _ ?_;clear hK)|refine AW.ret ?_|refine AW.region ?_|refine Run.c0 (Compare_c _ _) O O O O O O O O ?_|refine UA ?_|fail))
  ((first|refine RetOk.tup O O ?_|refine RetOk.one O ?_)<;>(repeat' (first|exact V0|refine V1 ?_|refine V2 ?_ ?_|fail)))
def kp0 : Kp := ⟨0, [], 0, 0, 0, 0, 0, false, 0⟩
def bsW (l : List Kp) (id : Int) (i j : Nat) : Nat :=
  if h : i < j then
    if (l.getD ((i + j) / 2) kp0).id < id then bsW l id ((i + j) / 2 + 1) j else bsW l id i ((i + j) / 2)
  else i
termination_by j - i
abbrev hasW (l : List Kp) (id : Int) (i : Nat) : Bool := decide (i < l.length) && decide ((l.getD i kp0).id = id)
set_option maxHeartbeats 4000000 in
theorem bsf_c (l : List Kp) (f : Bool) (id : Int) (hl : l.length ≤ 4611686018427387903) : ACalls Tryz.prog 74 [.sl 9 (kps l) f, .v (.int .i64 id), .fn 75 []] [] (.tup [.v (.int .i64 (bsW l id 0 l.length : Int)), .v (.bool (hasW l id (bsW l id 0 l.length)))]) [] := by
  have hll : (kps l).length = l.length := by simp
  generalize hr : bsW l id 0 l.length = R
  refine (ACalls.of (fn := Tryz.f74) Tryz.func74 O O Tryz.ntmps74 (fun I M w own => ?_))
  (repeat' (first|refine AW.seq_k (fun K hK=>?_)|(refine hK _ ?_;clear hK)|refine AW.block ?_|refine AW.rI [0, 1, 2] O ?_|refine UA ?_|fail))
  refine AW.loopF (X := Nat × Nat) (fun x => ⟨[(0, .sl 9 (kps l) f), (1, .v (.int .i64 id)), (2, .fn 75 []), (8, .v (.int .i64 (l.length : Int))), (9, .v (.int .i64 (x.1 : Int))), (10, .v (.int .i64 (x.2 : Int)))], []⟩)
    (fun x => x.1 ≤ x.2 ∧ x.2 ≤ l.length ∧ bsW l id x.1 x.2 = R) (fun x => x.2 - x.1) (0, l.length) ?_ ?_ ?_
  · refine Conv.mk [] O O O ?_ O ?_
    (repeat' (first|exact V0|refine V3 ?_|refine V2 ?_ ?_|fail))
    (all_goals (try (first|refine CvL.eq ?_|refine Cv.eq ?_)))
    all_goals simp [AV.ren]
  · exact ⟨by simp, by simp, hr⟩
  · rintro ⟨i, j⟩ ⟨h1, h2, h3⟩
    simp only at h1 h2 h3 ⊢
    rcases Nat.lt_or_ge i j with h | h
    · rw [bsW, dif_pos h] at h3
      have hm : (i + j) / 2 < l.length := by omega
      have hg : l.getD ((i + j) / 2) kp0 = l[(i + j) / 2] := by simp [hm]
      rw [hg] at h3
      have hA : At (kps l) ((i + j) / 2 : Int) l[(i + j) / 2].pv := At.mk ((i + j) / 2) (by omega) (by simp [hm])
      have hcl := cl_c l[(i + j) / 2] id
      (repeat' (first|refine AW.seq_k (fun K hK=>?_)|(refine hK _ ?_;clear hK)|refine AW.uC (fun hc=>?_) (fun hc=>?_)|refine AW.block ?_|refine AW.skip ?_|exact trivial|refine AW.rI [3, 4, 5, 6, 7] O ?_|refine Run.c0 hcl O O O O O O O O ?_|refine UA ?_|fail))
      · rw [if_pos ((cmpI_lt _ _).1 hc)] at h3
        ((repeat (with_reducible refine inB_n ?_)); refine thenA_n ?_)
        refine ⟨((i + j) / 2 + 1, j), ⟨by simp only; omega, h2, h3⟩, by simp only; omega, ?_⟩
        refine Conv.mk [] O O O ?_ O ?_
        (repeat' (first|exact V0|refine V3 ?_|refine V2 ?_ ?_|fail))
        (all_goals (try (first|refine CvL.eq ?_|refine Cv.eq ?_)))
        all_goals first | rfl | (simp only [AV.ren, AV.v.injEq, Value.int.injEq, true_and]; omega)
      · rw [if_neg (fun h => hc ((cmpI_lt _ _).2 h))] at h3
        ((repeat (with_reducible refine inB_n ?_)); refine thenA_n ?_)
        refine ⟨(i, (i + j) / 2), ⟨by simp only; omega, by simp only; omega, h3⟩, by simp only; omega, ?_⟩
        refine Conv.mk [] O O O ?_ O ?_
        (repeat' (first|exact V0|refine V3 ?_|refine V2 ?_ ?_|fail))
        (all_goals (try (first|refine CvL.eq ?_|refine Cv.eq ?_)))
        all_goals first | rfl | (simp only [AV.ren, AV.v.injEq, Value.int.injEq, true_and]; omega)
    · rw [bsW, dif_neg (by omega)] at h3
      obtain rfl : i = R := h3
      rcases Nat.lt_or_ge i l.length with hlt | hge
      · have hA : At (kps l) (i : Int) l[i].pv := At.mk i O (by simp [hlt])
        have hg : l.getD i kp0 = l[i] := by simp [hlt]
        have hlt' : (i : Int) < (l.length : Int) := by omega
        have hcl := cl_c l[i] id
        (repeat' (first|refine AW.seq_k (fun K hK=>?_)|(refine hK _ ?_;clear hK)|refine AW.uC (fun hc=>?_) (fun hc=>?_)|refine AW.exit ?_|refine AW.ret ?_|(clear hK;refine hK _ ?_;clear hK)|exact trivial|refine AW.rI [3, 8] O ?_|refine Run.c0 hcl O O O O O O O O ?_|refine Ud ?_|fail))
        ((first|refine RetOk.tup O O ?_|refine RetOk.one O ?_)<;>(repeat' (first|exact V0|refine V1 ?_|refine V2 ?_ ?_|fail)))
        (all_goals (try (first|refine CvL.eq ?_|refine Cv.eq ?_)))
        all_goals first | rfl | (simp only [AV.ren, AV.v.injEq, Value.bool.injEq, hasW, hg, cmpI_eq]; simp [hlt])
      · have hge' : ¬ (i : Int) < (l.length : Int) := by omega
        (repeat' (first|refine AW.seq_k (fun K hK=>?_)|(refine hK _ ?_;clear hK)|refine AW.uC (fun hc=>?_) (fun hc=>?_)|refine AW.exit ?_|refine AW.ret ?_|(clear hK;refine hK _ ?_;clear hK)|exact trivial|refine AW.rI [3, 8] O ?_|refine Ud ?_|fail))
        ((first|refine RetOk.tup O O ?_|refine RetOk.one O ?_)<;>(repeat' (first|exact V0|refine V1 ?_|refine V2 ?_ ?_|fail)))
        (all_goals (try (first|refine CvL.eq ?_|refine Cv.eq ?_)))
        all_goals first | rfl | (simp only [AV.ren, AV.v.injEq, Value.bool.injEq, hasW]; simp; omega)
set_option maxHeartbeats 4000000 in
theorem find_c (s : Se) (id : Int) (hl : s.streams.length ≤ 4611686018427387903) : ACalls Tryz.prog 38 [.agg s.cells, .v (.int .i64 id)] [] (.tup [.v (.int .i64 (bsW s.streams id 0 s.streams.length : Int)), .v (.bool (hasW s.streams id (bsW s.streams id 0 s.streams.length)))]) [] := by
  refine (ACalls.of (fn := Tryz.f38) Tryz.func38 O O Tryz.ntmps38 (fun I M w own => ?_))
  (repeat' (first|refine AW.seq_k (fun K hK=>?_)|(refine hK _ ?_;clear hK)|refine AW.ret ?_|refine AW.region ?_|refine Run.c0 (bsf_c _ _ _ hl) O O O O O O O O ?_|refine UA ?_|fail))
  ((first|refine RetOk.tup O O ?_|refine RetOk.one O ?_)<;>(repeat' (first|exact V0|refine V1 ?_|refine V2 ?_ ?_|fail)))
set_option maxHeartbeats 4000000 in
theorem copied_n (st : List Kp) (mem : List Ch) (tx : List UInt8) (h0 : 0 < st.length) (hl : st.length ≤ 1000000) (hm : mem.length ≤ 1000000) (hs : ∀ c ∈ mem, c.set.length ≤ 1099511627776) :
    ACallsN Tryz.prog 37 [.agg (Se.mk st mem tx).cells] [] (fun d : Nat => .agg [.bsl 0 9 0 st.length (st.length + d), .sl 3 (chs mem) false, .v (.string (bs tx))]) (fun d => [.box (bxs (kps st ++ List.replicate d z9))]) := by
  have hkl : (kps st).length = st.length := by simp
  have hcl : (chs mem).length = mem.length := by simp
  refine ACallsN.of (fn := Tryz.f37) Tryz.func37 O O Tryz.ntmps37 (fun I M w own => ?_)
  (repeat' (first|refine AW.seq_k (fun K hK=>?_)|(refine hK _ ?_;clear hK)|refine AW.rI [0, 1] O ?_|refine Run.cN [] (clone_n (kps st) false (kps_len9 st) (by omega) (by omega)) (fun _=>rfl) O O O O O O O (fun _=>rfl) (fun _=>bxs_all _ _) (fun _=>rfl) O O (by repeat constructor) (RenLs.cons RenR.sl RenLs.nil) InsI.nil O (r := fun q=>.bsl 2 9 0 (kps st).length ((kps st).length + q)) (fun q=>RenR.bsl O) (outs := fun q=>[(2, .box (bxs (kps st ++ List.replicate q z9)))]) (fun q=>OutI.box O (RenLs.bxs _) OutI.nil) (fun q=>rfl) (fun q=>Puts.cons (PutAt.there (PutAt.there (PutAt.new))) Puts.nil) (fun q=>rfl) (k2 := [2]) O (fun dd2=>?_)|refine UA ?_|fail))
  cases mem with
  | nil =>
    (repeat' (first|refine AW.seq_k (fun K hK=>?_)|(refine hK _ ?_;clear hK)|refine AW.block ?_|refine AW.rI [2, 3] O ?_|refine Run.c0 (cloneC_e false) O O O O O O O O ?_|refine UA ?_|fail))
    refine AW.loopF (X := Unit) (fun _ => ⟨[(1, .ptr 0 0), (2, .ptr 1 0), (18, .v (.int .i64 0)), (19, .v (.int .i64 0))], [.box [.bsl 2 9 0 st.length (st.length + dd2), .sl 3 [] true, .v (.string (bs tx))], .box [.v (.slice none 0 0), .v (.slice none 0 0), .v (.string (bs []))], .box (bxs (kps st ++ List.replicate dd2 z9))]⟩) (fun _ => True) (fun _ => 0) () ?_ trivial ?_
    · refine Conv.mk [0, 1, 2] O O O ?_ O ?_
      · (repeat' (first|exact V0|refine V3 ?_|refine V2 ?_ ?_|fail))
        (all_goals (try (first|refine CvL.eq ?_|refine Cv.eq ?_)))
        all_goals simp [AV.ren, renL]
      · refine Crs.cons (Cr.box ?_) O (Crs.cons (Cr.box ?_) O (Crs.cons (Cr.bxs O) (bxs_lt' _ _) Crs.nil))
        all_goals (repeat' (first|exact V0|refine V3 ?_|refine V2 ?_ ?_|fail))
        (all_goals (try (first|refine CvL.eq ?_|refine Cv.eq ?_)))
        all_goals simp [AV.ren, renL]
    · rintro _ _
      (repeat' (first|refine AW.seq_k (fun K hK=>?_)|(refine hK _ ?_;clear hK)|refine AW.uC (fun hc=>?_) (fun hc=>?_)|refine AW.exit ?_|(clear hK;refine hK _ ?_;clear hK)|exact trivial|refine rG 4 ?_|refine UA ?_|fail))
      (repeat' (first|(refine hK _ ?_;clear hK)|refine AW.ret ?_|refine rG 9 ?_|refine UA ?_|fail))
      refine RetOkN.mk dd2 ?_
      refine RetOk.oneS [2] O O O O ?_ ?_
      · exact Crs.cons (Cr.bxs O) (bxs_lt' _ _) Crs.nil
      · (repeat' (first|exact V0|refine V1 ?_|refine V2 ?_ ?_|fail))
  | cons c0 mr =>
    (repeat' (first|refine AW.seq_k (fun K hK=>?_)|(refine hK _ ?_;clear hK)|refine AW.block ?_|refine AW.rI [2, 3] O ?_|refine Run.cN [] (cloneC_n (chs (c0 :: mr)) false (chs_len3 _) (by simp) (by omega)) (fun _=>rfl) O O O O O O O (fun _=>rfl) (fun _=>bxs_all _ _) (fun _=>rfl) O O (by repeat constructor) (RenLs.cons RenR.sl RenLs.nil) InsI.nil O (r := fun q=>.bsl 3 3 0 (chs (c0 :: mr)).length ((chs (c0 :: mr)).length + q)) (fun q=>RenR.bsl O) (outs := fun q=>[(3, .box (bxs (chs (c0 :: mr) ++ List.replicate q z3)))]) (fun q=>OutI.box O (RenLs.bxs _) OutI.nil) (fun q=>rfl) (fun q=>Puts.cons (PutAt.there (PutAt.there (PutAt.there (PutAt.new)))) Puts.nil) (fun q=>rfl) (k2 := [3]) O (fun dd3=>?_)|refine UA ?_|fail))
    have h3 : ∀ y ∈ (chs (c0 :: mr) ++ List.replicate dd3 z3), y.length = 3 := by
      intro y hy
      rcases List.mem_append.1 hy with h | h
      · exact chs_len3 _ y h
      · rw [(List.mem_replicate.1 h).2]; rfl
    refine AW.loopF (X := Nat) (fun i => ⟨[(1, .ptr 0 0), (2, .ptr 1 0), (18, .v (.int .i64 ((c0 :: mr).length : Int))), (19, .v (.int .i64 (i : Int)))], [.box [.bsl 2 9 0 st.length (st.length + dd2), .bsl 3 3 0 (c0 :: mr).length ((c0 :: mr).length + dd3), .v (.string (bs tx))], .box [.v (.slice none 0 0), .v (.slice none 0 0), .v (.string (bs []))], .box (bxs (kps st ++ List.replicate dd2 z9)), .box (bxs (chs (c0 :: mr) ++ List.replicate dd3 z3))]⟩) (fun i => i ≤ (c0 :: mr).length) (fun i => (c0 :: mr).length - i) 0 ?_ (Nat.zero_le _) ?_
    · refine Conv.mk [0, 1, 2, 3] O O O ?_ O ?_
      · (repeat' (first|exact V0|refine V3 ?_|refine V2 ?_ ?_|fail))
        (all_goals (try (first|refine CvL.eq ?_|refine Cv.eq ?_)))
        all_goals simp [AV.ren, renL]
      · refine Crs.cons (Cr.box ?_) O (Crs.cons (Cr.box ?_) O (Crs.cons (Cr.bxs O) (bxs_lt' _ _) (Crs.cons (Cr.bxs O) (bxs_lt' _ _) Crs.nil)))
        all_goals (repeat' (first|exact V0|refine V3 ?_|refine V2 ?_ ?_|fail))
        (all_goals (try (first|refine CvL.eq ?_|refine Cv.eq ?_)))
        all_goals simp [AV.ren, renL]
    · rintro i hi
      rcases Nat.lt_or_ge i (c0 :: mr).length with h | h
      · have hg : (chs (c0 :: mr) ++ List.replicate dd3 z3)[i]? = some (c0 :: mr)[i].pv := by
          rw [List.getElem?_append_left (by rw [hcl]; exact h), List.getElem?_map, List.getElem?_eq_getElem h]; rfl
        have hq : 0 * 3 + ((i : Int)).toNat * 3 + 1 = i * 3 + 1 := by simp
        have hL : (bxs (chs (c0 :: mr) ++ List.replicate dd3 z3))[0 * 3 + ((i : Int)).toNat * 3 + 1]? = some (AV.sl 1 (ids (c0 :: mr)[i].set) false) := by rw [hq]; exact bxN_at (f := 1) (p := PV.sl 1 (ids (c0 :: mr)[i].set)) h3 hg O
        have hO : Over (bxs (chs (c0 :: mr) ++ List.replicate dd3 z3)) (0 * 3 + ((i : Int)).toNat * 3 + 1) [AV.sl 1 (ids (c0 :: mr)[i].set) false] (bxs (chs (c0 :: mr) ++ List.replicate dd3 z3)) := by
          have q := bxN_put (f := 1) (PV.sl 1 (ids (c0 :: mr)[i].set)) h3 hg (by simp)
          rw [show ((chs (c0 :: mr) ++ List.replicate dd3 z3)).set i ((c0 :: mr)[i].pv.set 1 (PV.sl 1 (ids (c0 :: mr)[i].set))) = (chs (c0 :: mr) ++ List.replicate dd3 z3) from set_same hg] at q
          rw [hq]; exact q
        have hcc := Clone_c (c0 :: mr)[i].set false (hs _ (List.getElem_mem h))
        (repeat' (first|refine AW.seq_k (fun K hK=>?_)|(refine hK _ ?_;clear hK)|refine AW.uC (fun hc=>?_) (fun hc=>?_)|refine AW.block ?_|refine AW.skip ?_|exact trivial|refine AW.rI [4, 5, 6, 7, 8] O ?_|refine Run.c0 hcc O O O O O O O O ?_|refine UA ?_|fail))
        ((repeat (with_reducible refine inB_n ?_)); refine thenA_n ?_)
        refine ⟨i + 1, h, by omega, ?_⟩
        refine Conv.mk [0, 1, 2, 3] O O O ?_ O ?_
        · (repeat' (first|exact V0|refine V3 ?_|refine V2 ?_ ?_|fail))
          (all_goals (try (first|refine CvL.eq ?_|refine Cv.eq ?_)))
          all_goals simp [AV.ren, renL]
        · refine Crs.cons (Cr.box ?_) O (Crs.cons (Cr.box ?_) O (Crs.cons (Cr.bxs O) (bxs_lt' _ _) (Crs.cons (Cr.bxs O) (bxs_lt' _ _) Crs.nil)))
          all_goals (repeat' (first|exact V0|refine V3 ?_|refine V2 ?_ ?_|fail))
          (all_goals (try (first|refine CvL.eq ?_|refine Cv.eq ?_)))
          all_goals simp [AV.ren, renL]
      · (repeat' (first|refine AW.seq_k (fun K hK=>?_)|(refine hK _ ?_;clear hK)|refine AW.uC (fun hc=>?_) (fun hc=>?_)|refine AW.exit ?_|(clear hK;refine hK _ ?_;clear hK)|exact trivial|refine rG 4 ?_|refine UA ?_|fail))
        refine AW.freezeA 3 3 (chs (c0 :: mr)) (List.replicate dd3 z3) O O (chs_len3 _) ?_
        (repeat' (first|(refine hK _ ?_;clear hK)|refine AW.ret ?_|refine rG 9 ?_|refine UA ?_|fail))
        refine RetOkN.mk dd2 ?_
        refine RetOk.oneS [2] O O O O ?_ ?_
        · exact Crs.cons (Cr.bxs O) (bxs_lt' _ _) Crs.nil
        · (repeat' (first|exact V0|refine V1 ?_|refine V2 ?_ ?_|fail))
set_option maxHeartbeats 4000000 in
theorem copied_e (mem : List Ch) (tx : List UInt8) (hm : mem.length ≤ 1000000) (hs : ∀ c ∈ mem, c.set.length ≤ 1099511627776) :
    ACalls Tryz.prog 37 [.agg (Se.mk [] mem tx).cells] [] (.agg [.sl 9 [] true, .sl 3 (chs mem) false, .v (.string (bs tx))]) [] := by
  have hcl : (chs mem).length = mem.length := by simp
  refine (ACalls.of (fn := Tryz.f37) Tryz.func37 O O Tryz.ntmps37 (fun I M w own => ?_))
  (repeat' (first|refine AW.seq_k (fun K hK=>?_)|(refine hK _ ?_;clear hK)|refine AW.rI [0, 1] O ?_|refine Run.c0 (clone_e false) O O O O O O O O ?_|refine UA ?_|fail))
  cases mem with
  | nil =>
    (repeat' (first|refine AW.seq_k (fun K hK=>?_)|(refine hK _ ?_;clear hK)|refine AW.block ?_|refine AW.rI [2, 3] O ?_|refine Run.c0 (cloneC_e false) O O O O O O O O ?_|refine UA ?_|fail))
    refine AW.loopF (X := Unit) (fun _ => ⟨[(1, .ptr 0 0), (2, .ptr 1 0), (18, .v (.int .i64 0)), (19, .v (.int .i64 0))], [.box [.sl 9 [] true, .sl 3 [] true, .v (.string (bs tx))], .box [.v (.slice none 0 0), .v (.slice none 0 0), .v (.string (bs []))]]⟩) (fun _ => True) (fun _ => 0) () ?_ trivial ?_
    · refine Conv.mk [0, 1] O O O ?_ O ?_
      · (repeat' (first|exact V0|refine V3 ?_|refine V2 ?_ ?_|fail))
        (all_goals (try (first|refine CvL.eq ?_|refine Cv.eq ?_)))
        all_goals simp [AV.ren, renL]
      · refine Crs.cons (Cr.box ?_) O (Crs.cons (Cr.box ?_) O Crs.nil)
        all_goals (repeat' (first|exact V0|refine V3 ?_|refine V2 ?_ ?_|fail))
        (all_goals (try (first|refine CvL.eq ?_|refine Cv.eq ?_)))
        all_goals simp [AV.ren, renL]
    · rintro _ _
      (repeat' (first|refine AW.seq_k (fun K hK=>?_)|(refine hK _ ?_;clear hK)|refine AW.uC (fun hc=>?_) (fun hc=>?_)|refine AW.exit ?_|(clear hK;refine hK _ ?_;clear hK)|exact trivial|refine rG 4 ?_|refine UA ?_|fail))
      (repeat' (first|(refine hK _ ?_;clear hK)|refine AW.ret ?_|refine rG 9 ?_|refine UA ?_|fail))
      ((first|refine RetOk.tup O O ?_|refine RetOk.one O ?_)<;>(repeat' (first|exact V0|refine V1 ?_|refine V2 ?_ ?_|fail)))
  | cons c0 mr =>
    (repeat' (first|refine AW.seq_k (fun K hK=>?_)|(refine hK _ ?_;clear hK)|refine AW.block ?_|refine AW.rI [2, 3] O ?_|refine Run.cN [] (cloneC_n (chs (c0 :: mr)) false (chs_len3 _) (by simp) (by omega)) (fun _=>rfl) O O O O O O O (fun _=>rfl) (fun _=>bxs_all _ _) (fun _=>rfl) O O (by repeat constructor) (RenLs.cons RenR.sl RenLs.nil) InsI.nil O (r := fun q=>.bsl 2 3 0 (chs (c0 :: mr)).length ((chs (c0 :: mr)).length + q)) (fun q=>RenR.bsl O) (outs := fun q=>[(2, .box (bxs (chs (c0 :: mr) ++ List.replicate q z3)))]) (fun q=>OutI.box O (RenLs.bxs _) OutI.nil) (fun q=>rfl) (fun q=>Puts.cons (PutAt.there (PutAt.there (PutAt.new))) Puts.nil) (fun q=>rfl) (k2 := [2]) O (fun dd2=>?_)|refine UA ?_|fail))
    have h3 : ∀ y ∈ (chs (c0 :: mr) ++ List.replicate dd2 z3), y.length = 3 := by
      intro y hy
      rcases List.mem_append.1 hy with h | h
      · exact chs_len3 _ y h
      · rw [(List.mem_replicate.1 h).2]; rfl
    refine AW.loopF (X := Nat) (fun i => ⟨[(1, .ptr 0 0), (2, .ptr 1 0), (18, .v (.int .i64 ((c0 :: mr).length : Int))), (19, .v (.int .i64 (i : Int)))], [.box [.sl 9 [] true, .bsl 2 3 0 (c0 :: mr).length ((c0 :: mr).length + dd2), .v (.string (bs tx))], .box [.v (.slice none 0 0), .v (.slice none 0 0), .v (.string (bs []))], .box (bxs (chs (c0 :: mr) ++ List.replicate dd2 z3))]⟩) (fun i => i ≤ (c0 :: mr).length) (fun i => (c0 :: mr).length - i) 0 ?_ (Nat.zero_le _) ?_
    · refine Conv.mk [0, 1, 2] O O O ?_ O ?_
      · (repeat' (first|exact V0|refine V3 ?_|refine V2 ?_ ?_|fail))
        (all_goals (try (first|refine CvL.eq ?_|refine Cv.eq ?_)))
        all_goals simp [AV.ren, renL]
      · refine Crs.cons (Cr.box ?_) O (Crs.cons (Cr.box ?_) O (Crs.cons (Cr.bxs O) (bxs_lt' _ _) Crs.nil))
        all_goals (repeat' (first|exact V0|refine V3 ?_|refine V2 ?_ ?_|fail))
        (all_goals (try (first|refine CvL.eq ?_|refine Cv.eq ?_)))
        all_goals simp [AV.ren, renL]
    · rintro i hi
      rcases Nat.lt_or_ge i (c0 :: mr).length with h | h
      · have hg : (chs (c0 :: mr) ++ List.replicate dd2 z3)[i]? = some (c0 :: mr)[i].pv := by
          rw [List.getElem?_append_left (by rw [hcl]; exact h), List.getElem?_map, List.getElem?_eq_getElem h]; rfl
        have hq : 0 * 3 + ((i : Int)).toNat * 3 + 1 = i * 3 + 1 := by simp
        have hL : (bxs (chs (c0 :: mr) ++ List.replicate dd2 z3))[0 * 3 + ((i : Int)).toNat * 3 + 1]? = some (AV.sl 1 (ids (c0 :: mr)[i].set) false) := by rw [hq]; exact bxN_at (f := 1) (p := PV.sl 1 (ids (c0 :: mr)[i].set)) h3 hg O
        have hO : Over (bxs (chs (c0 :: mr) ++ List.replicate dd2 z3)) (0 * 3 + ((i : Int)).toNat * 3 + 1) [AV.sl 1 (ids (c0 :: mr)[i].set) false] (bxs (chs (c0 :: mr) ++ List.replicate dd2 z3)) := by
          have q := bxN_put (f := 1) (PV.sl 1 (ids (c0 :: mr)[i].set)) h3 hg (by simp)
          rw [show ((chs (c0 :: mr) ++ List.replicate dd2 z3)).set i ((c0 :: mr)[i].pv.set 1 (PV.sl 1 (ids (c0 :: mr)[i].set))) = (chs (c0 :: mr) ++ List.replicate dd2 z3) from set_same hg] at q
          rw [hq]; exact q
        have hcc := Clone_c (c0 :: mr)[i].set false (hs _ (List.getElem_mem h))
        (repeat' (first|refine AW.seq_k (fun K hK=>?_)|(refine hK _ ?_;clear hK)|refine AW.uC (fun hc=>?_) (fun hc=>?_)|refine AW.block ?_|refine AW.skip ?_|exact trivial|refine AW.rI [4, 5, 6, 7, 8] O ?_|refine Run.c0 hcc O O O O O O O O ?_|refine UA ?_|fail))
        ((repeat (with_reducible refine inB_n ?_)); refine thenA_n ?_)
        refine ⟨i + 1, h, by omega, ?_⟩
        refine Conv.mk [0, 1, 2] O O O ?_ O ?_
        · (repeat' (first|exact V0|refine V3 ?_|refine V2 ?_ ?_|fail))
          (all_goals (try (first|refine CvL.eq ?_|refine Cv.eq ?_)))
          all_goals simp [AV.ren, renL]
        · refine Crs.cons (Cr.box ?_) O (Crs.cons (Cr.box ?_) O (Crs.cons (Cr.bxs O) (bxs_lt' _ _) Crs.nil))
          all_goals (repeat' (first|exact V0|refine V3 ?_|refine V2 ?_ ?_|fail))
          (all_goals (try (first|refine CvL.eq ?_|refine Cv.eq ?_)))
          all_goals simp [AV.ren, renL]
      · (repeat' (first|refine AW.seq_k (fun K hK=>?_)|(refine hK _ ?_;clear hK)|refine AW.uC (fun hc=>?_) (fun hc=>?_)|refine AW.exit ?_|(clear hK;refine hK _ ?_;clear hK)|exact trivial|refine rG 4 ?_|refine UA ?_|fail))
        refine AW.freezeA 2 3 (chs (c0 :: mr)) (List.replicate dd2 z3) O O (chs_len3 _) ?_
        (repeat' (first|(refine hK _ ?_;clear hK)|refine AW.ret ?_|refine rG 9 ?_|refine UA ?_|fail))
        ((first|refine RetOk.tup O O ?_|refine RetOk.one O ?_)<;>(repeat' (first|exact V0|refine V1 ?_|refine V2 ?_ ?_|fail)))
abbrev Rc.kept (r : Rc) : Kp := ⟨r.id, r.role, r.dir, r.ch, r.rate, r.lat, 100, false, 0⟩
def Se.zero : Se := ⟨[], [], []⟩
def stepP (s : Se) (r : Rc) (i : Nat) (has : Bool) : Se × Int :=
  if r.kind = 1 then
    if has = true then (Se.zero, 8) else if 24 ≤ s.streams.length then (Se.zero, 3)
    else (⟨s.streams.take i ++ r.kept :: s.streams.drop i, s.mem, s.text⟩, 0)
  else if r.kind = 6 then
    if (rememberP s.mem ⟨r.role, r.set, r.dev⟩).2 = 0 then (⟨s.streams, (rememberP s.mem ⟨r.role, r.set, r.dev⟩).1, s.text⟩, 0) else (Se.zero, (rememberP s.mem ⟨r.role, r.set, r.dev⟩).2)
  else if r.kind = 7 then (⟨s.streams, s.mem, r.text⟩, 0)
  else if has = false then (Se.zero, 7)
  else if r.kind = 2 then (⟨s.streams.take i ++ s.streams.drop (i + 1), s.mem, s.text⟩, 0)
  else if r.kind = 3 then (⟨s.streams.modify i fun k => { k with vol := r.n }, s.mem, s.text⟩, 0)
  else if r.kind = 4 then (⟨s.streams.modify i fun k => { k with muted := decide (r.n = 1) }, s.mem, s.text⟩, 0)
  else if r.kind = 5 then (⟨s.streams.modify i fun k => { k with pin := r.dev }, s.mem, s.text⟩, 0)
  else (s, 0)
def applyP (okT : List UInt8 → Bool) (s : Se) (r : Rc) : Se × Int :=
  if properR okT r = false then (Se.zero, 1) else stepP s r (bsW s.streams r.id 0 s.streams.length) (hasW s.streams r.id (bsW s.streams r.id 0 s.streams.length))
structure Se.ok (s : Se) : Prop where
  st : s.streams.length ≤ 1000000
  mem : s.mem.length ≤ 1000000
  oks : oks s.mem
  small : ∀ c ∈ s.mem, c.set.length ≤ 1099511627776
theorem bsW_le (l : List Kp) (id : Int) : ∀ i j, i ≤ j → i ≤ bsW l id i j ∧ bsW l id i j ≤ j := by
  intro i j
  fun_induction bsW l id i j with
  | case1 i j h h2 ih => intro _; have := ih (by omega); omega
  | case2 i j h h2 ih => intro _; have := ih (by omega); omega
  | case3 i j h => intro h; omega
theorem kps_mod (f : Kp → Kp) : ∀ (l : List Kp) (i : Nat) (h : i < l.length), kps (l.modify i f) = (kps l).set i (f l[i]).pv
  | [], _, h => by simp at h
  | k :: t, 0, _ => by simp [kps]
  | k :: t, i + 1, h => by
    have := kps_mod f t i (by simpa using h)
    simp only [kps, List.modify_succ_cons, List.map_cons, List.set_cons_succ, List.getElem_cons_succ] at this ⊢
    rw [this]
theorem kp_store (f : Kp → Kp) (j : Nat) (p : PV) (l : List Kp) (i dd : Nat) (h : i < l.length) (hj : j < 9) (hf : ∀ k : Kp, k.pv.set j p = (f k).pv) : Over (bxs (kps l ++ List.replicate dd z9)) (0 * 9 + ((i : Nat) : Int).toNat * 9 + j) [p.av] (bxs (kps (l.modify i f) ++ List.replicate dd z9)) := by
  have hz : ∀ y ∈ kps l ++ List.replicate dd z9, y.length = 9 := by
    intro y hy
    rcases List.mem_append.1 hy with h | h
    · exact kps_len9 _ y h
    · rw [(List.mem_replicate.1 h).2]; rfl
  have hg : (kps l ++ List.replicate dd z9)[i]? = some l[i].pv := by
    rw [List.getElem?_append_left (by simpa using h), List.getElem?_map, List.getElem?_eq_getElem h]; rfl
  have q := bxN_put (f := j) p hz hg hj
  rw [hf, List.set_append_left _ _ (by simpa using h), ← kps_mod f l i h] at q
  rw [show 0 * 9 + ((i : Nat) : Int).toNat * 9 + j = i * 9 + j by simp]
  exact q
set_option maxHeartbeats 4000000 in
theorem Apply_c (okT : List UInt8 → Bool) (s : Se) (r : Rc) (hs : s.ok) (ho : r.ok) (hP : PsOk okT 52 r) : ACalls Tryz.prog 14 [.agg s.cells, .agg r.cells] [] (.tup [.agg (applyP okT s r).1.cells, .v (.int .i64 (applyP okT s r).2)]) [] := by
  have hv := sProper_c okT r ho hP
  have hf := find_c s r.id (by have := hs.st; omega)
  have hrm := Remember_c s.mem false ⟨r.role, r.set, r.dev⟩ hs.oks ⟨ho.1, ho.2.1⟩ (by have := hs.mem; omega)
  generalize hp : applyP okT s r = p
  rw [applyP] at hp
  have hRl := (bsW_le s.streams r.id 0 s.streams.length (by omega)).2
  generalize hR : bsW s.streams r.id 0 s.streams.length = R at hp hf hRl
  generalize hH : hasW s.streams r.id R = H at hp hf
  generalize hV : properR okT r = V at hp hv
  simp only [stepP] at hp
  generalize hM : rememberP s.mem ⟨r.role, r.set, r.dev⟩ = Mm at hp hrm
  obtain ⟨st, mem, tx⟩ := s
  obtain ⟨k1, k2, k3, k4⟩ := hs
  simp only at k1 k2 k3 k4 hM hR hH hRl hp
  cases st with
  | nil =>
    have hcp := copied_e mem tx k2 k4
    obtain rfl : R = 0 := by simpa using hRl
    obtain rfl : H = false := by rw [← hH]; simp [hasW]
    have hin := insert_e r.kept.pv O
    refine (ACalls.of (fn := Tryz.f14) Tryz.func14 O O Tryz.ntmps14 (fun I M w own => ?_))
    (repeat' (first|refine AW.seq_k (fun K hK=>?_)|(refine hK _ ?_;clear hK)|refine AW.uC (fun hc=>?_) (fun hc=>?_)|refine AW.block ?_|refine AW.ret ?_|refine AW.skip ?_|exact trivial|refine AW.rI [0, 1, 2, 3, 4, 5, 6, 7, 9, 11, 12, 13, 14, 15, 16, 17, 18, 19, 20, 21, 22, 23] O ?_|refine Run.c0 hv O O O O O O O O ?_|refine Run.c0 hcp O O O O O O O O ?_|refine Run.c0 hf O O O O O O O O ?_|refine Run.c0 hin O O O O O O O O ?_|refine Run.c0 hrm O O O O O O O O ?_|refine UA ?_|fail))
    all_goals (repeat (first|rw [if_pos (by first|assumption|decide|(rw [‹V = true›];decide)|(rw [‹H = true›];decide)|(rw [‹H = false›];decide)|omega|(simp only [List.length_map] at *;omega))] at hp|rw [if_neg (by first|assumption|decide|(rw [‹V = true›];decide)|(rw [‹H = true›];decide)|(rw [‹H = false›];decide)|omega|(simp only [List.length_map] at *;omega))] at hp))
    all_goals subst hp
    all_goals ((first|refine RetOk.tup O O ?_|refine RetOk.one O ?_)<;>(repeat' (first|exact V0|refine V1 ?_|refine V2 ?_ ?_|fail)))
    (all_goals (try (first|refine CvL.eq ?_|refine Cv.eq ?_)))
    all_goals simp [AV.ren, Se.zero, Kp.pv]
  | cons k0 kr =>
    have hl0 : (k0 :: kr).length = kr.length + 1 := rfl
    have hRlt : H = true → R < (k0 :: kr).length := by
      intro h
      rw [← hH] at h
      simp only [hasW, Bool.and_eq_true, decide_eq_true_eq] at h
      exact h.1
    refine (ACalls.of (fn := Tryz.f14) Tryz.func14 O O Tryz.ntmps14 (fun I M w own => ?_))
    (repeat' (first|refine AW.seq_k (fun K hK=>?_)|(refine hK _ ?_;clear hK)|refine AW.uC (fun hc=>?_) (fun hc=>?_)|refine AW.block ?_|refine AW.ret ?_|refine AW.skip ?_|exact trivial|refine AW.rI [0, 1, 2, 3, 4, 5, 6, 7, 8, 9, 10, 13, 19, 22, 23, 24, 25, 27, 29, 31] O ?_|refine Run.c0 hv O O O O O O O O ?_|refine Run.cN [] (copied_n (k0 :: kr) mem tx (by simp) k1 k2 k4) (fun _=>rfl) O O O O O O O (fun _=>rfl) (fun _=>bxs_all _ _) (fun _=>rfl) O O (by repeat constructor) (RenLs.cons (RenR.agg (RenLs.cons RenR.sl (RenLs.cons RenR.sl (RenLs.cons RenR.v RenLs.nil)))) RenLs.nil) InsI.nil O (r := fun q=>.agg [.bsl 3 9 0 (k0 :: kr).length ((k0 :: kr).length + q), .sl 3 (chs mem) false, .v (.string (bs tx))]) (fun q=>RenR.agg (RenLs.cons (RenR.bsl O) (RenLs.cons RenR.sl (RenLs.cons RenR.v RenLs.nil)))) (outs := fun q=>[(3, .box (bxs (kps (k0 :: kr) ++ List.replicate q z9)))]) (fun q=>OutI.box O (RenLs.bxs _) OutI.nil) (fun q=>rfl) (fun q=>Puts.cons (PutAt.there (PutAt.there (PutAt.there PutAt.new))) Puts.nil) (fun q=>rfl) (k2 := [3]) O (fun dd=>?_)|refine Run.c0 hf O O O O O O O O ?_|refine UA ?_|fail))
    all_goals (repeat (first|rw [if_pos (by first|assumption|decide|(rw [‹V = true›];decide)|(rw [‹H = true›];decide)|(rw [‹H = false›];decide)|omega|(simp only [List.length_map] at *;omega))] at hp|rw [if_neg (by first|assumption|decide|(rw [‹V = true›];decide)|(rw [‹H = true›];decide)|(rw [‹H = false›];decide)|omega|(simp only [List.length_map] at *;omega))] at hp))
    · subst hp
      ((first|refine RetOk.tup O O ?_|refine RetOk.one O ?_)<;>(repeat' (first|exact V0|refine V1 ?_|refine V2 ?_ ?_|fail)))
      (all_goals (try (first|refine CvL.eq ?_|refine Cv.eq ?_)))
      all_goals simp [AV.ren, Se.zero, Kp.pv, insL, delL, List.map_take, List.map_drop]
    · subst hp
      ((first|refine RetOk.tup O O ?_|refine RetOk.one O ?_)<;>(repeat' (first|exact V0|refine V1 ?_|refine V2 ?_ ?_|fail)))
      (all_goals (try (first|refine CvL.eq ?_|refine Cv.eq ?_)))
      all_goals simp [AV.ren, Se.zero, Kp.pv, insL, delL, List.map_take, List.map_drop]
    · subst hp
      ((first|refine RetOk.tup O O ?_|refine RetOk.one O ?_)<;>(repeat' (first|exact V0|refine V1 ?_|refine V2 ?_ ?_|fail)))
      (all_goals (try (first|refine CvL.eq ?_|refine Cv.eq ?_)))
      all_goals simp [AV.ren, Se.zero, Kp.pv, insL, delL, List.map_take, List.map_drop]
    · have hkl2 : (kps (k0 :: kr)).length = (k0 :: kr).length := by simp
      have hin := insert_b (kps (k0 :: kr)) r.kept.pv dd R (kps_len9 _) O (by omega) (by omega) (by omega)
      rw [hkl2] at hin
      (repeat' (first|refine AW.seq_k (fun K hK=>?_)|(refine hK _ ?_;clear hK)|refine AW.ret ?_|refine AW.rI [11, 12] O ?_|refine Run.cSA [3] hin O O O O O O O O O O (bxs_all _ _) O ?_ (hi := InsI.box O (RenLs.bxs _) InsI.nil)|refine UA ?_|fail))
      subst hp
      ((first|refine RetOk.tup O O ?_|refine RetOk.one O ?_)<;>(repeat' (first|exact V0|refine V1 ?_|refine V2 ?_ ?_|fail)))
      (all_goals (try (first|refine CvL.eq ?_|refine Cv.eq ?_)))
      all_goals simp [AV.ren, Se.zero, Kp.pv, insL, delL, List.map_take, List.map_drop]
    · refine AW.freezeA 3 9 (kps (k0 :: kr)) (List.replicate dd z9) O O (kps_len9 _) ?_
      (repeat' (first|refine AW.seq_k (fun K hK=>?_)|(refine hK _ ?_;clear hK)|refine AW.uC (fun hc=>?_) (fun hc=>?_)|refine AW.ret ?_|refine AW.skip ?_|exact trivial|refine AW.rI [14, 15, 16, 17, 18] O ?_|refine Run.c0 hrm O O O O O O O O ?_|refine UA ?_|fail))
      all_goals (repeat (first|rw [if_pos (by first|assumption|decide|(rw [‹V = true›];decide)|(rw [‹H = true›];decide)|(rw [‹H = false›];decide)|omega|(simp only [List.length_map] at *;omega))] at hp|rw [if_neg (by first|assumption|decide|(rw [‹V = true›];decide)|(rw [‹H = true›];decide)|(rw [‹H = false›];decide)|omega|(simp only [List.length_map] at *;omega))] at hp))
      all_goals subst hp
      all_goals ((first|refine RetOk.tup O O ?_|refine RetOk.one O ?_)<;>(repeat' (first|exact V0|refine V1 ?_|refine V2 ?_ ?_|fail)))
      (all_goals (try (first|refine CvL.eq ?_|refine Cv.eq ?_)))
      all_goals simp [AV.ren, Se.zero, Kp.pv]
    · refine AW.freezeA 3 9 (kps (k0 :: kr)) (List.replicate dd z9) O O (kps_len9 _) ?_
      (repeat' (first|refine AW.seq_k (fun K hK=>?_)|(refine hK _ ?_;clear hK)|refine AW.ret ?_|refine AW.rI [20, 21] O ?_|refine UA ?_|fail))
      subst hp
      ((first|refine RetOk.tup O O ?_|refine RetOk.one O ?_)<;>(repeat' (first|exact V0|refine V1 ?_|refine V2 ?_ ?_|fail)))
      (all_goals (try (first|refine CvL.eq ?_|refine Cv.eq ?_)))
      all_goals simp [AV.ren, Se.zero, Kp.pv, insL, delL, List.map_take, List.map_drop]
    · subst hp
      ((first|refine RetOk.tup O O ?_|refine RetOk.one O ?_)<;>(repeat' (first|exact V0|refine V1 ?_|refine V2 ?_ ?_|fail)))
      (all_goals (try (first|refine CvL.eq ?_|refine Cv.eq ?_)))
      all_goals simp [AV.ren, Se.zero, Kp.pv, insL, delL, List.map_take, List.map_drop]
    · have hRl := hRlt (by assumption)
      have hkl2 : (kps (k0 :: kr)).length = (k0 :: kr).length := by simp
      have hde := delete_b (kps (k0 :: kr)) dd R (kps_len9 _) (by omega) (by omega)
      rw [hkl2] at hde
      (repeat' (first|refine AW.seq_k (fun K hK=>?_)|(refine hK _ ?_;clear hK)|refine AW.ret ?_|refine AW.rI [26, 33] O ?_|refine Run.cSA [3] hde O O O O O O O O O O (bxs_all _ _) O ?_ (hi := InsI.box O (RenLs.bxs _) InsI.nil)|refine UA ?_|fail))
      subst hp
      ((first|refine RetOk.tup O O ?_|refine RetOk.one O ?_)<;>(repeat' (first|exact V0|refine V1 ?_|refine V2 ?_ ?_|fail)))
      (all_goals (try (first|refine CvL.eq ?_|refine Cv.eq ?_)))
      all_goals simp [AV.ren, Se.zero, Kp.pv, insL, delL, List.map_take, List.map_drop]
    · have hRl2 := hRlt (by assumption)
      have hO := kp_store (fun k => { k with vol := r.n }) 6 (PV.v (.int .i64 r.n)) (k0 :: kr) R dd (hRlt (by assumption)) (by decide) (fun _ => rfl)
      (repeat' (first|refine AW.seq_k (fun K hK=>?_)|(refine hK _ ?_;clear hK)|refine rG 28 ?_|refine UA ?_|fail))
      refine AW.freezeA 3 9 (kps ((k0 :: kr).modify R fun k => { k with vol := r.n })) (List.replicate dd z9) O O (kps_len9 _) ?_
      (repeat' (first|(refine hK _ ?_;clear hK)|refine AW.ret ?_|refine rG 33 ?_|refine UA ?_|fail))
      subst hp
      ((first|refine RetOk.tup O O ?_|refine RetOk.one O ?_)<;>(repeat' (first|exact V0|refine V1 ?_|refine V2 ?_ ?_|fail)))
      (all_goals (try (first|refine CvL.eq ?_|refine Cv.eq ?_)))
      all_goals simp [AV.ren, Se.zero, Kp.pv, insL, delL, List.map_take, List.map_drop]
    · have hRl2 := hRlt (by assumption)
      have hO := kp_store (fun k => { k with muted := decide (r.n = 1) }) 7 (PV.v (.bool (decide (r.n = 1)))) (k0 :: kr) R dd (hRlt (by assumption)) (by decide) (fun _ => rfl)
      (repeat' (first|refine AW.seq_k (fun K hK=>?_)|(refine hK _ ?_;clear hK)|refine rG 30 ?_|refine UA ?_|fail))
      refine AW.freezeA 3 9 (kps ((k0 :: kr).modify R fun k => { k with muted := decide (r.n = 1) })) (List.replicate dd z9) O O (kps_len9 _) ?_
      (repeat' (first|(refine hK _ ?_;clear hK)|refine AW.ret ?_|refine rG 33 ?_|refine UA ?_|fail))
      subst hp
      ((first|refine RetOk.tup O O ?_|refine RetOk.one O ?_)<;>(repeat' (first|exact V0|refine V1 ?_|refine V2 ?_ ?_|fail)))
      (all_goals (try (first|refine CvL.eq ?_|refine Cv.eq ?_)))
      all_goals simp [AV.ren, Se.zero, Kp.pv, insL, delL, List.map_take, List.map_drop]
    · have hRl2 := hRlt (by assumption)
      have hO := kp_store (fun k => { k with pin := r.dev }) 8 (PV.v (.int .u64 r.dev)) (k0 :: kr) R dd (hRlt (by assumption)) (by decide) (fun _ => rfl)
      (repeat' (first|refine AW.seq_k (fun K hK=>?_)|(refine hK _ ?_;clear hK)|refine rG 32 ?_|refine UA ?_|fail))
      refine AW.freezeA 3 9 (kps ((k0 :: kr).modify R fun k => { k with pin := r.dev })) (List.replicate dd z9) O O (kps_len9 _) ?_
      (repeat' (first|(refine hK _ ?_;clear hK)|refine AW.ret ?_|refine rG 33 ?_|refine UA ?_|fail))
      subst hp
      ((first|refine RetOk.tup O O ?_|refine RetOk.one O ?_)<;>(repeat' (first|exact V0|refine V1 ?_|refine V2 ?_ ?_|fail)))
      (all_goals (try (first|refine CvL.eq ?_|refine Cv.eq ?_)))
      all_goals simp [AV.ren, Se.zero, Kp.pv, insL, delL, List.map_take, List.map_drop]
    · refine AW.freezeA 3 9 (kps (k0 :: kr)) (List.replicate dd z9) O O (kps_len9 _) ?_
      (repeat' (first|(refine hK _ ?_;clear hK)|refine AW.ret ?_|refine rG 33 ?_|refine UA ?_|fail))
      subst hp
      ((first|refine RetOk.tup O O ?_|refine RetOk.one O ?_)<;>(repeat' (first|exact V0|refine V1 ?_|refine V2 ?_ ?_|fail)))
      (all_goals (try (first|refine CvL.eq ?_|refine Cv.eq ?_)))
      all_goals simp [AV.ren, Se.zero, Kp.pv, insL, delL, List.map_take, List.map_drop]
end Go.Proofs.YtbbcokckealagaaGreat
