/-
  Walks of chapter 41: the bytes of records.
-/
import Derived.Test.YtbbcokckealagaaGreatQAA
import Derived.Test.YtbbcokckealagaaGreatQEG
import Derived.Test.YtbbcokckealagaaGreatQEB
namespace Go.Proofs.YtbbcokckealagaaGreat
set_option linter.unusedVariables false
set_option linter.unusedSimpArgs false
def encSet : List Int → List UInt8
  | [] => []
  | x :: t => le x.toNat 8 ++ encSet t
def encR (r : Rc) : List UInt8 :=
  putT ([] ++ le r.kind.toNat 2 ++ le r.id.toNat 8) r.role ++ le r.dir.toNat 2 ++ le r.ch.toNat 2 ++ le r.rate.toNat 8 ++ le r.lat.toNat 8 ++ le r.n.toNat 2 ++ le r.dev.toNat 8 ++ le r.set.length 2 ++ encSet r.set ++ le r.text.length 2 ++ r.text
structure Fine (r : Rc) : Prop where
  kind : 0 ≤ r.kind ∧ r.kind < 65536
  id : 0 ≤ r.id ∧ r.id < 9223372036854775808
  role : r.role.length ≤ 64
  dir : 0 ≤ r.dir ∧ r.dir < 65536
  ch : 0 ≤ r.ch ∧ r.ch < 65536
  rate : 0 ≤ r.rate ∧ r.rate < 9223372036854775808
  lat : 0 ≤ r.lat ∧ r.lat < 9223372036854775808
  n : 0 ≤ r.n ∧ r.n < 65536
  dev : 0 ≤ r.dev ∧ r.dev < 18446744073709551616
  len : r.set.length < 65536
  set : ∀ x ∈ r.set, 0 ≤ x ∧ x < 18446744073709551616
  text : r.text.length < 65536
set_option maxHeartbeats 4000000 in
theorem short_c (l : List UInt8) (n : Int) (hn : 0 ≤ n ∧ n < 65536) (hl : l.length ≤ 1000000000) : ACalls Tryz.prog 83 [.v (.int .i64 n), .ptr 0 0] [.box [bsl l false]] (.tup []) [.box [bsl (l ++ le n.toNat 2) false]] := by
  have h := Put16_c l false n.toNat (by omega) hl
  rw [show ((n.toNat : Nat) : Int) = n by omega] at h
  refine (ACalls.of (fn := Tryz.f83) Tryz.func83 O O Tryz.ntmps83 (fun I M w own => ?_))
  (repeat' (first|refine AW.region ?_|refine Run.c0 h O O O O O O O O ?_|refine UA ?_|fail))
  ((first|refine RetOk.tupS [0] O O O O O ?_ ?_|refine RetOk.oneS [0] O O O O ?_ ?_)<;>(repeat' (first|exact V0|refine V1 ?_|refine V2 ?_ ?_|fail)))
set_option maxHeartbeats 4000000 in
theorem shortR_c (l : List UInt8) (n : Int) (hn : 0 ≤ n ∧ n < 65536) (hl : l.length ≤ 1000000000) : ACalls Tryz.prog 83 [.v (.int .i64 n), .ptr 0 0] [.box [bsl l false]] (.tup []) [.box [.row 1 (bsP (l ++ le n.toNat 2)).length], .row 1 (bsP (l ++ le n.toNat 2))] := by
  have h := Put16R_c l false n.toNat (by omega) hl
  rw [show ((n.toNat : Nat) : Int) = n by omega] at h
  refine (ACalls.of (fn := Tryz.f83) Tryz.func83 O O Tryz.ntmps83 (fun I M w own => ?_))
  (repeat' (first|refine AW.region ?_|refine Run.cSA [] h O O O O O O O O O O O O ?_|refine UA ?_|fail))
  ((first|refine RetOk.tupS [0, 1] O O O O O ?_ ?_|refine RetOk.oneS [0, 1] O O O O ?_ ?_)<;>(repeat' (first|exact V0|refine V1 ?_|refine V2 ?_ ?_|fail)))
  all_goals first | rfl | (refine Cv.eq ?_; rfl)
set_option maxHeartbeats 4000000 in
theorem long_c (l : List UInt8) (n : Int) (hn : 0 ≤ n ∧ n < 18446744073709551616) (hl : l.length ≤ 1000000000) : ACalls Tryz.prog 85 [.v (.int .u64 n), .ptr 0 0] [.box [bsl l false]] (.tup []) [.box [bsl (l ++ le n.toNat 8) false]] := by
  have h := Put64_c l false n.toNat (by omega) hl
  rw [show ((n.toNat : Nat) : Int) = n by omega] at h
  refine (ACalls.of (fn := Tryz.f85) Tryz.func85 O O Tryz.ntmps85 (fun I M w own => ?_))
  (repeat' (first|refine AW.region ?_|refine Run.c0 h O O O O O O O O ?_|refine UA ?_|fail))
  ((first|refine RetOk.tupS [0] O O O O O ?_ ?_|refine RetOk.oneS [0] O O O O ?_ ?_)<;>(repeat' (first|exact V0|refine V1 ?_|refine V2 ?_ ?_|fail)))
theorem encSet_app : ∀ (a b : List Int), encSet (a ++ b) = encSet a ++ encSet b
  | [], b => rfl
  | x :: t, b => by rw [List.cons_append, encSet, encSet, encSet_app t b, List.append_assoc]
theorem encSet_len : ∀ (a : List Int), (encSet a).length = 8 * a.length
  | [] => rfl
  | x :: t => by rw [encSet, List.length_append, encSet_len t, le_length, List.length_cons]; omega
set_option maxHeartbeats 4000000 in
theorem encode_c (r : Rc) (hf : Fine r) : ACalls Tryz.prog 45 [.agg r.cells] [] (bsl (encR r) false) [] := by
  obtain ⟨f1, f2, f3, f4, f5, f6, f7, f8, f9, f10, f11, f12⟩ := hf
  generalize hE : encR r = E
  rw [encR] at hE
  obtain ⟨kind, id, role, dir, ch, rate, lat, n, dev, set, text⟩ := r
  simp only at f1 f2 f3 f4 f5 f6 f7 f8 f9 f10 f11 f12 hE
  have hsl : (ids set).length = set.length := by simp
  obtain ⟨l1, e1⟩ : ∃ x, x = ([] : List UInt8) ++ le kind.toNat 2 := ⟨_, rfl⟩
  have h1 := short_c [] kind f1 (by simp)
  have n1 : l1.length = 2 := by rw [e1]; simp [le_length]
  rw [← e1] at h1 hE
  obtain ⟨l2, e2⟩ : ∃ x, x = l1 ++ le id.toNat 8 := ⟨_, rfl⟩
  have h2 := long_c l1 id (by omega) (by omega)
  have n2 : l2.length = 10 := by rw [e2]; simp [le_length, n1]
  rw [← e2] at h2 hE
  obtain ⟨l3, e3⟩ : ∃ x, x = putT l2 role := ⟨_, rfl⟩
  have h3 := PutText_c l2 false role f3 (by omega)
  have n3 : l3.length ≤ 100 := by rw [e3, putT_length]; omega
  rw [← e3] at h3 hE
  obtain ⟨l4, e4⟩ : ∃ x, x = l3 ++ le dir.toNat 2 := ⟨_, rfl⟩
  have h4 := short_c l3 dir f4 (by omega)
  have n4 : l4.length ≤ 110 := by rw [e4, List.length_append, le_length]; omega
  rw [← e4] at h4 hE
  obtain ⟨l5, e5⟩ : ∃ x, x = l4 ++ le ch.toNat 2 := ⟨_, rfl⟩
  have h5 := short_c l4 ch f5 (by omega)
  have n5 : l5.length ≤ 120 := by rw [e5, List.length_append, le_length]; omega
  rw [← e5] at h5 hE
  obtain ⟨l6, e6⟩ : ∃ x, x = l5 ++ le rate.toNat 8 := ⟨_, rfl⟩
  have h6 := long_c l5 rate (by omega) (by omega)
  have n6 : l6.length ≤ 130 := by rw [e6, List.length_append, le_length]; omega
  rw [← e6] at h6 hE
  obtain ⟨l7, e7⟩ : ∃ x, x = l6 ++ le lat.toNat 8 := ⟨_, rfl⟩
  have h7 := long_c l6 lat (by omega) (by omega)
  have n7 : l7.length ≤ 140 := by rw [e7, List.length_append, le_length]; omega
  rw [← e7] at h7 hE
  obtain ⟨l8, e8⟩ : ∃ x, x = l7 ++ le n.toNat 2 := ⟨_, rfl⟩
  have h8 := short_c l7 n f8 (by omega)
  have n8 : l8.length ≤ 150 := by rw [e8, List.length_append, le_length]; omega
  rw [← e8] at h8 hE
  obtain ⟨l9, e9⟩ : ∃ x, x = l8 ++ le dev.toNat 8 := ⟨_, rfl⟩
  have h9 := long_c l8 dev (by omega) (by omega)
  have n9 : l9.length ≤ 160 := by rw [e9, List.length_append, le_length]; omega
  rw [← e9] at h9 hE
  obtain ⟨l10, e10⟩ : ∃ x, x = l9 ++ le set.length 2 := ⟨_, rfl⟩
  have h10 := short_c l9 ((ids set).length : Int) (by omega) (by omega)
  have n10 : l10.length ≤ 170 := by rw [e10, List.length_append, le_length]; omega
  have t10 : l9 ++ le (((ids set).length : Nat) : Int).toNat 2 = l10 := by rw [Int.toNat_natCast, hsl, e10]
  rw [t10] at h10
  rw [← e10] at hE
  clear e1 e2 e3 e4 e5 e6 e7 e8 e9 e10 t10
  refine (ACalls.of (fn := Tryz.f45) Tryz.func45 O O Tryz.ntmps45 (fun I M w own => ?_))
  (repeat' (first|refine AW.seq_k (fun K hK=>?_)|(refine hK _ ?_;clear hK)|refine AW.rI [0, 1] O ?_|refine UA ?_|fail))
  refine AW.conv (s' := ⟨[(1, .ptr 0 0), (3, .ptr 1 0)], [.box [.v (.int .i64 kind), .v (.int .i64 id), .v (.string (bs role)), .v (.int .i64 dir), .v (.int .i64 ch), .v (.int .i64 rate), .v (.int .i64 lat), .v (.int .i64 n), .v (.int .u64 dev), .sl 1 (ids set) false, .v (.string (bs text))], .box [bsl [] false]]⟩) (Conv.mk [0, 1] O O O ?_ O ?_) ?_
  · (repeat' (first|exact V0|refine V3 ?_|refine V2 ?_ ?_|fail))
  · (repeat' (first|exact V0|refine V3 ?_|refine V2 ?_ ?_|fail))
  (repeat' (first|refine AW.seq_k (fun K hK=>?_)|(refine hK _ ?_;clear hK)|refine AW.block ?_|refine AW.rI [2, 3, 4, 5, 6, 7, 8, 9, 10, 11, 12, 13, 14] O ?_|refine Run.cSA [1] h1 O O O O O O O O O O O O ?_|refine Run.cSA [1] h2 O O O O O O O O O O O O ?_|refine Run.c0 h3 O O O O O O O O ?_|refine Run.cSA [1] h4 O O O O O O O O O O O O ?_|refine Run.cSA [1] h5 O O O O O O O O O O O O ?_|refine Run.cSA [1] h6 O O O O O O O O O O O O ?_|refine Run.cSA [1] h7 O O O O O O O O O O O O ?_|refine Run.cSA [1] h8 O O O O O O O O O O O O ?_|refine Run.cSA [1] h9 O O O O O O O O O O O O ?_|refine Run.cSA [1] h10 O O O O O O O O O O O O ?_|refine UA ?_|fail))
  refine AW.loopF (X := Nat × List UInt8) (fun y => ⟨[(1, .ptr 0 0), (3, .ptr 1 0), (4, .fn 83 [.ptr 1 0]), (5, .fn 85 [.ptr 1 0]), (58, .sl 1 (ids set) false), (59, .v (.int .i64 ((ids set).length : Int))), (60, .v (.int .i64 (y.1 : Int)))], [.box [.v (.int .i64 kind), .v (.int .i64 id), .v (.string (bs role)), .v (.int .i64 dir), .v (.int .i64 ch), .v (.int .i64 rate), .v (.int .i64 lat), .v (.int .i64 n), .v (.int .u64 dev), .sl 1 (ids set) false, .v (.string (bs text))], .box [bsl y.2 false]]⟩)
    (fun y => y.1 ≤ set.length ∧ y.2 = l10 ++ encSet (set.take y.1)) (fun y => set.length - y.1) (0, l10) ?_ ⟨Nat.zero_le _, by simp [encSet]⟩ ?_
  · refine Conv.mk [0, 1] O O O ?_ O ?_
    · (repeat' (first|exact V0|refine V3 ?_|refine V2 ?_ ?_|fail))
    · (repeat' (first|exact V0|refine V3 ?_|refine V2 ?_ ?_|fail))
  rintro ⟨i, L⟩ ⟨i1, i2⟩
  simp only at i1 i2 ⊢
  have hL : L.length = l10.length + 8 * i := by rw [i2, List.length_append, encSet_len, List.length_take]; omega
  rcases Nat.lt_or_ge i set.length with h | h
  · obtain ⟨x, hx⟩ : ∃ x, set[i]? = some x := ⟨set[i], by simp [h]⟩
    have hA : At (ids set) (i : Int) [PV.v (.int .u64 x)] := At.mk i O (by simp [hx])
    have hlt : (i : Int) < ((ids set).length : Int) := by omega
    have h11 := long_c L x (f11 x (List.mem_of_getElem? hx)) (by omega)
    have t11 : L ++ le x.toNat 8 = l10 ++ encSet (set.take (i + 1)) := by
      rw [List.take_add_one, hx, encSet_app, i2, List.append_assoc]
      simp [encSet]
    (repeat' (first|refine AW.seq_k (fun K hK=>?_)|(refine hK _ ?_;clear hK)|refine AW.uC (fun hc=>?_) (fun hc=>?_)|refine AW.block ?_|refine AW.skip ?_|exact trivial|refine AW.rI [15, 16, 17, 18] O ?_|refine Run.cSA [1] h11 O O O O O O O O O O O O ?_|refine Ud ?_|fail))
    ((repeat (with_reducible refine inB_n ?_)); refine thenA_n ?_)
    refine ⟨(i + 1, L ++ le x.toNat 8), ⟨h, t11⟩, by simp only; omega, ?_⟩
    refine Conv.mk [0, 1] O O O ?_ O ?_
    · (repeat' (first|exact V0|refine V3 ?_|refine V2 ?_ ?_|fail))
      all_goals first | rfl | (refine Cv.eq ?_; simp [AV.ren, renL]; done)
    · (repeat' (first|exact V0|refine V3 ?_|refine V2 ?_ ?_|fail))
  · have hge : ¬ (i : Int) < ((ids set).length : Int) := by omega
    obtain rfl : i = set.length := by omega
    rw [List.take_length] at i2
    rw [← i2] at hE
    have h12 := shortR_c L (text.length : Int) (by omega) (by omega)
    rw [Int.toNat_natCast] at h12
    have hle2 : (le text.length 2).length = 2 := le_length _ _
    (repeat' (first|refine AW.seq_k (fun K hK=>?_)|(refine hK _ ?_;clear hK)|refine AW.uC (fun hc=>?_) (fun hc=>?_)|refine AW.exit ?_|refine AW.ret ?_|(clear hK;refine hK _ ?_;clear hK)|exact trivial|refine AW.rI [15, 19, 20] O ?_|refine Run.cSA [1] h12 O O O O O O O O O O O O ?_|refine Ud ?_|fail))
    ((first|refine RetOk.tup O O ?_|refine RetOk.one O ?_)<;>(repeat' (first|exact V0|refine V1 ?_|refine V2 ?_ ?_|fail)))
    all_goals (rw [← hE]; simp)
def Rwf (r : Rc) : Prop := (0 ≤ r.dev ∧ r.dev < 18446744073709551616) ∧ ∀ x ∈ r.set, 0 ≤ x ∧ x < 18446744073709551616
set_option maxHeartbeats 4000000 in
theorem proper_fine {okT : List UInt8 → Bool} {r : Rc} (h : properR okT r = true) (hw : Rwf r) : Fine r := by
  rw [properR, Bool.and_eq_true, decide_eq_true_eq] at h
  obtain ⟨ha, h⟩ := h
  obtain ⟨w1, w2⟩ := hw
  have b1 := congrArg Rc.role ha
  have b2 := congrArg Rc.dir ha
  have b3 := congrArg Rc.ch ha
  have b4 := congrArg Rc.rate ha
  have b5 := congrArg Rc.lat ha
  have b6 := congrArg Rc.n ha
  have b7 := congrArg Rc.dev ha
  have b8 := congrArg Rc.set ha
  have b9 := congrArg Rc.text ha
  have b0 := congrArg Rc.id ha
  clear ha
  obtain ⟨kind, id, role, dir, ch, rate, lat, n, dev, set, text⟩ := r
  simp only at h w1 w2 b1 b2 b3 b4 b5 b6 b7 b8 b9 b0
  by_cases k1 : kind = 1
  · subst k1
    simp only [aloneP, if_true, Bool.and_eq_true, decide_eq_true_eq] at h b6 b7 b8 b9
    obtain ⟨h1, h2, h3, h4, h5, h6⟩ := h
    have hr : role.length ≤ 64 := by
      simp only [nameB, Bool.and_eq_true, decide_eq_true_eq] at h2
      exact h2.2.2
    subst b6 b7 b8 b9
    exact ⟨by simp, by simp only; omega, hr, by simp only; omega, by simp only; omega, by simp only; omega, by simp only; omega, by simp, by simp, by simp, by simp, by simp⟩
  by_cases k2 : kind = 2
  · subst k2
    simp [aloneP] at h b1 b2 b3 b4 b5 b6 b7 b8 b9
    subst b1 b2 b3 b4 b5 b6 b7 b8 b9
    exact ⟨by simp, by simp only; omega, by simp, by simp, by simp, by simp, by simp, by simp, by simp, by simp, by simp, by simp⟩
  by_cases k3 : kind = 3
  · subst k3
    simp [aloneP] at h b1 b2 b3 b4 b5 b7 b8 b9
    subst b1 b2 b3 b4 b5 b7 b8 b9
    exact ⟨by simp, by simp only; omega, by simp, by simp, by simp, by simp, by simp, by simp only; omega, by simp, by simp, by simp, by simp⟩
  by_cases k4 : kind = 4
  · subst k4
    simp [aloneP] at h b1 b2 b3 b4 b5 b7 b8 b9
    subst b1 b2 b3 b4 b5 b7 b8 b9
    exact ⟨by simp, by simp only; omega, by simp, by simp, by simp, by simp, by simp, by simp only; omega, by simp, by simp, by simp, by simp⟩
  by_cases k5 : kind = 5
  · subst k5
    simp [aloneP] at h b1 b2 b3 b4 b5 b6 b8 b9
    subst b1 b2 b3 b4 b5 b6 b8 b9
    exact ⟨by simp, by simp only; omega, by simp, by simp, by simp, by simp, by simp, by simp, w1, by simp, by simp, by simp⟩
  by_cases k6 : kind = 6
  · subst k6
    simp [aloneP] at h b0 b2 b3 b4 b5 b6 b9
    subst b0 b2 b3 b4 b5 b6 b9
    have h2 := proper_small h.1
    have h3 := h.1
    simp only [properB, nameB, Bool.and_eq_true, decide_eq_true_eq] at h3
    exact ⟨by simp, by simp, by simp only; omega, by simp, by simp, by simp, by simp, by simp, w1, by simp only at h2 ⊢; omega, w2, by simp⟩
  by_cases k7 : kind = 7
  · subst k7
    simp [aloneP] at h b0 b1 b2 b3 b4 b5 b6 b7 b8
    subst b0 b1 b2 b3 b4 b5 b6 b7 b8
    exact ⟨by simp, by simp, by simp, by simp, by simp, by simp, by simp, by simp, by simp, by simp, by simp, by simp only; omega⟩
  · simp [k1, k2, k3, k4, k5, k6, k7] at h
def encE (r : Rc) : AV := if properR okR r = true then .tup [bsl (encR r) false, .v (.int .i64 0)] else .tup [.v (.slice none 0 0), .v (.int .i64 1)]
set_option maxHeartbeats 4000000 in
theorem sEncode_c (r : Rc) (ho : r.ok) (hw : Rwf r) (ht : r.text.length ≤ 1099511627776) : ACalls Tryz.prog 19 [.agg r.cells] [] (encE r) [] := by
  have hp := sProper_c okR r ho (ps_prog r ht)
  rw [encE]
  cases hq : properR okR r with
  | false =>
    rw [hq] at hp
    rw [if_neg (by decide)]
    refine (ACalls.of (fn := Tryz.f19) Tryz.func19 O O Tryz.ntmps19 (fun I M w own => ?_))
    (repeat' (first|refine AW.seq_k (fun K hK=>?_)|(refine hK _ ?_;clear hK)|refine AW.uC (fun hc=>?_) (fun hc=>?_)|refine AW.ret ?_|exact trivial|refine AW.rI [0, 1, 2] O ?_|refine Run.c0 hp O O O O O O O O ?_|refine UA ?_|fail))
    ((first|refine RetOk.tup O O ?_|refine RetOk.one O ?_)<;>(repeat' (first|exact V0|refine V1 ?_|refine V2 ?_ ?_|fail)))
  | true =>
    rw [hq] at hp
    rw [if_pos O]
    have he := encode_c r (proper_fine hq hw)
    refine (ACalls.of (fn := Tryz.f19) Tryz.func19 O O Tryz.ntmps19 (fun I M w own => ?_))
    (repeat' (first|refine AW.seq_k (fun K hK=>?_)|(refine hK _ ?_;clear hK)|refine AW.uC (fun hc=>?_) (fun hc=>?_)|refine AW.ret ?_|refine AW.skip ?_|exact trivial|refine AW.rI [0, 1, 3] O ?_|refine Run.c0 hp O O O O O O O O ?_|refine Run.c0 he O O O O O O O O ?_|refine UA ?_|fail))
    ((first|refine RetOk.tup O O ?_|refine RetOk.one O ?_)<;>(repeat' (first|exact V0|refine V1 ?_|refine V2 ?_ ?_|fail)))
structure Cu where
  off : Int
  er : Int
abbrev cuR (b : List UInt8) (s : Cu) : List Res := [.box [bsl b false, .v (.int .i64 s.off), .v (.int .i64 s.er)]]
abbrev cuQ (b : List UInt8) (s : Cu) : List Res := [.box [bsl b false, .v (.int .i64 s.off), .v (.bool (decide (s.er ≠ 0)))]]
def curN (b : List UInt8) (k : Nat) (s : Cu) : Nat × Cu :=
  if s.er ≠ 0 then (0, s) else if (getM b s.off k).2.2 ≠ 0 then (0, ⟨s.off, (getM b s.off k).2.2⟩) else ((getM b s.off k).1, ⟨(getM b s.off k).2.1, 0⟩)
def curT (b : List UInt8) (s : Cu) : List UInt8 × Cu :=
  if s.er ≠ 0 then ([], s) else if (textM b s.off).2.2 ≠ 0 then ([], ⟨s.off, (textM b s.off).2.2⟩) else ((textM b s.off).1, ⟨(textM b s.off).2.1, 0⟩)
def Cu.ok (b : List UInt8) (s : Cu) : Prop := 0 ≤ s.off ∧ s.off ≤ b.length
theorem getM_ok {b : List UInt8} {a : Int} {k : Nat} (h : (getM b a k).2.2 = 0) : 0 ≤ a ∧ (getM b a k).2.1 = a + k ∧ a + k ≤ b.length := by
  unfold getM at h ⊢
  split at h
  · simp at h
  · rename_i h1
    split at h
    · simp at h
    · rename_i h2
      rw [if_neg h1, if_neg h2]
      exact ⟨by omega, rfl, by omega⟩
theorem textM_ok {b : List UInt8} {a : Int} (h : (textM b a).2.2 = 0) : 0 ≤ (textM b a).2.1 ∧ (textM b a).2.1 ≤ b.length := by
  unfold textM at h ⊢
  split at h
  · simp at h
  · rename_i h1
    rw [if_neg h1]
    cases hx : b[a.toNat]? with
    | none => rw [hx] at h; simp at h
    | some c =>
      rw [hx] at h
      simp only at h ⊢
      split at h
      · simp at h
      · rename_i h2
        rw [if_neg h2]
        split at h
        · simp at h
        · rename_i h3
          rw [if_neg h3]
          simp only
          omega
theorem curN_ok {b : List UInt8} {k : Nat} {s : Cu} (h : s.ok b) : (curN b k s).2.ok b := by
  rw [curN]
  split
  · exact h
  split
  · exact h
  · rename_i h2
    have := getM_ok (Decidable.not_not.1 h2)
    exact ⟨by simp only; omega, by simp only; omega⟩
theorem curT_ok {b : List UInt8} {s : Cu} (h : s.ok b) : (curT b s).2.ok b := by
  rw [curT]
  split
  · exact h
  split
  · exact h
  · rename_i h2
    exact textM_ok (Decidable.not_not.1 h2)
set_option maxHeartbeats 4000000 in
theorem next16_c (b : List UInt8) (s : Cu) (hb : b.length ≤ 1000000000) (hs : s.ok b) : ACalls Tryz.prog 134 [.ptr 0 0, .fn 135 []] (cuR b s) (.v (.int .u16 ((curN b 2 s).1 : Int))) (cuR b (curN b 2 s).2) := by
  have hg := Get16_c b false s.off (by have := hs.1; have := hs.2; omega) hb
  generalize hq : curN b 2 s = q
  rw [curN] at hq
  generalize getM b s.off 2 = g at hg hq
  obtain ⟨g1, g2, g3⟩ := g
  obtain ⟨off, er⟩ := s
  simp only at hg hq
  refine (ACalls.of (fn := Tryz.f134) Tryz.func134 O O Tryz.ntmps134 (fun I M w own => ?_))
  by_cases he : er ≠ 0
  · rw [if_pos he] at hq
    subst hq
    (repeat' (first|refine AW.seq_k (fun K hK=>?_)|(refine hK _ ?_;clear hK)|refine AW.uC (fun hc=>?_) (fun hc=>?_)|refine AW.ret ?_|exact trivial|refine AW.rI [0, 1, 2, 3] O ?_|refine Ud ?_|fail))
    ((first|refine RetOk.tupS [0] O O O O O ?_ ?_|refine RetOk.oneS [0] O O O O ?_ ?_)<;>(repeat' (first|exact V0|refine V1 ?_|refine V2 ?_ ?_|fail)))
  rw [if_neg he] at hq
  by_cases h3 : g3 ≠ 0
  · rw [if_pos h3] at hq
    subst hq
    (repeat' (first|refine AW.seq_k (fun K hK=>?_)|(refine hK _ ?_;clear hK)|refine AW.uC (fun hc=>?_) (fun hc=>?_)|refine AW.ret ?_|refine AW.skip ?_|exact trivial|refine AW.draw (id := 4) (by kernel_rfl) ?_|refine AW.rI [0, 1, 2, 5, 6, 7] O ?_|refine Run.c0 hg O O O O O O O O ?_|refine Ud ?_|fail))
    ((first|refine RetOk.tupS [0] O O O O O ?_ ?_|refine RetOk.oneS [0] O O O O ?_ ?_)<;>(repeat' (first|exact V0|refine V1 ?_|refine V2 ?_ ?_|fail)))
  · rw [if_neg h3] at hq
    subst hq
    have h30 : g3 = 0 := Decidable.not_not.1 h3
    subst h30
    (repeat' (first|refine AW.seq_k (fun K hK=>?_)|(refine hK _ ?_;clear hK)|refine AW.uC (fun hc=>?_) (fun hc=>?_)|refine AW.ret ?_|refine AW.skip ?_|exact trivial|refine AW.draw (id := 4) (by kernel_rfl) ?_|refine AW.rI [0, 1, 2, 5, 6, 8, 9] O ?_|refine Run.c0 hg O O O O O O O O ?_|refine Ud ?_|fail))
    ((first|refine RetOk.tupS [0] O O O O O ?_ ?_|refine RetOk.oneS [0] O O O O ?_ ?_)<;>(repeat' (first|exact V0|refine V1 ?_|refine V2 ?_ ?_|fail)))
set_option maxHeartbeats 4000000 in
theorem next64_c (b : List UInt8) (s : Cu) (hb : b.length ≤ 1000000000) (hs : s.ok b) : ACalls Tryz.prog 136 [.ptr 0 0, .fn 137 []] (cuR b s) (.v (.int .u64 ((curN b 8 s).1 : Int))) (cuR b (curN b 8 s).2) := by
  have hg := Get64_c b false s.off (by have := hs.1; have := hs.2; omega) hb
  generalize hq : curN b 8 s = q
  rw [curN] at hq
  generalize getM b s.off 8 = g at hg hq
  obtain ⟨g1, g2, g3⟩ := g
  obtain ⟨off, er⟩ := s
  simp only at hg hq
  refine (ACalls.of (fn := Tryz.f136) Tryz.func136 O O Tryz.ntmps136 (fun I M w own => ?_))
  by_cases he : er ≠ 0
  · rw [if_pos he] at hq
    subst hq
    (repeat' (first|refine AW.seq_k (fun K hK=>?_)|(refine hK _ ?_;clear hK)|refine AW.uC (fun hc=>?_) (fun hc=>?_)|refine AW.ret ?_|exact trivial|refine AW.rI [0, 1, 2, 3] O ?_|refine Ud ?_|fail))
    ((first|refine RetOk.tupS [0] O O O O O ?_ ?_|refine RetOk.oneS [0] O O O O ?_ ?_)<;>(repeat' (first|exact V0|refine V1 ?_|refine V2 ?_ ?_|fail)))
  rw [if_neg he] at hq
  by_cases h3 : g3 ≠ 0
  · rw [if_pos h3] at hq
    subst hq
    (repeat' (first|refine AW.seq_k (fun K hK=>?_)|(refine hK _ ?_;clear hK)|refine AW.uC (fun hc=>?_) (fun hc=>?_)|refine AW.ret ?_|refine AW.skip ?_|exact trivial|refine AW.draw (id := 4) (by kernel_rfl) ?_|refine AW.rI [0, 1, 2, 5, 6, 7] O ?_|refine Run.c0 hg O O O O O O O O ?_|refine Ud ?_|fail))
    ((first|refine RetOk.tupS [0] O O O O O ?_ ?_|refine RetOk.oneS [0] O O O O ?_ ?_)<;>(repeat' (first|exact V0|refine V1 ?_|refine V2 ?_ ?_|fail)))
  · rw [if_neg h3] at hq
    subst hq
    have h30 : g3 = 0 := Decidable.not_not.1 h3
    subst h30
    (repeat' (first|refine AW.seq_k (fun K hK=>?_)|(refine hK _ ?_;clear hK)|refine AW.uC (fun hc=>?_) (fun hc=>?_)|refine AW.ret ?_|refine AW.skip ?_|exact trivial|refine AW.draw (id := 4) (by kernel_rfl) ?_|refine AW.rI [0, 1, 2, 5, 6, 8, 9] O ?_|refine Run.c0 hg O O O O O O O O ?_|refine Ud ?_|fail))
    ((first|refine RetOk.tupS [0] O O O O O ?_ ?_|refine RetOk.oneS [0] O O O O ?_ ?_)<;>(repeat' (first|exact V0|refine V1 ?_|refine V2 ?_ ?_|fail)))
set_option maxHeartbeats 4000000 in
theorem nextT_c (b : List UInt8) (s : Cu) (hb : b.length ≤ 1000000000) (hs : s.ok b) : ACalls Tryz.prog 105 [.ptr 0 0, .fn 106 []] (cuR b s) (.v (.string (bs (curT b s).1))) (cuR b (curT b s).2) := by
  have hg := GetText_c b false s.off (by have := hs.1; have := hs.2; omega) hb
  generalize hq : curT b s = q
  rw [curT] at hq
  generalize textM b s.off = g at hg hq
  obtain ⟨g1, g2, g3⟩ := g
  obtain ⟨off, er⟩ := s
  simp only at hg hq
  refine (ACalls.of (fn := Tryz.f105) Tryz.func105 O O Tryz.ntmps105 (fun I M w own => ?_))
  by_cases he : er ≠ 0
  · rw [if_pos he] at hq
    subst hq
    (repeat' (first|refine AW.seq_k (fun K hK=>?_)|(refine hK _ ?_;clear hK)|refine AW.uC (fun hc=>?_) (fun hc=>?_)|refine AW.ret ?_|exact trivial|refine AW.rI [0, 1, 2, 3] O ?_|refine Ud ?_|fail))
    ((first|refine RetOk.tupS [0] O O O O O ?_ ?_|refine RetOk.oneS [0] O O O O ?_ ?_)<;>(repeat' (first|exact V0|refine V1 ?_|refine V2 ?_ ?_|fail)))
  rw [if_neg he] at hq
  by_cases h3 : g3 ≠ 0
  · rw [if_pos h3] at hq
    subst hq
    (repeat' (first|refine AW.seq_k (fun K hK=>?_)|(refine hK _ ?_;clear hK)|refine AW.uC (fun hc=>?_) (fun hc=>?_)|refine AW.ret ?_|refine AW.skip ?_|exact trivial|refine AW.draw (id := 4) (by kernel_rfl) ?_|refine AW.rI [0, 1, 2, 5, 6, 7] O ?_|refine Run.c0 hg O O O O O O O O ?_|refine Ud ?_|fail))
    ((first|refine RetOk.tupS [0] O O O O O ?_ ?_|refine RetOk.oneS [0] O O O O ?_ ?_)<;>(repeat' (first|exact V0|refine V1 ?_|refine V2 ?_ ?_|fail)))
  · rw [if_neg h3] at hq
    subst hq
    have h30 : g3 = 0 := Decidable.not_not.1 h3
    subst h30
    (repeat' (first|refine AW.seq_k (fun K hK=>?_)|(refine hK _ ?_;clear hK)|refine AW.uC (fun hc=>?_) (fun hc=>?_)|refine AW.ret ?_|refine AW.skip ?_|exact trivial|refine AW.draw (id := 4) (by kernel_rfl) ?_|refine AW.rI [0, 1, 2, 5, 6, 8, 9] O ?_|refine Run.c0 hg O O O O O O O O ?_|refine Ud ?_|fail))
    ((first|refine RetOk.tupS [0] O O O O O ?_ ?_|refine RetOk.oneS [0] O O O O ?_ ?_)<;>(repeat' (first|exact V0|refine V1 ?_|refine V2 ?_ ?_|fail)))
theorem curN_lt (b : List UInt8) (k : Nat) (s : Cu) : (curN b k s).1 < 256 ^ k := by
  rw [curN]
  split
  · exact Nat.pos_of_ne_zero (by simp)
  split
  · exact Nat.pos_of_ne_zero (by simp)
  · exact getM_lt b s.off k
set_option maxHeartbeats 4000000 in
theorem cshort_c (b : List UInt8) (s : Cu) (hb : b.length ≤ 1000000000) (hs : s.ok b) : ACalls Tryz.prog 103 [.ptr 0 0] (cuR b s) (.v (.int .i64 ((curN b 2 s).1 : Int))) (cuR b (curN b 2 s).2) := by
  have h := next16_c b s hb hs
  have hl := curN_lt b 2 s
  generalize curN b 2 s = q at h hl
  refine (ACalls.of (fn := Tryz.f103) Tryz.func103 O O Tryz.ntmps103 (fun I M w own => ?_))
  (repeat' (first|refine AW.seq_k (fun K hK=>?_)|(refine hK _ ?_;clear hK)|refine AW.ret ?_|refine AW.region ?_|refine Run.cSA [0] h O O O O O O O O O O O O ?_|refine UA ?_|fail))
  ((first|refine RetOk.tupS [0] O O O O O ?_ ?_|refine RetOk.oneS [0] O O O O ?_ ?_)<;>(repeat' (first|exact V0|refine V1 ?_|refine V2 ?_ ?_|fail)))
set_option maxHeartbeats 4000000 in
theorem clong_c (b : List UInt8) (s : Cu) (hb : b.length ≤ 1000000000) (hs : s.ok b) : ACalls Tryz.prog 104 [.ptr 0 0] (cuR b s) (.v (.int .u64 ((curN b 8 s).1 : Int))) (cuR b (curN b 8 s).2) := by
  have h := next64_c b s hb hs
  refine (ACalls.of (fn := Tryz.f104) Tryz.func104 O O Tryz.ntmps104 (fun I M w own => ?_))
  (repeat' (first|refine AW.seq_k (fun K hK=>?_)|(refine hK _ ?_;clear hK)|refine AW.ret ?_|refine AW.region ?_|refine Run.cSA [0] h O O O O O O O O O O O O ?_|refine UA ?_|fail))
  ((first|refine RetOk.tupS [0] O O O O O ?_ ?_|refine RetOk.oneS [0] O O O O ?_ ?_)<;>(repeat' (first|exact V0|refine V1 ?_|refine V2 ?_ ?_|fail)))
end Go.Proofs.YtbbcokckealagaaGreat
