/-
  Walks of journals: the reference's readers, and its appending.
-/
import Derived.Test.YtbbcokckealagaaGreatQAA
import Derived.Test.YtbbcokckealagaaGreatQFA
namespace Go.Proofs.YtbbcokckealagaaGreat
set_option linter.unusedVariables false
set_option linter.unusedSimpArgs false
set_option maxHeartbeats 4000000 in
theorem jhash_c (q : Nat) (hq : q < 18446744073709551616) (l : List UInt8) (f : Bool) (hl : l.length ≤ 4096) : ACalls Tryz.prog 65 [.v (.int .u64 (q : Int)), bsl l f] [] (.v (.int .u64 (fnvOf (le q 8 ++ (le l.length 2 ++ l)) : Int))) [] := by
  have hP := (rPut64_c [] false q hq (by simp)).weak (args' := [.v (.slice none 0 0), .v (.int .u64 (q : Int))]) (.cons .nil (.cons .same .nil))
  rw [List.nil_append] at hP
  have hbl : (bsP l).length = l.length := by simp
  have l8 : (le q 8).length = 8 := le_length q 8
  have l2 : (le l.length 2).length = 2 := le_length _ 2
  have l3 : (le (bsP l).length 2).length = 2 := le_length _ 2
  have hQ := rPut16R_c (le q 8) false (bsP l).length (by omega) (by simp [le_length])
  have hH := rhash_wc (le q 8 ++ (le l.length 2 ++ l)) false (by simp [le_length]; omega)
  generalize fnvOf (le q 8 ++ (le l.length 2 ++ l)) = F at hH
  have e : bsP (le q 8 ++ (le l.length 2 ++ l)) = bsP (le q 8 ++ le l.length 2) ++ bsP l := by simp
  unfold bsl at hH
  rw [e, ← hbl] at hH
  have hH3 := ACalls.rowArg0 hH O
  have h8 : (bsP (le q 8 ++ le (bsP l).length 2)).length = 10 := by simp [le_length]
  refine (ACalls.of (fn := Tryz.f65) Tryz.func65 O O Tryz.ntmps65 (fun I M w own => ?_))
  (repeat' (first|refine AW.seq_k (fun K hK=>?_)|(refine hK _ ?_;clear hK)|refine AW.ret ?_|refine AW.region ?_|refine Run.c0 hP O O O O O O O O ?_|refine Run.cSA [] hQ O O O O O O O O O O O O ?_|refine Run.cSA [0] hH3 O O O O O O O O O O O O ?_|refine Ud ?_|fail))
  ((first|refine RetOk.tupS [] O O O O O ?_ ?_|refine RetOk.oneS [] O O O O ?_ ?_)<;>(repeat' (first|exact V0|refine V1 ?_|refine V2 ?_ ?_|fail)))
set_option maxHeartbeats 4000000 in
theorem jall_c (b : List UInt8) (f : Bool) (hl : b.length ≤ 1000000) : ACalls Tryz.prog 62 [bsl b f] [] (.tup [.row 0 (frB (jr b 0).1).length, .v (.int .i64 ((jr b 0).2.1 : Int)), .v (.int .u64 ((jr b 0).2.2.1 : Int)), .v (.int .i64 (jr b 0).2.2.2)]) [.row 1 (frB (jr b 0).1)] := by
  have hR0 : jrThen [] 0 (jr (b.drop 0) 0) = jr b 0 := jrThen_nil _
  generalize jr b 0 = R at hR0
  have hbl : (bsP b).length = b.length := by simp
  refine (ACalls.of (fn := Tryz.f62) Tryz.func62 O O Tryz.ntmps62 (fun I M w own => ?_))
  (repeat' (first|refine AW.seq_k (fun K hK=>?_)|(refine hK _ ?_;clear hK)|refine AW.block ?_|refine AW.rI [0, 1, 2] O ?_|refine UA ?_|fail))
  refine AW.loopF (X := List (List UInt8) × Nat × Nat) (fun x => ⟨[(0, bsl b f), (6, .row 0 (frB x.1).length), (7, .v (.int .i64 (x.2.1 : Int))), (8, .v (.int .u64 (x.2.2 : Int)))], [.row 1 (frB x.1)]⟩)
    (fun x => x.1.length ≤ x.2.1 ∧ x.2.1 ≤ b.length ∧ x.2.2 < 18446744073709551616 ∧ jrThen x.1 x.2.1 (jr (b.drop x.2.1) x.2.2) = R) (fun x => b.length - x.2.1) ([], 0, 0) ?_ ?_ ?_
  · refine Conv.own 6 1 [] (Or.inr ⟨rfl, rfl⟩) ?_
    refine Conv.mk [0] O O O ?_ O ?_
    (repeat' (first|exact V0|refine V3 ?_|refine V2 ?_ ?_|fail))
    (all_goals (try (first|refine CvL.eq ?_|refine Cv.eq ?_)))
    all_goals simp [AV.ren, AV.rens, renL, frB]
  · exact ⟨by simp, by simp, by decide, hR0⟩
  · rintro ⟨out, k, last⟩ ⟨g0, g1, g2, g3⟩
    dsimp only at g0 g1 g2 g3
    rcases Nat.eq_or_lt_of_le g1 with hk | hk
    · subst hk
      rw [List.drop_eq_nil_of_le (Nat.le_refl _), jr_inl (jone_end O), show ∀ e : Int, jrThen out b.length ([], 0, last, e) = (out, b.length, last, e) from fun e => by simp [jrThen]] at g3
      subst g3
      have hk' : ¬ (((out, b.length, last) : List (List UInt8) × Nat × Nat).snd.fst : Int) < ((bsP b).length : Int) := by rw [hbl]; exact Int.lt_irrefl _
      (repeat' (first|refine AW.seq_k (fun K hK=>?_)|(refine hK _ ?_;clear hK)|refine AW.uC (fun hc=>?_) (fun hc=>?_)|refine AW.exit ?_|refine AW.ret ?_|(clear hK;refine hK _ ?_;clear hK)|exact trivial|refine AW.rI [3, 17] O ?_|refine UA ?_|fail))
      ((first|refine RetOk.tupS [0] O O O O O ?_ ?_|refine RetOk.oneS [0] O O O O ?_ ?_)<;>(repeat' (first|exact V0|refine V1 ?_|refine V2 ?_ ?_|fail)))
      all_goals rfl
    have hdr : List.drop ((k : Int)).toNat (bsP b) = bsP (b.drop k) := by rw [Int.toNat_natCast, jbP_drop]
    have hk' : (((out, k, last) : List (List UInt8) × Nat × Nat).snd.fst : Int) < ((bsP b).length : Int) := by rw [hbl]; exact Int.ofNat_lt.2 hk
    (repeat' (first|refine AW.seq_k (fun K hK=>?_)|(refine hK _ ?_;clear hK)|refine AW.uC (fun hc=>?_) (fun hc=>?_)|refine AW.block ?_|refine AW.skip ?_|exact trivial|refine AW.rI [3, 4] O ?_|refine UA ?_|fail))
    rw [show List.drop (((out, k, last) : List (List UInt8) × Nat × Nat).snd.fst : Int).toNat (bsP b) = bsP (b.drop k) from hdr]
    have hrl : (b.drop k).length = b.length - k := by simp
    have hst := fun x h => @jrThen_step b out k last x h
    generalize hr : b.drop k = r at hrl g3 hst
    have hrl2 : (bsP r).length = r.length := by simp
    rcases Nat.lt_or_ge r.length 10 with h10 | h10
    · rw [jr_inl (jone_short (by omega) h10), show ∀ e : Int, jrThen out k ([], 0, last, e) = (out, k, last, e) from fun e => by simp [jrThen]] at g3
      subst g3
      (repeat' (first|refine AW.seq_k (fun K hK=>?_)|(refine hK _ ?_;clear hK)|refine AW.uC (fun hc=>?_) (fun hc=>?_)|refine AW.ret ?_|exact trivial|refine AW.rI [5, 6] O ?_|refine UA ?_|fail))
      ((first|refine RetOk.tupS [0] O O O O O ?_ ?_|refine RetOk.oneS [0] O O O O ?_ ?_)<;>(repeat' (first|exact V0|refine V1 ?_|refine V2 ?_ ?_|fail)))
      all_goals rfl
    have hG := rGet16_c r false 0 (by omega) (by omega)
    rw [show (0 : Int) = ((0 : Nat) : Int) from rfl, getM_in r 0 _ (by omega)] at hG
    have hv2 := unle2_lt r
    have hse : seg r 0 2 = le (unle (seg r 0 2)) 2 := by
      have := le_unle (seg r 0 2)
      rwa [seg_length _ _ _ (by omega), eq_comm] at this
    generalize hv : unle (seg r 0 2) = v at hG hv2 hse
    dsimp only at hG
    rcases Nat.lt_or_ge 4096 v with h4 | h4
    · rw [jr_inl (jone_limit h10 hv h4), show ∀ e : Int, jrThen out k ([], 0, last, e) = (out, k, last, e) from fun e => by simp [jrThen]] at g3
      subst g3
      (repeat' (first|refine AW.seq_k (fun K hK=>?_)|(refine hK _ ?_;clear hK)|refine AW.uC (fun hc=>?_) (fun hc=>?_)|refine AW.ret ?_|refine AW.skip ?_|exact trivial|refine AW.rI [5, 7, 8, 9] O ?_|refine Run.c0 hG O O O O O O O O ?_|refine UA ?_|fail))
      ((first|refine RetOk.tupS [0] O O O O O ?_ ?_|refine RetOk.oneS [0] O O O O ?_ ?_)<;>(repeat' (first|exact V0|refine V1 ?_|refine V2 ?_ ?_|fail)))
      all_goals rfl
    rcases Nat.lt_or_ge r.length (v + 10) with h5 | h5
    · rw [jr_inl (jone_short2 h10 hv h4 h5), show ∀ e : Int, jrThen out k ([], 0, last, e) = (out, k, last, e) from fun e => by simp [jrThen]] at g3
      subst g3
      (repeat' (first|refine AW.seq_k (fun K hK=>?_)|(refine hK _ ?_;clear hK)|refine AW.uC (fun hc=>?_) (fun hc=>?_)|refine AW.ret ?_|refine AW.skip ?_|exact trivial|refine AW.rI [5, 7, 8, 10, 11] O ?_|refine Run.c0 hG O O O O O O O O ?_|refine UA ?_|fail))
      ((first|refine RetOk.tupS [0] O O O O O ?_ ?_|refine RetOk.oneS [0] O O O O ?_ ?_)<;>(repeat' (first|exact V0|refine V1 ?_|refine V2 ?_ ?_|fail)))
      all_goals rfl
    have hl2 : (seg r 2 v).length = v := seg_length _ _ _ (by omega)
    have hsp : seg r 0 (v + 2) = le v 2 ++ seg r 2 v := by rw [Nat.add_comm, seg_split, hse]
    have hS := jhash_c last g2 (seg r 2 v) false (by omega)
    rw [hl2, ← hsp] at hS
    have hG2 := rGet64_c r false ((v + 2 : Nat) : Int) (by omega) (by omega)
    rw [getM_in r (v + 2) 8 (by omega)] at hG2
    have hok := @jone_ok r last v hv h4 h5
    have hbad := @jone_bad r last v hv h4 h5
    have hF := fnvOf_lt (le last 8 ++ seg r 0 (v + 2))
    generalize fnvOf (le last 8 ++ seg r 0 (v + 2)) = F at hS hok hbad hF
    have hU := unle_lt (seg r (v + 2) 8)
    rw [seg_length _ _ _ (by omega)] at hU
    generalize unle (seg r (v + 2) 8) = U at hG2 hok hbad hU
    have e2 : List.drop (2 : Int).toNat (List.take (2 + (v : Int)).toNat (bsP r)) = bsP (seg r 2 v) := by
      rw [show (2 + (v : Int)).toNat = 2 + v by omega, jbP_take, jbP_drop]
      unfold seg
      rw [List.drop_take, show 2 + v - Int.toNat 2 = v by simp]; rfl
    unfold bsl at hS
    rw [← e2] at hS
    rw [show ((v + 2 : Nat) : Int) = 2 + (v : Int) by omega] at hG2
    dsimp only at hG2
    by_cases hUF : U = F
    · have hj := hok hUF
      rw [hst _ _ hj, hl2] at g3
      subst hUF
      (repeat' (first|refine AW.seq_k (fun K hK=>?_)|(refine hK _ ?_;clear hK)|refine AW.uC (fun hc=>?_) (fun hc=>?_)|refine AW.skip ?_|exact trivial|refine AW.rI [5, 7, 8, 10, 12, 13, 14, 16] O ?_|refine Run.c0 hG O O O O O O O O ?_|refine Run.c0 hG2 O O O O O O O O ?_|refine Run.c0 hS O O O O O O O O ?_|refine UA ?_|fail))
      ((repeat (with_reducible refine inB_n ?_)); refine thenA_n ?_)
      refine ⟨(out ++ [seg r 2 v], k + (v + 10), U), ⟨by simp; omega, by dsimp only; omega, hF, g3⟩, by dsimp only; omega, ?_⟩
      refine Conv.mk [0] O O O ?_ O ?_
      (repeat' (first|exact V0|refine V3 ?_|refine V2 ?_ ?_|fail))
      (all_goals (try (first|refine CvL.eq ?_|refine Cv.eq ?_)))
      all_goals simp [AV.ren, renL, frB]
      all_goals first | exact e2 | (rw [IntWalk.i64_in (↑k + ↑v) (by omega), IntWalk.i64_in _ (by omega)]; omega)
    · rw [jr_inl (hbad hUF), show ∀ e : Int, jrThen out k ([], 0, last, e) = (out, k, last, e) from fun e => by simp [jrThen]] at g3
      subst g3
      (repeat' (first|refine AW.seq_k (fun K hK=>?_)|(refine hK _ ?_;clear hK)|refine AW.uC (fun hc=>?_) (fun hc=>?_)|refine AW.ret ?_|refine AW.skip ?_|exact trivial|refine AW.rI [5, 7, 8, 10, 12, 13, 14, 15] O ?_|refine Run.c0 hG O O O O O O O O ?_|refine Run.c0 hG2 O O O O O O O O ?_|refine Run.c0 hS O O O O O O O O ?_|refine UA ?_|fail))
      ((first|refine RetOk.tupS [0] O O O O O ?_ ?_|refine RetOk.oneS [0] O O O O ?_ ?_)<;>(repeat' (first|exact V0|refine V1 ?_|refine V2 ?_ ?_|fail)))
      all_goals rfl
set_option maxHeartbeats 4000000 in
theorem jrRead_c (b : List UInt8) (f : Bool) (hl : b.length ≤ 1000000) : ACalls Tryz.prog 67 [bsl b f] [] (.tup [.row 0 (frB (jr b 0).1).length, .v (.int .i64 ((jr b 0).2.1 : Int)), .v (.int .i64 (jr b 0).2.2.2)]) [.row 1 (frB (jr b 0).1)] := by
  have h := jall_c b f hl
  refine (ACalls.of (fn := Tryz.f67) Tryz.func67 O O Tryz.ntmps67 (fun I M w own => ?_))
  (repeat' (first|refine AW.seq_k (fun K hK=>?_)|(refine hK _ ?_;clear hK)|refine AW.ret ?_|refine AW.region ?_|refine Run.cSA [] h O O O O O O O O O O O O ?_|refine UA ?_|fail))
  ((first|refine RetOk.tupS [0] O O O O O ?_ ?_|refine RetOk.oneS [0] O O O O ?_ ?_)<;>(repeat' (first|exact V0|refine V1 ?_|refine V2 ?_ ?_|fail)))
  all_goals rfl
theorem ACalls.rowArg1 {P : Program} {f : FuncId} {sz : Nat} {xs : List (List PV)} {c r : AV} (h : ACalls P f [.sl sz xs false, c] [] r []) (hc : c.lt 0 = true) (hr : r.lt 0 = true) : ACalls P f [.row 0 xs.length, c] [.row sz xs] r [.no] := by
  intro I M w cargs hsz hav hs hno
  have h0 : (sto [.row sz xs]) 0 = .row sz xs := rfl
  have hs0 : (sto [Res.no] : Nat → Res) = fun _ => .no := by
    funext k
    cases k <;> simp [sto]
  refine (h (fun _ => .no) M w cargs (by simpa using hsz) ?_ ?_ (fun _ _ => rfl)).mono ?_
  · intro i v c' hv hc'
    match i, hc' with
    | 0, hc' =>
      obtain rfl := Option.some.inj hc'
      have hv0 := hav 0 v _ hv O
      exact (Cv.rowf (σ := sto [.row sz xs]) h0 O I M w v hs hv0).agree (n := 0) (fun k hk => absurd hk (Nat.not_lt_zero k)) O
    | 1, hc' =>
      obtain rfl := Option.some.inj hc'
      exact (hav 1 v _ hv O).agree (n := 0) (fun k hk => absurd hk (Nat.not_lt_zero k)) hc
    | i + 2, hc' => cases hc'
  · rw [sto_nil]
    exact ⟨fun k => trivial, fun k k' b _ hb => (blkno hb).elim, hs.top, hs.tab⟩
  · rintro e w' ⟨cv, I', M', rfl, k1, k2, k3, k4, k5⟩
    refine ⟨cv, I, M', rfl, k1.agree (n := 0) (fun k hk => absurd hk (Nat.not_lt_zero k)) hr, ?_, hno, ⟨k4.os, k4.tape, k4.output, fun _ => CI.le_refl _, k4.evo, fun b hb ho => k4.oth b hb fun ⟨k, hk⟩ => ?_⟩, fun k b hb => ?_⟩
    · rw [hs0]
      exact ⟨fun k => trivial, fun k k' b _ hb => (blkno hb).elim, k2.top, k2.tab⟩
    · rw [sto_nil] at hk; exact (blkno hk).elim
    · rw [hs0] at hb; exact (blkno hb).elim
set_option maxHeartbeats 4000000 in
theorem ACalls.rowArgR {P : Program} {f : FuncId} {sz sz2 n : Nat} {xs ys : List (List PV)} {c : AV} (h : ACalls P f [.sl sz xs false, c] [] (.row 0 n) [.row sz2 ys]) (hc : c.lt 0 = true) : ACalls P f [.row 0 xs.length, c] [.row sz xs] (.row 1 n) [.no, .row sz2 ys] := by
  intro I M w cargs hsz hav hs hno
  have h0 : (sto [.row sz xs]) 0 = .row sz xs := rfl
  refine (h (fun _ => .no) M w cargs (by simpa using hsz) ?_ ?_ (fun _ _ => rfl)).mono ?_
  · intro i v c' hv hc'
    match i, hc' with
    | 0, hc' =>
      obtain rfl := Option.some.inj hc'
      have hv0 := hav 0 v _ hv O
      exact (Cv.rowf (σ := sto [.row sz xs]) h0 O I M w v hs hv0).agree (n := 0) (fun k hk => absurd hk (Nat.not_lt_zero k)) O
    | 1, hc' =>
      obtain rfl := Option.some.inj hc'
      exact (hav 1 v _ hv O).agree (n := 0) (fun k hk => absurd hk (Nat.not_lt_zero k)) hc
    | i + 2, hc' => cases hc'
  · rw [sto_nil]
    exact ⟨fun k => trivial, fun k k' b _ hb => (blkno hb).elim, hs.top, hs.tab⟩
  · rintro e w' ⟨cv, I', M', rfl, k1, k2, k3, k4, k5⟩
    have hss : ∀ k, sto [Res.no, Res.row sz2 ys] (k + 1) = sto [Res.row sz2 ys] k := fun k => by cases k <;> simp [sto]
    have hs0 : sto [Res.no, Res.row sz2 ys] 0 = .no := rfl
    refine ⟨cv, fun k => Nat.casesOn k (I 0) I', M', rfl, ?_, ⟨fun k => ?_, fun k k' b hne q1 q2 => ?_, k2.top, k2.tab⟩, fun k hk => ?_, ⟨k4.os, k4.tape, k4.output, fun k => ?_, k4.evo, fun b hb ho => k4.oth b hb fun ⟨k, hk⟩ => ?_⟩, fun k b hb => ?_⟩
    · cases k1
      constructor <;> assumption
    · cases k with
      | zero => rw [hs0]; trivial
      | succ k =>
        rw [hss]
        cases k with
        | zero => exact k2.own 0
        | succ k => trivial
    · cases k with
      | zero => rw [hs0] at q1; exact (blkno q1).elim
      | succ k =>
        cases k' with
        | zero => rw [hs0] at q2; exact (blkno q2).elim
        | succ k' =>
          rw [hss] at q1 q2
          exact k2.2 k k' b (fun h => hne (congrArg (· + 1) h)) q1 q2
    · cases k with
      | zero => simp at hk
      | succ k => exact k3 k (by simpa using hk)
    · cases k with
      | zero => exact CI.le_refl _
      | succ k =>
        have := hno (k + 1) (by simp)
        rw [this]
        exact k4.4 k
    · rw [sto_nil] at hk; exact (blkno hk).elim
    · cases k with
      | zero => rw [hs0] at hb; exact (blkno hb).elim
      | succ k =>
        rw [hss] at hb
        rcases k5 k b hb with q | ⟨k', q⟩
        · exact .inl q
        · rw [sto_nil] at q; exact (blkno q).elim
set_option maxHeartbeats 4000000 in
theorem rAppend_c (b x : List UInt8) (f g : Bool) (hb : b.length ≤ 100000) (hx : x.length ≤ 10000000) : ACalls Tryz.prog 27 [bsl b f, bsl x g] [] (.tup [bsl (apM b x).1 false, .v (.int .i64 (apM b x).2)]) [] := by
  have hA := jall_c b f (by omega)
  have hq := jr_last b
  rw [apM]
  generalize jr b 0 = R at hA hq
  obtain ⟨fs, n0, q, e0⟩ := R
  dsimp only at hA hq ⊢
  have hbl : (bsP b).length = b.length := by simp
  have hxl : (bsP x).length = x.length := by simp
  by_cases he : e0 = 0
  · subst he
    rw [if_neg (fun h => h O)]
    have d0 : ¬ ((0 : Int) ≠ 0) := fun h => h O
    by_cases hlim : 4096 < x.length ∨ 65536 < b.length + 10 + x.length
    · rw [if_pos hlim]
      refine (ACalls.of (fn := Tryz.f27) Tryz.func27 O O Tryz.ntmps27 (fun I M w own => ?_))
      (repeat' (first|refine AW.seq_k (fun K hK=>?_)|(refine hK _ ?_;clear hK)|refine AW.uC (fun hc=>?_) (fun hc=>?_)|refine AW.ret ?_|refine AW.skip ?_|exact trivial|refine AW.rI [0, 1, 2, 4, 5] O ?_|refine Run.cSA [] hA O O O O O O O O O O O O ?_|refine Ud ?_|fail))
      all_goals ((first|refine RetOk.tup O O ?_|refine RetOk.one O ?_)<;>(repeat' (first|exact V0|refine V1 ?_|refine V2 ?_ ?_|fail)))
    · rw [if_neg hlim]
      have hP := (rPut16R_c b false (bsP x).length (by omega) (by omega)).rowArgR O
      have hH := jhash_c q hq x g (by omega)
      have hZ := rPut64_c (b ++ (le x.length 2 ++ x)) false (fnvOf (le q 8 ++ (le x.length 2 ++ x))) (fnvOf_lt _) (by simp [le_length]; omega)
      generalize fnvOf (le q 8 ++ (le x.length 2 ++ x)) = F at hH hZ
      have e : bsP (b ++ (le x.length 2 ++ x)) = bsP (b ++ le (bsP x).length 2) ++ bsP x := by simp
      have hZ1 : ACalls Tryz.prog 64 [.sl 1 (bsP (b ++ le (bsP x).length 2) ++ bsP x) false, .v (.int .u64 (F : Int))] [] (bsl (b ++ (le x.length 2 ++ x) ++ le F 8) false) [] := by rw [← e]; exact hZ
      have hZ2 := ACalls.rowArg1 hZ1 O O
      have l1 : (le (bsP x).length 2).length = 2 := le_length _ _
      have l2 : (le x.length 2).length = 2 := le_length _ _
      refine (ACalls.of (fn := Tryz.f27) Tryz.func27 O O Tryz.ntmps27 (fun I M w own => ?_))
      (repeat' (first|refine AW.seq_k (fun K hK=>?_)|(refine hK _ ?_;clear hK)|refine AW.uC (fun hc=>?_) (fun hc=>?_)|refine AW.ret ?_|refine AW.skip ?_|exact trivial|refine AW.rI [0, 1, 2, 4, 6, 7] O ?_|refine Run.cSA [] hA O O O O O O O O O O O O ?_|refine Run.cSA [1] hP O O O O O O O O O O O O ?_|refine Run.c0 hH O O O O O O O O ?_|refine Run.cSA [2] hZ2 O O O O O O O O O O O O ?_|refine Ud ?_|fail))
      all_goals ((first|refine RetOk.tup O O ?_|refine RetOk.one O ?_)<;>(repeat' (first|exact V0|refine V1 ?_|refine V2 ?_ ?_|fail)))
  · rw [if_pos he]
    refine (ACalls.of (fn := Tryz.f27) Tryz.func27 O O Tryz.ntmps27 (fun I M w own => ?_))
    (repeat' (first|refine AW.seq_k (fun K hK=>?_)|(refine hK _ ?_;clear hK)|refine AW.uC (fun hc=>?_) (fun hc=>?_)|refine AW.ret ?_|exact trivial|refine AW.rI [0, 1, 2, 3] O ?_|refine Run.cSA [] hA O O O O O O O O O O O O ?_|refine Ud ?_|fail))
    all_goals ((first|refine RetOk.tup O O ?_|refine RetOk.one O ?_)<;>(repeat' (first|exact V0|refine V1 ?_|refine V2 ?_ ?_|fail)))
end Go.Proofs.YtbbcokckealagaaGreat
