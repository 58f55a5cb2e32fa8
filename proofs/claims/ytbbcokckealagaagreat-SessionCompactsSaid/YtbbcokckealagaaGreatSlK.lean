/-
  Walks of Clone, Insert, Delete of the library at slices of streams that are kept: the clone is an array of the call's own, its capacity open.
-/
import Derived.Test.YtbbcokckealagaaGreatQAA
import Derived.Test.YtbbcokckealagaaGreatTy
import Derived.Test.YtbbcokckealagaaGreatQAI
import Derived.Test.YtbbcokckealagaaGreatQAJ
namespace Go.Proofs.YtbbcokckealagaaGreat
set_option linter.unusedVariables false
set_option linter.unusedSimpArgs false
abbrev z9 : List PV := [PV.v (.int .i64 0), PV.v (.string (bs [])), PV.v (.int .i64 0), PV.v (.int .i64 0), PV.v (.int .i64 0), PV.v (.int .i64 0), PV.v (.int .i64 0), PV.v (.bool false), PV.v (.int .u64 0)]
set_option maxHeartbeats 4000000 in
theorem clone_e (f : Bool) : ACalls Tryz.prog 72 [.sl 9 [] f] [] (.sl 9 [] true) [] := by
  refine (ACalls.of (fn := Tryz.f72) Tryz.func72 O O Tryz.ntmps72 (fun I M w own => ?_))
  (repeat' (first|refine AW.seq_k (fun K hK=>?_)|(refine hK _ ?_;clear hK)|refine AW.uC (fun hc=>?_) (fun hc=>?_)|refine AW.ret ?_|refine AW.skip ?_|exact trivial|refine AW.region ?_|refine Run.eqN O O (fun _=>rfl) O O (by first|exact Dat.sl|exact Dat.nil|exact Dat.rowf O O|exact Dat.row O) O (fun b hb=>?_)|refine Run.ap0 O O O O (Or.inl ⟨_, rfl⟩) O O (SrcNI.dat Dat.sl) (by simp) (by simp) O ?_|refine UA ?_|fail))
  all_goals ((first|refine RetOk.tup O O ?_|refine RetOk.one O ?_)<;>(repeat' (first|exact V0|refine V1 ?_|refine V2 ?_ ?_|fail)))
set_option maxHeartbeats 4000000 in
theorem clone_n (xs : List (List PV)) (f : Bool) (hz : ∀ y ∈ xs, y.length = 9) (h0 : 0 < xs.length) (hl : xs.length ≤ 1000000) : ACallsN Tryz.prog 72 [.sl 9 xs f] [] (fun d : Nat => .bsl 0 9 0 xs.length (xs.length + d)) (fun d => [.box (bxs (xs ++ List.replicate d z9))]) := by
  refine ACallsN.of (fn := Tryz.f72) Tryz.func72 O O Tryz.ntmps72 (fun I M w own => ?_)
  (repeat' (first|refine AW.seq_k (fun K hK=>?_)|(refine hK _ ?_;clear hK)|refine AW.uC (fun hc=>?_) (fun hc=>?_)|refine AW.ret ?_|refine AW.skip ?_|exact trivial|refine AW.region ?_|refine Run.eqN O O (fun _=>rfl) O O (by first|exact Dat.sl|exact Dat.nil|exact Dat.rowf O O|exact Dat.row O) O (fun b hb=>?_)|refine Run.apBS (fun _=>rfl) O O O O (Or.inl ⟨_, rfl⟩) O O (Or.inl O) (SrcNI.dat Dat.sl) (m := xs.length) (by simp) h0 (by omega) (by simp [maxLen];omega) O (by simp [keys]) (fun dd=>?_)|refine UA ?_|fail))
  · have := hb hc
    subst this
    simp at h0
  · refine RetOkN.mk dd ?_
    refine RetOk.oneS [0] O O O O ?_ ?_
    · refine Crs.cons (Cr.bxs ?_) (bxs_lt' _ _) Crs.nil
      rfl
    · (repeat' (first|exact V0|refine V1 ?_|refine V2 ?_ ?_|fail))
theorem putL {α : Type} {Y a m c new : List α} {k : Nat} (hY : Y = a ++ (m ++ c)) (hk : k = a.length) (hl : new.length = m.length) : Y.take k ++ (new ++ Y.drop (k + new.length)) = a ++ (new ++ c) := by
  subst hY hk
  rw [List.take_left, hl, ← List.append_assoc a m c, ← List.length_append, List.drop_left]
abbrev insL (xs : List (List PV)) (i : Nat) (r : List PV) : List (List PV) := xs.take i ++ r :: xs.drop i
set_option maxHeartbeats 4000000 in
theorem insert_e (r : List PV) (hr : r.length = 9) : ACalls Tryz.prog 39 [.sl 9 [] true, .v (.int .i64 0), .sl 9 [r] true] [] (.sl 9 [r] false) [] := by
  refine (ACalls.of (fn := Tryz.f39) Tryz.func39 O O Tryz.ntmps39 (fun I M w own => ?_))
  (repeat' (first|refine AW.seq_k (fun K hK=>?_)|(refine hK _ ?_;clear hK)|refine AW.uC (fun hc=>?_) (fun hc=>?_)|refine AW.ret ?_|refine AW.skip ?_|exact trivial|refine AW.rI [0, 1, 2, 3, 5, 6, 7, 8] O ?_|refine UA ?_|fail))
  all_goals first | (exfalso; simp at hc; done) | skip
  ((first|refine RetOk.tup O O ?_|refine RetOk.one O ?_)<;>(repeat' (first|exact V0|refine V1 ?_|refine V2 ?_ ?_|fail)))
set_option maxHeartbeats 4000000 in
theorem insert_b (xs : List (List PV)) (r : List PV) (d i : Nat) (hz : ∀ y ∈ xs, y.length = 9) (hr : r.length = 9) (h0 : 0 < xs.length) (hl : xs.length ≤ 1000000) (hi : i ≤ xs.length) :
    ACalls Tryz.prog 39 [.bsl 0 9 0 xs.length (xs.length + d), .v (.int .i64 (i : Int)), .sl 9 [r] true] [.box (bxs (xs ++ List.replicate d z9))] (.sl 9 (insL xs i r) false) [.no] := by
  have hr1 : [r].length = 1 := rfl
  have hzz : ∀ y ∈ xs ++ List.replicate d z9, y.length = 9 := by
    intro y hy
    rcases List.mem_append.1 hy with h | h
    · exact hz y h
    · rw [(List.mem_replicate.1 h).2]; rfl
  have hzl : (xs ++ List.replicate d z9).length = xs.length + d := by simp
  refine (ACalls.of (fn := Tryz.f39) Tryz.func39 O O Tryz.ntmps39 (fun I M w own => ?_))
  (repeat' (first|refine AW.seq_k (fun K hK=>?_)|(refine hK _ ?_;clear hK)|refine AW.uC (fun hc=>?_) (fun hc=>?_)|refine AW.skip ?_|exact trivial|refine AW.rI [0, 1, 2, 3, 5, 6, 8] O ?_|refine UA ?_|fail))
  · have hin : i = xs.length := by omega
    subst hin
    refine AW.conv (s' := ⟨[(0, .bsl 0 9 0 xs.length (xs.length + d)), (2, .sl 9 [r] true)], [.box (bxs (xs ++ List.replicate d z9))]⟩) (Conv.mk [0] O O O ?_ O ?_) ?_
    · (repeat' (first|exact V0|refine V3 ?_|refine V2 ?_ ?_|fail))
    · refine Crs.cons (Cr.bxs ?_) (bxs_lt' _ _) Crs.nil
      rfl
    refine AW.freezeW 0 9 xs (List.replicate d z9) (xs.length + d) O O hzz hzl (by omega) ?_
    (repeat' (first|(refine hK _ ?_;clear hK)|refine AW.ret ?_|refine rG 7 ?_|refine UA ?_|fail))
    refine RetOk.oneS [0] O O O O ?_ ?_
    all_goals (repeat' (first|exact V0|refine V1 ?_|refine V2 ?_ ?_|fail))
    all_goals simp [insL]
  · simp only [Nat.sub_zero] at hc
    (repeat' (first|refine AW.seq_k (fun K hK=>?_)|(refine hK _ ?_;clear hK)|refine rG 9 ?_|refine Run.apBB (fun _=>rfl) O O O O O O O O (q := xs.length + 1 - i) (by omega) O hzz hzl (mm := xs.length + 1) (by omega) (by omega) O Nat.zero_lt_one (by omega) (by simp [maxLen];omega) (fun dd=>?_)|refine UA ?_|fail))
    obtain ⟨Y, hY⟩ : ∃ Y, Y = xs.take i ++ List.replicate (xs.length + 1 - i) z9 ++ List.replicate dd z9 := ⟨_, rfl⟩
    obtain ⟨X, hX⟩ : ∃ X, X = xs ++ List.replicate d z9 := ⟨_, rfl⟩
    have hYl : Y.length = xs.length + 1 + dd := by rw [hY]; simp; omega
    have hYz : ∀ y ∈ Y, y.length = 9 := by
      rw [hY]; intro y hy
      simp only [List.mem_append, List.mem_replicate] at hy
      rcases hy with (h | h) | h
      · exact hz y (List.mem_of_mem_take h)
      · rw [h.2]; rfl
      · rw [h.2]; rfl
    rw [← hX] at hzz hzl ⊢
    refine AW.conv (s' := ⟨[(0, .bsl 0 9 0 xs.length (xs.length + d)), (1, .v (.int .i64 (i : Int))), (2, .sl 9 [r] true), (7, .v (.int .i64 1)), (9, .bsl 1 9 0 (xs.length + 1) (xs.length + 1 + dd))], [.box (bxs X), .box (bxs Y)]⟩) (Conv.mk [0, 1] O O O ?_ O ?_) ?_
    · (repeat' (first|exact V0|refine V3 ?_|refine V2 ?_ ?_|fail))
    · refine Crs.cons (Cr.bxs ?_) (bxs_lt' _ _) (Crs.cons (Cr.bxs ?_) (bxs_lt' _ _) Crs.nil)
      · rfl
      · rw [hX, hY, List.take_append_of_le_length (by omega)]
        rfl
    (repeat' (first|refine AW.seq_k (fun K hK=>?_)|(refine hK _ ?_;clear hK)|refine rG 10 ?_|refine UA ?_|fail))
    obtain ⟨Y2, hY2⟩ : ∃ Y2, Y2 = xs.take i ++ r :: (List.replicate (xs.length - i) z9 ++ List.replicate dd z9) := ⟨_, rfl⟩
    have hY2l : Y2.length = xs.length + 1 + dd := by rw [hY2]; simp; omega
    have hY2z : ∀ y ∈ Y2, y.length = 9 := by
      rw [hY2]; intro y hy
      simp only [List.mem_append, List.mem_cons, List.mem_replicate] at hy
      rcases hy with h | h | h | h
      · exact hz y (List.mem_of_mem_take h)
      · rw [h]; exact hr
      · rw [h.2]; rfl
      · rw [h.2]; rfl
    refine AW.conv (s' := ⟨[(0, .bsl 0 9 0 xs.length (xs.length + d)), (1, .v (.int .i64 (i : Int))), (7, .v (.int .i64 1)), (9, .bsl 1 9 0 (xs.length + 1) (xs.length + 1 + dd))], [.box (bxs X), .box (bxs Y2)]⟩) (Conv.mk [0, 1] O O O ?_ O ?_) ?_
    · (repeat' (first|exact V0|refine V3 ?_|refine V2 ?_ ?_|fail))
    · refine Crs.cons (Cr.bxs ?_) (bxs_lt' _ _) (Crs.cons (Cr.bxs ?_) (bxs_lt' _ _) Crs.nil)
      · rfl
      · refine Eq.trans (putL (a := xs.take i) (m := [z9]) (c := List.replicate (xs.length - i) z9 ++ List.replicate dd z9) ?_ ?_ ?_) ?_
        · rw [hY, show xs.length + 1 - i = (xs.length - i) + 1 by omega, List.replicate_succ]; simp
        · simp; omega
        · simp; omega
        · rw [hY2, List.take_of_length_le (show [r].length ≤ _ by rw [hr1]; omega)]; simp
    (repeat' (first|refine AW.seq_k (fun K hK=>?_)|(refine hK _ ?_;clear hK)|refine AW.draw (id := 11) (by kernel_rfl) ?_|refine UA ?_|fail))
    have hin : xs.length + 1 = (insL xs i r).length := by simp [insL]; omega
    refine AW.conv (s' := ⟨[(9, .bsl 1 9 0 (xs.length + 1) (xs.length + 1 + dd))], [.no, .box (bxs (insL xs i r ++ List.replicate dd z9))]⟩) (Conv.mk [0, 1] O O O ?_ O ?_) ?_
    · (repeat' (first|exact V0|refine V3 ?_|refine V2 ?_ ?_|fail))
    · refine Crs.cons Cr.no O (Crs.cons (Cr.bxs ?_) (bxs_lt' _ _) Crs.nil)
      refine Eq.trans (putL (a := xs.take i ++ [r]) (m := List.replicate (xs.length - i) z9) (c := List.replicate dd z9) ?_ ?_ ?_) ?_
      · rw [hY2]; simp
      · simp; omega
      · rw [hX]; simp; omega
      · rw [hX, insL, Int.toNat_natCast, List.drop_append_of_le_length hi, List.take_append_of_le_length (by simp), List.take_of_length_le (l := xs.drop i) (i := xs.length - i) (by simp)]
        simp only [List.append_assoc, List.cons_append, List.nil_append, List.append_cancel_left_eq]
        simp [List.take_of_length_le]
    refine AW.freezeA 1 9 (insL xs i r) (List.replicate dd z9) O O ?_ ?_
    · intro y hy
      simp only [insL, List.mem_append, List.mem_cons] at hy
      rcases hy with h | h | h
      · exact hz y (List.mem_of_mem_take h)
      · rw [h]; exact hr
      · exact hz y (List.mem_of_mem_drop h)
    (repeat' (first|(refine hK _ ?_;clear hK)|refine AW.ret ?_|refine rG 12 ?_|refine UA ?_|fail))
    refine RetOk.oneS [0] O O O O ?_ ?_
    all_goals (repeat' (first|exact V0|refine V1 ?_|refine V2 ?_ ?_|fail))
  · simp only [Nat.sub_zero] at hc
    refine AW.conv (s' := ⟨[(0, .bsl 0 9 0 xs.length (xs.length + d)), (1, .v (.int .i64 (i : Int))), (2, .sl 9 [r] true), (7, .v (.int .i64 1)), (8, .v (.int .i64 (xs.length : Int)))], [.box (bxs (xs ++ List.replicate d z9))]⟩) (Conv.mk [0] O O O ?_ O ?_) ?_
    · (repeat' (first|exact V0|refine V3 ?_|refine V2 ?_ ?_|fail))
    · exact Crs.cons (Cr.bxs O) (bxs_lt' _ _) Crs.nil
    obtain ⟨X, hX⟩ : ∃ X, X = xs ++ List.replicate d z9 := ⟨_, rfl⟩
    obtain ⟨D, rfl⟩ : ∃ D, d = D + 1 := ⟨d - 1, by omega⟩
    have hXe : X = xs.take (i + 1) ++ ((xs.drop (i + 1) ++ [z9]) ++ List.replicate D z9) := by
      rw [hX, List.replicate_succ, ← List.append_assoc, ← List.append_assoc, List.take_append_drop, List.append_assoc]; rfl
    rw [← hX] at hzz hzl ⊢
    (repeat' (first|refine AW.seq_k (fun K hK=>?_)|(refine hK _ ?_;clear hK)|refine AW.uC (fun hc=>?_) (fun hc=>?_)|exact trivial|refine AW.rI [13, 14] O ?_|refine Run.ovl (ps := Tryz.f77.params) (rs := Tryz.f77.resultTypes) O O O O Tryz.func77 (by kernel_rfl) (by kernel_rfl) (by kernel_rfl) (by kernel_rfl) (by kernel_rfl) O O O (by decide) (by omega) O ?_|refine UA ?_|fail))
    refine AW.conv (s' := ⟨[(0, .bsl 0 9 0 (xs.length + 1) (xs.length + (D + 1))), (1, .v (.int .i64 (i : Int))), (2, .sl 9 [r] true), (7, .v (.int .i64 1))], [.box (bxs X)]⟩) (Conv.mk [0] O O O ?_ O ?_) ?_
    · (repeat' (first|exact V0|refine V3 ?_|refine V2 ?_ ?_|fail))
    · exact Crs.cons (Cr.bxs O) (bxs_lt' _ _) Crs.nil
    (repeat' (first|refine AW.seq_k (fun K hK=>?_)|(refine hK _ ?_;clear hK)|refine AW.draw (id := 15) (by kernel_rfl) ?_|refine UA ?_|fail))
    obtain ⟨Y, hY⟩ : ∃ Y, Y = xs.take (i + 1) ++ (xs.drop i ++ List.replicate D z9) := ⟨_, rfl⟩
    have hYl : Y.length = xs.length + (D + 1) := by rw [hY]; simp; omega
    have hYz : ∀ y ∈ Y, y.length = 9 := by
      rw [hY]; intro y hy
      simp only [List.mem_append, List.mem_replicate] at hy
      rcases hy with h | h | h
      · exact hz y (List.mem_of_mem_take h)
      · exact hz y (List.mem_of_mem_drop h)
      · rw [h.2]; rfl
    refine AW.conv (s' := ⟨[(0, .bsl 0 9 0 (xs.length + 1) (xs.length + (D + 1))), (1, .v (.int .i64 (i : Int))), (2, .sl 9 [r] true), (7, .v (.int .i64 1))], [.box (bxs Y)]⟩) (Conv.mk [0] O O O ?_ O ?_) ?_
    · (repeat' (first|exact V0|refine V3 ?_|refine V2 ?_ ?_|fail))
    · refine Crs.cons (Cr.bxs ?_) (bxs_lt' _ _) Crs.nil
      refine Eq.trans (putL (a := xs.take (i + 1)) (m := xs.drop (i + 1) ++ [z9]) (c := List.replicate D z9) hXe ?_ ?_) ?_
      · simp; omega
      · simp; omega
      · have e1 : (Int.toNat ((i : Int) + 1)) = i + 1 := by omega
        rw [hY, e1, hX, Int.toNat_natCast, List.take_take, show min (xs.length + 1 - (i + 1)) (xs.length + 1 - i) = xs.length - i by omega, List.drop_append_of_le_length hi, List.take_append_of_le_length (by simp), List.take_of_length_le (l := xs.drop i) (i := xs.length - i) (by simp)]
    (repeat' (first|refine AW.seq_k (fun K hK=>?_)|(refine hK _ ?_;clear hK)|refine rG 16 ?_|refine UA ?_|fail))
    have hil : i < xs.length := by omega
    have hin : xs.length + 1 = (insL xs i r).length := by simp [insL]; omega
    refine AW.conv (s' := ⟨[(0, .bsl 0 9 0 (xs.length + 1) (xs.length + (D + 1)))], [.box (bxs (insL xs i r ++ List.replicate D z9))]⟩) (Conv.mk [0] O O O ?_ O ?_) ?_
    · (repeat' (first|exact V0|refine V3 ?_|refine V2 ?_ ?_|fail))
    · refine Crs.cons (Cr.bxs ?_) (bxs_lt' _ _) Crs.nil
      refine Eq.trans (putL (a := xs.take i) (m := [xs[i]]) (c := xs.drop i ++ List.replicate D z9) ?_ ?_ ?_) ?_
      · rw [hY, List.take_add_one, List.getElem?_eq_getElem hil, List.append_assoc]; rfl
      · simp; omega
      · simp; omega
      · rw [List.take_of_length_le (show [r].length ≤ _ by rw [hr1]; omega)]; simp [insL]
    refine AW.freezeA 0 9 (insL xs i r) (List.replicate D z9) O O ?_ ?_
    · intro y hy
      simp only [insL, List.mem_append, List.mem_cons] at hy
      rcases hy with h | h | h
      · exact hz y (List.mem_of_mem_take h)
      · rw [h]; exact hr
      · exact hz y (List.mem_of_mem_drop h)
    (repeat' (first|(refine hK _ ?_;clear hK)|refine AW.ret ?_|refine rG 17 ?_|refine UA ?_|fail))
    refine RetOk.oneS [0] O O O O ?_ ?_
    all_goals (repeat' (first|exact V0|refine V1 ?_|refine V2 ?_ ?_|fail))
abbrev delL (xs : List (List PV)) (i : Nat) : List (List PV) := xs.take i ++ xs.drop (i + 1)
set_option maxHeartbeats 4000000 in
theorem delete_b (xs : List (List PV)) (d i : Nat) (hz : ∀ y ∈ xs, y.length = 9) (hl : xs.length ≤ 1000000) (hi : i < xs.length) :
    ACalls Tryz.prog 41 [.bsl 0 9 0 xs.length (xs.length + d), .v (.int .i64 (i : Int)), .v (.int .i64 ((i : Int) + 1))] [.box (bxs (xs ++ List.replicate d z9))] (.sl 9 (delL xs i) false) [.no] := by
  obtain ⟨X, hX⟩ : ∃ X, X = xs ++ List.replicate d z9 := ⟨_, rfl⟩
  have hzz : ∀ y ∈ X, y.length = 9 := by
    rw [hX]
    intro y hy
    rcases List.mem_append.1 hy with h | h
    · exact hz y h
    · rw [(List.mem_replicate.1 h).2]; rfl
  have hzl : X.length = xs.length + d := by rw [hX]; simp
  obtain ⟨Y, hY⟩ : ∃ Y, Y = delL xs i ++ List.replicate (d + 1) z9 := ⟨_, rfl⟩
  obtain ⟨Z, hZ⟩ : ∃ Z, Z = delL xs i ++ (X.drop (xs.length - 1)) := ⟨_, rfl⟩
  rw [← hX]
  refine (ACalls.of (fn := Tryz.f41) Tryz.func41 O O Tryz.ntmps41 (fun I M w own => ?_))
  (repeat' (first|refine AW.seq_k (fun K hK=>?_)|(refine hK _ ?_;clear hK)|refine AW.uC (fun hc=>?_) (fun hc=>?_)|refine AW.skip ?_|exact trivial|refine AW.rI [0, 1, 2, 4] O ?_|refine U3 ?_|fail))
  refine AW.conv (s' := ⟨[(0, .bsl 0 9 0 xs.length (xs.length + d)), (1, .v (.int .i64 (i : Int))), (2, .v (.int .i64 ((i : Int) + 1))), (7, .v (.int .i64 (xs.length : Int)))], [.box (bxs X)]⟩) (Conv.mk [0] O O O ?_ O ?_) ?_
  · (repeat' (first|exact V0|refine V3 ?_|refine V2 ?_ ?_|fail))
  · exact Crs.cons (Cr.bxs O) (bxs_lt' _ _) Crs.nil
  (repeat' (first|refine AW.seq_k (fun K hK=>?_)|(refine hK _ ?_;clear hK)|refine AW.draw (id := 5) (by kernel_rfl) ?_|refine Run.apB O O O O (Or.inl ⟨_, rfl⟩) O O O (SrcNI.bsl O O hzz (by omega) O) hzz hzl (mm := xs.length - 1) (by rw [List.length_take, List.length_drop, hzl];omega) (by omega) O (by omega) (by simp [maxLen];omega) (by (repeat constructor);first|done|fail) O ?_|refine U3 ?_|fail))
  refine AW.conv (s' := ⟨[(0, .bsl 0 9 0 (xs.length - 1) (xs.length + d)), (7, .v (.int .i64 (xs.length : Int)))], [.box (bxs Z)]⟩) (Conv.mk [0] O O O ?_ O ?_) ?_
  · (repeat' (first|exact V0|refine V3 ?_|refine V2 ?_ ?_|fail))
  · refine Crs.cons (Cr.bxs ?_) (bxs_lt' _ _) Crs.nil
    rw [hZ, hX, delL, Int.toNat_natCast, show ((i : Int) + 1).toNat = i + 1 by omega, List.take_append_of_le_length (by omega), List.drop_append_of_le_length (by omega), List.take_append_of_le_length (by simp), List.take_of_length_le (l := xs.drop (i + 1)) (by simp), List.append_assoc]
  have hin : xs.length - 1 = (delL xs i).length := by simp [delL]; omega
  have hZl : Z.length = xs.length + d := by rw [hZ, List.length_append, ← hin, List.length_drop, hzl]; omega
  have hZz : ∀ y ∈ Z, y.length = 9 := by
    rw [hZ]; intro y hy
    simp only [delL, List.mem_append] at hy
    rcases hy with (h | h) | h
    · exact hz y (List.mem_of_mem_take h)
    · exact hz y (List.mem_of_mem_drop h)
    · exact hzz y (List.mem_of_mem_drop h)
  have hZt : Z.take (xs.length - 1) = delL xs i := by rw [hZ, hin, List.take_left]
  (repeat' (first|refine AW.seq_k (fun K hK=>?_)|(refine hK _ ?_;clear hK)|refine rG 6 ?_|refine Run.clB O O O O O O O hZz (by omega) O (by (repeat constructor);first|done|fail) ?_|refine UA ?_|fail))
  refine AW.conv (s' := ⟨[(0, .bsl 0 9 0 (xs.length - 1) (xs.length + d))], [.box (bxs (delL xs i ++ (List.replicate 1 z9 ++ Z.drop xs.length)))]⟩) (Conv.mk [0] O O O ?_ O ?_) ?_
  · (repeat' (first|exact V0|refine V3 ?_|refine V2 ?_ ?_|fail))
  · refine Crs.cons (Cr.bxs ?_) (bxs_lt' _ _) Crs.nil
    rw [Int.toNat_natCast, Int.toNat_natCast, hZt, show xs.length - (xs.length - 1) = 1 by omega, show xs.length - 1 + 1 = xs.length by omega]
    rfl
  refine AW.freezeA 0 9 (delL xs i) _ O O ?_ ?_
  · intro y hy
    simp only [delL, List.mem_append] at hy
    rcases hy with h | h
    · exact hz y (List.mem_of_mem_take h)
    · exact hz y (List.mem_of_mem_drop h)
  (repeat' (first|(refine hK _ ?_;clear hK)|refine AW.ret ?_|refine rG 7 ?_|refine UA ?_|fail))
  refine RetOk.oneS [0] O O O O ?_ ?_
  all_goals (repeat' (first|exact V0|refine V1 ?_|refine V2 ?_ ?_|fail))
end Go.Proofs.YtbbcokckealagaaGreat
