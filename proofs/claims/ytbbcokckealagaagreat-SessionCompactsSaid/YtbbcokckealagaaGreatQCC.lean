/-
  Walks of chapter 30: memories, of the program.
-/
import Derived.Test.YtbbcokckealagaaGreatQAA
import Derived.Test.YtbbcokckealagaaGreatQCA
import Derived.Test.YtbbcokckealagaaGreatQAI
namespace Go.Proofs.YtbbcokckealagaaGreat
set_option linter.unusedVariables false
set_option linter.unusedSimpArgs false
theorem chs_app (a b : List Ch) : chs (a ++ b) = chs a ++ chs b := List.map_append
set_option maxHeartbeats 4000000 in
theorem Clone_c (l : List Int) (f : Bool) (hl : l.length ≤ 1099511627776) : ACalls Tryz.prog 69 [.sl 1 (ids l) f] [] (.sl 1 (ids l) false) [] := by
  refine (ACalls.of (fn := Tryz.f69) Tryz.func69 O O Tryz.ntmps69 (fun I M w own => ?_))
  have hll : (ids l).length = l.length := by simp
  (repeat' (first|refine AW.seq_k (fun K hK=>?_)|(refine hK _ ?_;clear hK)|refine AW.uC (fun hc=>?_) (fun hc=>?_)|refine AW.ret ?_|refine AW.skip ?_|exact trivial|refine AW.region ?_|refine Run.eqN O O (fun _=>rfl) O O (by first|exact Dat.sl|exact Dat.nil|exact Dat.rowf O O|exact Dat.row O) O (fun b hb=>?_)|refine UA ?_|fail))
  · have := hb hc
    rw [this]
    ((first|refine RetOk.tup O O ?_|refine RetOk.one O ?_)<;>(repeat' (first|exact V0|refine V1 ?_|refine V2 ?_ ?_|fail)))
  · ((first|refine RetOk.tup O O ?_|refine RetOk.one O ?_)<;>(repeat' (first|exact V0|refine V1 ?_|refine V2 ?_ ?_|fail)))
set_option maxHeartbeats 4000000 in
theorem Valid1_c (c d : Ch) (hc : c.ok) : ACalls Tryz.prog 116 [.agg d.cells, .ptr 0 0] [.box c.cells] (.v (.bool (likeB c d))) [.box c.cells] := by
  have h1 := like_c c d hc
  refine (ACalls.of (fn := Tryz.f116) Tryz.func116 O O Tryz.ntmps116 (fun I M w own => ?_))
  (repeat' (first|refine AW.seq_k (fun K hK=>?_)|(refine hK _ ?_;clear hK)|refine AW.ret ?_|refine AW.region ?_|refine Run.c0 h1 O O O O O O O O ?_|refine UA ?_|fail))
  all_goals ((first|refine RetOk.tupS [0] O O O O O ?_ ?_|refine RetOk.oneS [0] O O O O ?_ ?_)<;>(repeat' (first|exact V0|refine V1 ?_|refine V2 ?_ ?_|fail)))
theorem find_r (l : List Ch) (p : Ch → Bool) : ∃ r : Int, (0 ≤ r ↔ l.any p = true) ∧ ∀ j : Nat, (∀ i : Nat, i < j → ∀ x, l[i]? = some x → p x = false) → (∀ x, l[j]? = some x → p x = true → r = j) ∧ (j = l.length → r = -1) := by
  by_cases hm : l.any p = true
  · obtain ⟨x, hx, hpx⟩ := List.any_eq_true.1 hm
    obtain ⟨j, hj, e⟩ := List.mem_iff_getElem.1 hx
    obtain ⟨k, ⟨y, hk, hpk⟩, hmin⟩ := least_of (p := fun j => ∃ y, l[j]? = some y ∧ p y = true) ⟨j, x, by rw [List.getElem?_eq_getElem hj, e], hpx⟩
    refine ⟨k, by simp [hm], fun i hi => ⟨fun x hx hpx => ?_, fun e => ?_⟩⟩
    · have := hmin i ⟨x, hx, hpx⟩
      rcases Nat.lt_or_ge k i with q | q
      · have := hi k q y hk; rw [this] at hpk; cases hpk
      · omega
    · exfalso
      have := hi k (by have := (List.getElem?_eq_some_iff.1 hk).1; omega) y hk
      rw [this] at hpk; cases hpk
  · refine ⟨-1, by simp [hm], fun i hi => ⟨fun x hx hpx => absurd (List.any_eq_true.2 ⟨x, List.mem_of_getElem? hx, hpx⟩) hm, fun _ => rfl⟩⟩
set_option maxHeartbeats 4000000 in
theorem IndexFunc_c (l : List Ch) (f : Bool) (c : Ch) (hc : c.ok) (hl : l.length ≤ 9223372036854775807) : ∃ r : Int, (0 ≤ r ↔ l.any (likeB c) = true) ∧ ACalls Tryz.prog 141 [.sl 3 (chs l) f, .fn 116 [.ptr 0 0]] [.box c.cells] (.v (.int .i64 r)) [.box c.cells] := by
  obtain ⟨r, h0, hr⟩ := find_r l (likeB c)
  refine ⟨r, h0, ?_⟩
  refine (ACalls.of (fn := Tryz.f141) Tryz.func141 O O Tryz.ntmps141 (fun I M w own => ?_))
  (repeat' (first|refine AW.seq_k (fun K hK=>?_)|(refine hK _ ?_;clear hK)|refine AW.block ?_|refine AW.rI [0, 1] O ?_|refine UA ?_|fail))
  refine AW.loopF (X := Nat) (fun x => ⟨[(0, .sl 3 (chs l) f), (1, .fn 116 [.ptr 0 0]), (7, .v (.int .i64 (l.length : Int))), (8, .v (.int .i64 (x : Int)))], [.box c.cells]⟩)
    (fun j => j ≤ l.length ∧ ∀ i : Nat, i < j → ∀ x, l[i]? = some x → likeB c x = false) (fun x => l.length - x) 0 ?_ ?_ ?_
  · refine Conv.mk [0] O O O ?_ O ?_
    (repeat' (first|exact V0|refine V3 ?_|refine V2 ?_ ?_|fail))
    (all_goals (try (first|refine CvL.eq ?_|refine Cv.eq ?_)))
    all_goals simp [AV.ren]
  · exact ⟨Nat.zero_le _, fun i hi => by omega⟩
  · rintro j ⟨h1, h2⟩
    rcases Nat.lt_or_ge j l.length with h | h
    · have hA : At (chs l) (j : Int) l[j].pv := At.mk j O (by simp [h])
      have hV := Valid1_c c l[j] hc
      (repeat' (first|refine AW.seq_k (fun K hK=>?_)|(refine hK _ ?_;clear hK)|refine AW.uC (fun hc=>?_) (fun hc=>?_)|refine AW.block ?_|refine AW.ret ?_|refine AW.skip ?_|exact trivial|refine AW.rI [2, 3, 4, 5, 6] O ?_|refine Run.cSA [0] hV O O O O O O O O O O O O ?_|refine UA ?_|fail))
      · obtain rfl := (hr j h2).1 l[j] (by simp [h]) hc
        ((first|refine RetOk.tupS [0] O O O O O ?_ ?_|refine RetOk.oneS [0] O O O O ?_ ?_)<;>(repeat' (first|exact V0|refine V1 ?_|refine V2 ?_ ?_|fail)))
      · ((repeat (with_reducible refine inB_n ?_)); refine thenA_n ?_)
        refine ⟨j + 1, ⟨h, fun i hi x hx => ?_⟩, by omega, ?_⟩
        · rcases Nat.lt_or_ge i j with q | q
          · exact h2 i q x hx
          · obtain rfl : i = j := by omega
            rw [List.getElem?_eq_getElem h] at hx
            injection hx with hx
            subst hx; exact hc
        · refine Conv.mk [0] O O O ?_ O ?_
          (repeat' (first|exact V0|refine V3 ?_|refine V2 ?_ ?_|fail))
          (all_goals (try (first|refine CvL.eq ?_|refine Cv.eq ?_)))
          all_goals simp [AV.ren]
    · obtain rfl := (hr j h2).2 (by omega)
      (repeat' (first|refine AW.seq_k (fun K hK=>?_)|(refine hK _ ?_;clear hK)|refine AW.uC (fun hc=>?_) (fun hc=>?_)|refine AW.exit ?_|refine AW.ret ?_|(clear hK;refine hK _ ?_;clear hK)|exact trivial|refine AW.rI [2, 7] O ?_|refine UA ?_|fail))
      ((first|refine RetOk.tupS [0] O O O O O ?_ ?_|refine RetOk.oneS [0] O O O O ?_ ?_)<;>(repeat' (first|exact V0|refine V1 ?_|refine V2 ?_ ?_|fail)))
set_option maxHeartbeats 4000000 in
theorem ContainsFunc_c (l : List Ch) (f : Bool) (c : Ch) (hc : c.ok) (hl : l.length ≤ 9223372036854775807) : ACalls Tryz.prog 117 [.sl 3 (chs l) f, .fn 116 [.ptr 0 0]] [.box c.cells] (.v (.bool (l.any (likeB c)))) [.box c.cells] := by
  obtain ⟨r, h1, h2⟩ := IndexFunc_c l f c hc hl
  refine (ACalls.of (fn := Tryz.f117) Tryz.func117 O O Tryz.ntmps117 (fun I M w own => ?_))
  (repeat' (first|refine AW.seq_k (fun K hK=>?_)|(refine hK _ ?_;clear hK)|refine AW.ret ?_|refine AW.region ?_|refine Run.cSA [0] h2 O O O O O O O O O O O O ?_|refine UA ?_|fail))
  ((first|refine RetOk.tupS [0] O O O O O ?_ ?_|refine RetOk.oneS [0] O O O O ?_ ?_)<;>(repeat' (first|exact V0|refine V1 ?_|refine V2 ?_ ?_|fail)))
  (all_goals (try (first|refine CvL.eq ?_|refine Cv.eq ?_)))
  all_goals (simp only [AV.ren, AV.v.injEq, Value.bool.injEq]; rw [Bool.eq_iff_iff, decide_eq_true_eq]; exact h1)
def validGo : List Ch → List Ch → Bool
  | _, [] => true
  | s, c :: r => properB c && (!s.any (likeB c) && validGo (s ++ [c]) r)
def validM (l : List Ch) : Bool := decide ((l.length : Int) ≤ 32) && validGo [] l
def oks (l : List Ch) : Prop := ∀ c ∈ l, c.ok
set_option maxHeartbeats 4000000 in
theorem Valid_c (l : List Ch) (f : Bool) (ho : oks l) (hl : l.length ≤ 9223372036854775807) : ACalls Tryz.prog 79 [.agg [.sl 3 (chs l) f]] [] (.v (.bool (validM l))) [] := by
  generalize hr : validM l = r
  rw [validM] at hr
  refine (ACalls.of (fn := Tryz.f79) Tryz.func79 O O Tryz.ntmps79 (fun I M w own => ?_))
  (repeat' (first|refine AW.seq_k (fun K hK=>?_)|(refine hK _ ?_;clear hK)|refine AW.uC (fun hc=>?_) (fun hc=>?_)|refine AW.block ?_|refine AW.ret ?_|refine AW.skip ?_|exact trivial|refine AW.rI [0, 1, 2, 3] O ?_|refine UA ?_|fail))
  · simp only [List.length_map] at hc
    rw [decide_eq_false (by omega)] at hr
    subst hr
    ((first|refine RetOk.tup O O ?_|refine RetOk.one O ?_)<;>(repeat' (first|exact V0|refine V1 ?_|refine V2 ?_ ?_|fail)))
  · simp only [List.length_map] at hc
    rw [decide_eq_true (by omega), Bool.true_and] at hr
    refine AW.loopF (X := Nat) (fun x => ⟨[(1, .ptr 0 0), (11, .sl 3 (chs l) f), (12, .v (.int .i64 (l.length : Int))), (13, .v (.int .i64 (x : Int)))], [.box [.sl 3 (chs l) f]]⟩)
      (fun i => i ≤ l.length ∧ validGo [] l = validGo (l.take i) (l.drop i)) (fun i => l.length - i) 0 ?_ ?_ ?_
    · refine Conv.mk [0] O O O ?_ O ?_
      (repeat' (first|exact V0|refine V3 ?_|refine V2 ?_ ?_|fail))
      (all_goals (try (first|refine CvL.eq ?_|refine Cv.eq ?_)))
      all_goals simp [AV.ren]
    · simp
    · rintro i ⟨h1, h2⟩
      rw [h2] at hr
      rcases Nat.lt_or_ge i l.length with h | h
      · have hA : At (chs l) (i : Int) l[i].pv := At.mk i O (by simp [h])
        have hok := ho l[i] (List.getElem_mem _)
        have hP := Proper_c l[i] hok
        have hC := ContainsFunc_c (l.take i) false l[i] hok (by rw [List.length_take]; omega)
        rw [List.drop_eq_getElem_cons h, validGo] at h2 hr
        have htk : (chs l).take ((i : Int)).toNat = chs (l.take i) := by rw [Int.toNat_natCast]; exact List.map_take.symm
        cases hp : properB l[i] with
        | false =>
          rw [hp] at hP hr
          (repeat' (first|refine AW.seq_k (fun K hK=>?_)|(refine hK _ ?_;clear hK)|refine AW.uC (fun hc=>?_) (fun hc=>?_)|refine AW.block ?_|refine AW.ret ?_|refine AW.skip ?_|exact trivial|refine AW.rI [4, 5, 6, 7, 8] O ?_|refine Run.c0 hP O O O O O O O O ?_|refine UA ?_|fail))
          subst hr
          ((first|refine RetOk.tup O O ?_|refine RetOk.one O ?_)<;>(repeat' (first|exact V0|refine V1 ?_|refine V2 ?_ ?_|fail)))
        | true =>
          rw [hp] at hP hr h2
          rw [← htk] at hC
          (repeat' (first|refine AW.seq_k (fun K hK=>?_)|(refine hK _ ?_;clear hK)|refine AW.uC (fun hc=>?_) (fun hc=>?_)|refine AW.block ?_|refine AW.ret ?_|refine AW.skip ?_|exact trivial|refine AW.rI [4, 5, 6, 7, 8, 9] O ?_|refine Run.c0 hP O O O O O O O O ?_|refine Run.cSA [1] hC O O O O O O O O O O O O ?_|refine UA ?_|fail))
          · rw [hc] at hr
            subst hr
            ((first|refine RetOk.tup O O ?_|refine RetOk.one O ?_)<;>(repeat' (first|exact V0|refine V1 ?_|refine V2 ?_ ?_|fail)))
          · rw [hc] at h2
            ((repeat (with_reducible refine inB_n ?_)); refine thenA_n ?_)
            refine ⟨i + 1, ⟨h, ?_⟩, by omega, ?_⟩
            · rw [h2, List.take_add_one]; simp [h]
            · refine Conv.mk [0] O O O ?_ O ?_
              (repeat' (first|exact V0|refine V3 ?_|refine V2 ?_ ?_|fail))
              (all_goals (try (first|refine CvL.eq ?_|refine Cv.eq ?_)))
              all_goals simp [AV.ren]
      · rw [List.drop_eq_nil_of_le h, validGo] at hr
        subst hr
        (repeat' (first|refine AW.seq_k (fun K hK=>?_)|(refine hK _ ?_;clear hK)|refine AW.uC (fun hc=>?_) (fun hc=>?_)|refine AW.exit ?_|refine AW.ret ?_|(clear hK;refine hK _ ?_;clear hK)|exact trivial|refine AW.rI [4, 10] O ?_|refine UA ?_|fail))
        ((first|refine RetOk.tup O O ?_|refine RetOk.one O ?_)<;>(repeat' (first|exact V0|refine V1 ?_|refine V2 ?_ ?_|fail)))
set_option maxHeartbeats 4000000 in
theorem Rem1_c (c d : Ch) (hc : c.ok) : ACalls Tryz.prog 81 [.agg d.cells, .ptr 0 0] [.box c.cells] (.v (.bool (likeB c d))) [.box c.cells] := by
  have h1 := like_c c d hc
  refine (ACalls.of (fn := Tryz.f81) Tryz.func81 O O Tryz.ntmps81 (fun I M w own => ?_))
  (repeat' (first|refine AW.seq_k (fun K hK=>?_)|(refine hK _ ?_;clear hK)|refine AW.ret ?_|refine AW.region ?_|refine Run.c0 h1 O O O O O O O O ?_|refine UA ?_|fail))
  all_goals ((first|refine RetOk.tupS [0] O O O O O ?_ ?_|refine RetOk.oneS [0] O O O O ?_ ?_)<;>(repeat' (first|exact V0|refine V1 ?_|refine V2 ?_ ?_|fail)))
set_option maxHeartbeats 4000000 in
theorem copiedR_c (l : List Ch) (f : Bool) (c : Ch) (hc : c.ok) (hs : ∀ d ∈ l, d.set.length ≤ 1099511627776) (hl : l.length ≤ 1099511627776) : ACalls Tryz.prog 80 [.agg [.sl 3 (chs l) f], .fn 81 [.ptr 0 0]] [.box c.cells] (.agg [.row 1 (chs (l.filter fun d => !likeB c d)).length]) [.box c.cells, .row 3 (chs (l.filter fun d => !likeB c d))] := by
  refine (ACalls.of (fn := Tryz.f80) Tryz.func80 O O Tryz.ntmps80 (fun I M w own => ?_))
  (repeat' (first|refine AW.seq_k (fun K hK=>?_)|(refine hK _ ?_;clear hK)|refine AW.block ?_|refine AW.rI [0, 1, 2] O ?_|refine UA ?_|fail))
  refine AW.loopF (X := Nat) (fun x => ⟨[(1, .fn 81 [.ptr 0 0]), (4, .ptr 1 0), (5, .row 2 (chs ((l.take x).filter fun d => !likeB c d)).length), (9, .sl 3 (chs l) f), (10, .v (.int .i64 (l.length : Int))), (11, .v (.int .i64 (x : Int)))], [.box c.cells, .box [.v (.slice none 0 0)], .row 3 (chs ((l.take x).filter fun d => !likeB c d))]⟩)
    (fun i => i ≤ l.length) (fun i => l.length - i) 0 ?_ ?_ ?_
  · refine Conv.own 5 3 [] (Or.inr ⟨rfl, rfl⟩) ?_
    refine Conv.mk [0, 2, 3] O O O ?_ O ?_
    (repeat' (first|exact V0|refine V3 ?_|refine V2 ?_ ?_|fail))
    (all_goals (try (first|refine CvL.eq ?_|refine Cv.eq ?_)))
    all_goals simp [AV.ren, AV.rens, renL]
  · simp
  · rintro i h1
    have hfl : ((l.take i).filter fun d => !likeB c d).length ≤ i := by
      have := List.length_filter_le (fun d => !likeB c d) (l.take i)
      rw [List.length_take] at this; omega
    rcases Nat.lt_or_ge i l.length with h | h
    · have hA : At (chs l) (i : Int) l[i].pv := At.mk i O (by simp [h])
      have hV := Rem1_c c l[i] hc
      have hC := Clone_c l[i].set false (hs _ (List.getElem_mem _))
      have hst : (l.take (i + 1)).filter (fun d => !likeB c d) = (l.take i).filter (fun d => !likeB c d) ++ [l[i]].filter (fun d => !likeB c d) := by
        rw [List.take_add_one, List.filter_append, List.getElem?_eq_getElem h]; rfl
      (repeat' (first|refine AW.seq_k (fun K hK=>?_)|(refine hK _ ?_;clear hK)|refine AW.uC (fun hc=>?_) (fun hc=>?_)|refine AW.block ?_|refine AW.skip ?_|exact trivial|refine AW.rI [3, 4, 5, 6, 7, 8] O ?_|refine Run.cSA [0] hV O O O O O O O O O O O O ?_|refine Run.c0 hC O O O O O O O O ?_|refine UA ?_|fail))
      · ((repeat (with_reducible refine inB_n ?_)); refine thenA_n ?_)
        refine ⟨i + 1, h, by omega, ?_⟩
        rw [hst, List.filter_cons_of_pos (by simp [hc]), List.filter_nil, chs_app]
        refine Conv.mk [0, 1, 2] O O O ?_ O ?_
        (repeat' (first|exact V0|refine V3 ?_|refine V2 ?_ ?_|fail))
        (all_goals (try (first|refine CvL.eq ?_|refine Cv.eq ?_)))
        all_goals simp [AV.ren, AV.rens, renL]
      · ((repeat (with_reducible refine inB_n ?_)); refine thenA_n ?_)
        refine ⟨i + 1, h, by omega, ?_⟩
        rw [hst, List.filter_cons_of_neg (by simp [hc]), List.filter_nil, List.append_nil]
        refine Conv.mk [0, 1, 2] O O O ?_ O ?_
        (repeat' (first|exact V0|refine V3 ?_|refine V2 ?_ ?_|fail))
        (all_goals (try (first|refine CvL.eq ?_|refine Cv.eq ?_)))
        all_goals simp [AV.ren, AV.rens, renL]
    · (repeat' (first|refine AW.seq_k (fun K hK=>?_)|(refine hK _ ?_;clear hK)|refine AW.uC (fun hc=>?_) (fun hc=>?_)|refine AW.exit ?_|refine AW.ret ?_|(clear hK;refine hK _ ?_;clear hK)|exact trivial|refine AW.rI [3, 9] O ?_|refine UA ?_|fail))
      rw [List.take_of_length_le h]
      ((first|refine RetOk.tupS [0, 2] O O O O O ?_ ?_|refine RetOk.oneS [0, 2] O O O O ?_ ?_)<;>(repeat' (first|exact V0|refine V1 ?_|refine V2 ?_ ?_|fail)))
      all_goals rfl
def rememberP (l : List Ch) (c : Ch) : List Ch × Int :=
  if validM l = false then ([], 1) else if properB c = false then ([], 2) else
    (if 32 < ((l.filter fun d => !likeB c d) ++ [c]).length then ((l.filter fun d => !likeB c d) ++ [c]).drop 1 else (l.filter fun d => !likeB c d) ++ [c], 0)
theorem validGo_mem : ∀ (l s : List Ch), validGo s l = true → ∀ d ∈ l, properB d = true := by
  intro l
  induction l with
  | nil => intro s _ d h; cases h
  | cons c r ih =>
    intro s h d hd
    rw [validGo] at h
    simp only [Bool.and_eq_true] at h
    rcases List.mem_cons.1 hd with rfl | hd
    · exact h.1
    · exact ih _ h.2.2 d hd
theorem valid_small {l : List Ch} (h : validM l = true) : l.length ≤ 32 ∧ ∀ d ∈ l, d.set.length ≤ 8 := by
  simp only [validM, Bool.and_eq_true, decide_eq_true_eq] at h
  refine ⟨by omega, fun d hd => ?_⟩
  have := validGo_mem l [] h.2 d hd
  simp only [properB, Bool.and_eq_true, decide_eq_true_eq] at this
  omega
theorem proper_small {d : Ch} (h : properB d = true) : 1 ≤ d.set.length ∧ d.set.length ≤ 8 := by
  simp only [properB, Bool.and_eq_true, decide_eq_true_eq] at h
  omega
set_option maxHeartbeats 4000000 in
theorem Remember_c (l : List Ch) (f : Bool) (c : Ch) (ho : oks l) (hc : c.ok) (hl : l.length ≤ 9223372036854775807) : ACalls Tryz.prog 40 [.agg [.sl 3 (chs l) f], .agg c.cells] [] (.tup [.agg [.sl 3 (chs (rememberP l c).1) false], .v (.int .i64 (rememberP l c).2)]) [] := by
  have hV := Valid_c l f ho hl
  have hP := Proper_c c hc
  generalize hr : rememberP l c = r
  rw [rememberP] at hr
  cases hv : validM l with
  | false =>
    rw [hv, if_pos O] at hr
    rw [hv] at hV
    subst hr
    refine (ACalls.of (fn := Tryz.f40) Tryz.func40 O O Tryz.ntmps40 (fun I M w own => ?_))
    (repeat' (first|refine AW.seq_k (fun K hK=>?_)|(refine hK _ ?_;clear hK)|refine AW.uC (fun hc=>?_) (fun hc=>?_)|refine AW.block ?_|refine AW.ret ?_|exact trivial|refine AW.rI [0, 1, 2] O ?_|refine Run.c0 hV O O O O O O O O ?_|refine UA ?_|fail))
    ((first|refine RetOk.tup O O ?_|refine RetOk.one O ?_)<;>(repeat' (first|exact V0|refine V1 ?_|refine V2 ?_ ?_|fail)))
    all_goals rfl
  | true =>
    obtain ⟨s1, s2⟩ := valid_small hv
    rw [hv, if_neg (by simp)] at hr
    rw [hv] at hV
    cases hp : properB c with
    | false =>
      rw [hp, if_pos O] at hr
      rw [hp] at hP
      subst hr
      refine (ACalls.of (fn := Tryz.f40) Tryz.func40 O O Tryz.ntmps40 (fun I M w own => ?_))
      (repeat' (first|refine AW.seq_k (fun K hK=>?_)|(refine hK _ ?_;clear hK)|refine AW.uC (fun hc=>?_) (fun hc=>?_)|refine AW.block ?_|refine AW.ret ?_|exact trivial|refine AW.rI [0, 1, 3, 4] O ?_|refine Run.c0 hV O O O O O O O O ?_|refine Run.c0 hP O O O O O O O O ?_|refine UA ?_|fail))
      ((first|refine RetOk.tup O O ?_|refine RetOk.one O ?_)<;>(repeat' (first|exact V0|refine V1 ?_|refine V2 ?_ ?_|fail)))
      all_goals rfl
    | true =>
      rw [hp, if_neg (by simp)] at hr
      rw [hp] at hP
      have hps := proper_small hp
      have hCo := copiedR_c l f c hc (fun d hd => by have := s2 d hd; omega) (by omega)
      have hC := Clone_c c.set false (by omega)
      have hfl : (l.filter fun d => !likeB c d).length ≤ 32 := by
        have := List.length_filter_le (fun d => !likeB c d) l
        omega
      refine (ACalls.of (fn := Tryz.f40) Tryz.func40 O O Tryz.ntmps40 (fun I M w own => ?_))
      (repeat' (first|refine AW.seq_k (fun K hK=>?_)|(refine hK _ ?_;clear hK)|refine AW.uC (fun hc=>?_) (fun hc=>?_)|refine AW.block ?_|refine AW.ret ?_|refine AW.skip ?_|exact trivial|refine AW.rI [0, 1, 3, 5, 6, 7, 8, 9, 10] O ?_|refine Run.c0 hV O O O O O O O O ?_|refine Run.c0 hP O O O O O O O O ?_|refine Run.cSA [1] hCo O O O O O O O O O O O O ?_|refine Run.c0 hC O O O O O O O O ?_|refine UA ?_|fail))
      · simp only [List.length_append, List.length_map, List.length_cons, List.length_nil] at hc
        rw [if_pos (by simp; omega)] at hr
        subst hr
        ((first|refine RetOk.tup O O ?_|refine RetOk.one O ?_)<;>(repeat' (first|exact V0|refine V1 ?_|refine V2 ?_ ?_|fail)))
        (all_goals (try (first|refine CvL.eq ?_|refine Cv.eq ?_)))
        all_goals (simp [AV.ren, AV.rens, List.map_drop])
      · simp only [List.length_append, List.length_map, List.length_cons, List.length_nil] at hc
        rw [if_neg (by simp; omega)] at hr
        subst hr
        ((first|refine RetOk.tup O O ?_|refine RetOk.one O ?_)<;>(repeat' (first|exact V0|refine V1 ?_|refine V2 ?_ ?_|fail)))
        all_goals (simp [AV.ren, AV.rens])
def lookHit (role : List UInt8) (set : List Int) (most : Nat) (c : Ch) : Bool := decide (c.role = role) && (decide (most ≤ c.set.length) && !c.set.any fun id => !decide (id ∈ set))
def lookGo (role : List UInt8) (set : List Int) : List Ch → Int → Nat → Int
  | [], d, _ => d
  | c :: r, d, m => if lookHit role set m c then lookGo role set r c.dev c.set.length else lookGo role set r d m
def lookupP (l : List Ch) (role : List UInt8) (set : List Int) : Int := if validM l = false ∨ ascI 0 set = false then 0 else lookGo role set l 0 0
def forgetP (l : List Ch) (dev : Int) : List Ch := l.filter fun d => !(validM l && decide (d.dev = dev))
theorem bxc (p : List PV) (t : List (List PV)) : bxs (p :: t) = p.map PV.av ++ bxs t := by simp [bxs]
theorem bxN_at {sz : Nat} : ∀ {xs : List (List PV)} {i f : Nat} {ys : List PV} {p : PV}, (∀ y ∈ xs, y.length = sz) → xs[i]? = some ys → ys[f]? = some p → (bxs xs)[i * sz + f]? = some p.av
  | [], _, _, _, _, _, h, _ => by simp at h
  | y :: t, 0, f, ys, p, hz, h, hp => by
    obtain rfl : y = ys := by simpa using h
    rw [bxc, Nat.zero_mul, Nat.zero_add, List.getElem?_append_left (by rw [List.length_map]; exact (List.getElem?_eq_some_iff.1 hp).1), List.getElem?_map, hp]; rfl
  | y :: t, i + 1, f, ys, p, hz, h, hp => by
    have hy : y.length = sz := hz y (List.mem_cons_self ..)
    rw [bxc, List.getElem?_append_right (by rw [List.length_map, hy, Nat.succ_mul]; omega), List.length_map, hy, show (i + 1) * sz + f - sz = i * sz + f by rw [Nat.succ_mul]; omega]
    exact bxN_at (fun y hy => hz y (List.mem_cons_of_mem _ hy)) (by simpa using h) hp
theorem set_same {α : Type} {xs : List α} {i : Nat} {y : α} (h : xs[i]? = some y) : xs.set i y = xs := by
  obtain ⟨hi, rfl⟩ := List.getElem?_eq_some_iff.1 h
  exact List.set_getElem_self hi
theorem over_one : ∀ (l : List AV) (k : Nat) (a : AV), k < l.length → Over l k [a] (l.set k a)
  | [], _, _, h => by simp at h
  | b :: t, 0, a, _ => .at_ (.cons .nil)
  | b :: t, k + 1, a, h => .skip (over_one t k a (by simpa using h))
theorem bxN_set {sz : Nat} : ∀ {xs : List (List PV)} {i f : Nat} {ys : List PV} (p : PV), (∀ y ∈ xs, y.length = sz) → xs[i]? = some ys → f < ys.length → bxs (xs.set i (ys.set f p)) = (bxs xs).set (i * sz + f) p.av
  | [], _, _, _, _, _, h, _ => by simp at h
  | y :: t, 0, f, ys, p, hz, h, hf => by
    obtain rfl : y = ys := by simpa using h
    rw [List.set_cons_zero, bxc, bxc, Nat.zero_mul, Nat.zero_add, List.set_append_left _ _ (by rw [List.length_map]; exact hf), List.map_set]
  | y :: t, i + 1, f, ys, p, hz, h, hf => by
    have hy : y.length = sz := hz y (List.mem_cons_self ..)
    rw [List.set_cons_succ, bxc, bxc, List.set_append_right _ _ (by rw [List.length_map, hy, Nat.succ_mul]; omega), List.length_map, hy, show (i + 1) * sz + f - sz = i * sz + f by rw [Nat.succ_mul]; omega]
    rw [bxN_set p (fun y hy => hz y (List.mem_cons_of_mem _ hy)) (by simpa using h) hf]
theorem bxN_put {sz : Nat} {xs : List (List PV)} {i f : Nat} {ys : List PV} (p : PV) (hz : ∀ y ∈ xs, y.length = sz) (h : xs[i]? = some ys) (hf : f < ys.length) : Over (bxs xs) (i * sz + f) [p.av] (bxs (xs.set i (ys.set f p))) := by
  rw [bxN_set p hz h hf]
  refine over_one _ _ _ ?_
  have := (List.getElem?_eq_some_iff.1 (bxN_at hz h (List.getElem?_eq_getElem hf))).1
  exact this
end Go.Proofs.YtbbcokckealagaaGreat
