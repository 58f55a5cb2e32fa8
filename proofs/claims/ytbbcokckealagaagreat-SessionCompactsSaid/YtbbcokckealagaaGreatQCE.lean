/-
  Walks of chapter 30: the reference.
-/
import Derived.Test.YtbbcokckealagaaGreatQAA
import Derived.Test.YtbbcokckealagaaGreatQCC
import Derived.Test.YtbbcokckealagaaGreatTy
import Derived.Test.YtbbcokckealagaaGreatQAD
import Derived.Test.YtbbcokckealagaaGreatQCD
namespace Go.Proofs.YtbbcokckealagaaGreat
set_option linter.unusedVariables false
set_option linter.unusedSimpArgs false
set_option maxHeartbeats 4000000 in
theorem rAscending_c (l : List Int) (f : Bool) (hl : l.length ≤ 9223372036854775807) : ACalls Tryz.prog 98 [.sl 1 (ids l) f] [] (.v (.bool (ascI 0 l))) [] := by
  generalize hr : ascI 0 l = r
  have hll : (ids l).length = l.length := by simp
  refine (ACalls.of (fn := Tryz.f98) Tryz.func98 O O Tryz.ntmps98 (fun I M w own => ?_))
  (repeat' (first|refine AW.seq_k (fun K hK=>?_)|(refine hK _ ?_;clear hK)|refine AW.block ?_|refine AW.rI [0, 1] O ?_|refine UA ?_|fail))
  refine AW.loopF (X := Nat × Int) (fun x => ⟨[(0, .sl 1 (ids l) f), (3, .v (.int .i64 (x.1 : Int)))], []⟩)
    (fun x => x.1 ≤ l.length ∧ ascI 0 l = ascI x.2 (l.drop x.1) ∧ 0 ≤ x.2 ∧ (x.1 = 0 → x.2 = 0) ∧ (∀ i, x.1 = i + 1 → l[i]? = some x.2)) (fun x => l.length - x.1) (0, 0) ?_ ?_ ?_
  · refine Conv.mk [] O O O ?_ O ?_
    (repeat' (first|exact V0|refine V3 ?_|refine V2 ?_ ?_|fail))
    (all_goals (try (first|refine CvL.eq ?_|refine Cv.eq ?_)))
    all_goals simp [AV.ren]
  · simp
  · rintro ⟨i, b⟩ ⟨h1, h2, h3, h4, h5⟩
    simp only at h1 h2 h3 h4 h5 ⊢
    rw [h2] at hr
    rcases Nat.lt_or_ge i l.length with h | h
    · have hA : At (ids l) (i : Int) [PV.v (.int .u64 l[i])] := At.mk i O (by simp [h])
      rw [List.drop_eq_getElem_cons h, ascI] at h2 hr
      have hA2 : (!decide (l[i] < 1) && decide ((0 : Int) < (i : Int))) = true → At (ids l) (i : Int) [PV.v (.int .u64 l[i])] := fun _ => hA
      have hB : (!decide (l[i] < 1) && decide ((0 : Int) < (i : Int))) = true → At (ids l) ((i : Int) - 1) [PV.v (.int .u64 b)] := by
        intro h
        simp at h
        obtain ⟨j, rfl⟩ : ∃ j, i = j + 1 := ⟨i - 1, by omega⟩
        exact At.mk j (by omega) (by simp [h5 j O])
      (repeat' (first|refine AW.seq_k (fun K hK=>?_)|(refine hK _ ?_;clear hK)|refine AW.uC (fun hc=>?_) (fun hc=>?_)|refine AW.block ?_|refine AW.ret ?_|refine AW.skip ?_|exact trivial|refine AW.draw (id := 4) (by kernel_rfl) ?_|refine AW.rI [2, 5, 3] O ?_|refine UA ?_|fail))
      · rw [decide_eq_false (by omega)] at hr
        subst hr
        ((first|refine RetOk.tup O O ?_|refine RetOk.one O ?_)<;>(repeat' (first|exact V0|refine V1 ?_|refine V2 ?_ ?_|fail)))
      · rw [decide_eq_true (by omega), Bool.true_and] at h2
        ((repeat (with_reducible refine inB_n ?_)); refine thenA_n ?_)
        refine ⟨(i + 1, l[i]), ⟨by simp only; omega, h2, by simp only; omega, by simp, fun j hj => ?_⟩, by simp only; omega, ?_⟩
        · obtain rfl : j = i := by simp only at hj; omega
          simp [h]
        · refine Conv.mk [] O O O ?_ O ?_
          (repeat' (first|exact V0|refine V3 ?_|refine V2 ?_ ?_|fail))
          (all_goals (try (first|refine CvL.eq ?_|refine Cv.eq ?_)))
          all_goals simp [AV.ren]
    · rw [List.drop_eq_nil_of_le h, ascI] at hr
      subst hr
      (repeat' (first|refine AW.seq_k (fun K hK=>?_)|(refine hK _ ?_;clear hK)|refine AW.uC (fun hc=>?_) (fun hc=>?_)|refine AW.exit ?_|refine AW.ret ?_|(clear hK;refine hK _ ?_;clear hK)|exact trivial|refine AW.rI [2, 6] O ?_|refine UA ?_|fail))
      ((first|refine RetOk.tup O O ?_|refine RetOk.one O ?_)<;>(repeat' (first|exact V0|refine V1 ?_|refine V2 ?_ ?_|fail)))
theorem mem_take_succ {l : List Int} {i : Nat} {v : Int} (h : i < l.length) : v ∈ l.take (i + 1) ↔ v ∈ l.take i ∨ l[i] = v := by
  rw [List.take_add_one, List.mem_append, List.getElem?_eq_getElem h]
  simp [eq_comm]
set_option maxHeartbeats 4000000 in
theorem Has_c (l : List Int) (f : Bool) (v : Int) (hl : l.length ≤ 9223372036854775807) : ACalls Tryz.prog 99 [.sl 1 (ids l) f, .v (.int .u64 v)] [] (.v (.bool (decide (v ∈ l)))) [] := by
  generalize hr : decide (v ∈ l) = r
  have hll : (ids l).length = l.length := by simp
  refine (ACalls.of (fn := Tryz.f99) Tryz.func99 O O Tryz.ntmps99 (fun I M w own => ?_))
  (repeat' (first|refine AW.seq_k (fun K hK=>?_)|(refine hK _ ?_;clear hK)|refine AW.block ?_|refine AW.rI [0, 1] O ?_|refine UA ?_|fail))
  refine AW.loopF (X := Nat) (fun x => ⟨[(0, .sl 1 (ids l) f), (1, .v (.int .u64 v)), (5, .v (.int .i64 (x : Int)))], []⟩)
    (fun x => x ≤ l.length ∧ ¬ v ∈ l.take x) (fun x => l.length - x) 0 ?_ ?_ ?_
  · refine Conv.mk [] O O O ?_ O ?_
    (repeat' (first|exact V0|refine V3 ?_|refine V2 ?_ ?_|fail))
    (all_goals (try (first|refine CvL.eq ?_|refine Cv.eq ?_)))
    all_goals simp [AV.ren]
  · simp
  · rintro i ⟨h1, h2⟩
    rcases Nat.lt_or_ge i l.length with h | h
    · have hA : At (ids l) (i : Int) [PV.v (.int .u64 l[i])] := At.mk i O (by simp [h])
      (repeat' (first|refine AW.seq_k (fun K hK=>?_)|(refine hK _ ?_;clear hK)|refine AW.uC (fun hc=>?_) (fun hc=>?_)|refine AW.block ?_|refine AW.ret ?_|refine AW.skip ?_|exact trivial|refine AW.rI [2, 4, 5, 3] O ?_|refine UA ?_|fail))
      · obtain rfl : r = true := by rw [← hr, decide_eq_true_eq, ← hc]; exact List.getElem_mem _
        ((first|refine RetOk.tup O O ?_|refine RetOk.one O ?_)<;>(repeat' (first|exact V0|refine V1 ?_|refine V2 ?_ ?_|fail)))
      · ((repeat (with_reducible refine inB_n ?_)); refine thenA_n ?_)
        refine ⟨i + 1, ⟨h, ?_⟩, by omega, ?_⟩
        · rw [mem_take_succ h]; exact fun q => q.elim h2 hc
        · refine Conv.mk [] O O O ?_ O ?_
          (repeat' (first|exact V0|refine V3 ?_|refine V2 ?_ ?_|fail))
          (all_goals (try (first|refine CvL.eq ?_|refine Cv.eq ?_)))
          all_goals simp [AV.ren]
    · (repeat' (first|refine AW.seq_k (fun K hK=>?_)|(refine hK _ ?_;clear hK)|refine AW.uC (fun hc=>?_) (fun hc=>?_)|refine AW.exit ?_|refine AW.ret ?_|(clear hK;refine hK _ ?_;clear hK)|exact trivial|refine AW.rI [2, 6] O ?_|refine UA ?_|fail))
      rw [List.take_of_length_le h] at h2
      obtain rfl : r = false := by rw [← hr, decide_eq_false_iff_not]; exact h2
      ((first|refine RetOk.tup O O ?_|refine RetOk.one O ?_)<;>(repeat' (first|exact V0|refine V1 ?_|refine V2 ?_ ?_|fail)))
def partB (a b : List Int) : Bool := a.all fun x => decide (x ∈ b)
set_option maxHeartbeats 4000000 in
theorem part_c (a b : List Int) (f g : Bool) (ha : a.length ≤ 9223372036854775807) (hb : b.length ≤ 9223372036854775807) : ACalls Tryz.prog 113 [.sl 1 (ids a) f, .sl 1 (ids b) g] [] (.v (.bool (partB a b))) [] := by
  generalize hr : partB a b = r
  rw [partB] at hr
  have hll : (ids a).length = a.length := by simp
  refine (ACalls.of (fn := Tryz.f113) Tryz.func113 O O Tryz.ntmps113 (fun I M w own => ?_))
  (repeat' (first|refine AW.seq_k (fun K hK=>?_)|(refine hK _ ?_;clear hK)|refine AW.block ?_|refine AW.rI [0, 1] O ?_|refine UA ?_|fail))
  refine AW.loopF (X := Nat) (fun x => ⟨[(0, .sl 1 (ids a) f), (1, .sl 1 (ids b) g), (5, .v (.int .i64 (x : Int)))], []⟩)
    (fun x => x ≤ a.length ∧ (a.take x).all (fun x => decide (x ∈ b)) = true) (fun x => a.length - x) 0 ?_ ?_ ?_
  · refine Conv.mk [] O O O ?_ O ?_
    (repeat' (first|exact V0|refine V3 ?_|refine V2 ?_ ?_|fail))
    (all_goals (try (first|refine CvL.eq ?_|refine Cv.eq ?_)))
    all_goals simp [AV.ren]
  · simp
  · rintro i ⟨h1, h2⟩
    rcases Nat.lt_or_ge i a.length with h | h
    · have hA : At (ids a) (i : Int) [PV.v (.int .u64 a[i])] := At.mk i O (by simp [h])
      have hH := Has_c b g a[i] hb
      cases hm : decide (a[i] ∈ b) with
      | false =>
        rw [hm] at hH
        (repeat' (first|refine AW.seq_k (fun K hK=>?_)|(refine hK _ ?_;clear hK)|refine AW.uC (fun hc=>?_) (fun hc=>?_)|refine AW.block ?_|refine AW.ret ?_|refine AW.skip ?_|exact trivial|refine AW.rI [2, 4, 5] O ?_|refine Run.c0 hH O O O O O O O O ?_|refine UA ?_|fail))
        obtain rfl : r = false := by
          rw [← hr, List.all_eq_false]
          exact ⟨a[i], List.getElem_mem _, by rw [hm]; simp⟩
        ((first|refine RetOk.tup O O ?_|refine RetOk.one O ?_)<;>(repeat' (first|exact V0|refine V1 ?_|refine V2 ?_ ?_|fail)))
      | true =>
        rw [hm] at hH
        (repeat' (first|refine AW.seq_k (fun K hK=>?_)|(refine hK _ ?_;clear hK)|refine AW.uC (fun hc=>?_) (fun hc=>?_)|refine AW.block ?_|refine AW.skip ?_|exact trivial|refine AW.rI [2, 4, 3] O ?_|refine Run.c0 hH O O O O O O O O ?_|refine UA ?_|fail))
        ((repeat (with_reducible refine inB_n ?_)); refine thenA_n ?_)
        refine ⟨i + 1, ⟨h, ?_⟩, by omega, ?_⟩
        · rw [List.take_add_one, List.all_append, h2, List.getElem?_eq_getElem h]
          simp only [Option.toList_some, List.all_cons, List.all_nil, hm]; rfl
        · refine Conv.mk [] O O O ?_ O ?_
          (repeat' (first|exact V0|refine V3 ?_|refine V2 ?_ ?_|fail))
          (all_goals (try (first|refine CvL.eq ?_|refine Cv.eq ?_)))
          all_goals simp [AV.ren]
    · (repeat' (first|refine AW.seq_k (fun K hK=>?_)|(refine hK _ ?_;clear hK)|refine AW.uC (fun hc=>?_) (fun hc=>?_)|refine AW.exit ?_|refine AW.ret ?_|(clear hK;refine hK _ ?_;clear hK)|exact trivial|refine AW.rI [2, 6] O ?_|refine UA ?_|fail))
      rw [List.take_of_length_le h] at h2
      rw [h2] at hr
      subst hr
      ((first|refine RetOk.tup O O ?_|refine RetOk.one O ?_)<;>(repeat' (first|exact V0|refine V1 ?_|refine V2 ?_ ?_|fail)))
set_option maxHeartbeats 4000000 in
theorem rProper_c (c : Ch) (hc : c.ok) : ACalls Tryz.prog 55 [.agg c.cells] [] (.v (.bool (properB c))) [] := by
  generalize hr : properB c = r
  rw [properB] at hr
  obtain ⟨k1, k2⟩ := hc
  have h1 := rName_c c.role k1
  have h2 := rAscending_c c.set false k2
  have h3 := Has_c c.set false c.dev k2
  refine (ACalls.of (fn := Tryz.f55) Tryz.func55 O O Tryz.ntmps55 (fun I M w own => ?_))
  (repeat' (first|refine AW.seq_k (fun K hK=>?_)|(refine hK _ ?_;clear hK)|refine AW.ret ?_|refine AW.region ?_|refine Run.c0 h1 O O O O O O O O ?_|refine Run.gccA (fun hg=>h2) (by first|exact Gd.t O O O O|exact Gd.t2 O O O O) O O O O O O O ?_|refine Run.gccA (fun hg=>h3) (by first|exact Gd.t O O O O|exact Gd.t2 O O O O) O O O O O O O ?_|refine UA ?_|fail))
  all_goals ((first|refine RetOk.tup O O ?_|refine RetOk.one O ?_)<;>(repeat' (first|exact V0|refine V1 ?_|refine V2 ?_ ?_|fail)))
  (all_goals (try (first|refine CvL.eq ?_|refine Cv.eq ?_)))
  all_goals (simp only [AV.ren, AV.v.injEq, Value.bool.injEq]; rw [← hr]; simp [Bool.and_assoc])
def alikeB (a b : Ch) : Bool := decide (a.role = b.role) && (decide ((a.set.length : Int) = (b.set.length : Int)) && partB a.set b.set)
set_option maxHeartbeats 4000000 in
theorem alike_c (a b : Ch) (ha : a.ok) (hb : b.ok) : ACalls Tryz.prog 70 [.agg a.cells, .agg b.cells] [] (.v (.bool (alikeB a b))) [] := by
  have h1 := part_c a.set b.set false false ha.2 hb.2
  generalize hr : alikeB a b = r
  rw [alikeB] at hr
  refine (ACalls.of (fn := Tryz.f70) Tryz.func70 O O Tryz.ntmps70 (fun I M w own => ?_))
  (repeat' (first|refine AW.seq_k (fun K hK=>?_)|(refine hK _ ?_;clear hK)|refine AW.ret ?_|refine AW.region ?_|refine Run.gccA (fun hg=>h1) (by first|exact Gd.t O O O O|exact Gd.t2 O O O O) O O O O O O O ?_|refine UA ?_|fail))
  all_goals ((first|refine RetOk.tup O O ?_|refine RetOk.one O ?_)<;>(repeat' (first|exact V0|refine V1 ?_|refine V2 ?_ ?_|fail)))
  (all_goals (try (first|refine CvL.eq ?_|refine Cv.eq ?_)))
  all_goals (simp only [AV.ren, AV.v.injEq, Value.bool.injEq]; rw [← hr]; simp [Bool.and_assoc])
def rvGo : List Ch → List Ch → Bool
  | _, [] => true
  | s, c :: r => properB c && (!s.any (alikeB c) && rvGo (s ++ [c]) r)
def rvalidM (l : List Ch) : Bool := rvGo [] l && decide ((l.length : Int) ≤ 32)
set_option maxHeartbeats 4000000 in
theorem rValid_c (l : List Ch) (f : Bool) (ho : oks l) (hl : l.length ≤ 9223372036854775807) : ACalls Tryz.prog 32 [.agg [.sl 3 (chs l) f]] [] (.v (.bool (rvalidM l))) [] := by
  generalize hr : rvalidM l = r
  rw [rvalidM] at hr
  have hll : (chs l).length = l.length := by simp
  refine (ACalls.of (fn := Tryz.f32) Tryz.func32 O O Tryz.ntmps32 (fun I M w own => ?_))
  (repeat' (first|refine AW.seq_k (fun K hK=>?_)|(refine hK _ ?_;clear hK)|refine AW.block ?_|refine AW.rI [0, 1] O ?_|refine UA ?_|fail))
  refine AW.loopF (X := Nat) (fun x => ⟨[(1, .ptr 0 0), (3, .v (.int .i64 (x : Int)))], [.box [.sl 3 (chs l) f]]⟩)
    (fun i => i ≤ l.length ∧ rvGo [] l = rvGo (l.take i) (l.drop i)) (fun i => l.length - i) 0 ?_ ?_ ?_
  · refine Conv.mk [0] O O O ?_ O ?_
    (repeat' (first|exact V0|refine V3 ?_|refine V2 ?_ ?_|fail))
    (all_goals (try (first|refine CvL.eq ?_|refine Cv.eq ?_)))
    all_goals simp [AV.ren]
  · simp
  · rintro i ⟨h1, h2⟩
    rw [h2] at hr
    rcases Nat.lt_or_ge i l.length with h | h
    · have hA : At (chs l) (i : Int) l[i].pv := At.mk i O (by simp [h])
      have hok := ho l[i] (List.getElem_mem _)
      have hP := rProper_c l[i] hok
      rw [List.drop_eq_getElem_cons h, rvGo] at h2 hr
      cases hp : properB l[i] with
      | false =>
        rw [hp] at hP hr
        (repeat' (first|refine AW.seq_k (fun K hK=>?_)|(refine hK _ ?_;clear hK)|refine AW.uC (fun hc=>?_) (fun hc=>?_)|refine AW.block ?_|refine AW.ret ?_|refine AW.skip ?_|exact trivial|refine AW.rI [2, 4, 5] O ?_|refine Run.c0 hP O O O O O O O O ?_|refine UA ?_|fail))
        subst hr
        ((first|refine RetOk.tup O O ?_|refine RetOk.one O ?_)<;>(repeat' (first|exact V0|refine V1 ?_|refine V2 ?_ ?_|fail)))
      | true =>
        rw [hp] at hP hr h2
        simp only [Bool.true_and] at hr h2
        (repeat' (first|refine AW.seq_k (fun K hK=>?_)|(refine hK _ ?_;clear hK)|refine AW.uC (fun hc=>?_) (fun hc=>?_)|refine AW.block ?_|refine AW.skip ?_|exact trivial|refine AW.rI [2, 4, 6] O ?_|refine Run.c0 hP O O O O O O O O ?_|refine UA ?_|fail))
        refine AW.loopF (X := Nat) (fun k => ⟨[(1, .ptr 0 0), (3, .v (.int .i64 (i : Int))), (4, .v (.int .i64 (k : Int)))], [.box [.sl 3 (chs l) f]]⟩)
          (fun k => k ≤ i ∧ (l.take k).any (alikeB l[i]) = false) (fun k => i - k) 0 ?_ ?_ ?_
        · refine Conv.mk [0] O O O ?_ O ?_
          (repeat' (first|exact V0|refine V3 ?_|refine V2 ?_ ?_|fail))
          (all_goals (try (first|refine CvL.eq ?_|refine Cv.eq ?_)))
          all_goals simp [AV.ren]
        · simp
        · rintro k ⟨k1, k2⟩
          rcases Nat.lt_or_ge k i with hk | hk
          · have hB : At (chs l) (k : Int) (l[k]'(by omega)).pv := At.mk k O (by simp [show k < l.length by omega])
            have hL := alike_c l[i] (l[k]'(by omega)) hok (ho _ (List.getElem_mem _))
            have hst : (l.take (k + 1)).any (alikeB l[i]) = alikeB l[i] (l[k]'(by omega)) := by
              rw [List.take_add_one, List.any_append, k2, List.getElem?_eq_getElem (by omega)]; simp
            cases hm : alikeB l[i] (l[k]'(by omega)) with
            | true =>
              rw [hm] at hL
              (repeat' (first|refine AW.seq_k (fun K hK=>?_)|(refine hK _ ?_;clear hK)|refine AW.uC (fun hc=>?_) (fun hc=>?_)|refine AW.block ?_|refine AW.ret ?_|refine AW.skip ?_|exact trivial|refine AW.draw (id := 9) (by kernel_rfl) ?_|refine AW.rI [7, 10] O ?_|refine Run.c0 hL O O O O O O O O ?_|refine UA ?_|fail))
              have : (l.take i).any (alikeB l[i]) = true := by
                rw [List.any_eq_true]
                exact ⟨l[k]'(by omega), by rw [List.mem_take_iff_getElem]; exact ⟨k, by omega, rfl⟩, hm⟩
              rw [this] at hr
              subst hr
              ((first|refine RetOk.tup O O ?_|refine RetOk.one O ?_)<;>(repeat' (first|exact V0|refine V1 ?_|refine V2 ?_ ?_|fail)))
            | false =>
              rw [hm] at hL hst
              (repeat' (first|refine AW.seq_k (fun K hK=>?_)|(refine hK _ ?_;clear hK)|refine AW.uC (fun hc=>?_) (fun hc=>?_)|refine AW.block ?_|refine AW.skip ?_|exact trivial|refine AW.draw (id := 9) (by kernel_rfl) ?_|refine AW.rI [7, 8] O ?_|refine Run.c0 hL O O O O O O O O ?_|refine UA ?_|fail))
              ((repeat (with_reducible refine inB_n ?_)); refine thenA_n ?_)
              refine ⟨k + 1, ⟨hk, hst⟩, by omega, ?_⟩
              refine Conv.mk [0] O O O ?_ O ?_
              (repeat' (first|exact V0|refine V3 ?_|refine V2 ?_ ?_|fail))
              (all_goals (try (first|refine CvL.eq ?_|refine Cv.eq ?_)))
              all_goals simp [AV.ren]
          · obtain rfl : k = i := by omega
            (repeat' (first|refine AW.seq_k (fun K hK=>?_)|(refine hK _ ?_;clear hK)|refine AW.uC (fun hc=>?_) (fun hc=>?_)|refine AW.exit ?_|(clear hK;refine hK _ ?_;clear hK)|exact trivial|refine AW.rI [7, 3] O ?_|refine UA ?_|fail))
            rw [k2] at h2
            ((repeat (with_reducible refine inB_n ?_)); refine thenA_n ?_)
            refine ⟨k + 1, ⟨h, ?_⟩, by omega, ?_⟩
            · rw [h2, List.take_add_one]; simp [h]
            · refine Conv.mk [0] O O O ?_ O ?_
              (repeat' (first|exact V0|refine V3 ?_|refine V2 ?_ ?_|fail))
              (all_goals (try (first|refine CvL.eq ?_|refine Cv.eq ?_)))
              all_goals simp [AV.ren]
    · rw [List.drop_eq_nil_of_le h, rvGo] at hr
      (repeat' (first|refine AW.seq_k (fun K hK=>?_)|(refine hK _ ?_;clear hK)|refine AW.uC (fun hc=>?_) (fun hc=>?_)|refine AW.exit ?_|refine AW.ret ?_|(clear hK;refine hK _ ?_;clear hK)|exact trivial|refine AW.rI [2, 11] O ?_|refine UA ?_|fail))
      subst hr
      ((first|refine RetOk.tup O O ?_|refine RetOk.one O ?_)<;>(repeat' (first|exact V0|refine V1 ?_|refine V2 ?_ ?_|fail)))
      (all_goals (try (first|refine CvL.eq ?_|refine Cv.eq ?_)))
      all_goals simp [AV.ren]
set_option maxHeartbeats 4000000 in
theorem Mod_c (v n : Int) (hv : -9223372036854775808 ≤ v ∧ v ≤ 9223372036854775807) (hn : 1 ≤ n ∧ n ≤ 1000000000) : ACalls Tryz.prog 23 [.v (.int .i64 v), .v (.int .i64 n)] [] (.v (.int .i64 (v % n))) [] := by
  have h1 : v.tmod n < n := Int.tmod_lt_of_pos _ (by omega)
  have h2 : -n < v.tmod n := Int.lt_tmod_of_pos _ (by omega)
  have h3 := Int.emod_nonneg v (show n ≠ 0 by omega)
  have h4 := Int.emod_lt_of_pos v (show 0 < n by omega)
  have h5 : v.tmod n = v % n ∨ v.tmod n = v % n - n := by
    have := Int.tmod_eq_emod (a := v) (b := n)
    split at this
    · left; omega
    · right; have : ((n.natAbs : Nat) : Int) = n := by omega
      omega
  refine (ACalls.of (fn := Tryz.f23) Tryz.func23 O O Tryz.ntmps23 (fun I M w own => ?_))
  (repeat' (first|refine AW.seq_k (fun K hK=>?_)|(refine hK _ ?_;clear hK)|refine AW.uC (fun hc=>?_) (fun hc=>?_)|refine AW.ret ?_|refine AW.skip ?_|exact trivial|refine AW.region ?_|refine UA ?_|fail))
  all_goals ((first|refine RetOk.tup O O ?_|refine RetOk.one O ?_)<;>(repeat' (first|exact V0|refine V1 ?_|refine V2 ?_ ?_|fail)))
  (all_goals (try (first|refine CvL.eq ?_|refine Cv.eq ?_)))
  all_goals (simp only [AV.ren, AV.v.injEq, Value.int.injEq, true_and]; omega)
abbrev ivs (l : List Int) : List (List PV) := l.map fun n => [PV.v (.int .i64 n)]
def Fits (l : List Int) : Prop := l.length ≤ 9223372036854775807 ∧ ∀ n ∈ l, -9223372036854775808 ≤ n ∧ n ≤ 9223372036854775807
abbrev dkR (l : List Int) (a : Nat) : Res := .box [.sl 1 (ivs l) false, .v (.int .i64 (a : Int))]
def dkN (l : List Int) (a : Nat) (n : Int) : Int := if h : a < l.length then l[a] % n else 0
def dkA (l : List Int) (a : Nat) : Nat := if a < l.length then a + 1 else a
theorem dkA_le {l : List Int} {a : Nat} (h : a ≤ l.length) : dkA l a ≤ l.length := by unfold dkA; split <;> omega
theorem dkN_rng (l : List Int) (a : Nat) (n : Int) (hn : 1 ≤ n) : 0 ≤ dkN l a n ∧ dkN l a n < n := by
  unfold dkN
  split
  · exact ⟨Int.emod_nonneg _ (by omega), Int.emod_lt_of_pos _ (by omega)⟩
  · omega
set_option maxHeartbeats 4000000 in
theorem New_c (l : List Int) (f : Bool) : ACalls Tryz.prog 10 [.sl 1 (ivs l) f] [] (.ptr 0 0) [dkR l 0] := by
  refine (ACalls.of (fn := Tryz.f10) Tryz.func10 O O Tryz.ntmps10 (fun I M w own => ?_))
  (repeat' (first|refine AW.seq_k (fun K hK=>?_)|(refine hK _ ?_;clear hK)|refine AW.ret ?_|refine AW.region ?_|refine UA ?_|fail))
  ((first|refine RetOk.tupS [0] O O O O O ?_ ?_|refine RetOk.oneS [0] O O O O ?_ ?_)<;>(repeat' (first|exact V0|refine V1 ?_|refine V2 ?_ ?_|fail)))
set_option maxHeartbeats 4000000 in
theorem Left_c (l : List Int) (a : Nat) : ACalls Tryz.prog 33 [.ptr 0 0] [dkR l a] (.v (.bool (decide ((a : Int) < (l.length : Int))))) [dkR l a] := by
  refine (ACalls.of (fn := Tryz.f33) Tryz.func33 O O Tryz.ntmps33 (fun I M w own => ?_))
  (repeat' (first|refine AW.seq_k (fun K hK=>?_)|(refine hK _ ?_;clear hK)|refine AW.ret ?_|refine AW.draw (id := 1) (by kernel_rfl) ?_|refine AW.region ?_|refine UA ?_|fail))
  ((first|refine RetOk.tupS [0] O O O O O ?_ ?_|refine RetOk.oneS [0] O O O O ?_ ?_)<;>(repeat' (first|exact V0|refine V1 ?_|refine V2 ?_ ?_|fail)))
  (all_goals (try (first|refine CvL.eq ?_|refine Cv.eq ?_)))
  all_goals simp [AV.ren, AV.rens, renL]
set_option maxHeartbeats 4000000 in
theorem Next_c (l : List Int) (hl : Fits l) (a : Nat) (ha : a ≤ l.length) (n : Int) (hn : 1 ≤ n ∧ n ≤ 1000000000) : ACalls Tryz.prog 11 [.ptr 0 0, .v (.int .i64 n)] [dkR l a] (.v (.int .i64 (dkN l a n))) [dkR l (dkA l a)] := by
  have hL := Left_c l a
  have hlen := hl.1
  by_cases h : a < l.length
  · have hM := Mod_c l[a] n (hl.2 _ (List.getElem_mem _)) hn
    have hA : At (ivs l) ((a : Int) + 1 - 1) [PV.v (.int .i64 l[a])] := At.mk a (by omega) (by simp [h])
    have hA' : At (ivs l) (a : Int) [PV.v (.int .i64 l[a])] := At.mk a O (by simp [h])
    generalize hr : dkN l a n = r
    generalize hr' : dkA l a = a'
    rw [dkN, dif_pos h] at hr
    rw [dkA, if_pos h] at hr'
    refine (ACalls.of (fn := Tryz.f11) Tryz.func11 O O Tryz.ntmps11 (fun I M w own => ?_))
    (repeat' (first|refine AW.seq_k (fun K hK=>?_)|(refine hK _ ?_;clear hK)|refine AW.uC (fun hc=>?_) (fun hc=>?_)|refine AW.ret ?_|refine AW.skip ?_|exact trivial|refine AW.draw (id := 4) (by kernel_rfl) ?_|refine AW.rI [0, 1, 3] O ?_|refine Run.cSA [0] hL O O O O O O O O O O O O ?_|refine Run.c0 hM O O O O O O O O ?_|refine UA ?_|fail))
    all_goals subst hr hr'
    all_goals ((first|refine RetOk.tupS [0] O O O O O ?_ ?_|refine RetOk.oneS [0] O O O O ?_ ?_)<;>(repeat' (first|exact V0|refine V1 ?_|refine V2 ?_ ?_|fail)))
    (all_goals (try (first|refine CvL.eq ?_|refine Cv.eq ?_)))
    all_goals simp [AV.ren, AV.rens, renL]
  · generalize hr : dkN l a n = r
    generalize hr' : dkA l a = a'
    rw [dkN, dif_neg h] at hr
    rw [dkA, if_neg h] at hr'
    refine (ACalls.of (fn := Tryz.f11) Tryz.func11 O O Tryz.ntmps11 (fun I M w own => ?_))
    (repeat' (first|refine AW.seq_k (fun K hK=>?_)|(refine hK _ ?_;clear hK)|refine AW.uC (fun hc=>?_) (fun hc=>?_)|refine AW.ret ?_|exact trivial|refine AW.rI [0, 1, 2] O ?_|refine Run.cSA [0] hL O O O O O O O O O O O O ?_|refine UA ?_|fail))
    all_goals subst hr hr'
    all_goals ((first|refine RetOk.tupS [0] O O O O O ?_ ?_|refine RetOk.oneS [0] O O O O ?_ ?_)<;>(repeat' (first|exact V0|refine V1 ?_|refine V2 ?_ ?_|fail)))
    (all_goals (try (first|refine CvL.eq ?_|refine Cv.eq ?_)))
    all_goals simp [AV.ren, AV.rens, renL]
def keepR (c : Ch) (l : List Ch) : List Ch := l.filter fun d => !alikeB d c
def rRemP (l : List Ch) (c : Ch) : List Ch × Int :=
  if rvalidM l = false then ([], 1) else if properB c = false then ([], 2) else ((keepR c l ++ [c]).drop ((keepR c l ++ [c]).length - 32), 0)
set_option maxHeartbeats 4000000 in
theorem rRemember_c (l : List Ch) (f : Bool) (c : Ch) (ho : oks l) (hco : c.ok) (hl : l.length ≤ 9223372036854775807) : ACalls Tryz.prog 43 [.agg [.sl 3 (chs l) f], .agg c.cells] [] (.tup [.agg [.sl 3 (chs (rRemP l c).1) false], .v (.int .i64 (rRemP l c).2)]) [] := by
  have hV := rValid_c l f ho hl
  have hP := rProper_c c hco
  have hll : (chs l).length = l.length := by simp
  generalize hr : rRemP l c = r
  rw [rRemP] at hr
  cases hv : rvalidM l with
  | false =>
    rw [hv, if_pos O] at hr
    rw [hv] at hV
    subst hr
    refine (ACalls.of (fn := Tryz.f43) Tryz.func43 O O Tryz.ntmps43 (fun I M w own => ?_))
    (repeat' (first|refine AW.seq_k (fun K hK=>?_)|(refine hK _ ?_;clear hK)|refine AW.uC (fun hc=>?_) (fun hc=>?_)|refine AW.ret ?_|exact trivial|refine AW.rI [0, 1, 2] O ?_|refine Run.c0 hV O O O O O O O O ?_|refine UA ?_|fail))
    ((first|refine RetOk.tup O O ?_|refine RetOk.one O ?_)<;>(repeat' (first|exact V0|refine V1 ?_|refine V2 ?_ ?_|fail)))
    all_goals rfl
  | true =>
    have s1 : l.length ≤ 32 := by
      simp only [rvalidM, Bool.and_eq_true, decide_eq_true_eq] at hv
      omega
    rw [hv, if_neg (by simp)] at hr
    rw [hv] at hV
    cases hp : properB c with
    | false =>
      rw [hp, if_pos O] at hr
      rw [hp] at hP
      subst hr
      refine (ACalls.of (fn := Tryz.f43) Tryz.func43 O O Tryz.ntmps43 (fun I M w own => ?_))
      (repeat' (first|refine AW.seq_k (fun K hK=>?_)|(refine hK _ ?_;clear hK)|refine AW.uC (fun hc=>?_) (fun hc=>?_)|refine AW.ret ?_|refine AW.skip ?_|exact trivial|refine AW.rI [0, 1, 3, 4] O ?_|refine Run.c0 hV O O O O O O O O ?_|refine Run.c0 hP O O O O O O O O ?_|refine UA ?_|fail))
      ((first|refine RetOk.tup O O ?_|refine RetOk.one O ?_)<;>(repeat' (first|exact V0|refine V1 ?_|refine V2 ?_ ?_|fail)))
      all_goals rfl
    | true =>
      rw [hp, if_neg (by simp)] at hr
      rw [hp] at hP
      have hps := proper_small hp
      refine (ACalls.of (fn := Tryz.f43) Tryz.func43 O O Tryz.ntmps43 (fun I M w own => ?_))
      (repeat' (first|refine AW.seq_k (fun K hK=>?_)|(refine hK _ ?_;clear hK)|refine AW.uC (fun hc=>?_) (fun hc=>?_)|refine AW.block ?_|refine AW.skip ?_|exact trivial|refine AW.rI [0, 1, 3, 5, 6] O ?_|refine Run.c0 hV O O O O O O O O ?_|refine Run.c0 hP O O O O O O O O ?_|refine UA ?_|fail))
      refine AW.loopF (X := Nat) (fun x => ⟨[(2, .ptr 0 0), (3, .ptr 1 0), (4, .ptr 2 0), (6, .row 3 (chs (keepR c (l.take x))).length), (7, .v (.int .i64 (x : Int)))], [.box [.sl 3 (chs l) f], .box c.cells, .box [.v (.slice none 0 0)], .row 3 (chs (keepR c (l.take x)))]⟩)
        (fun i => i ≤ l.length) (fun i => l.length - i) 0 ?_ ?_ ?_
      · refine Conv.own 6 3 [] (Or.inr ⟨rfl, rfl⟩) ?_
        refine Conv.mk [0, 1, 2, 3] O O O ?_ O ?_
        (repeat' (first|exact V0|refine V3 ?_|refine V2 ?_ ?_|fail))
        (all_goals (try (first|refine CvL.eq ?_|refine Cv.eq ?_)))
        all_goals simp [AV.ren, AV.rens, renL, keepR]
      · simp
      · rintro i h1
        have hfl : (keepR c (l.take i)).length ≤ i := by
          have := List.length_filter_le (fun d => !alikeB d c) (l.take i)
          rw [List.length_take] at this; unfold keepR; omega
        have hkl : (chs (keepR c (l.take i))).length = (keepR c (l.take i)).length := by simp
        rcases Nat.lt_or_ge i l.length with h | h
        · have hA : At (chs l) (i : Int) l[i].pv := At.mk i O (by simp [h])
          have hA' := alike_c l[i] c (ho _ (List.getElem_mem _)) hco
          have hst : keepR c (l.take (i + 1)) = keepR c (l.take i) ++ keepR c [l[i]] := by
            unfold keepR
            rw [List.take_add_one, List.filter_append, List.getElem?_eq_getElem h]; rfl
          cases hm : alikeB l[i] c with
          | true =>
            rw [hm] at hA'
            have e0 : keepR c [l[i]] = [] := by simp [keepR, hm]
            rw [e0, List.append_nil] at hst
            (repeat' (first|refine AW.seq_k (fun K hK=>?_)|(refine hK _ ?_;clear hK)|refine AW.uC (fun hc=>?_) (fun hc=>?_)|refine AW.block ?_|refine AW.skip ?_|exact trivial|refine AW.draw (id := 9) (by kernel_rfl) ?_|refine AW.rI [7, 8] O ?_|refine Run.c0 hA' O O O O O O O O ?_|refine UA ?_|fail))
            ((repeat (with_reducible refine inB_n ?_)); refine thenA_n ?_)
            refine ⟨i + 1, h, by omega, ?_⟩
            rw [hst]
            refine Conv.mk [0, 1, 2, 3] O O O ?_ O ?_
            (repeat' (first|exact V0|refine V3 ?_|refine V2 ?_ ?_|fail))
            (all_goals (try (first|refine CvL.eq ?_|refine Cv.eq ?_)))
            all_goals simp [AV.ren, AV.rens, renL]
          | false =>
            rw [hm] at hA'
            have e0 : keepR c [l[i]] = [l[i]] := by simp [keepR, hm]
            rw [e0] at hst
            (repeat' (first|refine AW.seq_k (fun K hK=>?_)|(refine hK _ ?_;clear hK)|refine AW.uC (fun hc=>?_) (fun hc=>?_)|refine AW.block ?_|refine AW.skip ?_|exact trivial|refine AW.draw (id := 9) (by kernel_rfl) ?_|refine AW.rI [7, 10, 8] O ?_|refine Run.c0 hA' O O O O O O O O ?_|refine UA ?_|fail))
            ((repeat (with_reducible refine inB_n ?_)); refine thenA_n ?_)
            refine ⟨i + 1, h, by omega, ?_⟩
            rw [hst, chs_app]
            refine Conv.mk [0, 1, 2, 3] O O O ?_ O ?_
            (repeat' (first|exact V0|refine V3 ?_|refine V2 ?_ ?_|fail))
            (all_goals (try (first|refine CvL.eq ?_|refine Cv.eq ?_)))
            all_goals simp [AV.ren, AV.rens, renL]
        · rw [List.take_of_length_le h] at hfl hkl ⊢
          have hil : (ids c.set).length = c.set.length := by simp
          (repeat' (first|refine AW.seq_k (fun K hK=>?_)|(refine hK _ ?_;clear hK)|refine AW.uC (fun hc=>?_) (fun hc=>?_)|refine AW.exit ?_|(clear hK;refine hK _ ?_;clear hK)|exact trivial|refine AW.rI [7, 11, 12] O ?_|refine UA ?_|fail))
          obtain ⟨o, hoo⟩ : ∃ o, o = keepR c l ++ [c] := ⟨_, rfl⟩
          have ho3 : chs (keepR c l) ++ [[PV.v (.string (bs c.role)), PV.sl 1 ([] ++ ids c.set), PV.v (.int .u64 c.dev)]] = chs o := by rw [hoo, chs_app]; rfl
          have ho4 : o.length ≤ 33 := by rw [hoo]; simp only [List.length_append, List.length_cons, List.length_nil]; omega
          have ho5 : (chs o).length = o.length := by simp
          rw [ho3]
          rw [← hoo] at hr
          (repeat' (first|(refine hK _ ?_;clear hK)|refine AW.ret ?_|refine rG 13 ?_|refine UA ?_|fail))
          subst hr
          ((first|refine RetOk.tup O O ?_|refine RetOk.one O ?_)<;>(repeat' (first|exact V0|refine V1 ?_|refine V2 ?_ ?_|fail)))
          (all_goals (try (first|refine CvL.eq ?_|refine Cv.eq ?_)))
          all_goals (simp only [AV.ren, AV.rens, AV.sl.injEq, List.cons.injEq, true_and, and_true])
          all_goals (rw [← List.map_drop]; congr 2; simp only [ho5]; omega)
set_option maxHeartbeats 4000000 in
theorem SameSet_c (a b : List Int) (fa fb : Bool) (ha : a.length ≤ 9223372036854775807) : ACalls Tryz.prog 61 [.sl 1 (ids a) fa, .sl 1 (ids b) fb] [] (.v (.bool (decide (a = b)))) [] := by
  have hll : (ids a).length = a.length := by simp
  have hlb : (ids b).length = b.length := by simp
  generalize he : decide (a = b) = r
  refine (ACalls.of (fn := Tryz.f61) Tryz.func61 O O Tryz.ntmps61 (fun I M w own => ?_))
  (repeat' (first|refine AW.seq_k (fun K hK=>?_)|(refine hK _ ?_;clear hK)|refine AW.uC (fun hc=>?_) (fun hc=>?_)|refine AW.block ?_|refine AW.ret ?_|refine AW.skip ?_|exact trivial|refine AW.rI [0, 1, 2, 3] O ?_|refine UA ?_|fail))
  · obtain rfl : r = false := by rw [← he]; simp; rintro rfl; omega
    ((first|refine RetOk.tup O O ?_|refine RetOk.one O ?_)<;>(repeat' (first|exact V0|refine V1 ?_|refine V2 ?_ ?_|fail)))
  · have hab : a.length = b.length := by omega
    refine AW.loopF (X := Nat) (fun x => ⟨[(0, .sl 1 (ids a) fa), (1, .sl 1 (ids b) fb), (5, .v (.int .i64 (x : Int)))], []⟩)
      (fun x => x ≤ a.length ∧ a.take x = b.take x) (fun x => a.length - x) 0 ?_ ?_ ?_
    · refine Conv.mk [] O O O ?_ O ?_
      (repeat' (first|exact V0|refine V3 ?_|refine V2 ?_ ?_|fail))
      (all_goals (try (first|refine CvL.eq ?_|refine Cv.eq ?_)))
      all_goals simp [AV.ren]
    · simp
    · rintro i ⟨h1, h2⟩
      rcases Nat.lt_or_ge i a.length with h | h
      · have hA : At (ids a) (i : Int) [PV.v (.int .u64 a[i])] := At.mk i O (by simp [h])
        have hB : At (ids b) (i : Int) [PV.v (.int .u64 (b[i]'(by omega)))] := At.mk i O (by simp [show i < b.length by omega])
        (repeat' (first|refine AW.seq_k (fun K hK=>?_)|(refine hK _ ?_;clear hK)|refine AW.uC (fun hc=>?_) (fun hc=>?_)|refine AW.block ?_|refine AW.ret ?_|refine AW.skip ?_|exact trivial|refine AW.draw (id := 6) (by kernel_rfl) ?_|refine AW.rI [4, 7, 5] O ?_|refine UA ?_|fail))
        · obtain rfl : r = false := by
            rw [← he, decide_eq_false_iff_not]
            rintro rfl
            exact hc O
          ((first|refine RetOk.tup O O ?_|refine RetOk.one O ?_)<;>(repeat' (first|exact V0|refine V1 ?_|refine V2 ?_ ?_|fail)))
        · ((repeat (with_reducible refine inB_n ?_)); refine thenA_n ?_)
          refine ⟨i + 1, ⟨h, ?_⟩, by omega, ?_⟩
          · rw [List.take_add_one, List.take_add_one, h2]
            congr 1
            simp [h, show i < b.length by omega, Decidable.not_not.1 hc]
          · refine Conv.mk [] O O O ?_ O ?_
            (repeat' (first|exact V0|refine V3 ?_|refine V2 ?_ ?_|fail))
            (all_goals (try (first|refine CvL.eq ?_|refine Cv.eq ?_)))
            all_goals simp [AV.ren]
      · (repeat' (first|refine AW.seq_k (fun K hK=>?_)|(refine hK _ ?_;clear hK)|refine AW.uC (fun hc=>?_) (fun hc=>?_)|refine AW.exit ?_|refine AW.ret ?_|(clear hK;refine hK _ ?_;clear hK)|exact trivial|refine AW.rI [4, 8] O ?_|refine UA ?_|fail))
        obtain rfl : r = true := by
          rw [← he, decide_eq_true_eq]
          rw [List.take_of_length_le h, List.take_of_length_le (by omega)] at h2
          exact h2
        ((first|refine RetOk.tup O O ?_|refine RetOk.one O ?_)<;>(repeat' (first|exact V0|refine V1 ?_|refine V2 ?_ ?_|fail)))
theorem Ch.ext' {a b : Ch} (h1 : a.role = b.role) (h2 : a.set = b.set) (h3 : a.dev = b.dev) : a = b := by cases a; cases b; simp_all
instance : DecidableEq Ch := fun a b => if h : a.role = b.role ∧ a.set = b.set ∧ a.dev = b.dev then isTrue (Ch.ext' h.1 h.2.1 h.2.2) else isFalse (fun e => h (e ▸ ⟨rfl, rfl, rfl⟩))
set_option maxHeartbeats 4000000 in
theorem Same_c (a b : List Ch) (fa fb : Bool) (ha : a.length ≤ 9223372036854775807) (ho : oks a) : ACalls Tryz.prog 44 [.agg [.sl 3 (chs a) fa], .agg [.sl 3 (chs b) fb]] [] (.v (.bool (decide (a = b)))) [] := by
  have hll : (chs a).length = a.length := by simp
  have hlb : (chs b).length = b.length := by simp
  generalize he : decide (a = b) = r
  refine (ACalls.of (fn := Tryz.f44) Tryz.func44 O O Tryz.ntmps44 (fun I M w own => ?_))
  (repeat' (first|refine AW.seq_k (fun K hK=>?_)|(refine hK _ ?_;clear hK)|refine AW.uC (fun hc=>?_) (fun hc=>?_)|refine AW.block ?_|refine AW.ret ?_|refine AW.skip ?_|exact trivial|refine AW.rI [0, 1, 2, 3] O ?_|refine UA ?_|fail))
  · obtain rfl : r = false := by rw [← he, decide_eq_false_iff_not]; rintro rfl; omega
    ((first|refine RetOk.tup O O ?_|refine RetOk.one O ?_)<;>(repeat' (first|exact V0|refine V1 ?_|refine V2 ?_ ?_|fail)))
  · have hab : a.length = b.length := by omega
    refine AW.loopF (X := Nat) (fun x => ⟨[(2, .ptr 0 0), (3, .ptr 1 0), (5, .v (.int .i64 (x : Int)))], [.box [.sl 3 (chs a) fa], .box [.sl 3 (chs b) fb]]⟩)
      (fun x => x ≤ a.length ∧ a.take x = b.take x) (fun x => a.length - x) 0 ?_ ?_ ?_
    · refine Conv.mk [0, 1] O O O ?_ O ?_
      (repeat' (first|exact V0|refine V3 ?_|refine V2 ?_ ?_|fail))
      (all_goals (try (first|refine CvL.eq ?_|refine Cv.eq ?_)))
      all_goals simp [AV.ren]
    · simp
    · rintro i ⟨h1, h2⟩
      rcases Nat.lt_or_ge i a.length with h | h
      · have hA : At (chs a) (i : Int) a[i].pv := At.mk i O (by simp [h])
        have hB : At (chs b) (i : Int) (b[i]'(by omega)).pv := At.mk i O (by simp [show i < b.length by omega])
        have hS := SameSet_c a[i].set (b[i]'(by omega)).set false false (ho _ (List.getElem_mem _)).2
        (repeat' (first|refine AW.seq_k (fun K hK=>?_)|(refine hK _ ?_;clear hK)|refine AW.uC (fun hc=>?_) (fun hc=>?_)|refine AW.block ?_|refine AW.ret ?_|refine AW.skip ?_|exact trivial|refine AW.draw (id := 6) (by kernel_rfl) ?_|refine AW.rI [4, 7, 8, 5] O ?_|refine Run.gccA (fun hg=>hS) (by first|exact Gd.f O O O O|exact Gd.f2 O O O O) O O O O O O O ?_|refine UA ?_|fail))
        · obtain rfl : r = false := by
            rw [← he, decide_eq_false_iff_not]
            rintro rfl
            simp at hc
          ((first|refine RetOk.tup O O ?_|refine RetOk.one O ?_)<;>(repeat' (first|exact V0|refine V1 ?_|refine V2 ?_ ?_|fail)))
        · have hxy : a[i] = b[i]'(by omega) := by
            exact Ch.ext' (by simp_all) (by simp_all) (by simp_all)
          ((repeat (with_reducible refine inB_n ?_)); refine thenA_n ?_)
          refine ⟨i + 1, ⟨h, ?_⟩, by omega, ?_⟩
          · rw [List.take_add_one, List.take_add_one, h2]
            congr 1
            simp [h, show i < b.length by omega, hxy]
          · refine Conv.mk [0, 1] O O O ?_ O ?_
            (repeat' (first|exact V0|refine V3 ?_|refine V2 ?_ ?_|fail))
            (all_goals (try (first|refine CvL.eq ?_|refine Cv.eq ?_)))
            all_goals simp [AV.ren]
      · (repeat' (first|refine AW.seq_k (fun K hK=>?_)|(refine hK _ ?_;clear hK)|refine AW.uC (fun hc=>?_) (fun hc=>?_)|refine AW.exit ?_|refine AW.ret ?_|(clear hK;refine hK _ ?_;clear hK)|exact trivial|refine AW.rI [4, 9] O ?_|refine UA ?_|fail))
        obtain rfl : r = true := by
          rw [← he, decide_eq_true_eq]
          rw [List.take_of_length_le h, List.take_of_length_le (by omega)] at h2
          exact h2
        ((first|refine RetOk.tup O O ?_|refine RetOk.one O ?_)<;>(repeat' (first|exact V0|refine V1 ?_|refine V2 ?_ ?_|fail)))
def roleL : List (List UInt8) := [[109, 117, 115, 105, 99], [118, 111, 105, 99, 101], [97, 108, 97, 114, 109], [103, 97, 109, 101]]
def roleAt (n : Int) : List UInt8 := roleL.getD n.toNat []
set_option maxHeartbeats 4000000 in
theorem Role_c (l : List Int) (hl : Fits l) (a : Nat) (ha : a ≤ l.length) : ACalls Tryz.prog 35 [.ptr 0 0] [dkR l a] (.v (.string (bs (roleAt (dkN l a 4))))) [dkR l (dkA l a)] := by
  have hN := Next_c l hl a ha 4 (by decide)
  obtain ⟨g1, g2⟩ := dkN_rng l a 4 (by decide)
  obtain ⟨n, hn⟩ : ∃ n : Nat, dkN l a 4 = (n : Int) := ⟨(dkN l a 4).toNat, by omega⟩
  rw [hn] at hN g1 g2 ⊢
  have hA : At [[PV.v (.string (bs [109, 117, 115, 105, 99]))], [PV.v (.string (bs [118, 111, 105, 99, 101]))], [PV.v (.string (bs [97, 108, 97, 114, 109]))], [PV.v (.string (bs [103, 97, 109, 101]))]] (n : Int) [PV.v (.string (bs (roleAt n)))] := by
    rcases n with _ | _ | _ | _ | n
    · exact At.mk 0 O O
    · exact At.mk 1 O O
    · exact At.mk 2 O O
    · exact At.mk 3 O O
    · omega
  refine (ACalls.of (fn := Tryz.f35) Tryz.func35 O O Tryz.ntmps35 (fun I M w own => ?_))
  (repeat' (first|refine AW.seq_k (fun K hK=>?_)|(refine hK _ ?_;clear hK)|refine AW.ret ?_|refine AW.region ?_|refine Run.cSA [0] hN O O O O O O O O O O O O ?_|refine UA ?_|fail))
  ((first|refine RetOk.tupS [0] O O O O O ?_ ?_|refine RetOk.oneS [0] O O O O ?_ ?_)<;>(repeat' (first|exact V0|refine V1 ?_|refine V2 ?_ ?_|fail)))
set_option maxHeartbeats 4000000 in
theorem in_c (n lo hi : Int) : ACalls Tryz.prog 97 [.v (.int .i64 n), .v (.int .i64 lo), .v (.int .i64 hi)] [] (.v (.bool (decide (lo ≤ n) && decide (n ≤ hi)))) [] := by
  refine (ACalls.of (fn := Tryz.f97) Tryz.func97 O O Tryz.ntmps97 (fun I M w own => ?_))
  (repeat' (first|refine AW.seq_k (fun K hK=>?_)|(refine hK _ ?_;clear hK)|refine AW.ret ?_|refine AW.region ?_|refine UA ?_|fail))
  all_goals ((first|refine RetOk.tup O O ?_|refine RetOk.one O ?_)<;>(repeat' (first|exact V0|refine V1 ?_|refine V2 ?_ ?_|fail)))
set_option maxHeartbeats 4000000 in
theorem Opens_c (role : List UInt8) (dir ch rate lat : Int) (hr : role.length ≤ 9223372036854775807) : ACalls Tryz.prog 54 [.v (.string (bs role)), .v (.int .i64 dir), .v (.int .i64 ch), .v (.int .i64 rate), .v (.int .i64 lat)] []
    (.v (.bool (nameB role && (decide (1 ≤ dir ∧ dir ≤ 2) && (decide (1 ≤ ch ∧ ch ≤ 8) && (decide (1000 ≤ rate ∧ rate ≤ 768000) && decide (0 ≤ lat ∧ lat ≤ 1099511627776))))))) [] := by
  have h1 := rName_c role hr
  generalize hq : (nameB role && (decide (1 ≤ dir ∧ dir ≤ 2) && (decide (1 ≤ ch ∧ ch ≤ 8) && (decide (1000 ≤ rate ∧ rate ≤ 768000) && decide (0 ≤ lat ∧ lat ≤ 1099511627776))))) = q
  refine (ACalls.of (fn := Tryz.f54) Tryz.func54 O O Tryz.ntmps54 (fun I M w own => ?_))
  (repeat' (first|refine AW.seq_k (fun K hK=>?_)|(refine hK _ ?_;clear hK)|refine AW.ret ?_|refine AW.region ?_|refine Run.c0 h1 O O O O O O O O ?_|refine Run.gccA (fun hg=>(in_c _ _ _)) (by first|exact Gd.t O O O O|exact Gd.t2 O O O O) O O O O O O O ?_|refine UA ?_|fail))
  all_goals ((first|refine RetOk.tup O O ?_|refine RetOk.one O ?_)<;>(repeat' (first|exact V0|refine V1 ?_|refine V2 ?_ ?_|fail)))
  (all_goals (try (first|refine CvL.eq ?_|refine Cv.eq ?_)))
  all_goals (simp only [AV.ren, AV.v.injEq, Value.bool.injEq]; rw [← hq, Bool.eq_iff_iff]; cases nameB role <;> simp only [Bool.and_eq_true, Bool.or_eq_true, decide_eq_true_eq, Bool.false_and, Bool.true_and, Bool.false_eq_true, false_and, true_and] <;> omega)
set_option maxHeartbeats 4000000 in
theorem clean_c (r : Rc) : ACalls Tryz.prog 53 [.agg r.cells] [] (.agg (aloneP r).cells) [] := by
  generalize hr : aloneP r = q
  rw [aloneP] at hr
  refine (ACalls.of (fn := Tryz.f53) Tryz.func53 O O Tryz.ntmps53 (fun I M w own => ?_))
  (repeat' (first|refine AW.seq_k (fun K hK=>?_)|(refine hK _ ?_;clear hK)|refine AW.uC (fun hc=>?_) (fun hc=>?_)|refine AW.block ?_|refine AW.ret ?_|refine AW.skip ?_|exact trivial|refine AW.draw (id := 6) (by kernel_rfl) ?_|refine AW.draw (id := 13) (by kernel_rfl) ?_|refine AW.region ?_|refine UA ?_|fail))
  all_goals try (exfalso; omega)
  all_goals (repeat (first|rw [if_pos (by omega)] at hr|rw [if_neg (by omega)] at hr))
  all_goals subst hr
  all_goals ((first|refine RetOk.tup O O ?_|refine RetOk.one O ?_)<;>(repeat' (first|exact V0|refine V1 ?_|refine V2 ?_ ?_|fail)))
set_option maxHeartbeats 4000000 in
theorem SameRecord_c (a b : Rc) (ha : a.set.length ≤ 9223372036854775807) : ACalls Tryz.prog 26 [.agg a.cells, .agg b.cells] [] (.v (.bool (decide (a = b)))) [] := by
  have h1 := SameSet_c a.set b.set false false ha
  generalize hr : decide (a = b) = r
  refine (ACalls.of (fn := Tryz.f26) Tryz.func26 O O Tryz.ntmps26 (fun I M w own => ?_))
  (repeat' (first|refine AW.seq_k (fun K hK=>?_)|(refine hK _ ?_;clear hK)|refine AW.ret ?_|refine AW.region ?_|refine Run.gccA (fun hg=>h1) (by first|exact Gd.t O O O O|exact Gd.t2 O O O O) O O O O O O O ?_|refine UA ?_|fail))
  ((first|refine RetOk.tup O O ?_|refine RetOk.one O ?_)<;>(repeat' (first|exact V0|refine V1 ?_|refine V2 ?_ ?_|fail)))
  (all_goals (try (first|refine CvL.eq ?_|refine Cv.eq ?_)))
  all_goals (simp only [AV.ren, AV.v.injEq, Value.bool.injEq]; rw [← hr, Bool.eq_iff_iff]; cases a; cases b; simp [and_assoc])
set_option maxHeartbeats 4000000 in
theorem qProper_c (okT : List UInt8 → Bool) (r : Rc) (ho : r.ok) (hP : PsOk okT 56 r) : ACalls Tryz.prog 22 [.agg r.cells] [] (.v (.bool (properR okT r))) [] := by
  have h1 := clean_c r
  have h2 := SameRecord_c r (aloneP r) ho.2.1
  have h3 := Opens_c r.role r.dir r.ch r.rate r.lat ho.1
  have h4 := rProper_c ⟨r.role, r.set, r.dev⟩ ⟨ho.1, ho.2.1⟩
  generalize hr : properR okT r = q
  rw [properR] at hr
  refine (ACalls.of (fn := Tryz.f22) Tryz.func22 O O Tryz.ntmps22 (fun I M w own => ?_))
  (repeat' (first|refine AW.seq_k (fun K hK=>?_)|(refine hK _ ?_;clear hK)|refine AW.uC (fun hc=>?_) (fun hc=>?_)|refine AW.block ?_|refine AW.ret ?_|refine AW.skip ?_|exact trivial|refine AW.draw (id := 1) (by kernel_rfl) ?_|refine AW.rI [0, 2, 3, 4, 5, 6, 7, 8, 9, 10, 11, 12, 14, 17] O ?_|refine Run.c0 h1 O O O O O O O O ?_|refine Run.c0 h2 O O O O O O O O ?_|refine Run.c0 h3 O O O O O O O O ?_|refine UA ?_|refine Run.g O O O O (fun hg=>?_) (fun hg=>?_)|fail))
  all_goals simp only [kA,kB,kC,kD,kE,kF,kG,kH,kI,kJ,kK,kL,kM,kN] at hg
  · obtain rfl : q = false := by
      rw [← hr]
      (repeat rw [if_neg (by omega)])
      exact Bool.and_false _
    ((first|refine RetOk.tup O O ?_|refine RetOk.one O ?_)<;>(repeat' (first|exact V0|refine V1 ?_|refine V2 ?_ ?_|fail)))
  · obtain rfl : q = false := by
      rw [← hr]
      rcases hc with h | h
      · rw [decide_eq_false h, Bool.false_and]
      · have h0 : decide (1 ≤ r.id ∧ r.id ≤ 9007199254740992) = false := decide_eq_false (by omega)
        rw [h0]
        simp only [Bool.false_and, Bool.and_eq_false_iff]
        refine Or.inr ?_
        (repeat' split) <;> first | rfl | omega
    ((first|refine RetOk.tup O O ?_|refine RetOk.one O ?_)<;>(repeat' (first|exact V0|refine V1 ?_|refine V2 ?_ ?_|fail)))
  all_goals (have hal : r = aloneP r ∧ ((r.kind = 6 ∨ r.kind = 7) ∨ 1 ≤ r.id ∧ r.id ≤ 9007199254740992) := by assumption)
  all_goals rw [decide_eq_true hal.1, Bool.true_and] at hr
  all_goals (repeat (first|rw [if_pos (by omega)] at hr|rw [if_neg (by omega)] at hr))
  all_goals (try rw [decide_eq_true (p := 1 ≤ r.id ∧ r.id ≤ 9007199254740992) (by omega)] at hr)
  all_goals (try rw [Bool.true_and] at hr)
  case' refine_2.refine_2.refine_2.refine_2.refine_2.refine_2.refine_1 =>
    have hsl : (ids r.set).length ≤ 9223372036854775807 := by rw [List.length_map]; exact ho.2.1
    have hB : properB ⟨r.role, r.set, r.dev⟩ = true → At (ids r.set) (((ids r.set).length : Int) - 1) [PV.v (.int .u64 (r.set.getLastD 0))] := by
      intro h
      have h1 : 1 ≤ r.set.length := by
        simp only [properB, Bool.and_eq_true, decide_eq_true_eq] at h
        omega
      refine At.mk (r.set.length - 1) (by rw [List.length_map]; omega) ?_
      rw [List.getElem?_map, List.getLastD_eq_getLast?, List.getLast?_eq_getElem?, List.getElem?_eq_getElem (by omega)]
      rfl
    (repeat' (first|(refine hK _ ?_;clear hK)|refine AW.ret ?_|refine rG 13 ?_|refine Run.c0 h4 O O O O O O O O ?_|refine UA ?_|fail))
  case' refine_2.refine_2.refine_2.refine_2.refine_2.refine_2.refine_2.refine_1 =>
    obtain ⟨sz, xs, n, e, he, hcl⟩ := hP (by assumption)
    (repeat' (first|refine AW.seq_k (fun K hK=>?_)|(refine hK _ ?_;clear hK)|refine AW.ret ?_|refine AW.rI [15, 16] O ?_|refine Run.c0 hcl O O O O O O O O ?_|refine UA ?_|fail))
  all_goals ((first|refine RetOk.tup O O ?_|refine RetOk.one O ?_)<;>(repeat' (first|exact V0|refine V1 ?_|refine V2 ?_ ?_|fail)))
  (all_goals (try (first|refine CvL.eq ?_|refine Cv.eq ?_)))
  all_goals (simp only [AV.ren, AV.v.injEq, Value.bool.injEq]; rw [← hr] <;> first | done | (rw [Bool.eq_iff_iff]; simp only [Bool.and_eq_true, Bool.or_eq_true, decide_eq_true_eq]; first | done | exact and_congr (by omega) (by assumption) | omega))
end Go.Proofs.YtbbcokckealagaaGreat
