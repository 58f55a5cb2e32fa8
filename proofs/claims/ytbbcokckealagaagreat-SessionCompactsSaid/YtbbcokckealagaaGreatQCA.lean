/-
  Walks of chapter 30: lists of IDs, choices that are proper, of the program and of the reference.
-/
import Derived.Test.YtbbcokckealagaaGreatQAA
import Derived.Test.YtbbcokckealagaaGreatQAF
namespace Go.Proofs.YtbbcokckealagaaGreat
set_option linter.unusedVariables false
set_option linter.unusedSimpArgs false
abbrev ids (l : List Int) : List (List PV) := l.map fun n => [PV.v (.int .u64 n)]
def ascI : Int → List Int → Bool
  | _, [] => true
  | b, x :: r => decide (b < x) && ascI x r
set_option maxHeartbeats 4000000 in
theorem Ascending_c (l : List Int) (f : Bool) (hl : l.length ≤ 9223372036854775807) : ACalls Tryz.prog 90 [.sl 1 (ids l) f] [] (.v (.bool (ascI 0 l))) [] := by
  generalize hr : ascI 0 l = r
  refine (ACalls.of (fn := Tryz.f90) Tryz.func90 O O Tryz.ntmps90 (fun I M w own => ?_))
  (repeat' (first|refine AW.seq_k (fun K hK=>?_)|(refine hK _ ?_;clear hK)|refine AW.block ?_|refine AW.rI [0, 1] O ?_|refine UA ?_|fail))
  refine AW.loopF (X := Nat × Int) (fun x => ⟨[(0, .sl 1 (ids l) f), (5, .sl 1 (ids l) f), (6, .v (.int .i64 (l.length : Int))), (7, .v (.int .i64 (x.1 : Int)))], []⟩)
    (fun x => x.1 ≤ l.length ∧ ascI 0 l = ascI x.2 (l.drop x.1) ∧ 0 ≤ x.2 ∧ (x.1 = 0 → x.2 = 0) ∧ (∀ i, x.1 = i + 1 → l[i]? = some x.2)) (fun x => l.length - x.1) (0, 0) ?_ ?_ ?_
  · refine Conv.mk [] O O O ?_ O ?_
    (repeat' (first|exact V0|refine V3 ?_|refine V2 ?_ ?_|fail))
    (all_goals (try (first|refine CvL.eq ?_|refine Cv.eq ?_)))
    all_goals simp [AV.ren]
  · simp
  · rintro ⟨i, b⟩ ⟨h1, h2, h3, h4, h5⟩
    simp only at h1 h2 h3 h4 h5 ⊢
    rw [h2] at hr
    rcases Nat.lt_or_ge i l.length with h | h
    · have hA : At (ids l) (i : Int) [PV.v (.int .u64 l[i])] := At.mk i O (by simp [h])
      rw [List.drop_eq_getElem_cons h, ascI] at h2 hr
      have hB : (!decide (l[i] < 1) && decide ((0 : Int) < (i : Int))) = true → At (ids l) ((i : Int) - 1) [PV.v (.int .u64 b)] := by
        intro h
        simp at h
        obtain ⟨j, rfl⟩ : ∃ j, i = j + 1 := ⟨i - 1, by omega⟩
        exact At.mk j (by omega) (by simp [h5 j O])
      (repeat' (first|refine AW.seq_k (fun K hK=>?_)|(refine hK _ ?_;clear hK)|refine AW.uC (fun hc=>?_) (fun hc=>?_)|refine AW.block ?_|refine AW.ret ?_|refine AW.skip ?_|exact trivial|refine AW.rI [2, 3, 4, 5, 6] O ?_|refine UA ?_|fail))
      · rw [decide_eq_false (by omega)] at hr
        subst hr
        ((first|refine RetOk.tup O O ?_|refine RetOk.one O ?_)<;>(repeat' (first|exact V0|refine V1 ?_|refine V2 ?_ ?_|fail)))
      · rw [decide_eq_true (by omega), Bool.true_and] at h2
        ((repeat (with_reducible refine inB_n ?_)); refine thenA_n ?_)
        refine ⟨(i + 1, l[i]), ⟨by simp only; omega, h2, by simp only; omega, by simp, fun j hj => ?_⟩, by simp only; omega, ?_⟩
        · obtain rfl : j = i := by simp only at hj; omega
          simp [h]
        · refine Conv.mk [] O O O ?_ O ?_
          (repeat' (first|exact V0|refine V3 ?_|refine V2 ?_ ?_|fail))
          (all_goals (try (first|refine CvL.eq ?_|refine Cv.eq ?_)))
          all_goals simp [AV.ren]
    · rw [List.drop_eq_nil_of_le h, ascI] at hr
      subst hr
      (repeat' (first|refine AW.seq_k (fun K hK=>?_)|(refine hK _ ?_;clear hK)|refine AW.uC (fun hc=>?_) (fun hc=>?_)|refine AW.exit ?_|refine AW.ret ?_|(clear hK;refine hK _ ?_;clear hK)|exact trivial|refine AW.rI [2, 7] O ?_|refine UA ?_|fail))
      ((first|refine RetOk.tup O O ?_|refine RetOk.one O ?_)<;>(repeat' (first|exact V0|refine V1 ?_|refine V2 ?_ ?_|fail)))
set_option maxHeartbeats 4000000 in
theorem Index_c (l : List Int) (f : Bool) (v : Int) (hl : l.length ≤ 9223372036854775807) : ∃ r : Int, (0 ≤ r ↔ v ∈ l) ∧ ACalls Tryz.prog 120 [.sl 1 (ids l) f, .v (.int .u64 v)] [] (.v (.int .i64 r)) [] := by
  obtain ⟨r, hr⟩ : ∃ r : Int, ∀ j : Nat, (∀ i : Nat, i < j → ∀ x, l[i]? = some x → x ≠ v) → (l[j]? = some v → r = j) ∧ (j = l.length → r = -1) := by
    by_cases hm : v ∈ l
    · obtain ⟨j, hj, e⟩ := List.mem_iff_getElem.1 hm
      have hex : ∃ j, l[j]? = some v := ⟨j, by rw [List.getElem?_eq_getElem hj, e]⟩
      obtain ⟨k, hk, hmin⟩ := least_of hex
      refine ⟨k, fun i hi => ⟨fun hv => ?_, fun e => ?_⟩⟩
      · have := hmin i hv
        rcases Nat.lt_or_ge k i with q | q
        · exact absurd O (hi k q v hk)
        · omega
      · exfalso
        exact hi k (by have := (List.getElem?_eq_some_iff.1 hk).1; omega) v hk O
    · refine ⟨-1, fun i hi => ⟨fun hv => absurd (List.mem_of_getElem? hv) hm, fun _ => rfl⟩⟩
  have hiff : 0 ≤ r ↔ v ∈ l := by
    constructor
    · intro h0
      rcases Decidable.em (v ∈ l) with hm | hm
      · exact hm
      · have := (hr l.length (fun i _ x hx e => hm (e ▸ List.mem_of_getElem? hx))).2 O
        omega
    · intro hm
      obtain ⟨j, hj, e⟩ := List.mem_iff_getElem.1 hm
      obtain ⟨k, hk, hmin⟩ := least_of (p := fun j => l[j]? = some v) ⟨j, by rw [List.getElem?_eq_getElem hj, e]⟩
      have := (hr k (fun i hi x hx e => by have := hmin i (by rw [hx, e]); omega)).1 hk
      omega
  refine ⟨r, hiff, ?_⟩
  refine (ACalls.of (fn := Tryz.f120) Tryz.func120 O O Tryz.ntmps120 (fun I M w own => ?_))
  (repeat' (first|refine AW.seq_k (fun K hK=>?_)|(refine hK _ ?_;clear hK)|refine AW.block ?_|refine AW.rI [0, 1] O ?_|refine UA ?_|fail))
  refine AW.loopF (X := Nat) (fun x => ⟨[(0, .sl 1 (ids l) f), (1, .v (.int .u64 v)), (7, .v (.int .i64 (l.length : Int))), (8, .v (.int .i64 (x : Int)))], []⟩)
    (fun j => j ≤ l.length ∧ ∀ i : Nat, i < j → ∀ x, l[i]? = some x → x ≠ v) (fun x => l.length - x) 0 ?_ ?_ ?_
  · refine Conv.mk [] O O O ?_ O ?_
    (repeat' (first|exact V0|refine V3 ?_|refine V2 ?_ ?_|fail))
    (all_goals (try (first|refine CvL.eq ?_|refine Cv.eq ?_)))
    all_goals simp [AV.ren]
  · exact ⟨Nat.zero_le _, fun i hi => by omega⟩
  · rintro j ⟨h1, h2⟩
    rcases Nat.lt_or_ge j l.length with h | h
    · have hA : At (ids l) (j : Int) [PV.v (.int .u64 l[j])] := At.mk j O (by simp [h])
      (repeat' (first|refine AW.seq_k (fun K hK=>?_)|(refine hK _ ?_;clear hK)|refine AW.uC (fun hc=>?_) (fun hc=>?_)|refine AW.block ?_|refine AW.ret ?_|refine AW.skip ?_|exact trivial|refine AW.rI [2, 3, 4, 5, 6] O ?_|refine UA ?_|fail))
      · obtain rfl := (hr j h2).1 (by rw [List.getElem?_eq_getElem h]; congr 1; omega)
        ((first|refine RetOk.tup O O ?_|refine RetOk.one O ?_)<;>(repeat' (first|exact V0|refine V1 ?_|refine V2 ?_ ?_|fail)))
      · ((repeat (with_reducible refine inB_n ?_)); refine thenA_n ?_)
        refine ⟨j + 1, ⟨h, fun i hi x hx => ?_⟩, by omega, ?_⟩
        · rcases Nat.lt_or_ge i j with q | q
          · exact h2 i q x hx
          · obtain rfl : i = j := by omega
            rw [List.getElem?_eq_getElem h] at hx
            injection hx with hx
            subst hx; omega
        · refine Conv.mk [] O O O ?_ O ?_
          (repeat' (first|exact V0|refine V3 ?_|refine V2 ?_ ?_|fail))
          (all_goals (try (first|refine CvL.eq ?_|refine Cv.eq ?_)))
          all_goals simp [AV.ren]
    · obtain rfl := (hr j h2).2 (by omega)
      (repeat' (first|refine AW.seq_k (fun K hK=>?_)|(refine hK _ ?_;clear hK)|refine AW.uC (fun hc=>?_) (fun hc=>?_)|refine AW.exit ?_|refine AW.ret ?_|(clear hK;refine hK _ ?_;clear hK)|exact trivial|refine AW.rI [2, 7] O ?_|refine UA ?_|fail))
      ((first|refine RetOk.tup O O ?_|refine RetOk.one O ?_)<;>(repeat' (first|exact V0|refine V1 ?_|refine V2 ?_ ?_|fail)))
set_option maxHeartbeats 4000000 in
theorem Contains_c (l : List Int) (f : Bool) (v : Int) (hl : l.length ≤ 9223372036854775807) : ACalls Tryz.prog 91 [.sl 1 (ids l) f, .v (.int .u64 v)] [] (.v (.bool (decide (v ∈ l)))) [] := by
  obtain ⟨r, h1, h2⟩ := Index_c l f v hl
  refine (ACalls.of (fn := Tryz.f91) Tryz.func91 O O Tryz.ntmps91 (fun I M w own => ?_))
  (repeat' (first|refine AW.seq_k (fun K hK=>?_)|(refine hK _ ?_;clear hK)|refine AW.ret ?_|refine AW.region ?_|refine Run.c0 h2 O O O O O O O O ?_|refine UA ?_|fail))
  ((first|refine RetOk.tup O O ?_|refine RetOk.one O ?_)<;>(repeat' (first|exact V0|refine V1 ?_|refine V2 ?_ ?_|fail)))
  (all_goals (try (first|refine CvL.eq ?_|refine Cv.eq ?_)))
  all_goals (simp only [AV.ren, AV.v.injEq, Value.bool.injEq]; exact decide_eq_decide.2 h1)
set_option maxHeartbeats 4000000 in
theorem Equal_c (a b : List Int) (fa fb : Bool) (ha : a.length ≤ 9223372036854775807) : ACalls Tryz.prog 89 [.sl 1 (ids a) fa, .sl 1 (ids b) fb] [] (.v (.bool (decide (a = b)))) [] := by
  generalize he : decide (a = b) = r
  refine (ACalls.of (fn := Tryz.f89) Tryz.func89 O O Tryz.ntmps89 (fun I M w own => ?_))
  (repeat' (first|refine AW.seq_k (fun K hK=>?_)|(refine hK _ ?_;clear hK)|refine AW.uC (fun hc=>?_) (fun hc=>?_)|refine AW.block ?_|refine AW.ret ?_|refine AW.skip ?_|exact trivial|refine AW.rI [0, 1, 2, 3] O ?_|refine UA ?_|fail))
  · simp only [List.length_map] at hc
    obtain rfl : r = false := by rw [← he]; simp; rintro rfl; omega
    ((first|refine RetOk.tup O O ?_|refine RetOk.one O ?_)<;>(repeat' (first|exact V0|refine V1 ?_|refine V2 ?_ ?_|fail)))
  · simp only [List.length_map, Decidable.not_not, ne_eq] at hc
    have hab : a.length = b.length := by omega
    refine AW.loopF (X := Nat) (fun x => ⟨[(0, .sl 1 (ids a) fa), (1, .sl 1 (ids b) fb), (12, .v (.int .i64 (a.length : Int))), (13, .v (.int .i64 (x : Int)))], []⟩)
      (fun x => x ≤ a.length ∧ a.take x = b.take x) (fun x => a.length - x) 0 ?_ ?_ ?_
    · refine Conv.mk [] O O O ?_ O ?_
      (repeat' (first|exact V0|refine V3 ?_|refine V2 ?_ ?_|fail))
      (all_goals (try (first|refine CvL.eq ?_|refine Cv.eq ?_)))
      all_goals simp [AV.ren]
    · simp
    · rintro i ⟨h1, h2⟩
      rcases Nat.lt_or_ge i a.length with h | h
      · have hA : At (ids a) (i : Int) [PV.v (.int .u64 a[i])] := At.mk i O (by simp [h])
        have hB : At (ids b) (i : Int) [PV.v (.int .u64 (b[i]'(by omega)))] := At.mk i O (by simp [show i < b.length by omega])
        (repeat' (first|refine AW.seq_k (fun K hK=>?_)|(refine hK _ ?_;clear hK)|refine AW.uC (fun hc=>?_) (fun hc=>?_)|refine AW.block ?_|refine AW.ret ?_|refine AW.skip ?_|exact trivial|refine AW.draw (id := 6) (by kernel_rfl) ?_|refine AW.rI [4, 5, 7, 8] O ?_|refine UA ?_|fail))
        · obtain rfl : r = false := by
            rw [← he, decide_eq_false_iff_not]
            rintro rfl
            exact hc O
          ((first|refine RetOk.tup O O ?_|refine RetOk.one O ?_)<;>(repeat' (first|exact V0|refine V1 ?_|refine V2 ?_ ?_|fail)))
        · ((repeat (with_reducible refine inB_n ?_)); refine thenA_n ?_)
          refine ⟨i + 1, ⟨h, ?_⟩, by omega, ?_⟩
          · rw [List.take_add_one, List.take_add_one, h2]
            congr 1
            simp [h, show i < b.length by omega, Decidable.not_not.1 hc]
          · refine Conv.mk [] O O O ?_ O ?_
            (repeat' (first|exact V0|refine V3 ?_|refine V2 ?_ ?_|fail))
            (all_goals (try (first|refine CvL.eq ?_|refine Cv.eq ?_)))
            all_goals simp [AV.ren]
      · (repeat' (first|refine AW.seq_k (fun K hK=>?_)|(refine hK _ ?_;clear hK)|refine AW.uC (fun hc=>?_) (fun hc=>?_)|refine AW.exit ?_|refine AW.ret ?_|(clear hK;refine hK _ ?_;clear hK)|exact trivial|refine AW.rI [4, 9] O ?_|refine UA ?_|fail))
        obtain rfl : r = true := by
          rw [← he, decide_eq_true_eq]
          rw [List.take_of_length_le h, List.take_of_length_le (by omega)] at h2
          exact h2
        ((first|refine RetOk.tup O O ?_|refine RetOk.one O ?_)<;>(repeat' (first|exact V0|refine V1 ?_|refine V2 ?_ ?_|fail)))
structure Ch where
  role : List UInt8
  set : List Int
  dev : Int
abbrev Ch.cells (c : Ch) : List AV := [.v (.string (bs c.role)), .sl 1 (ids c.set) false, .v (.int .u64 c.dev)]
abbrev Ch.pv (c : Ch) : List PV := [.v (.string (bs c.role)), .sl 1 (ids c.set), .v (.int .u64 c.dev)]
abbrev chs (l : List Ch) : List (List PV) := l.map Ch.pv
def Ch.ok (c : Ch) : Prop := c.role.length ≤ 9223372036854775807 ∧ c.set.length ≤ 9223372036854775807
def properB (c : Ch) : Bool := nameB c.role && (decide (1 ≤ (c.set.length : Int)) && (decide ((c.set.length : Int) ≤ 8) && (ascI 0 c.set && decide (c.dev ∈ c.set))))
set_option maxHeartbeats 4000000 in
theorem Proper_c (c : Ch) (hc : c.ok) : ACalls Tryz.prog 51 [.agg c.cells] [] (.v (.bool (properB c))) [] := by
  generalize hr : properB c = r
  rw [properB] at hr
  obtain ⟨k1, k2⟩ := hc
  have h1 := Name_c c.role k1
  have h2 := Ascending_c c.set false k2
  have h3 := Contains_c c.set false c.dev k2
  refine (ACalls.of (fn := Tryz.f51) Tryz.func51 O O Tryz.ntmps51 (fun I M w own => ?_))
  (repeat' (first|refine AW.seq_k (fun K hK=>?_)|(refine hK _ ?_;clear hK)|refine AW.ret ?_|refine AW.region ?_|refine Run.c0 h1 O O O O O O O O ?_|refine Run.gccA (fun hg=>h2) (by first|exact Gd.t O O O O|exact Gd.t2 O O O O) O O O O O O O ?_|refine Run.gccA (fun hg=>h3) (by first|exact Gd.t O O O O|exact Gd.t2 O O O O) O O O O O O O ?_|refine UA ?_|fail))
  all_goals ((first|refine RetOk.tup O O ?_|refine RetOk.one O ?_)<;>(repeat' (first|exact V0|refine V1 ?_|refine V2 ?_ ?_|fail)))
  (all_goals (try (first|refine CvL.eq ?_|refine Cv.eq ?_)))
  all_goals (simp only [AV.ren, AV.v.injEq, Value.bool.injEq]; rw [← hr]; simp [Bool.and_assoc])
def likeB (a b : Ch) : Bool := decide (a.role = b.role) && decide (a.set = b.set)
set_option maxHeartbeats 4000000 in
theorem like_c (a b : Ch) (ha : a.ok) : ACalls Tryz.prog 82 [.agg a.cells, .agg b.cells] [] (.v (.bool (likeB a b))) [] := by
  have h1 := Equal_c a.set b.set false false ha.2
  refine (ACalls.of (fn := Tryz.f82) Tryz.func82 O O Tryz.ntmps82 (fun I M w own => ?_))
  (repeat' (first|refine AW.seq_k (fun K hK=>?_)|(refine hK _ ?_;clear hK)|refine AW.ret ?_|refine AW.region ?_|refine Run.gccA (fun hg=>h1) (by first|exact Gd.t O O O O|exact Gd.t2 O O O O) O O O O O O O ?_|refine UA ?_|fail))
  all_goals ((first|refine RetOk.tup O O ?_|refine RetOk.one O ?_)<;>(repeat' (first|exact V0|refine V1 ?_|refine V2 ?_ ?_|fail)))
structure Rc where
  kind : Int
  id : Int
  role : List UInt8
  dir : Int
  ch : Int
  rate : Int
  lat : Int
  n : Int
  dev : Int
  set : List Int
  text : List UInt8
deriving DecidableEq
abbrev Rc.cells (r : Rc) : List AV := [.v (.int .i64 r.kind), .v (.int .i64 r.id), .v (.string (bs r.role)), .v (.int .i64 r.dir), .v (.int .i64 r.ch), .v (.int .i64 r.rate), .v (.int .i64 r.lat), .v (.int .i64 r.n), .v (.int .u64 r.dev), .sl 1 (ids r.set) false, .v (.string (bs r.text))]
def Rc.ok (r : Rc) : Prop := r.role.length ≤ 9223372036854775807 ∧ r.set.length ≤ 9223372036854775807 ∧ r.text.length ≤ 9223372036854775807
def aloneP (r : Rc) : Rc :=
  if r.kind = 1 then ⟨r.kind, r.id, r.role, r.dir, r.ch, r.rate, r.lat, 0, 0, [], []⟩
  else if r.kind = 3 ∨ r.kind = 4 then ⟨r.kind, r.id, [], 0, 0, 0, 0, r.n, 0, [], []⟩
  else if r.kind = 5 then ⟨r.kind, r.id, [], 0, 0, 0, 0, 0, r.dev, [], []⟩
  else if r.kind = 6 then ⟨r.kind, 0, r.role, 0, 0, 0, 0, 0, r.dev, r.set, []⟩
  else if r.kind = 7 then ⟨r.kind, 0, [], 0, 0, 0, 0, 0, 0, [], r.text⟩
  else ⟨r.kind, r.id, [], 0, 0, 0, 0, 0, 0, [], []⟩
set_option maxHeartbeats 4000000 in
theorem within_c (n lo hi : Int) : ACalls Tryz.prog 49 [.v (.int .i64 n), .v (.int .i64 lo), .v (.int .i64 hi)] [] (.v (.bool (decide (lo ≤ n) && decide (n ≤ hi)))) [] := by
  refine (ACalls.of (fn := Tryz.f49) Tryz.func49 O O Tryz.ntmps49 (fun I M w own => ?_))
  (repeat' (first|refine AW.seq_k (fun K hK=>?_)|(refine hK _ ?_;clear hK)|refine AW.ret ?_|refine AW.region ?_|refine UA ?_|fail))
  all_goals ((first|refine RetOk.tup O O ?_|refine RetOk.one O ?_)<;>(repeat' (first|exact V0|refine V1 ?_|refine V2 ?_ ?_|fail)))
set_option maxHeartbeats 4000000 in
theorem same_c (a b : Rc) (ha : a.set.length ≤ 9223372036854775807) : ACalls Tryz.prog 47 [.agg a.cells, .agg b.cells] [] (.v (.bool (decide (a = b)))) [] := by
  have h1 := Equal_c a.set b.set false false ha
  generalize hr : decide (a = b) = r
  refine (ACalls.of (fn := Tryz.f47) Tryz.func47 O O Tryz.ntmps47 (fun I M w own => ?_))
  (repeat' (first|refine AW.seq_k (fun K hK=>?_)|(refine hK _ ?_;clear hK)|refine AW.ret ?_|refine AW.region ?_|refine Run.gccA (fun hg=>h1) (by first|exact Gd.t O O O O|exact Gd.t2 O O O O) O O O O O O O ?_|refine UA ?_|fail))
  ((first|refine RetOk.tup O O ?_|refine RetOk.one O ?_)<;>(repeat' (first|exact V0|refine V1 ?_|refine V2 ?_ ?_|fail)))
  (all_goals (try (first|refine CvL.eq ?_|refine Cv.eq ?_)))
  all_goals (simp only [AV.ren, AV.v.injEq, Value.bool.injEq]; rw [← hr, Bool.eq_iff_iff]; cases a; cases b; simp [and_assoc])
set_option maxHeartbeats 4000000 in
theorem alone_c (r : Rc) : ACalls Tryz.prog 48 [.agg r.cells] [] (.agg (aloneP r).cells) [] := by
  generalize hr : aloneP r = q
  rw [aloneP] at hr
  refine (ACalls.of (fn := Tryz.f48) Tryz.func48 O O Tryz.ntmps48 (fun I M w own => ?_))
  (repeat' (first|refine AW.seq_k (fun K hK=>?_)|(refine hK _ ?_;clear hK)|refine AW.uC (fun hc=>?_) (fun hc=>?_)|refine AW.block ?_|refine AW.ret ?_|refine AW.skip ?_|exact trivial|refine AW.draw (id := 4) (by kernel_rfl) ?_|refine AW.draw (id := 11) (by kernel_rfl) ?_|refine AW.draw (id := 13) (by kernel_rfl) ?_|refine AW.region ?_|refine UA ?_|fail))
  all_goals (repeat (first|rw [if_pos (by omega)] at hr|rw [if_neg (by omega)] at hr))
  all_goals subst hr
  all_goals ((first|refine RetOk.tup O O ?_|refine RetOk.one O ?_)<;>(repeat' (first|exact V0|refine V1 ?_|refine V2 ?_ ?_|fail)))
def properR (okT : List UInt8 → Bool) (r : Rc) : Bool :=
  decide (r = aloneP r) &&
  if r.kind = 1 then decide (1 ≤ r.id ∧ r.id ≤ 9007199254740992) && (nameB r.role && (decide (1 ≤ r.dir ∧ r.dir ≤ 2) && (decide (1 ≤ r.ch ∧ r.ch ≤ 8) && (decide (1000 ≤ r.rate ∧ r.rate ≤ 768000) && decide (0 ≤ r.lat ∧ r.lat ≤ 1099511627776)))))
  else if r.kind = 2 then decide (1 ≤ r.id ∧ r.id ≤ 9007199254740992)
  else if r.kind = 3 then decide (1 ≤ r.id ∧ r.id ≤ 9007199254740992) && decide (0 ≤ r.n ∧ r.n ≤ 100)
  else if r.kind = 4 then decide (1 ≤ r.id ∧ r.id ≤ 9007199254740992) && decide (0 ≤ r.n ∧ r.n ≤ 1)
  else if r.kind = 5 then decide (1 ≤ r.id ∧ r.id ≤ 9007199254740992) && decide (r.dev ≤ 9007199254740992)
  else if r.kind = 6 then properB ⟨r.role, r.set, r.dev⟩ && decide (r.set.getLastD 0 ≤ 9007199254740992)
  else if r.kind = 7 then decide (r.text.length ≤ 1500) && okT r.text
  else false
def PsOk (okT : List UInt8 → Bool) (f : FuncId) (r : Rc) : Prop := r.kind = 7 → ∃ (sz : Nat) (xs : List (List PV)) (n e : Int), (e = 0 ↔ okT r.text = true) ∧ ACalls Tryz.prog f [.v (.string (bs r.text))] [] (.tup [.sl sz xs false, .v (.int .i64 n), .v (.int .i64 e)]) []
set_option maxHeartbeats 4000000 in
theorem sProper_c (okT : List UInt8 → Bool) (r : Rc) (ho : r.ok) (hP : PsOk okT 52 r) : ACalls Tryz.prog 21 [.agg r.cells] [] (.v (.bool (properR okT r))) [] := by
  have h1 := alone_c r
  have h2 := same_c r (aloneP r) ho.2.1
  have h3 := Name_c r.role ho.1
  have h4 := Proper_c ⟨r.role, r.set, r.dev⟩ ⟨ho.1, ho.2.1⟩
  generalize hr : properR okT r = q
  rw [properR] at hr
  refine (ACalls.of (fn := Tryz.f21) Tryz.func21 O O Tryz.ntmps21 (fun I M w own => ?_))
  (repeat' (first|refine AW.seq_k (fun K hK=>?_)|(refine hK _ ?_;clear hK)|refine AW.uC (fun hc=>?_) (fun hc=>?_)|refine AW.block ?_|refine AW.ret ?_|refine AW.skip ?_|exact trivial|refine AW.draw (id := 1) (by kernel_rfl) ?_|refine AW.rI [0, 2, 3, 4, 5, 6, 7, 8, 9, 10, 11, 12, 13, 14, 15, 17, 20] O ?_|refine Run.c0 h1 O O O O O O O O ?_|refine Run.c0 h2 O O O O O O O O ?_|refine Run.c0 (within_c _ _ _) O O O O O O O O ?_|refine Run.gccA (fun hg=>h3) (by first|exact Gd.t O O O O|exact Gd.t2 O O O O) O O O O O O O ?_|refine Run.gccA (fun hg=>(within_c _ _ _)) (by first|exact Gd.t O O O O|exact Gd.t2 O O O O) O O O O O O O ?_|refine UA ?_|fail))
  all_goals (repeat (first|rw [if_pos (by assumption)] at hr|rw [if_neg (by assumption)] at hr))
  case refine_1 =>
    rw [decide_eq_false (by assumption), Bool.false_and] at hr
    subst hr
    ((first|refine RetOk.tup O O ?_|refine RetOk.one O ?_)<;>(repeat' (first|exact V0|refine V1 ?_|refine V2 ?_ ?_|fail)))
  all_goals rw [decide_eq_true (by assumption), Bool.true_and] at hr
  case' refine_2.refine_2.refine_2.refine_2.refine_2.refine_2.refine_1 =>
    have hsl : (ids r.set).length ≤ 9223372036854775807 := by rw [List.length_map]; exact ho.2.1
    have hB : properB ⟨r.role, r.set, r.dev⟩ = true → At (ids r.set) (((ids r.set).length : Int) - 1) [PV.v (.int .u64 (r.set.getLastD 0))] := by
      intro h
      have h1 : 1 ≤ r.set.length := by
        simp only [properB, Bool.and_eq_true, decide_eq_true_eq] at h
        omega
      refine At.mk (r.set.length - 1) (by rw [List.length_map]; omega) ?_
      rw [List.getElem?_map, List.getLastD_eq_getLast?, List.getLast?_eq_getElem?, List.getElem?_eq_getElem (by omega)]
      rfl
    (repeat' (first|(refine hK _ ?_;clear hK)|refine AW.ret ?_|refine rG 16 ?_|refine Run.c0 h4 O O O O O O O O ?_|refine UA ?_|fail))
  case' refine_2.refine_2.refine_2.refine_2.refine_2.refine_2.refine_2.refine_1 =>
    obtain ⟨sz, xs, n, e, he, hcl⟩ := hP (by assumption)
    (repeat' (first|refine AW.seq_k (fun K hK=>?_)|(refine hK _ ?_;clear hK)|refine AW.ret ?_|refine AW.rI [18, 19] O ?_|refine Run.c0 hcl O O O O O O O O ?_|refine UA ?_|fail))
  all_goals ((first|refine RetOk.tup O O ?_|refine RetOk.one O ?_)<;>(repeat' (first|exact V0|refine V1 ?_|refine V2 ?_ ?_|fail)))
  (all_goals (try (first|refine CvL.eq ?_|refine Cv.eq ?_)))
  all_goals (simp only [AV.ren, AV.v.injEq, Value.bool.injEq]; rw [← hr, Bool.eq_iff_iff] <;> first | (simp [and_assoc]; done) | (simp only [Bool.and_eq_true, decide_eq_true_eq]; exact and_congr (by omega) (by assumption)))
end Go.Proofs.YtbbcokckealagaaGreat
