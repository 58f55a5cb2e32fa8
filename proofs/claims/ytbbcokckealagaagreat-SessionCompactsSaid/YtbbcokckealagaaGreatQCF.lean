/-
  Walks of chapter 41: the place of a stream and the sameness of sessions, of the reference.
-/
import Derived.Test.YtbbcokckealagaaGreatQAA
import Derived.Test.YtbbcokckealagaaGreatQCE
import Derived.Laws.StructEq
import Derived.KernelRfl
namespace Go.Proofs.YtbbcokckealagaaGreat
set_option linter.unusedVariables false
set_option linter.unusedSimpArgs false
instance : NoIf Tryz.prog 67 := ⟨by kernel_rfl⟩
@[go_sem] theorem eqKp (a c d e f g j : Int) (b : ByteArray) (h : Bool) (w : World) : (Op.equalIn 10000 67 (.agg #[.int .i64 a, .string b, .int .i64 c, .int .i64 d, .int .i64 e, .int .i64 f, .int .i64 g, .bool h, .int .u64 j]) (.agg #[.int .i64 a, .string b, .int .i64 c, .int .i64 d, .int .i64 e, .int .i64 f, .int .i64 g, .bool h, .int .u64 j])).run Tryz.prog w = .ok true w := by
  have u3 := Tryz.underlying3
  have a3 := Tryz.isAgg3
  have z3 := Tryz.sizeOf3
  have u4 := Tryz.underlying9
  have a4 := Tryz.isAgg9
  have z4 := Tryz.sizeOf9
  have u5 := Tryz.underlying4
  have a5 := Tryz.isAgg4
  have z5 := Tryz.sizeOf4
  have u6 := Tryz.underlying23
  have a6 := Tryz.isAgg23
  have z6 := Tryz.sizeOf23
  have hS : Tryz.prog.underlying 67 = some (.struct (Tryz.prog.fieldsOf 67)) := by kernel_rfl
  have hp : Tryz.prog.stoodInHeld 67 = false := by kernel_rfl
  rw [show (10000 : Nat) = 9999 + 1 from rfl, run_equalIn_agg w 9999 67 _ _ hS hp]
  simp only [Program.fieldsOf, Tryz.underlying67]
  go_simp
theorem OpP.neSp {o : Oper} {ρ : Operand → AV} {t' : TypeId} {x y : Operand} {a c d e f g j : Int} {b : ByteArray} {h : Bool} (ho : o.op = .binOp .neq 67 x y t')
    (hx : ρ x = .agg [.v (.int .i64 a), .v (.string b), .v (.int .i64 c), .v (.int .i64 d), .v (.int .i64 e), .v (.int .i64 f), .v (.int .i64 g), .v (.bool h), .v (.int .u64 j)])
    (hy : ρ y = .agg [.v (.int .i64 a), .v (.string b), .v (.int .i64 c), .v (.int .i64 d), .v (.int .i64 e), .v (.int .i64 f), .v (.int .i64 g), .v (.bool h), .v (.int .u64 j)]) : OpP Tryz.prog o ρ (.v (.bool false)) :=
  OpP.binA (xs := [.int .i64 a, .string b, .int .i64 c, .int .i64 d, .int .i64 e, .int .i64 f, .int .i64 g, .bool h, .int .u64 j]) (ys := [.int .i64 a, .string b, .int .i64 c, .int .i64 d, .int .i64 e, .int .i64 f, .int .i64 g, .bool h, .int .u64 j]) ho hx hy (by repeat constructor) (by repeat constructor) (fun w => by simp [go_sem, binOp, Op.equal, Op.maxDepth])
def placeGo (id : Int) : List Kp → Nat → Int
  | [], _ => -1
  | k :: t, n => if k.id = id then n else placeGo id t (n + 1)
set_option maxHeartbeats 4000000 in
theorem Place_c (s : Se) (id : Int) (hl : s.streams.length ≤ 9223372036854775807) : ACalls Tryz.prog 42 [.agg s.cells, .v (.int .i64 id)] [] (.v (.int .i64 (placeGo id s.streams 0))) [] := by
  have hll : (kps s.streams).length = s.streams.length := by simp
  generalize hr : placeGo id s.streams 0 = r
  refine (ACalls.of (fn := Tryz.f42) Tryz.func42 O O Tryz.ntmps42 (fun I M w own => ?_))
  (repeat' (first|refine AW.seq_k (fun K hK=>?_)|(refine hK _ ?_;clear hK)|refine AW.block ?_|refine AW.rI [0, 1] O ?_|refine UA ?_|fail))
  refine AW.loopF (X := Nat) (fun x => ⟨[(1, .v (.int .i64 id)), (2, .ptr 0 0), (5, .v (.int .i64 (x : Int)))], [.box s.cells]⟩)
    (fun x => x ≤ s.streams.length ∧ placeGo id (s.streams.drop x) x = r) (fun x => s.streams.length - x) 0 ?_ ?_ ?_
  · refine Conv.mk [0] O O O ?_ O ?_
    · (repeat' (first|exact V0|refine V3 ?_|refine V2 ?_ ?_|fail))
      (all_goals (try (first|refine CvL.eq ?_|refine Cv.eq ?_)))
      all_goals simp [AV.ren, renL]
    · (repeat' (first|exact V0|refine V3 ?_|refine V2 ?_ ?_|fail))
  · exact ⟨Nat.zero_le _, hr⟩
  · rintro i ⟨h1, h2⟩
    rcases Nat.lt_or_ge i s.streams.length with h | h
    · have hA : At (kps s.streams) (i : Int) s.streams[i].pv := At.mk i O (by simp [h])
      rw [List.drop_eq_getElem_cons h, placeGo] at h2
      generalize s.streams[i] = k at hA h2
      (repeat' (first|refine AW.seq_k (fun K hK=>?_)|(refine hK _ ?_;clear hK)|refine AW.uC (fun hc=>?_) (fun hc=>?_)|refine AW.block ?_|refine AW.ret ?_|refine AW.skip ?_|exact trivial|refine AW.rI [2, 4, 5, 3] O ?_|refine UA ?_|fail))
      · rw [if_pos hc] at h2
        subst h2
        ((first|refine RetOk.tup O O ?_|refine RetOk.one O ?_)<;>(repeat' (first|exact V0|refine V1 ?_|refine V2 ?_ ?_|fail)))
      · rw [if_neg hc] at h2
        ((repeat (with_reducible refine inB_n ?_)); refine thenA_n ?_)
        refine ⟨i + 1, ⟨h, h2⟩, by omega, ?_⟩
        refine Conv.mk [0] O O O ?_ O ?_
        · (repeat' (first|exact V0|refine V3 ?_|refine V2 ?_ ?_|fail))
          (all_goals (try (first|refine CvL.eq ?_|refine Cv.eq ?_)))
          all_goals simp [AV.ren, renL]
        · (repeat' (first|exact V0|refine V3 ?_|refine V2 ?_ ?_|fail))
    · rw [List.drop_eq_nil_of_le h, placeGo] at h2
      subst h2
      (repeat' (first|refine AW.seq_k (fun K hK=>?_)|(refine hK _ ?_;clear hK)|refine AW.uC (fun hc=>?_) (fun hc=>?_)|refine AW.exit ?_|refine AW.ret ?_|(clear hK;refine hK _ ?_;clear hK)|exact trivial|refine AW.rI [2, 6] O ?_|refine UA ?_|fail))
      ((first|refine RetOk.tup O O ?_|refine RetOk.one O ?_)<;>(repeat' (first|exact V0|refine V1 ?_|refine V2 ?_ ?_|fail)))
set_option maxHeartbeats 4000000 in
theorem SameS_c (s : Se) (hs : s.ok) : ACalls Tryz.prog 16 [.agg s.cells, .agg s.cells] [] (.v (.bool true)) [] := by
  have hll : (kps s.streams).length = s.streams.length := by simp
  have hst := hs.st
  have h0 : ¬ (((kps s.streams).length : Int) ≠ ((kps s.streams).length : Int)) := fun h => h O
  have hm := Same_c s.mem s.mem false false (by have := hs.mem; omega) hs.oks
  rw [decide_eq_true O] at hm
  refine (ACalls.of (fn := Tryz.f16) Tryz.func16 O O Tryz.ntmps16 (fun I M w own => ?_))
  (repeat' (first|refine AW.seq_k (fun K hK=>?_)|(refine hK _ ?_;clear hK)|refine AW.uC (fun hc=>?_) (fun hc=>?_)|refine AW.block ?_|refine AW.ret ?_|refine AW.skip ?_|exact trivial|refine AW.rI [0, 1, 2, 3] O ?_|refine Run.c0 hm O O O O O O O O ?_|refine Ud ?_|fail))
  · exact absurd O hc
  · refine AW.loopF (X := Nat) (fun x => ⟨[(2, .ptr 0 0), (3, .ptr 1 0), (5, .v (.int .i64 (x : Int)))], [.box s.cells, .box s.cells]⟩)
      (fun x => x ≤ s.streams.length) (fun x => s.streams.length - x) 0 ?_ (Nat.zero_le _) ?_
    · refine Conv.mk [0, 1] O O O ?_ O ?_
      · (repeat' (first|exact V0|refine V3 ?_|refine V2 ?_ ?_|fail))
        (all_goals (try (first|refine CvL.eq ?_|refine Cv.eq ?_)))
        all_goals simp [AV.ren, renL]
      · (repeat' (first|exact V0|refine V3 ?_|refine V2 ?_ ?_|fail))
    · rintro i h1
      rcases Nat.lt_or_ge i s.streams.length with h | h
      · have hA : At (kps s.streams) (i : Int) s.streams[i].pv := At.mk i O (by simp [h])
        generalize s.streams[i] = k at hA
        (repeat' (first|refine AW.seq_k (fun K hK=>?_)|(refine hK _ ?_;clear hK)|refine AW.uC (fun hc=>?_) (fun hc=>?_)|refine AW.block ?_|refine AW.skip ?_|exact trivial|refine AW.draw (id := 6) (by kernel_rfl) ?_|refine AW.rI [4, 5] O ?_|refine Ud ?_|fail))
        ((repeat (with_reducible refine inB_n ?_)); refine thenA_n ?_)
        refine ⟨i + 1, h, by omega, ?_⟩
        refine Conv.mk [0, 1] O O O ?_ O ?_
        · (repeat' (first|exact V0|refine V3 ?_|refine V2 ?_ ?_|fail))
          (all_goals (try (first|refine CvL.eq ?_|refine Cv.eq ?_)))
          all_goals simp [AV.ren, renL]
        · (repeat' (first|exact V0|refine V3 ?_|refine V2 ?_ ?_|fail))
      · (repeat' (first|refine AW.seq_k (fun K hK=>?_)|(refine hK _ ?_;clear hK)|refine AW.uC (fun hc=>?_) (fun hc=>?_)|refine AW.exit ?_|refine AW.ret ?_|(clear hK;refine hK _ ?_;clear hK)|exact trivial|refine AW.rI [4, 8] O ?_|refine UA ?_|fail))
        ((first|refine RetOk.tup O O ?_|refine RetOk.one O ?_)<;>(repeat' (first|exact V0|refine V1 ?_|refine V2 ?_ ?_|fail)))
def insI (l : List Kp) (id : Int) : Nat := (l.takeWhile fun k => decide (k.id < id)).length
def rstepP (s : Se) (r : Rc) (i : Int) : Se × Int :=
  if r.kind = 1 then
    if 0 ≤ i then (Se.zero, 8) else if 24 ≤ s.streams.length then (Se.zero, 3)
    else (⟨s.streams.take (insI s.streams r.id) ++ r.kept :: s.streams.drop (insI s.streams r.id), s.mem, s.text⟩, 0)
  else if r.kind = 6 then
    if (rRemP s.mem ⟨r.role, r.set, r.dev⟩).2 = 0 then (⟨s.streams, (rRemP s.mem ⟨r.role, r.set, r.dev⟩).1, s.text⟩, 0) else (Se.zero, (rRemP s.mem ⟨r.role, r.set, r.dev⟩).2)
  else if r.kind = 7 then (⟨s.streams, s.mem, r.text⟩, 0)
  else if i < 0 then (Se.zero, 7)
  else if r.kind = 2 then (⟨s.streams.take i.toNat ++ s.streams.drop (i.toNat + 1), s.mem, s.text⟩, 0)
  else if r.kind = 3 then (⟨s.streams.modify i.toNat fun k => { k with vol := r.n }, s.mem, s.text⟩, 0)
  else if r.kind = 4 then (⟨s.streams.modify i.toNat fun k => { k with muted := decide (r.n = 1) }, s.mem, s.text⟩, 0)
  else if r.kind = 5 then (⟨s.streams.modify i.toNat fun k => { k with pin := r.dev }, s.mem, s.text⟩, 0)
  else (s, 0)
def rapplyP (okT : List UInt8 → Bool) (s : Se) (r : Rc) : Se × Int :=
  if properR okT r = false then (Se.zero, 1) else rstepP s r (placeGo r.id s.streams 0)
theorem place_lt (id : Int) : ∀ (l : List Kp) (n : Nat), placeGo id l n = -1 ∨ ∃ j : Nat, j < l.length ∧ placeGo id l n = (n : Int) + j
  | [], n => Or.inl O
  | k :: t, n => by
    rw [placeGo]
    split
    · exact Or.inr ⟨0, by simp, by simp⟩
    · rcases place_lt id t (n + 1) with h | ⟨j, h1, h2⟩
      · exact Or.inl h
      · exact Or.inr ⟨j + 1, by simpa using h1, by rw [h2]; omega⟩
theorem ins_le (l : List Kp) (id : Int) : insI l id ≤ l.length := by
  induction l with
  | nil => simp [insI]
  | cons k t ih =>
    rw [insI, List.takeWhile_cons]
    split
    · simpa [insI] using ih
    · simp
theorem ins_lt : ∀ (l : List Kp) (id : Int) (i : Nat) (h : i < l.length), i < insI l id → l[i].id < id
  | [], _, _, h, _ => by simp at h
  | k :: t, id, i, h, hi => by
    rw [insI, List.takeWhile_cons] at hi
    split at hi
    · rename_i hk
      cases i with
      | zero => simpa using hk
      | succ i => exact ins_lt t id i (by simpa using h) (by simpa [insI] using hi)
    · simp at hi
theorem ins_at : ∀ (l : List Kp) (id : Int) (h : insI l id < l.length), ¬ l[insI l id].id < id
  | [], _, h => by simp at h
  | k :: t, id, h => by
    by_cases hk : k.id < id
    · have e : insI (k :: t) id = insI t id + 1 := by simp [insI, List.takeWhile_cons, hk]
      have := ins_at t id (by rw [e] at h; simpa using h)
      simp only [e, List.getElem_cons_succ]
      exact this
    · have e : insI (k :: t) id = 0 := by simp [insI, List.takeWhile_cons, hk]
      simp only [e, List.getElem_cons_zero]
      exact hk
set_option maxHeartbeats 4000000 in
theorem rApply_c (okT : List UInt8 → Bool) (s : Se) (r : Rc) (hs : s.ok) (ho : r.ok) (hP : PsOk okT 56 r) : ACalls Tryz.prog 15 [.agg s.cells, .agg r.cells] [] (.tup [.agg (rapplyP okT s r).1.cells, .v (.int .i64 (rapplyP okT s r).2)]) [] := by
  have hv := qProper_c okT r ho hP
  have hf := Place_c s r.id (by have := hs.st; omega)
  have hrm := rRemember_c s.mem false ⟨r.role, r.set, r.dev⟩ hs.oks ⟨ho.1, ho.2.1⟩ (by have := hs.mem; omega)
  generalize hp : rapplyP okT s r = p
  rw [rapplyP] at hp
  have hpl := place_lt r.id s.streams 0
  generalize hR : placeGo r.id s.streams 0 = R at hp hf hpl
  generalize hV : properR okT r = V at hp hv
  simp only [rstepP] at hp
  generalize hM : rRemP s.mem ⟨r.role, r.set, r.dev⟩ = Mm at hp hrm
  obtain ⟨st, mem, tx⟩ := s
  have hkl : (kps st).length = st.length := by simp
  obtain ⟨k1, k2, k3, k4⟩ := hs
  simp only at k1 k2 k3 k4 hM hR hp hpl
  rcases Decidable.em ((3 ≤ r.kind ∧ r.kind ≤ 5) ∧ 0 ≤ R) with hk | hk
  · obtain ⟨j, hj, hRj⟩ : ∃ j : Nat, j < st.length ∧ R = j := by
      rcases hpl with h | ⟨j, h1, h2⟩
      · omega
      · exact ⟨j, h1, by omega⟩
    subst hRj
    refine (ACalls.of (fn := Tryz.f15) Tryz.func15 O O Tryz.ntmps15 (fun I M w own => ?_))
    (repeat' (first|refine AW.seq_k (fun K hK=>?_)|(refine hK _ ?_;clear hK)|refine AW.uC (fun hc=>?_) (fun hc=>?_)|refine AW.block ?_|refine AW.ret ?_|refine AW.skip ?_|exact trivial|refine AW.rI [0, 1, 2, 3, 4, 5, 6, 17, 23, 26, 28, 29, 31, 33, 35] O ?_|refine Run.c0 hv O O O O O O O O ?_|refine Run.c0 hf O O O O O O O O ?_|refine Run.apBS (fun _=>rfl) O O O O (Or.inl ⟨_, rfl⟩) O O (Or.inl O) (SrcNI.dat Dat.sl) (m := (kps st).length) (by simp) (show 0 < (kps st).length by omega) (by omega) (by simp [maxLen];omega) O (by simp [keys]) (fun dd=>?_)|refine UA ?_|fail))
    all_goals (repeat (first|rw [if_pos (by first|assumption|decide|(rw [‹V = true›];decide)|omega|(simp only [List.length_map, List.nil_append] at *;omega))] at hp|rw [if_neg (by first|assumption|decide|(rw [‹V = true›];decide)|omega|(simp only [List.length_map, List.nil_append] at *;omega))] at hp))
    · subst hp
      ((first|refine RetOk.tup O O ?_|refine RetOk.one O ?_)<;>(repeat' (first|exact V0|refine V1 ?_|refine V2 ?_ ?_|fail)))
      (all_goals (try (first|refine CvL.eq ?_|refine Cv.eq ?_)))
      all_goals simp [AV.ren, Se.zero, Kp.pv, List.map_take, List.map_drop]
    · have hO := kp_store (fun k => { k with vol := r.n }) 6 (PV.v (.int .i64 r.n)) st j dd hj (by decide) (fun _ => rfl)
      (repeat' (first|refine AW.seq_k (fun K hK=>?_)|(refine hK _ ?_;clear hK)|refine rG 32 ?_|refine UA ?_|fail))
      refine AW.freezeA 3 9 (kps (st.modify j fun k => { k with vol := r.n })) (List.replicate dd z9) O O (kps_len9 _) ?_
      (repeat' (first|refine AW.seq_k (fun K hK=>?_)|(refine hK _ ?_;clear hK)|refine AW.ret ?_|refine AW.rI [37, 38] O ?_|refine UA ?_|fail))
      rw [show ((j : Nat) : Int).toNat = j from rfl] at hp
      subst hp
      ((first|refine RetOk.tup O O ?_|refine RetOk.one O ?_)<;>(repeat' (first|exact V0|refine V1 ?_|refine V2 ?_ ?_|fail)))
      (all_goals (try (first|refine CvL.eq ?_|refine Cv.eq ?_)))
      all_goals simp [AV.ren, Se.zero, Kp.pv, List.map_take, List.map_drop]
    · have hO := kp_store (fun k => { k with muted := decide (r.n = 1) }) 7 (PV.v (.bool (decide (r.n = 1)))) st j dd hj (by decide) (fun _ => rfl)
      (repeat' (first|refine AW.seq_k (fun K hK=>?_)|(refine hK _ ?_;clear hK)|refine rG 34 ?_|refine UA ?_|fail))
      refine AW.freezeA 3 9 (kps (st.modify j fun k => { k with muted := decide (r.n = 1) })) (List.replicate dd z9) O O (kps_len9 _) ?_
      (repeat' (first|refine AW.seq_k (fun K hK=>?_)|(refine hK _ ?_;clear hK)|refine AW.ret ?_|refine AW.rI [37, 38] O ?_|refine UA ?_|fail))
      rw [show ((j : Nat) : Int).toNat = j from rfl] at hp
      subst hp
      ((first|refine RetOk.tup O O ?_|refine RetOk.one O ?_)<;>(repeat' (first|exact V0|refine V1 ?_|refine V2 ?_ ?_|fail)))
      (all_goals (try (first|refine CvL.eq ?_|refine Cv.eq ?_)))
      all_goals simp [AV.ren, Se.zero, Kp.pv, List.map_take, List.map_drop]
    · have hO := kp_store (fun k => { k with pin := r.dev }) 8 (PV.v (.int .u64 r.dev)) st j dd hj (by decide) (fun _ => rfl)
      (repeat' (first|refine AW.seq_k (fun K hK=>?_)|(refine hK _ ?_;clear hK)|refine rG 36 ?_|refine UA ?_|fail))
      refine AW.freezeA 3 9 (kps (st.modify j fun k => { k with pin := r.dev })) (List.replicate dd z9) O O (kps_len9 _) ?_
      (repeat' (first|refine AW.seq_k (fun K hK=>?_)|(refine hK _ ?_;clear hK)|refine AW.ret ?_|refine AW.rI [37, 38] O ?_|refine UA ?_|fail))
      rw [show ((j : Nat) : Int).toNat = j from rfl] at hp
      subst hp
      ((first|refine RetOk.tup O O ?_|refine RetOk.one O ?_)<;>(repeat' (first|exact V0|refine V1 ?_|refine V2 ?_ ?_|fail)))
      (all_goals (try (first|refine CvL.eq ?_|refine Cv.eq ?_)))
      all_goals simp [AV.ren, Se.zero, Kp.pv, List.map_take, List.map_drop]
  · refine (ACalls.of (fn := Tryz.f15) Tryz.func15 O O Tryz.ntmps15 (fun I M w own => ?_))
    (repeat' (first|refine AW.seq_k (fun K hK=>?_)|(refine hK _ ?_;clear hK)|refine AW.uC (fun hc=>?_) (fun hc=>?_)|refine AW.block ?_|refine AW.ret ?_|refine AW.skip ?_|exact trivial|refine AW.rI [0, 1, 2, 3, 4, 5, 6, 7, 8, 9, 10, 11, 17, 18, 19, 20, 21, 22, 23, 24, 25, 26, 27, 28, 29, 31, 33, 35, 37, 38] O ?_|refine Run.c0 hv O O O O O O O O ?_|refine Run.c0 hf O O O O O O O O ?_|refine Run.c0 hrm O O O O O O O O ?_|refine UA ?_|fail))
    all_goals (repeat (first|rw [if_pos (by first|assumption|decide|(rw [‹V = true›];decide)|omega|(simp only [List.length_map, List.nil_append] at *;omega))] at hp|rw [if_neg (by first|assumption|decide|(rw [‹V = true›];decide)|omega|(simp only [List.length_map, List.nil_append] at *;omega))] at hp))
    · subst hp
      ((first|refine RetOk.tup O O ?_|refine RetOk.one O ?_)<;>(repeat' (first|exact V0|refine V1 ?_|refine V2 ?_ ?_|fail)))
      (all_goals (try (first|refine CvL.eq ?_|refine Cv.eq ?_)))
      all_goals simp [AV.ren, Se.zero, Kp.pv, List.map_take, List.map_drop]
    · subst hp
      ((first|refine RetOk.tup O O ?_|refine RetOk.one O ?_)<;>(repeat' (first|exact V0|refine V1 ?_|refine V2 ?_ ?_|fail)))
      (all_goals (try (first|refine CvL.eq ?_|refine Cv.eq ?_)))
      all_goals simp [AV.ren, Se.zero, Kp.pv, List.map_take, List.map_drop]
    · subst hp
      ((first|refine RetOk.tup O O ?_|refine RetOk.one O ?_)<;>(repeat' (first|exact V0|refine V1 ?_|refine V2 ?_ ?_|fail)))
      (all_goals (try (first|refine CvL.eq ?_|refine Cv.eq ?_)))
      all_goals simp [AV.ren, Se.zero, Kp.pv, List.map_take, List.map_drop]
    · have hT := ins_le st r.id
      have hT1 := ins_lt st r.id
      have hT2 := ins_at st r.id
      have hTq : insI st r.id = insI st r.id := rfl
      generalize insI st r.id = T at hp hT hT1 hT2
      clear hTq
      simp only [List.nil_append]
      refine AW.loopF (X := Nat) (fun x => ⟨[(2, .ptr 0 0), (3, .ptr 1 0), (4, .ptr 2 0), (7, .row 3 (kps st).length), (8, .v (.int .i64 (x : Int)))], [.box (Se.mk st mem tx).cells, .box r.cells, .box [.v (.slice none 0 0), .v (.slice none 0 0), .v (.string (bs []))], .row 9 (kps st)]⟩)
        (fun x => x ≤ T) (fun x => T - x) 0 ?_ (Nat.zero_le _) ?_
      · refine Conv.mk [0, 1, 2, 3] O O O ?_ O ?_
        · (repeat' (first|exact V0|refine V3 ?_|refine V2 ?_ ?_|fail))
          (all_goals (try (first|refine CvL.eq ?_|refine Cv.eq ?_)))
          all_goals simp [AV.ren, renL]
        · (repeat' (first|exact V0|refine V3 ?_|refine V2 ?_ ?_|fail))
          all_goals rfl
      · rintro i hi
        rcases Nat.lt_or_ge i T with h | h
        · have hil : i < st.length := by omega
          have hq := hT1 i hil h
          have hA : At (kps st) (i : Int) st[i].pv := At.mk i O (by simp [hil])
          generalize st[i] = k at hA hq
          (repeat' (first|refine AW.seq_k (fun K hK=>?_)|(refine hK _ ?_;clear hK)|refine AW.uC (fun hc=>?_) (fun hc=>?_)|refine AW.block ?_|refine AW.skip ?_|exact trivial|refine AW.draw (id := 12) (by kernel_rfl) ?_|refine rG 13 ?_|refine UA ?_|fail))
          ((repeat (with_reducible refine inB_n ?_)); refine thenA_n ?_)
          refine ⟨i + 1, by omega, by omega, ?_⟩
          refine Conv.mk [0, 1, 2, 3] O O O ?_ O ?_
          · (repeat' (first|exact V0|refine V3 ?_|refine V2 ?_ ?_|fail))
            (all_goals (try (first|refine CvL.eq ?_|refine Cv.eq ?_)))
            all_goals simp [AV.ren, renL]
          · (repeat' (first|exact V0|refine V3 ?_|refine V2 ?_ ?_|fail))
            all_goals rfl
        · obtain rfl : i = T := by omega
          rcases Nat.lt_or_ge i st.length with hil | hil
          · have hq := hT2 hil
            have hA : At (kps st) (i : Int) st[i].pv := At.mk i O (by simp [hil])
            generalize st[i] = k at hA hq
            (repeat' (first|refine AW.seq_k (fun K hK=>?_)|(refine hK _ ?_;clear hK)|refine AW.uC (fun hc=>?_) (fun hc=>?_)|refine AW.exit ?_|refine AW.ret ?_|(clear hK;refine hK _ ?_;clear hK)|exact trivial|refine AW.draw (id := 12) (by kernel_rfl) ?_|refine AW.draw (id := 15) (by kernel_rfl) ?_|refine AW.rI [14, 16] O ?_|refine UA ?_|fail))
            subst hp
            ((first|refine RetOk.tup O O ?_|refine RetOk.one O ?_)<;>(repeat' (first|exact V0|refine V1 ?_|refine V2 ?_ ?_|fail)))
            (all_goals (try (first|refine CvL.eq ?_|refine Cv.eq ?_)))
            all_goals simp [AV.ren, Se.zero, Kp.pv, List.map_take, List.map_drop]
          · have hge : ¬ ((i : Int) < ((kps st).length : Int)) := by omega
            (repeat' (first|refine AW.seq_k (fun K hK=>?_)|(refine hK _ ?_;clear hK)|refine AW.uC (fun hc=>?_) (fun hc=>?_)|refine AW.exit ?_|refine AW.ret ?_|(clear hK;refine hK _ ?_;clear hK)|exact trivial|refine AW.draw (id := 12) (by kernel_rfl) ?_|refine AW.draw (id := 15) (by kernel_rfl) ?_|refine AW.rI [14, 16] O ?_|refine Ud ?_|fail))
            subst hp
            ((first|refine RetOk.tup O O ?_|refine RetOk.one O ?_)<;>(repeat' (first|exact V0|refine V1 ?_|refine V2 ?_ ?_|fail)))
            (all_goals (try (first|refine CvL.eq ?_|refine Cv.eq ?_)))
            all_goals simp [AV.ren, Se.zero, Kp.pv, List.map_take, List.map_drop]
    · subst hp
      ((first|refine RetOk.tup O O ?_|refine RetOk.one O ?_)<;>(repeat' (first|exact V0|refine V1 ?_|refine V2 ?_ ?_|fail)))
      (all_goals (try (first|refine CvL.eq ?_|refine Cv.eq ?_)))
      all_goals simp [AV.ren, Se.zero, Kp.pv, List.map_take, List.map_drop]
    · subst hp
      ((first|refine RetOk.tup O O ?_|refine RetOk.one O ?_)<;>(repeat' (first|exact V0|refine V1 ?_|refine V2 ?_ ?_|fail)))
      (all_goals (try (first|refine CvL.eq ?_|refine Cv.eq ?_)))
      all_goals simp [AV.ren, Se.zero, Kp.pv, List.map_take, List.map_drop]
    · subst hp
      ((first|refine RetOk.tup O O ?_|refine RetOk.one O ?_)<;>(repeat' (first|exact V0|refine V1 ?_|refine V2 ?_ ?_|fail)))
      (all_goals (try (first|refine CvL.eq ?_|refine Cv.eq ?_)))
      all_goals simp [AV.ren, Se.zero, Kp.pv, List.map_take, List.map_drop]
    · subst hp
      ((first|refine RetOk.tup O O ?_|refine RetOk.one O ?_)<;>(repeat' (first|exact V0|refine V1 ?_|refine V2 ?_ ?_|fail)))
      (all_goals (try (first|refine CvL.eq ?_|refine Cv.eq ?_)))
      all_goals simp [AV.ren, Se.zero, Kp.pv, List.map_take, List.map_drop]
    · obtain ⟨j, hj, hRj⟩ : ∃ j : Nat, j < st.length ∧ R = j := by
        rcases hpl with h | ⟨j, h1, h2⟩
        · omega
        · exact ⟨j, h1, by omega⟩
      subst hRj
      (repeat' (first|refine AW.seq_k (fun K hK=>?_)|(refine hK _ ?_;clear hK)|refine AW.ret ?_|refine AW.draw (id := 30) (by kernel_rfl) ?_|refine AW.rI [37, 38] O ?_|refine UA ?_|fail))
      subst hp
      ((first|refine RetOk.tup O O ?_|refine RetOk.one O ?_)<;>(repeat' (first|exact V0|refine V1 ?_|refine V2 ?_ ?_|fail)))
      (all_goals (try (first|refine CvL.eq ?_|refine Cv.eq ?_)))
      all_goals simp [AV.ren, Se.zero, Kp.pv, List.map_take, List.map_drop]
    · subst hp
      ((first|refine RetOk.tup O O ?_|refine RetOk.one O ?_)<;>(repeat' (first|exact V0|refine V1 ?_|refine V2 ?_ ?_|fail)))
      (all_goals (try (first|refine CvL.eq ?_|refine Cv.eq ?_)))
      all_goals simp [AV.ren, Se.zero, Kp.pv, List.map_take, List.map_drop]
end Go.Proofs.YtbbcokckealagaaGreat
