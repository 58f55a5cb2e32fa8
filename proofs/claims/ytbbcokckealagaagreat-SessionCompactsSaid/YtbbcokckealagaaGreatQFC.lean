/-
  Walks of chapter 41: the session that a journal restores.
-/
import Derived.Test.YtbbcokckealagaaGreatQAA
import Derived.Test.YtbbcokckealagaaGreatQFB
import Derived.Test.YtbbcokckealagaaGreatSsX
import Derived.Test.YtbbcokckealagaaGreatQCI
import Derived.Test.YtbbcokckealagaaGreatQCH
namespace Go.Proofs.YtbbcokckealagaaGreat
set_option linter.unusedVariables false
set_option linter.unusedSimpArgs false
def decO : List (Option Rc) → List Rc
  | some r :: t => r :: decO t
  | _ => []
def decs (l : List (List UInt8)) : List Rc := decO (l.map decM)
theorem decs_none {b : List UInt8} {t : List (List UInt8)} (h : decM b = none) : decs (b :: t) = [] := by unfold decs; rw [List.map_cons, h]; rfl
theorem decs_some {b : List UInt8} {t : List (List UInt8)} {r : Rc} (h : decM b = some r) : decs (b :: t) = r :: decs t := by unfold decs; rw [List.map_cons, h]; rfl
def resP (b : List UInt8) : Se × Nat × Int := replayGo okR (decs (jr b 0).1) Se.zero 0
theorem decM_ok {b : List UInt8} {r : Rc} (hb : b.length ≤ 1000000000) (h : decM b = some r) : r.ok ∧ r.text.length ≤ 1000000000 := by
  rw [decM] at h
  split at h
  · cases h
  · obtain rfl := Option.some.inj h
    have := recM_ok b hb
    exact ⟨this.1, by have := this.2.2; omega⟩
theorem jr_mem : ∀ (f : Nat) (r : List UInt8) (last : Nat), ∀ x ∈ (jall f r last).1, x.length ≤ 4096 := by
  intro f
  induction f with
  | zero => intro r last x hx; simp [jall] at hx
  | succ f ih =>
    intro r last x hx
    simp only [jall] at hx
    cases hj : jone r last with
    | inl e => rw [hj] at hx; simp at hx
    | inr p =>
      obtain ⟨y, g⟩ := p
      rw [hj] at hx
      simp only [List.mem_cons] at hx
      rcases hx with rfl | hx
      · exact (jone_inr hj).2
      · exact ih _ _ x hx
theorem jr_cnt : ∀ (f : Nat) (r : List UInt8) (last : Nat), (jall f r last).1.length ≤ r.length := by
  intro f
  induction f with
  | zero => intro r last; simp [jall]
  | succ f ih =>
    intro r last
    simp only [jall]
    cases hj : jone r last with
    | inl e => simp
    | inr p =>
      obtain ⟨y, g⟩ := p
      have h1 := jone_inr hj
      have h2 := ih (r.drop (y.length + 10)) g
      rw [List.length_drop] at h2
      simp only [List.length_cons]
      omega
theorem decs_all : ∀ (l : List (List UInt8)), (∀ x ∈ l, x.length ≤ 4096) → (∀ r ∈ decs l, r.ok) ∧ (∀ r ∈ decs l, r.text.length ≤ 1000000000) ∧ (decs l).length ≤ l.length
  | [], _ => ⟨by show ∀ r ∈ ([] : List Rc), r.ok; simp, by show ∀ r ∈ ([] : List Rc), r.text.length ≤ 1000000000; simp, by show ([] : List Rc).length ≤ 0; simp⟩
  | x :: t, h => by
    obtain ⟨h1, h2, h3⟩ := decs_all t (fun y hy => h y (List.mem_cons_of_mem _ hy))
    have hx := h x (List.mem_cons_self ..)
    cases hd : decM x with
    | none => rw [decs_none hd]; exact ⟨by simp, by simp, by simp⟩
    | some r =>
      obtain ⟨o1, o2⟩ := decM_ok (by omega) hd
      rw [decs_some hd]
      refine ⟨fun z hz => ?_, fun z hz => ?_, by simp only [List.length_cons]; omega⟩
      all_goals rcases List.mem_cons.1 hz with rfl | hz
      · exact o1
      · exact h1 z hz
      · exact o2
      · exact h2 z hz
set_option maxHeartbeats 4000000 in
theorem sRestore_c (b : List UInt8) (f : Bool) (hl : b.length ≤ 1000000) : ACalls Tryz.prog 28 [bsl b f] [] (.tup [.agg (resP b).1.cells, .v (.int .i64 ((resP b).2.1 : Int))]) [] := by
  have hRd := jRead_c b f hl
  have hm := jr_mem (b.length + 1) b 0
  have hc := jr_cnt (b.length + 1) b 0
  rw [← show jr b 0 = jall (b.length + 1) b 0 from rfl] at hm hc
  rw [resP]
  generalize jr b 0 = R at hRd hm hc
  obtain ⟨fs, n0, last, e0⟩ := R
  dsimp only at hRd hm hc ⊢
  obtain ⟨t1, t2, t3⟩ := decs_all fs hm
  have hR := Replay_c okR (decs fs) false (by omega) t1 (fun r hr => ps_prog r (by have := t2 r hr; omega))
  generalize replayGo okR (decs fs) Se.zero 0 = Q at hR
  obtain ⟨q1, q2, q3⟩ := Q
  dsimp only at hR ⊢
  generalize hD : decs fs = D at hR
  have hfl : (frB fs).length = fs.length := by simp
  refine (ACalls.of (fn := Tryz.f28) Tryz.func28 O O Tryz.ntmps28 (fun I M w own => ?_))
  (repeat' (first|refine AW.seq_k (fun K hK=>?_)|(refine hK _ ?_;clear hK)|refine AW.block ?_|refine AW.rI [0, 1, 2, 3] O ?_|refine Run.cSA [] hRd O O O O O O O O O O O O ?_|refine UA ?_|fail))
  refine AW.loopF (X := Nat × List Rc) (fun x => ⟨[(2, .ptr 0 0), (7, .row 2 (rcs x.2).length), (21, .row 1 (frB fs).length), (22, .v (.int .i64 ((frB fs).length : Int))), (23, .v (.int .i64 (x.1 : Int)))], [.box [.v (.slice none 0 0), .v (.slice none 0 0), .v (.string (bs []))], .row 1 (frB fs), .row 11 (rcs x.2)]⟩)
    (fun x => x.1 ≤ fs.length ∧ x.2.length ≤ x.1 ∧ (∀ r ∈ x.2, r.ok) ∧ (∀ r ∈ x.2, r.text.length ≤ 1000000000) ∧ x.2 ++ decs (fs.drop x.1) = D) (fun x => fs.length - x.1) (0, []) ?_ ⟨Nat.zero_le _, Nat.zero_le _, by simp, by simp, hD⟩ ?_
  · refine Conv.own 7 11 [] (Or.inr ⟨rfl, rfl⟩) ?_
    refine Conv.mk [0, 1, 2] O O O ?_ O ?_
    · (repeat' (first|exact V0|refine V3 ?_|refine V2 ?_ ?_|fail))
      all_goals first | rfl | (refine Cv.eq ?_; simp [AV.ren, renL]; done)
    · (repeat' (first|exact V0|refine V3 ?_|refine V2 ?_ ?_|fail))
      all_goals rfl
  rintro ⟨i, L⟩ ⟨i1, i2, i3, i4, i5⟩
  simp only at i1 i2 i3 i4 i5 ⊢
  have hLl : (rcs L).length = L.length := by simp
  have hDn : decs (fs.drop i) = [] → L = D := fun h => by rw [← i5, h, List.append_nil]
  rcases Nat.lt_or_ge i fs.length with h | h
  · have hlt : (i : Int) < ((frB fs).length : Int) := by omega
    have hx : fs.drop i = fs[i] :: fs.drop (i + 1) := List.drop_eq_getElem_cons h
    have hxm := hm fs[i] (List.getElem_mem h)
    have hA : At (frB fs) (i : Int) [PV.sl 1 (bsP fs[i])] := At.mk i O (by simp [frB, h])
    rw [hx] at i5 hDn
    generalize fs[i] = y at hxm hA i5 hDn
    have hd := sDecode_c y false (by omega)
    have hdn := @decs_none y (fs.drop (i + 1))
    have hds := @decs_some y (fs.drop (i + 1))
    have hdo := @decM_ok y
    generalize decM y = d at hd hdn hds hdo
    cases d with
    | none =>
      have hLD := hDn (hdn O)
      unfold decE at hd
      (repeat' (first|refine AW.seq_k (fun K hK=>?_)|(refine hK _ ?_;clear hK)|refine AW.uC (fun hc=>?_) (fun hc=>?_)|refine AW.block ?_|refine AW.exit ?_|refine AW.skip ?_|(clear hK;clear hK;refine hK _ ?_;clear hK)|exact trivial|refine AW.rI [4, 5, 6, 7] O ?_|refine Run.c0 hd O O O O O O O O ?_|refine Ud ?_|fail))
      refine AW.conv (s' := ⟨[(2, .ptr 0 0), (7, .sl 11 (rcs D) false)], [.box [.v (.slice none 0 0), .v (.slice none 0 0), .v (.string (bs []))]]⟩) (Conv.mk [0] O O O ?_ O ?_) ?_
      · (repeat' (first|exact V0|refine V3 ?_|refine V2 ?_ ?_|fail))
        all_goals (rw [← hLD]; first | exact Cv.rowf O O | exact Cv.refl)
      · (repeat' (first|exact V0|refine V3 ?_|refine V2 ?_ ?_|fail))
      (repeat' (first|refine AW.seq_k (fun K hK=>?_)|(refine hK _ ?_;clear hK)|refine AW.ret ?_|refine AW.rI [10, 11] O ?_|refine Run.c0 hR O O O O O O O O ?_|refine Ud ?_|fail))
      ((first|refine RetOk.tup O O ?_|refine RetOk.one O ?_)<;>(repeat' (first|exact V0|refine V1 ?_|refine V2 ?_ ?_|fail)))
    | some r =>
      obtain ⟨o1, o2⟩ := hdo (by omega) O
      rw [hds O] at i5
      unfold decE at hd
      (repeat' (first|refine AW.seq_k (fun K hK=>?_)|(refine hK _ ?_;clear hK)|refine AW.uC (fun hc=>?_) (fun hc=>?_)|refine AW.block ?_|refine AW.skip ?_|exact trivial|refine AW.rI [4, 5, 6, 7, 8, 9] O ?_|refine Run.c0 hd O O O O O O O O ?_|refine Ud ?_|fail))
      ((repeat (with_reducible refine inB_n ?_)); refine thenA_n ?_)
      refine ⟨(i + 1, L ++ [r]), ⟨h, by simp only [List.length_append, List.length_singleton]; omega, ?_, ?_, by rw [← i5]; simp⟩, by simp only; omega, ?_⟩
      · intro z hz
        rcases List.mem_append.1 hz with hz | hz
        · exact i3 z hz
        · obtain rfl := List.mem_singleton.1 hz; exact o1
      · intro z hz
        rcases List.mem_append.1 hz with hz | hz
        · exact i4 z hz
        · obtain rfl := List.mem_singleton.1 hz; exact o2
      refine Conv.mk [0, 1, 2] O O O ?_ O ?_
      · (repeat' (first|exact V0|refine V3 ?_|refine V2 ?_ ?_|fail))
        all_goals first | rfl | (refine Cv.eq ?_; simp [AV.ren, renL]; done)
      · (repeat' (first|exact V0|refine V3 ?_|refine V2 ?_ ?_|fail))
        all_goals first | rfl | (simp; done)
  · have hge : ¬ (i : Int) < ((frB fs).length : Int) := by omega
    have hLD := hDn (by rw [List.drop_eq_nil_of_le h]; rfl)
    (repeat' (first|refine AW.seq_k (fun K hK=>?_)|(refine hK _ ?_;clear hK)|refine AW.uC (fun hc=>?_) (fun hc=>?_)|refine AW.exit ?_|(clear hK;refine hK _ ?_;clear hK)|exact trivial|refine rG 4 ?_|refine Ud ?_|fail))
    refine AW.conv (s' := ⟨[(2, .ptr 0 0), (7, .sl 11 (rcs D) false)], [.box [.v (.slice none 0 0), .v (.slice none 0 0), .v (.string (bs []))]]⟩) (Conv.mk [0] O O O ?_ O ?_) ?_
    · (repeat' (first|exact V0|refine V3 ?_|refine V2 ?_ ?_|fail))
      all_goals (rw [← hLD]; first | exact Cv.rowf O O | exact Cv.refl)
    · (repeat' (first|exact V0|refine V3 ?_|refine V2 ?_ ?_|fail))
    (repeat' (first|refine AW.seq_k (fun K hK=>?_)|(refine hK _ ?_;clear hK)|refine AW.ret ?_|refine AW.rI [10, 11] O ?_|refine Run.c0 hR O O O O O O O O ?_|refine Ud ?_|fail))
    ((first|refine RetOk.tup O O ?_|refine RetOk.one O ?_)<;>(repeat' (first|exact V0|refine V1 ?_|refine V2 ?_ ?_|fail)))
def rvN (r : Rc) : List PV := if r.kind = 6 then r.pv else r.nv
def nvs (l : List Rc) : List (List PV) := l.map rvN
@[simp] theorem nvs_len (l : List Rc) : (nvs l).length = l.length := by simp [nvs]
end Go.Proofs.YtbbcokckealagaaGreat
