/-
  Walks of the reference's reader of conditions: a given word, a name, elements with a word between them.
-/
import Derived.Test.YtbbcokckealagaaGreatQAA
import Derived.Test.YtbbcokckealagaaGreatQAH
import Derived.Test.YtbbcokckealagaaGreatQAF
namespace Go.Proofs.YtbbcokckealagaaGreat
set_option linter.unusedVariables false
set_option linter.unusedSimpArgs false
structure Rq where
  pos : Nat
  bad : Bool
  ts : List Tm
abbrev rqR (l : List Wd) (s : Rq) : List Res := [.box [.sl 1 (wdsP l) false, .v (.int .i64 (s.pos : Int)), .v (.bool s.bad), .row 1 (tmP s.ts).length], .row 2 (tmP s.ts)]
def Rq.adv (s : Rq) : Rq := ⟨s.pos + 1, s.bad, s.ts⟩
def Rq.fail (s : Rq) : Rq := ⟨s.pos, true, s.ts⟩
def Rq.app (s : Rq) (kind : Int) : Rq := ⟨s.pos, s.bad, s.ts ++ [(kind, [])]⟩
def qIs (x : Wd) (l : List Wd) (s : Rq) : Bool := !s.bad && decide (l[s.pos]? = some x)
def Okq (l : List Wd) (s : Rq) : Prop := s.pos ≤ l.length ∧ s.ts.length ≤ s.pos
structure Qv (l : List Wd) (s s' : Rq) : Prop where
  le : s.pos ≤ s'.pos
  hi : s'.pos ≤ l.length
  len : s'.ts.length + s.pos ≤ s.ts.length + s'.pos
theorem Qv.oky {l : List Wd} {s s' : Rq} (h : Qv l s s') (k : Okq l s) : Okq l s' := ⟨h.hi, by have := h.len; have := k.2; omega⟩
theorem qIs_lt {x : Wd} {l : List Wd} {s : Rq} (h : qIs x l s = true) : s.pos < l.length := by
  simp only [qIs, Bool.and_eq_true, decide_eq_true_eq] at h
  exact (List.getElem?_eq_some_iff.1 h.2).1
theorem Okq.adv {l : List Wd} {s : Rq} (k : Okq l s) (h : s.pos < l.length) : Okq l s.adv := ⟨h, Nat.le_succ_of_le k.2⟩
theorem Qv.app {l : List Wd} {s s' : Rq} (h : Qv l s.adv s') (hl : s.pos < l.length) (k : Okq l s) (kind : Int) : Okq l (s'.app kind) := by
  refine ⟨h.hi, ?_⟩
  have h1 := h.len
  have h2 := k.2
  simp only [Rq.app, Rq.adv, List.length_append, List.length_cons, List.length_nil] at *
  omega
def qNamed (kind : Int) (l : List Wd) (s : Rq) : Rq :=
  match l[s.pos]? with
  | none => s.fail
  | some y => if nameB y = true then ⟨s.pos + 1, s.bad, s.ts ++ [(kind, y)]⟩ else s.fail
def qRest (elem : Rq → Rq) (x : Wd) (kind : Int) (l : List Wd) : Nat → Rq → Rq
  | 0, s => s
  | f + 1, s => if qIs x l s = true then qRest elem x kind l f ((elem s.adv).app kind) else s
def qJoin (elem : Rq → Rq) (x : Wd) (kind : Int) (l : List Wd) (s : Rq) : Rq := qRest elem x kind l (l.length - (elem s).pos) (elem s)
def qEither (elem : Rq → Rq) (l : List Wd) : Rq → Rq := qJoin (qJoin elem wAnd 4 l) wOr 5 l
def qPart (l : List Wd) : Nat → Rq → Rq
  | 0, s => s.fail
  | N + 1, s =>
    if qIs wActive l s = true then qNamed 1 l s.adv else if qIs wPresent l s = true then qNamed 2 l s.adv
    else if qIs wNot l s = true then (qPart l N s.adv).app 3
    else if qIs wOpen l s = true then (if qIs wClose l (qEither (qPart l N) l s.adv) = true then (qEither (qPart l N) l s.adv).adv else (qEither (qPart l N) l s.adv).fail)
    else s.fail
theorem Qv.refl {l : List Wd} {s : Rq} (h : s.pos ≤ l.length) : Qv l s s := ⟨Nat.le_refl _, h, Nat.le_refl _⟩
theorem Qv.fail {l : List Wd} {s s' : Rq} (h : Qv l s s') : Qv l s s'.fail := ⟨h.le, h.hi, h.len⟩
theorem Qv.up {l : List Wd} {s s' : Rq} (h : Qv l s.adv s') (kind : Int) : Qv l s (s'.app kind) := by
  obtain ⟨h1, h2, h3⟩ := h
  simp only [Rq.adv] at h1 h3
  exact ⟨by simp only [Rq.app]; omega, h2, by simp only [Rq.app, List.length_append, List.length_cons, List.length_nil]; omega⟩
theorem Qv.adv' {l : List Wd} {s s' : Rq} (h : Qv l s.adv s') : Qv l s s' := by
  obtain ⟨h1, h2, h3⟩ := h
  simp only [Rq.adv] at h1 h3
  exact ⟨by omega, h2, by omega⟩
theorem Qv.trans {l : List Wd} {s s' t : Rq} (h : Qv l s s') (k : Qv l s' t) : Qv l s t := ⟨Nat.le_trans h.le k.le, k.hi, by have := h.len; have := k.len; omega⟩
theorem qNamed_v (kind : Int) (l : List Wd) (s : Rq) (h : s.pos ≤ l.length) : Qv l s (qNamed kind l s) := by
  rw [qNamed]
  split
  · exact (Qv.refl h).fail
  · rename_i y hy
    have := (List.getElem?_eq_some_iff.1 hy).1
    split
    · exact ⟨by simp, by simp only; omega, by simp only [List.length_append, List.length_cons, List.length_nil]; omega⟩
    · exact (Qv.refl h).fail
theorem qRest_v {l : List Wd} {elem : Rq → Rq} (hep : ∀ s, s.pos ≤ l.length → Qv l s (elem s)) (x : Wd) (kind : Int) : ∀ (f : Nat) (s : Rq), s.pos ≤ l.length → Qv l s (qRest elem x kind l f s)
  | 0, s, h => Qv.refl h
  | f + 1, s, h => by
    rw [qRest]
    split
    · rename_i hx
      have := (hep s.adv (qIs_lt hx)).up kind
      exact this.trans (qRest_v hep x kind f _ this.hi)
    · exact Qv.refl h
theorem qJoin_v {l : List Wd} {elem : Rq → Rq} (hep : ∀ s, s.pos ≤ l.length → Qv l s (elem s)) (x : Wd) (kind : Int) (s : Rq) (h : s.pos ≤ l.length) : Qv l s (qJoin elem x kind l s) :=
  (hep s h).trans (qRest_v hep x kind _ _ (hep s h).hi)
theorem qPart_v (l : List Wd) : ∀ (N : Nat) (s : Rq), s.pos ≤ l.length → Qv l s (qPart l N s)
  | 0, s, h => (Qv.refl h).fail
  | N + 1, s, h => by
    rw [qPart]
    split
    · rename_i hx; exact (qNamed_v 1 l s.adv (qIs_lt hx)).adv'
    split
    · rename_i hx; exact (qNamed_v 2 l s.adv (qIs_lt hx)).adv'
    split
    · rename_i hx; exact (qPart_v l N s.adv (qIs_lt hx)).up 3
    split
    · rename_i hx
      have := (qJoin_v (qJoin_v (qPart_v l N) wAnd 4) wOr 5 s.adv (qIs_lt hx)).adv'
      split
      · rename_i hy
        have h2 := qIs_lt hy
        exact this.trans ⟨Nat.le_succ _, h2, Nat.add_le_add_left (Nat.le_succ _) _⟩
      · exact this.fail
    · exact (Qv.refl h).fail
set_option maxHeartbeats 4000000 in
theorem qis_c (x : Wd) (l : List Wd) (s : Rq) (hl : l.length ≤ 1000000) (hO : Okq l s) : ACalls Tryz.prog 131 [.ptr 0 0, .v (.string (bs x))] (rqR l s) (.v (.bool (qIs x l s))) (rqR l (if qIs x l s = true then s.adv else s)) := by
  have hp := hO.1
  obtain ⟨pos, bad, ts⟩ := s
  simp only at hp
  have hvl : (wdsP l).length = l.length := by simp
  cases bad with
  | true =>
    rw [show qIs x l ⟨pos, true, ts⟩ = false from rfl, if_neg (by decide)]
    refine (ACalls.of (fn := Tryz.f131) Tryz.func131 O O Tryz.ntmps131 (fun I M w own => ?_))
    (repeat' (first|refine AW.seq_k (fun K hK=>?_)|(refine hK _ ?_;clear hK)|refine AW.uC (fun hc=>?_) (fun hc=>?_)|refine AW.ret ?_|exact trivial|refine AW.draw (id := 1) (by kernel_rfl) ?_|refine AW.rI [0, 2] O ?_|refine Ud ?_|fail))
    ((first|refine RetOk.tupS [0, 1] O O O O O ?_ ?_|refine RetOk.oneS [0, 1] O O O O ?_ ?_)<;>(repeat' (first|exact V0|refine V1 ?_|refine V2 ?_ ?_|fail)))
    all_goals rfl
  | false =>
    cases hx : l[pos]? with
    | none =>
      have hq : qIs x l ⟨pos, false, ts⟩ = false := by simp [qIs, hx]
      rw [hq, if_neg (by decide)]
      have hge := List.getElem?_eq_none_iff.1 hx
      have h1 : (pos : Int) ≥ ((wdsP l).length : Int) := by omega
      refine (ACalls.of (fn := Tryz.f131) Tryz.func131 O O Tryz.ntmps131 (fun I M w own => ?_))
      (repeat' (first|refine AW.seq_k (fun K hK=>?_)|(refine hK _ ?_;clear hK)|refine AW.uC (fun hc=>?_) (fun hc=>?_)|refine AW.ret ?_|exact trivial|refine AW.draw (id := 1) (by kernel_rfl) ?_|refine AW.rI [0, 2] O ?_|refine Ud ?_|fail))
      ((first|refine RetOk.tupS [0, 1] O O O O O ?_ ?_|refine RetOk.oneS [0, 1] O O O O ?_ ?_)<;>(repeat' (first|exact V0|refine V1 ?_|refine V2 ?_ ?_|fail)))
      all_goals rfl
    | some y =>
      have hlt := (List.getElem?_eq_some_iff.1 hx).1
      have h1 : ¬ ((pos : Int) ≥ ((wdsP l).length : Int)) := by omega
      have hA : At (wdsP l) (pos : Int) [PV.v (.string (bs y))] := At.mk pos O (by simp [hx])
      by_cases hy : y = x
      · have hq : qIs x l ⟨pos, false, ts⟩ = true := by simp [qIs, hx, hy]
        rw [hq, if_pos O]
        subst hy
        have h2 : ¬ (y ≠ y) := by simp
        refine (ACalls.of (fn := Tryz.f131) Tryz.func131 O O Tryz.ntmps131 (fun I M w own => ?_))
        (repeat' (first|refine AW.seq_k (fun K hK=>?_)|(refine hK _ ?_;clear hK)|refine AW.uC (fun hc=>?_) (fun hc=>?_)|refine AW.ret ?_|refine AW.skip ?_|exact trivial|refine AW.draw (id := 1) (by kernel_rfl) ?_|refine AW.rI [0, 3, 4] O ?_|refine Ud ?_|fail))
        ((first|refine RetOk.tupS [0, 1] O O O O O ?_ ?_|refine RetOk.oneS [0, 1] O O O O ?_ ?_)<;>(repeat' (first|exact V0|refine V1 ?_|refine V2 ?_ ?_|fail)))
        all_goals first | rfl | (refine Cv.eq ?_; simp [AV.ren, AV.rens, renL, Rq.adv]; done) | (refine Cv.eq ?_; simp [AV.ren, AV.rens, renL, Rq.adv]; exact IntWalk.i64_in _ (by omega))
      · have hq : qIs x l ⟨pos, false, ts⟩ = false := by simp [qIs, hx, hy]
        rw [hq, if_neg (by decide)]
        refine (ACalls.of (fn := Tryz.f131) Tryz.func131 O O Tryz.ntmps131 (fun I M w own => ?_))
        (repeat' (first|refine AW.seq_k (fun K hK=>?_)|(refine hK _ ?_;clear hK)|refine AW.uC (fun hc=>?_) (fun hc=>?_)|refine AW.ret ?_|exact trivial|refine AW.draw (id := 1) (by kernel_rfl) ?_|refine AW.rI [0, 2] O ?_|refine Ud ?_|fail))
        ((first|refine RetOk.tupS [0, 1] O O O O O ?_ ?_|refine RetOk.oneS [0, 1] O O O O ?_ ?_)<;>(repeat' (first|exact V0|refine V1 ?_|refine V2 ?_ ?_|fail)))
        all_goals rfl
set_option maxHeartbeats 4000000 in
theorem named_c (kind : Int) (l : List Wd) (s : Rq) (hl : l.length ≤ 1000000) (hs : ∀ x ∈ l, x.length ≤ 9223372036854775807) (hO : Okq l s) : ACalls Tryz.prog 163 [.ptr 0 0, .v (.int .i64 kind)] (rqR l s) (.tup []) (rqR l (qNamed kind l s)) := by
  have hp := hO.1
  have ht := hO.2
  obtain ⟨pos, bad, ts⟩ := s
  simp only at hp ht
  have hvl : (wdsP l).length = l.length := by simp
  have hvt : (tmP ts).length = ts.length := by simp
  cases hx : l[pos]? with
  | none =>
    rw [show qNamed kind l ⟨pos, bad, ts⟩ = ⟨pos, true, ts⟩ by simp [qNamed, hx, Rq.fail]]
    have hge := List.getElem?_eq_none_iff.1 hx
    have h1 : (pos : Int) ≥ ((wdsP l).length : Int) := by omega
    refine (ACalls.of (fn := Tryz.f163) Tryz.func163 O O Tryz.ntmps163 (fun I M w own => ?_))
    (repeat' (first|refine AW.seq_k (fun K hK=>?_)|(refine hK _ ?_;clear hK)|refine AW.uC (fun hc=>?_) (fun hc=>?_)|refine AW.ret ?_|exact trivial|refine AW.draw (id := 0) (by kernel_rfl) ?_|refine rG 1 ?_|refine Ud ?_|fail))
    ((first|refine RetOk.tupS [0, 1] O O O O O ?_ ?_|refine RetOk.oneS [0, 1] O O O O ?_ ?_)<;>(repeat' (first|exact V0|refine V1 ?_|refine V2 ?_ ?_|fail)))
    all_goals rfl
  | some y =>
    have hlt := (List.getElem?_eq_some_iff.1 hx).1
    have h1 : ¬ ((pos : Int) ≥ ((wdsP l).length : Int)) := by omega
    have hA : At (wdsP l) (pos : Int) [PV.v (.string (bs y))] := At.mk pos O (by simp [hx])
    have hn := rName_c y (hs y (List.mem_of_getElem? hx))
    cases hy : nameB y with
    | false =>
      rw [hy] at hn
      rw [show qNamed kind l ⟨pos, bad, ts⟩ = ⟨pos, true, ts⟩ by simp [qNamed, hx, hy, Rq.fail]]
      refine (ACalls.of (fn := Tryz.f163) Tryz.func163 O O Tryz.ntmps163 (fun I M w own => ?_))
      (repeat' (first|refine AW.seq_k (fun K hK=>?_)|(refine hK _ ?_;clear hK)|refine AW.uC (fun hc=>?_) (fun hc=>?_)|refine AW.ret ?_|exact trivial|refine AW.draw (id := 0) (by kernel_rfl) ?_|refine rG 1 ?_|refine Run.c0 hn O O O O O O O O ?_|refine Ud ?_|fail))
      ((first|refine RetOk.tupS [0, 1] O O O O O ?_ ?_|refine RetOk.oneS [0, 1] O O O O ?_ ?_)<;>(repeat' (first|exact V0|refine V1 ?_|refine V2 ?_ ?_|fail)))
      all_goals rfl
    | true =>
      rw [hy] at hn
      rw [show qNamed kind l ⟨pos, bad, ts⟩ = ⟨pos + 1, bad, ts ++ [(kind, y)]⟩ by simp [qNamed, hx, hy]]
      refine (ACalls.of (fn := Tryz.f163) Tryz.func163 O O Tryz.ntmps163 (fun I M w own => ?_))
      (repeat' (first|refine AW.seq_k (fun K hK=>?_)|(refine hK _ ?_;clear hK)|refine AW.uC (fun hc=>?_) (fun hc=>?_)|refine AW.skip ?_|exact trivial|refine AW.draw (id := 0) (by kernel_rfl) ?_|refine AW.draw (id := 2) (by kernel_rfl) ?_|refine rG 3 ?_|refine Run.c0 hn O O O O O O O O ?_|refine Ud ?_|fail))
      ((first|refine RetOk.tupS [0, 1] O O O O O ?_ ?_|refine RetOk.oneS [0, 1] O O O O ?_ ?_)<;>(repeat' (first|exact V0|refine V1 ?_|refine V2 ?_ ?_|fail)))
      all_goals first | rfl | (simp; done) | (refine Cv.eq ?_; simp [AV.ren, AV.rens, renL]; done) | (refine Cv.eq ?_; simp [AV.ren, AV.rens, renL]; exact IntWalk.i64_in _ (by omega))

set_option maxHeartbeats 4000000 in
theorem both_c (l : List Wd) (N : Nat) (hl : l.length ≤ 1000000) (elem : Rq → Rq) (hep : ∀ s, s.pos ≤ l.length → Qv l s (elem s))
    (hel : ∀ s, l.length - s.pos ≤ N → Okq l s → ACalls Tryz.prog 162 [.ptr 0 0] (rqR l s) (.tup []) (rqR l (elem s))) (s : Rq) (hN : l.length - s.pos ≤ N) (hO : Okq l s) :
    ACalls Tryz.prog 153 [.ptr 0 0] (rqR l s) (.tup []) (rqR l (qJoin elem wAnd 4 l s)) := by
  generalize hR : qJoin elem wAnd 4 l s = R
  rw [qJoin] at hR
  have h0 := hel s hN hO
  have hv := hep s hO.1
  generalize elem s = p at hR h0 hv
  have hOp := hv.oky hO
  have hpN : l.length - p.pos ≤ N := by have := hv.le; omega
  clear hv
  refine (ACalls.of (fn := Tryz.f153) Tryz.func153 O O Tryz.ntmps153 (fun I M w own => ?_))
  (repeat' (first|refine AW.seq_k (fun K hK=>?_)|(refine hK _ ?_;clear hK)|refine AW.block ?_|refine rG 0 ?_|refine Run.cSA [0, 1] h0 O O O O O O O O O O O O ?_|refine UA ?_|fail))
  refine AW.loopF (X := Nat × Rq) (fun y => ⟨[(0, .ptr 0 0)], rqR l y.2⟩)
    (fun y => qRest elem wAnd 4 l y.1 y.2 = R ∧ l.length - y.2.pos ≤ y.1 ∧ l.length - y.2.pos ≤ N ∧ Okq l y.2) (fun y => y.1) (l.length - p.pos, p) ?_ ⟨hR, Nat.le_refl _, hpN, hOp⟩ ?_
  · refine Conv.mk [0, 1] O O O ?_ O ?_
    · (repeat' (first|exact V0|refine V3 ?_|refine V2 ?_ ?_|fail))
    · (repeat' (first|exact V0|refine V3 ?_|refine V2 ?_ ?_|fail))
      all_goals first | rfl | (refine Cv.eq ?_; simp [AV.ren, AV.rens, renL]; done)
  · rintro ⟨f, y⟩ ⟨g1, g2, g3, g4⟩
    simp only at g1 g2 g3 g4 ⊢
    have his := qis_c wAnd l y hl g4
    cases hx : qIs wAnd l y with
    | false =>
      rw [hx, if_neg (by decide)] at his
      have hRe : R = y := by
        rw [← g1]
        cases f with
        | zero => rfl
        | succ f => rw [qRest, hx]; rfl
      subst hRe
      (repeat' (first|refine AW.seq_k (fun K hK=>?_)|(refine hK _ ?_;clear hK)|refine AW.uC (fun hc=>?_) (fun hc=>?_)|refine AW.exit ?_|exact trivial|refine rG 1 ?_|refine Run.cSA [0, 1] his O O O O O O O O O O O O ?_|refine UA ?_|fail))
      ((first|refine RetOk.tupS [0, 1] O O O O O ?_ ?_|refine RetOk.oneS [0, 1] O O O O ?_ ?_)<;>(repeat' (first|exact V0|refine V1 ?_|refine V2 ?_ ?_|fail)))
      all_goals first | rfl | (refine Cv.eq ?_; rfl)
    | true =>
      rw [hx, if_pos O] at his
      have hlt := qIs_lt hx
      have hOa := g4.adv hlt
      obtain ⟨f', rfl⟩ : ∃ f', f = f' + 1 := ⟨f - 1, by omega⟩
      rw [qRest, hx, if_pos O] at g1
      have h1 := hel y.adv (by simp only [Rq.adv]; omega) hOa
      have hv := hep y.adv hOa.1
      generalize elem y.adv = q at g1 h1 hv
      have hOq := hv.app hlt g4 4
      have hql := hv.le
      have hqh := hv.hi
      simp only [Rq.adv] at hql
      have hvl : (tmP q.ts).length = q.ts.length := by simp
      have hqb : q.ts.length ≤ 1000000 := by have := hOq.2; simp only [Rq.app, List.length_append, List.length_cons, List.length_nil] at this; omega
      (repeat' (first|refine AW.seq_k (fun K hK=>?_)|(refine hK _ ?_;clear hK)|refine AW.uC (fun hc=>?_) (fun hc=>?_)|refine AW.block ?_|refine AW.skip ?_|exact trivial|refine AW.rI [1, 2, 3] O ?_|refine Run.cSA [0, 1] his O O O O O O O O O O O O ?_|refine Run.cSA [0, 1] h1 O O O O O O O O O O O O ?_|refine UA ?_|fail))
      ((repeat (with_reducible refine inB_n ?_)); refine thenA_n ?_)
      refine ⟨(f', q.app 4), ⟨g1, by simp only [Rq.app]; omega, by simp only [Rq.app]; omega, hOq⟩, by simp only; omega, ?_⟩
      refine Conv.mk [0, 1] O O O ?_ O ?_
      · (repeat' (first|exact V0|refine V3 ?_|refine V2 ?_ ?_|fail))
      · (repeat' (first|exact V0|refine V3 ?_|refine V2 ?_ ?_|fail))
        all_goals first | rfl | (simp [Rq.app]; done) | (refine Cv.eq ?_; simp [AV.ren, AV.rens, renL, Rq.app]; done)
set_option maxHeartbeats 4000000 in
theorem either_c (l : List Wd) (N : Nat) (hl : l.length ≤ 1000000) (elem : Rq → Rq) (hep : ∀ s, s.pos ≤ l.length → Qv l s (elem s))
    (hel : ∀ s, l.length - s.pos ≤ N → Okq l s → ACalls Tryz.prog 153 [.ptr 0 0] (rqR l s) (.tup []) (rqR l (elem s))) (s : Rq) (hN : l.length - s.pos ≤ N) (hO : Okq l s) :
    ACalls Tryz.prog 132 [.ptr 0 0] (rqR l s) (.tup []) (rqR l (qJoin elem wOr 5 l s)) := by
  generalize hR : qJoin elem wOr 5 l s = R
  rw [qJoin] at hR
  have h0 := hel s hN hO
  have hv := hep s hO.1
  generalize elem s = p at hR h0 hv
  have hOp := hv.oky hO
  have hpN : l.length - p.pos ≤ N := by have := hv.le; omega
  clear hv
  refine (ACalls.of (fn := Tryz.f132) Tryz.func132 O O Tryz.ntmps132 (fun I M w own => ?_))
  (repeat' (first|refine AW.seq_k (fun K hK=>?_)|(refine hK _ ?_;clear hK)|refine AW.block ?_|refine rG 0 ?_|refine Run.cSA [0, 1] h0 O O O O O O O O O O O O ?_|refine UA ?_|fail))
  refine AW.loopF (X := Nat × Rq) (fun y => ⟨[(0, .ptr 0 0)], rqR l y.2⟩)
    (fun y => qRest elem wOr 5 l y.1 y.2 = R ∧ l.length - y.2.pos ≤ y.1 ∧ l.length - y.2.pos ≤ N ∧ Okq l y.2) (fun y => y.1) (l.length - p.pos, p) ?_ ⟨hR, Nat.le_refl _, hpN, hOp⟩ ?_
  · refine Conv.mk [0, 1] O O O ?_ O ?_
    · (repeat' (first|exact V0|refine V3 ?_|refine V2 ?_ ?_|fail))
    · (repeat' (first|exact V0|refine V3 ?_|refine V2 ?_ ?_|fail))
      all_goals first | rfl | (refine Cv.eq ?_; simp [AV.ren, AV.rens, renL]; done)
  · rintro ⟨f, y⟩ ⟨g1, g2, g3, g4⟩
    simp only at g1 g2 g3 g4 ⊢
    have his := qis_c wOr l y hl g4
    cases hx : qIs wOr l y with
    | false =>
      rw [hx, if_neg (by decide)] at his
      have hRe : R = y := by
        rw [← g1]
        cases f with
        | zero => rfl
        | succ f => rw [qRest, hx]; rfl
      subst hRe
      (repeat' (first|refine AW.seq_k (fun K hK=>?_)|(refine hK _ ?_;clear hK)|refine AW.uC (fun hc=>?_) (fun hc=>?_)|refine AW.exit ?_|exact trivial|refine rG 1 ?_|refine Run.cSA [0, 1] his O O O O O O O O O O O O ?_|refine UA ?_|fail))
      ((first|refine RetOk.tupS [0, 1] O O O O O ?_ ?_|refine RetOk.oneS [0, 1] O O O O ?_ ?_)<;>(repeat' (first|exact V0|refine V1 ?_|refine V2 ?_ ?_|fail)))
      all_goals first | rfl | (refine Cv.eq ?_; rfl)
    | true =>
      rw [hx, if_pos O] at his
      have hlt := qIs_lt hx
      have hOa := g4.adv hlt
      obtain ⟨f', rfl⟩ : ∃ f', f = f' + 1 := ⟨f - 1, by omega⟩
      rw [qRest, hx, if_pos O] at g1
      have h1 := hel y.adv (by simp only [Rq.adv]; omega) hOa
      have hv := hep y.adv hOa.1
      generalize elem y.adv = q at g1 h1 hv
      have hOq := hv.app hlt g4 5
      have hql := hv.le
      have hqh := hv.hi
      simp only [Rq.adv] at hql
      have hvl : (tmP q.ts).length = q.ts.length := by simp
      have hqb : q.ts.length ≤ 1000000 := by have := hOq.2; simp only [Rq.app, List.length_append, List.length_cons, List.length_nil] at this; omega
      (repeat' (first|refine AW.seq_k (fun K hK=>?_)|(refine hK _ ?_;clear hK)|refine AW.uC (fun hc=>?_) (fun hc=>?_)|refine AW.block ?_|refine AW.skip ?_|exact trivial|refine AW.rI [1, 2, 3] O ?_|refine Run.cSA [0, 1] his O O O O O O O O O O O O ?_|refine Run.cSA [0, 1] h1 O O O O O O O O O O O O ?_|refine UA ?_|fail))
      ((repeat (with_reducible refine inB_n ?_)); refine thenA_n ?_)
      refine ⟨(f', q.app 5), ⟨g1, by simp only [Rq.app]; omega, by simp only [Rq.app]; omega, hOq⟩, by simp only; omega, ?_⟩
      refine Conv.mk [0, 1] O O O ?_ O ?_
      · (repeat' (first|exact V0|refine V3 ?_|refine V2 ?_ ?_|fail))
      · (repeat' (first|exact V0|refine V3 ?_|refine V2 ?_ ?_|fail))
        all_goals first | rfl | (simp [Rq.app]; done) | (refine Cv.eq ?_; simp [AV.ren, AV.rens, renL, Rq.app]; done)
def QOk (l : List Wd) (N : Nat) : Prop := ∀ s, l.length - s.pos ≤ N → Okq l s → ACalls Tryz.prog 162 [.ptr 0 0] (rqR l s) (.tup []) (rqR l (qPart l N s))
theorem either_q (l : List Wd) (hl : l.length ≤ 1000000) (N : Nat) (hN : QOk l N) (s : Rq) (h : l.length - s.pos ≤ N) (hO : Okq l s) : ACalls Tryz.prog 132 [.ptr 0 0] (rqR l s) (.tup []) (rqR l (qEither (qPart l N) l s)) :=
  either_c l N hl _ (qJoin_v (qPart_v l N) wAnd 4) (fun s h hO => both_c l N hl _ (qPart_v l N) hN s h hO) s h hO
set_option maxHeartbeats 4000000 in
theorem qpart_step (l : List Wd) (hl : l.length ≤ 1000000) (hs : ∀ x ∈ l, x.length ≤ 9223372036854775807) (N : Nat) (hN : QOk l N) : QOk l (N + 1) := by
  intro s h hO
  have ht := hO.2
  have hvt : (tmP s.ts).length = s.ts.length := by simp
  have hi1 := qis_c wActive l s hl hO
  rw [qPart]
  cases h1 : qIs wActive l s with
  | true =>
    rw [h1, if_pos O] at hi1
    rw [if_pos O]
    have hn := named_c 1 l s.adv hl hs (hO.adv (qIs_lt h1))
    refine (ACalls.of (fn := Tryz.f162) Tryz.func162 O O Tryz.ntmps162 (fun I M w own => ?_))
    (repeat' (first|refine AW.seq_k (fun K hK=>?_)|(refine hK _ ?_;clear hK)|refine AW.uC (fun hc=>?_) (fun hc=>?_)|refine AW.block ?_|exact trivial|refine AW.rI [1, 2] O ?_|refine Run.cSA [0, 1] hi1 O O O O O O O O O O O O ?_|refine Run.cSA [0, 1] hn O O O O O O O O O O O O ?_|refine UA ?_|fail))
    ((first|refine RetOk.tupS [0, 1] O O O O O ?_ ?_|refine RetOk.oneS [0, 1] O O O O ?_ ?_)<;>(repeat' (first|exact V0|refine V1 ?_|refine V2 ?_ ?_|fail)))
    all_goals first | rfl | (refine Cv.eq ?_; rfl)
  | false =>
  rw [h1, if_neg (by decide)] at hi1
  rw [if_neg (by decide)]
  have hi2 := qis_c wPresent l s hl hO
  cases h2 : qIs wPresent l s with
  | true =>
    rw [h2, if_pos O] at hi2
    rw [if_pos O]
    have hn := named_c 2 l s.adv hl hs (hO.adv (qIs_lt h2))
    refine (ACalls.of (fn := Tryz.f162) Tryz.func162 O O Tryz.ntmps162 (fun I M w own => ?_))
    (repeat' (first|refine AW.seq_k (fun K hK=>?_)|(refine hK _ ?_;clear hK)|refine AW.uC (fun hc=>?_) (fun hc=>?_)|refine AW.block ?_|exact trivial|refine AW.rI [1, 3, 4] O ?_|refine Run.cSA [0, 1] hi1 O O O O O O O O O O O O ?_|refine Run.cSA [0, 1] hi2 O O O O O O O O O O O O ?_|refine Run.cSA [0, 1] hn O O O O O O O O O O O O ?_|refine UA ?_|fail))
    ((first|refine RetOk.tupS [0, 1] O O O O O ?_ ?_|refine RetOk.oneS [0, 1] O O O O ?_ ?_)<;>(repeat' (first|exact V0|refine V1 ?_|refine V2 ?_ ?_|fail)))
    all_goals first | rfl | (refine Cv.eq ?_; rfl)
  | false =>
  rw [h2, if_neg (by decide)] at hi2
  rw [if_neg (by decide)]
  have hi3 := qis_c wNot l s hl hO
  cases h3 : qIs wNot l s with
  | true =>
    rw [h3, if_pos O] at hi3
    rw [if_pos O]
    have hlt := qIs_lt h3
    have hOa := hO.adv hlt
    have hp := hN s.adv (by simp only [Rq.adv]; omega) hOa
    have hv := qPart_v l N s.adv hOa.1
    generalize qPart l N s.adv = q at hp hv
    have hOq := hv.app hlt hO 3
    have hqh := hv.hi
    have hvl : (tmP q.ts).length = q.ts.length := by simp
    have hqb : q.ts.length ≤ 1000000 := by have := hOq.2; simp only [Rq.app, List.length_append, List.length_cons, List.length_nil] at this; omega
    refine (ACalls.of (fn := Tryz.f162) Tryz.func162 O O Tryz.ntmps162 (fun I M w own => ?_))
    (repeat' (first|refine AW.seq_k (fun K hK=>?_)|(refine hK _ ?_;clear hK)|refine AW.uC (fun hc=>?_) (fun hc=>?_)|refine AW.block ?_|exact trivial|refine AW.rI [1, 3, 5, 6, 7] O ?_|refine Run.cSA [0, 1] hi1 O O O O O O O O O O O O ?_|refine Run.cSA [0, 1] hi2 O O O O O O O O O O O O ?_|refine Run.cSA [0, 1] hi3 O O O O O O O O O O O O ?_|refine Run.cSA [0, 1] hp O O O O O O O O O O O O ?_|refine UA ?_|fail))
    ((first|refine RetOk.tupS [0, 1] O O O O O ?_ ?_|refine RetOk.oneS [0, 1] O O O O ?_ ?_)<;>(repeat' (first|exact V0|refine V1 ?_|refine V2 ?_ ?_|fail)))
    all_goals first | rfl | (simp [Rq.app]; done) | (refine Cv.eq ?_; simp [AV.ren, AV.rens, renL, Rq.app]; done)
  | false =>
  rw [h3, if_neg (by decide)] at hi3
  rw [if_neg (by decide)]
  have hi4 := qis_c wOpen l s hl hO
  cases h4 : qIs wOpen l s with
  | true =>
    rw [h4, if_pos O] at hi4
    rw [if_pos O]
    have hlt := qIs_lt h4
    have hOa := hO.adv hlt
    have hp := either_q l hl N hN s.adv (by simp only [Rq.adv]; omega) hOa
    have hv := qJoin_v (qJoin_v (qPart_v l N) wAnd 4) wOr 5 s.adv hOa.1
    change Qv l s.adv (qEither (qPart l N) l s.adv) at hv
    generalize qEither (qPart l N) l s.adv = q at hp hv
    have hOq := hv.oky hOa
    have hi5 := qis_c wClose l q hl hOq
    cases h5 : qIs wClose l q with
    | true =>
      rw [h5, if_pos O] at hi5
      rw [if_pos O]
      refine (ACalls.of (fn := Tryz.f162) Tryz.func162 O O Tryz.ntmps162 (fun I M w own => ?_))
      (repeat' (first|refine AW.seq_k (fun K hK=>?_)|(refine hK _ ?_;clear hK)|refine AW.uC (fun hc=>?_) (fun hc=>?_)|refine AW.block ?_|refine AW.skip ?_|exact trivial|refine AW.rI [1, 3, 5, 8, 9, 10] O ?_|refine Run.cSA [0, 1] hi1 O O O O O O O O O O O O ?_|refine Run.cSA [0, 1] hi2 O O O O O O O O O O O O ?_|refine Run.cSA [0, 1] hi3 O O O O O O O O O O O O ?_|refine Run.cSA [0, 1] hi4 O O O O O O O O O O O O ?_|refine Run.cSA [0, 1] hp O O O O O O O O O O O O ?_|refine Run.cSA [0, 1] hi5 O O O O O O O O O O O O ?_|refine UA ?_|fail))
      ((first|refine RetOk.tupS [0, 1] O O O O O ?_ ?_|refine RetOk.oneS [0, 1] O O O O ?_ ?_)<;>(repeat' (first|exact V0|refine V1 ?_|refine V2 ?_ ?_|fail)))
      all_goals first | rfl | (refine Cv.eq ?_; rfl)
    | false =>
      rw [h5, if_neg (by decide)] at hi5
      rw [if_neg (by decide)]
      refine (ACalls.of (fn := Tryz.f162) Tryz.func162 O O Tryz.ntmps162 (fun I M w own => ?_))
      (repeat' (first|refine AW.seq_k (fun K hK=>?_)|(refine hK _ ?_;clear hK)|refine AW.uC (fun hc=>?_) (fun hc=>?_)|refine AW.block ?_|exact trivial|refine AW.rI [1, 3, 5, 8, 9, 10, 11] O ?_|refine Run.cSA [0, 1] hi1 O O O O O O O O O O O O ?_|refine Run.cSA [0, 1] hi2 O O O O O O O O O O O O ?_|refine Run.cSA [0, 1] hi3 O O O O O O O O O O O O ?_|refine Run.cSA [0, 1] hi4 O O O O O O O O O O O O ?_|refine Run.cSA [0, 1] hp O O O O O O O O O O O O ?_|refine Run.cSA [0, 1] hi5 O O O O O O O O O O O O ?_|refine UA ?_|fail))
      ((first|refine RetOk.tupS [0, 1] O O O O O ?_ ?_|refine RetOk.oneS [0, 1] O O O O ?_ ?_)<;>(repeat' (first|exact V0|refine V1 ?_|refine V2 ?_ ?_|fail)))
      all_goals first | rfl | (refine Cv.eq ?_; rfl)
  | false =>
    rw [h4, if_neg (by decide)] at hi4
    rw [if_neg (by decide)]
    refine (ACalls.of (fn := Tryz.f162) Tryz.func162 O O Tryz.ntmps162 (fun I M w own => ?_))
    (repeat' (first|refine AW.seq_k (fun K hK=>?_)|(refine hK _ ?_;clear hK)|refine AW.uC (fun hc=>?_) (fun hc=>?_)|refine AW.block ?_|exact trivial|refine AW.rI [1, 3, 5, 8, 0] O ?_|refine Run.cSA [0, 1] hi1 O O O O O O O O O O O O ?_|refine Run.cSA [0, 1] hi2 O O O O O O O O O O O O ?_|refine Run.cSA [0, 1] hi3 O O O O O O O O O O O O ?_|refine Run.cSA [0, 1] hi4 O O O O O O O O O O O O ?_|refine UA ?_|fail))
    ((first|refine RetOk.tupS [0, 1] O O O O O ?_ ?_|refine RetOk.oneS [0, 1] O O O O ?_ ?_)<;>(repeat' (first|exact V0|refine V1 ?_|refine V2 ?_ ?_|fail)))
    all_goals first | rfl | (refine Cv.eq ?_; rfl)
theorem qIs_end {l : List Wd} {s : Rq} (h : l.length ≤ s.pos) (x : Wd) : qIs x l s = false := by
  have : l[s.pos]? = none := List.getElem?_eq_none_iff.2 h
  simp [qIs, this]
set_option maxHeartbeats 4000000 in
theorem qpart_c (l : List Wd) (hl : l.length ≤ 1000000) (hs : ∀ x ∈ l, x.length ≤ 9223372036854775807) : ∀ N, QOk l N
  | 0 => by
    intro s h hO
    have hp := hO.1
    have he : l.length ≤ s.pos := by omega
    have hi1 := qis_c wActive l s hl hO
    have hi2 := qis_c wPresent l s hl hO
    have hi3 := qis_c wNot l s hl hO
    have hi4 := qis_c wOpen l s hl hO
    rw [qIs_end he, if_neg (by decide)] at hi1 hi2 hi3 hi4
    rw [qPart]
    refine (ACalls.of (fn := Tryz.f162) Tryz.func162 O O Tryz.ntmps162 (fun I M w own => ?_))
    (repeat' (first|refine AW.seq_k (fun K hK=>?_)|(refine hK _ ?_;clear hK)|refine AW.uC (fun hc=>?_) (fun hc=>?_)|refine AW.block ?_|exact trivial|refine AW.rI [1, 3, 5, 8, 0] O ?_|refine Run.cSA [0, 1] hi1 O O O O O O O O O O O O ?_|refine Run.cSA [0, 1] hi2 O O O O O O O O O O O O ?_|refine Run.cSA [0, 1] hi3 O O O O O O O O O O O O ?_|refine Run.cSA [0, 1] hi4 O O O O O O O O O O O O ?_|refine UA ?_|fail))
    ((first|refine RetOk.tupS [0, 1] O O O O O ?_ ?_|refine RetOk.oneS [0, 1] O O O O ?_ ?_)<;>(repeat' (first|exact V0|refine V1 ?_|refine V2 ?_ ?_|fail)))
    all_goals first | rfl | (refine Cv.eq ?_; rfl)
  | N + 1 => qpart_step l hl hs N (qpart_c l hl hs N)
theorem reither_c (l : List Wd) (hl : l.length ≤ 1000000) (hs : ∀ x ∈ l, x.length ≤ 9223372036854775807) (N : Nat) (s : Rq) (h : l.length - s.pos ≤ N) (hO : Okq l s) : ACalls Tryz.prog 132 [.ptr 0 0] (rqR l s) (.tup []) (rqR l (qEither (qPart l N) l s)) :=
  either_q l hl N (qpart_c l hl hs N) s h hO
end Go.Proofs.YtbbcokckealagaaGreat
