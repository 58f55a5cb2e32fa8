/-
  Walks of the reader of rules: a word, a given word, a name.
-/
import Derived.Test.YtbbcokckealagaaGreatQAA
import Derived.Test.YtbbcokckealagaaGreatQAE
import Derived.Test.YtbbcokckealagaaGreatQAF
import Derived.Test.YtbbcokckealagaaGreatQAG
namespace Go.Proofs.YtbbcokckealagaaGreat
set_option linter.unusedVariables false
set_option linter.unusedSimpArgs false
abbrev mst : Value := .iface 163 (.agg #[])
abbrev mstC : List PanicEntry := [{ v := mst, recovered := false }]
abbrev Wd := List UInt8
abbrev Tm := Int × List UInt8
abbrev tmP (l : List Tm) : List (List PV) := l.map fun t => [PV.v (.int .i64 t.1), PV.v (.string (bs t.2))]
abbrev rrR (ws : List Wd) (ts : List Tm) : List Res := [.box [.sl 1 (wdsP ws) false, .row 1 (tmP ts).length], .row 2 (tmP ts)]
def takeE (ts : List Tm) : List Wd → Option (AV × List Res)
  | [] => none
  | x :: r => some (.v (.string (bs x)), rrR r ts)
set_option maxHeartbeats 4000000 in
theorem take_e (ws : List Wd) (ts : List Tm) : AEnds Tryz.prog 146 [.ptr 0 0] (rrR ws ts) mstC (takeE ts ws) := by
  cases ws with
  | nil =>
    rw [takeE]
    refine (AEnds.of (fn := Tryz.f146) Tryz.func146 O O Tryz.ntmps146 (fun I M w own => ?_))
    (repeat' (first|refine AW.seq_k (fun K hK=>?_)|(refine hK _ ?_;clear hK)|refine AW.uC (fun hc=>?_) (fun hc=>?_)|refine AW.skip ?_|exact trivial|refine AW.rI [0, 1] O ?_|refine UA ?_|fail))
    · (refine AW.die (id := 2) 2 O ?_; iterate 2 (try (first|refine UA ?_|fail));(try refine Run.fin O ?_))
      (exact DieAt.panic O O O O)
    · exact absurd O hc
  | cons x r =>
    rw [takeE]
    have hA : At (wdsP (x :: r)) (0 : Int) [PV.v (.string (bs x))] := At.mk 0 O O
    refine (AEnds.of (fn := Tryz.f146) Tryz.func146 O O Tryz.ntmps146 (fun I M w own => ?_))
    (repeat' (first|refine AW.seq_k (fun K hK=>?_)|(refine hK _ ?_;clear hK)|refine AW.uC (fun hc=>?_) (fun hc=>?_)|refine AW.ret ?_|refine AW.skip ?_|exact trivial|refine AW.rI [0, 1, 3, 4, 5] O ?_|refine UA ?_|fail))
    all_goals first | (exfalso; rw [List.length_map, List.length_cons] at hc; omega) | skip
    ((first|refine RetOk.tupS [0, 1] O O O O O ?_ ?_|refine RetOk.oneS [0, 1] O O O O ?_ ?_)<;>(repeat' (first|exact V0|refine V1 ?_|refine V2 ?_ ?_|fail)))
    all_goals rfl
def isP (x : Wd) (ws : List Wd) : Bool := decide (ws.head? = some x)
def isR (x : Wd) (ws : List Wd) : List Wd := if isP x ws = true then ws.tail else ws
set_option maxHeartbeats 4000000 in
theorem is_c (x : Wd) (ws : List Wd) (ts : List Tm) : ACalls Tryz.prog 149 [.ptr 0 0, .v (.string (bs x))] (rrR ws ts) (.v (.bool (isP x ws))) (rrR (isR x ws) ts) := by
  cases ws with
  | nil =>
    have h0 : ¬ (((wdsP []).length : Int) > 0) := by simp
    have h1 : ¬ ((0 : Int) < ((wdsP []).length : Int)) := by simp
    refine (ACalls.of (fn := Tryz.f149) Tryz.func149 O O Tryz.ntmps149 (fun I M w own => ?_))
    (repeat' (first|refine AW.seq_k (fun K hK=>?_)|(refine hK _ ?_;clear hK)|refine AW.uC (fun hc=>?_) (fun hc=>?_)|refine AW.ret ?_|refine AW.skip ?_|exact trivial|refine AW.rI [0, 1, 2, 4] O ?_|refine Ud ?_|fail))
    all_goals first | (exfalso; simp at hc; done) | skip
    ((first|refine RetOk.tupS [0, 1] O O O O O ?_ ?_|refine RetOk.oneS [0, 1] O O O O ?_ ?_)<;>(repeat' (first|exact V0|refine V1 ?_|refine V2 ?_ ?_|fail)))
    all_goals rfl
  | cons y r =>
    have hA : At (wdsP (y :: r)) (0 : Int) [PV.v (.string (bs y))] := At.mk 0 O O
    have h1 : ((0 : Int) < ((wdsP (y :: r)).length : Int)) := by simp
    refine (ACalls.of (fn := Tryz.f149) Tryz.func149 O O Tryz.ntmps149 (fun I M w own => ?_))
    (repeat' (first|refine AW.seq_k (fun K hK=>?_)|(refine hK _ ?_;clear hK)|refine AW.uC (fun hc=>?_) (fun hc=>?_)|refine AW.ret ?_|refine AW.skip ?_|exact trivial|refine AW.region ?_|refine Ud ?_|fail))
    · subst hc
      have e1 : isP y (y :: r) = true := by simp [isP]
      have e2 : isR y (y :: r) = r := by rw [isR, e1]; rfl
      rw [e1, e2]
      ((first|refine RetOk.tupS [0, 1] O O O O O ?_ ?_|refine RetOk.oneS [0, 1] O O O O ?_ ?_)<;>(repeat' (first|exact V0|refine V1 ?_|refine V2 ?_ ?_|fail)))
      (all_goals (try (first|refine CvL.eq ?_|refine Cv.eq ?_)))
      all_goals first | rfl | simp [AV.ren]
    · have e1 : isP x (y :: r) = false := by simp [isP]; exact hc
      have e2 : isR x (y :: r) = y :: r := by rw [isR, e1]; rfl
      rw [e1, e2]
      ((first|refine RetOk.tupS [0, 1] O O O O O ?_ ?_|refine RetOk.oneS [0, 1] O O O O ?_ ?_)<;>(repeat' (first|exact V0|refine V1 ?_|refine V2 ?_ ?_|fail)))
      (all_goals (try (first|refine CvL.eq ?_|refine Cv.eq ?_)))
      all_goals first | rfl | (simp [AV.ren]; exact hc)
def nameE (ts : List Tm) : List Wd → Option (AV × List Res)
  | [] => none
  | x :: r => if nameB x = true then some (.v (.string (bs x)), rrR r ts) else none
set_option maxHeartbeats 4000000 in
theorem name_e (ws : List Wd) (ts : List Tm) (hs : ∀ x ∈ ws, x.length ≤ 9223372036854775807) : AEnds Tryz.prog 147 [.ptr 0 0] (rrR ws ts) mstC (nameE ts ws) := by
  have ht := take_e ws ts
  cases ws with
  | nil =>
    rw [nameE]
    refine (AEnds.of (fn := Tryz.f147) Tryz.func147 O O Tryz.ntmps147 (fun I M w own => ?_))
    (repeat' (first|refine AW.seq_k (fun K hK=>?_)|(refine hK _ ?_;clear hK)|refine rG 0 ?_|refine UA ?_|fail))
    (refine AW.die (id := 1) 1 O ?_; iterate 1 (try (first|refine UA ?_|fail));(try refine Run.fin O ?_))
    exact DieAt.call [0, 1] ht (Enters.fn O O O) O O O O O O
  | cons x r =>
    have hn := Name_c x (hs x (List.mem_cons_self ..))
    rw [nameE]
    cases hx : nameB x with
    | true =>
      rw [if_pos O]
      rw [hx] at hn
      refine (AEnds.of (fn := Tryz.f147) Tryz.func147 O O Tryz.ntmps147 (fun I M w own => ?_))
      (repeat' (first|refine AW.seq_k (fun K hK=>?_)|(refine hK _ ?_;clear hK)|refine AW.uC (fun hc=>?_) (fun hc=>?_)|refine AW.ret ?_|refine AW.skip ?_|exact trivial|refine AW.rI [0, 1, 2, 4] O ?_|refine Run.cSA [0, 1] ht O O O O O O O O O O O O ?_|refine Run.c0 hn O O O O O O O O ?_|refine UA ?_|fail))
      ((first|refine RetOk.tupS [0, 1] O O O O O ?_ ?_|refine RetOk.oneS [0, 1] O O O O ?_ ?_)<;>(repeat' (first|exact V0|refine V1 ?_|refine V2 ?_ ?_|fail)))
      all_goals rfl
    | false =>
      rw [if_neg (by decide)]
      rw [hx] at hn
      refine (AEnds.of (fn := Tryz.f147) Tryz.func147 O O Tryz.ntmps147 (fun I M w own => ?_))
      (repeat' (first|refine AW.seq_k (fun K hK=>?_)|(refine hK _ ?_;clear hK)|refine AW.uC (fun hc=>?_) (fun hc=>?_)|exact trivial|refine AW.rI [0, 1, 2] O ?_|refine Run.cSA [0, 1] ht O O O O O O O O O O O O ?_|refine Run.c0 hn O O O O O O O O ?_|refine UA ?_|fail))
      (refine AW.die (id := 3) 2 O ?_; iterate 2 (try (first|refine UA ?_|fail));(try refine Run.fin O ?_))
      (exact DieAt.panic O O O O)
abbrev RS := Option (List Wd × List Tm)
def restF (elem : List Wd → List Tm → RS) (x : Wd) (kind : Int) : Nat → List Wd → List Tm → RS
  | 0, ws, ts => some (ws, ts)
  | f + 1, ws, ts => if isP x ws = true then (match elem ws.tail ts with | none => none | some p => restF elem x kind f p.1 (p.2 ++ [(kind, [])])) else some (ws, ts)
def joinF (elem : List Wd → List Tm → RS) (x : Wd) (kind : Int) (ws : List Wd) (ts : List Tm) : RS :=
  match elem ws ts with
  | none => none
  | some p => restF elem x kind p.1.length p.1 p.2
def resE (ex : List Res) : RS → Option (AV × List Res)
  | none => none
  | some p => some (.tup [], rrR p.1 p.2 ++ ex)
structure Oky (ws : List Wd) (ts : List Tm) : Prop where
  str : ∀ x ∈ ws, x.length ≤ 9223372036854775807
  len : ws.length + ts.length ≤ 1000000
structure Adv (ws : List Wd) (ts : List Tm) (p : List Wd × List Tm) : Prop where
  suf : ∃ n, p.1 = ws.drop (n + 1)
  lt : p.1.length < ws.length
  len : p.1.length + p.2.length ≤ ws.length + ts.length
theorem Adv.oky {ws : List Wd} {ts : List Tm} {p : List Wd × List Tm} (h : Adv ws ts p) (k : Oky ws ts) : Oky p.1 p.2 := by
  obtain ⟨n, hn⟩ := h.suf
  exact ⟨fun x hx => k.str x (List.mem_of_mem_drop (by rw [hn] at hx; exact hx)), Nat.le_trans h.len k.len⟩
theorem isP_cons {x : Wd} {ws : List Wd} (h : isP x ws = true) : ∃ r, ws = x :: r := by
  cases ws with
  | nil => simp [isP] at h
  | cons y r => exact ⟨r, by simp [isP] at h; rw [h]⟩
theorem restF_adv {elem : List Wd → List Tm → RS} (hep : ∀ ws ts p, elem ws ts = some p → Adv ws ts p) (x : Wd) (kind : Int) : ∀ (f : Nat) (ws : List Wd) (ts : List Tm) (p : List Wd × List Tm), restF elem x kind f ws ts = some p → (∃ n, p.1 = ws.drop n) ∧ p.1.length ≤ ws.length ∧ p.1.length + p.2.length ≤ ws.length + ts.length
  | 0, ws, ts, p, h => by
    obtain rfl : (ws, ts) = p := by simpa [restF] using h
    exact ⟨⟨0, rfl⟩, Nat.le_refl _, Nat.le_refl _⟩
  | f + 1, ws, ts, p, h => by
    rw [restF] at h
    split at h
    · rename_i hx
      obtain ⟨r, rfl⟩ := isP_cons hx
      cases he : elem (x :: r).tail ts with
      | none => rw [he] at h; cases h
      | some q =>
        rw [he] at h
        have a := hep _ _ _ he
        obtain ⟨⟨n, hn⟩, h2, h3⟩ := restF_adv hep x kind f q.1 (q.2 ++ [(kind, [])]) p h
        obtain ⟨m, hm⟩ := a.suf
        have a1 := a.lt
        have a2 := a.len
        simp only [List.tail_cons, List.length_append, List.length_cons, List.length_nil] at *
        refine ⟨⟨m + 1 + n + 1, ?_⟩, by omega, by omega⟩
        rw [hn, hm, List.drop_drop, List.drop_succ_cons]
    · obtain rfl : (ws, ts) = p := by simpa using h
      exact ⟨⟨0, rfl⟩, Nat.le_refl _, Nat.le_refl _⟩
theorem joinF_adv {elem : List Wd → List Tm → RS} (hep : ∀ ws ts p, elem ws ts = some p → Adv ws ts p) (x : Wd) (kind : Int) (ws : List Wd) (ts : List Tm) (p : List Wd × List Tm) (h : joinF elem x kind ws ts = some p) : Adv ws ts p := by
  rw [joinF] at h
  cases he : elem ws ts with
  | none => rw [he] at h; cases h
  | some q =>
    rw [he] at h
    have a := hep _ _ _ he
    obtain ⟨⟨n, hn⟩, h2, h3⟩ := restF_adv hep x kind _ q.1 q.2 p h
    obtain ⟨m, hm⟩ := a.suf
    have a1 := a.lt
    have a2 := a.len
    exact ⟨⟨m + n, by rw [hn, hm, List.drop_drop]; congr 1; omega⟩, by omega, by omega⟩
set_option maxHeartbeats 4000000 in
theorem joinedA (N : Nat) (x : Wd) (kind : Int) (elem : List Wd → List Tm → RS) (hep : ∀ ws ts p, elem ws ts = some p → Adv ws ts p)
    (hel : ∀ ws ts, ws.length ≤ N → Oky ws ts → AEnds Tryz.prog 161 [.ptr 0 0] (rrR ws ts ++ []) mstC (resE [] (elem ws ts))) (ws : List Wd) (ts : List Tm) (hN : ws.length ≤ N) (hO : Oky ws ts) :
    AEnds Tryz.prog 159 [.ptr 0 0, .v (.string (bs x)), .v (.int .i64 kind), .fn 161 [.ep [] 1, .ptr 0 0]] (rrR ws ts ++ []) mstC (resE [] (joinF elem x kind ws ts)) := by
  generalize hR : joinF elem x kind ws ts = R
  rw [joinF] at hR
  have h0 := hel ws ts hN hO
  cases he : elem ws ts with
  | none =>
    rw [he] at h0 hR
    subst hR
    refine (AEnds.of (fn := Tryz.f159) Tryz.func159 O O Tryz.ntmps159 (fun I M w own => ?_))
    refine AW.seq_k (fun K hK => ?_)
    (refine AW.die (id := 0) 1 O ?_; iterate 1 (try (first|refine UA ?_|fail));(try refine Run.fin O ?_))
    exact DieAt.call [0, 1] h0 (Enters.fnb O O) O O O O O O
  | some p =>
    rw [he] at h0 hR
    have hp := hep _ _ _ he
    have hOp := hp.oky hO
    have hpl := hp.lt
    clear hp he
    obtain ⟨ws1, ts1⟩ := p
    simp only at hR hOp hpl
    refine (AEnds.of (fn := Tryz.f159) Tryz.func159 O O Tryz.ntmps159 (fun I M w own => ?_))
    (repeat' (first|refine AW.seq_k (fun K hK=>?_)|(refine hK _ ?_;clear hK)|refine AW.block ?_|refine rG 0 ?_|refine Run.cE [0, 1] h0 O O O (Enters.fnb O O) O O O O O O O ?_|refine UA ?_|fail))
    refine AW.loopF (X := Nat × List Wd × List Tm) (fun y => ⟨[(0, .ptr 0 0), (1, .v (.string (bs x))), (2, .v (.int .i64 kind)), (3, .fn 161 [.ep [] 1, .ptr 0 0])], rrR y.2.1 y.2.2 ++ []⟩)
      (fun y => restF elem x kind y.1 y.2.1 y.2.2 = R ∧ y.2.1.length ≤ y.1 ∧ y.2.1.length ≤ N ∧ Oky y.2.1 y.2.2) (fun y => y.1) (ws1.length, ws1, ts1) ?_ ⟨hR, Nat.le_refl _, by simp only; omega, hOp⟩ ?_
    · refine Conv.mk [0, 1] O O O ?_ O ?_
      · (repeat' (first|exact V0|refine V3 ?_|refine V2 ?_ ?_|fail))
        (all_goals (try (first|refine CvL.eq ?_|refine Cv.eq ?_)))
        all_goals simp [AV.ren, AV.rens, renL]
      · (repeat' (first|exact V0|refine V3 ?_|refine V2 ?_ ?_|fail))
        all_goals first | rfl | (refine Cv.eq ?_; rfl)
    · rintro ⟨f, us, vs⟩ ⟨g1, g2, g3, g4⟩
      simp only at g1 g2 g3 g4 ⊢
      have gl := g4.len
      have his := is_c x us vs
      cases hx : isP x us with
      | false =>
        have hv : isR x us = us := by rw [isR, hx]; rfl
        rw [hx, hv] at his
        have hRe : R = some (us, vs) := by
          rw [← g1]
          cases f with
          | zero => rfl
          | succ f => rw [restF, hx]; rfl
        subst hRe
        (repeat' (first|refine AW.seq_k (fun K hK=>?_)|(refine hK _ ?_;clear hK)|refine AW.uC (fun hc=>?_) (fun hc=>?_)|refine AW.exit ?_|exact trivial|refine rG 1 ?_|refine Run.cSA [0, 1] his O O O O O O O O O O O O ?_|refine UA ?_|fail))
        ((first|refine RetOk.tupS [0, 1] O O O O O ?_ ?_|refine RetOk.oneS [0, 1] O O O O ?_ ?_)<;>(repeat' (first|exact V0|refine V1 ?_|refine V2 ?_ ?_|fail)))
        all_goals first | rfl | (refine Cv.eq ?_; rfl)
      | true =>
        obtain ⟨r, hr⟩ := isP_cons hx
        subst hr
        have hv : isR x (x :: r) = r := by rw [isR, hx]; rfl
        rw [hx, hv] at his
        simp only [List.length_cons] at g2 g3 gl
        obtain ⟨f', rfl⟩ : ∃ f', f = f' + 1 := ⟨f - 1, by omega⟩
        rw [restF, hx, if_pos O] at g1
        have hOr : Oky r vs := ⟨fun y hy => g4.str y (List.mem_cons_of_mem _ hy), by omega⟩
        have h1 := hel r vs (by omega) hOr
        rw [List.tail_cons] at g1
        cases he : elem r vs with
        | none =>
          rw [he] at h1 g1
          subst g1
          (repeat' (first|refine AW.seq_k (fun K hK=>?_)|(refine hK _ ?_;clear hK)|refine AW.uC (fun hc=>?_) (fun hc=>?_)|refine AW.block ?_|refine AW.skip ?_|exact trivial|refine rG 1 ?_|refine Run.cSA [0, 1] his O O O O O O O O O O O O ?_|refine UA ?_|fail))
          (refine AW.die (id := 2) 1 O ?_; iterate 1 (try (first|refine UA ?_|fail));(try refine Run.fin O ?_))
          exact DieAt.call [0, 1] h1 (Enters.fnb O O) O O O O O O
        | some q =>
          rw [he] at h1 g1
          have hq := hep _ _ _ he
          have hOq := hq.oky hOr
          have hql := hq.lt
          have hqn := hq.len
          clear hq he
          obtain ⟨us2, vs2⟩ := q
          simp only at g1 hOq hql hqn
          have hvl : (tmP vs2).length = vs2.length := by simp
          (repeat' (first|refine AW.seq_k (fun K hK=>?_)|(refine hK _ ?_;clear hK)|refine AW.uC (fun hc=>?_) (fun hc=>?_)|refine AW.block ?_|refine AW.skip ?_|exact trivial|refine AW.rI [1, 2, 3] O ?_|refine Run.cSA [0, 1] his O O O O O O O O O O O O ?_|refine Run.cE [0, 1] h1 O O O (Enters.fnb O O) O O O O O O O ?_|refine UA ?_|fail))
          ((repeat (with_reducible refine inB_n ?_)); refine thenA_n ?_)
          refine ⟨(f', us2, vs2 ++ [(kind, [])]), ⟨g1, by simp only; omega, by simp only; omega, ⟨hOq.str, by simp only [List.length_append, List.length_singleton]; omega⟩⟩, by simp only; omega, ?_⟩
          refine Conv.mk [0, 1] O O O ?_ O ?_
          · (repeat' (first|exact V0|refine V3 ?_|refine V2 ?_ ?_|fail))
            (all_goals (try (first|refine CvL.eq ?_|refine Cv.eq ?_)))
            all_goals simp [AV.ren, AV.rens, renL]
          · (repeat' (first|exact V0|refine V3 ?_|refine V2 ?_ ?_|fail))
            all_goals first | rfl | (simp; done) | (refine Cv.eq ?_; simp [AV.ren, AV.rens, renL]; done)
set_option maxHeartbeats 4000000 in
theorem joinedB (N : Nat) (x : Wd) (kind : Int) (elem : List Wd → List Tm → RS) (hep : ∀ ws ts p, elem ws ts = some p → Adv ws ts p)
    (hel : ∀ ws ts, ws.length ≤ N → Oky ws ts → AEnds Tryz.prog 160 [.ptr 2 0] (rrR ws ts ++ [Res.box [.ptr 0 0]]) mstC (resE [Res.box [.ptr 0 0]] (elem ws ts))) (ws : List Wd) (ts : List Tm) (hN : ws.length ≤ N) (hO : Oky ws ts) :
    AEnds Tryz.prog 159 [.ptr 0 0, .v (.string (bs x)), .v (.int .i64 kind), .fn 160 [.ptr 2 0]] (rrR ws ts ++ [Res.box [.ptr 0 0]]) mstC (resE [Res.box [.ptr 0 0]] (joinF elem x kind ws ts)) := by
  generalize hR : joinF elem x kind ws ts = R
  rw [joinF] at hR
  have h0 := hel ws ts hN hO
  cases he : elem ws ts with
  | none =>
    rw [he] at h0 hR
    subst hR
    refine (AEnds.of (fn := Tryz.f159) Tryz.func159 O O Tryz.ntmps159 (fun I M w own => ?_))
    refine AW.seq_k (fun K hK => ?_)
    (refine AW.die (id := 0) 1 O ?_; iterate 1 (try (first|refine UA ?_|fail));(try refine Run.fin O ?_))
    exact DieAt.call [0, 1, 2] h0 (Enters.fn O O O) O O O O O O
  | some p =>
    rw [he] at h0 hR
    have hp := hep _ _ _ he
    have hOp := hp.oky hO
    have hpl := hp.lt
    clear hp he
    obtain ⟨ws1, ts1⟩ := p
    simp only at hR hOp hpl
    refine (AEnds.of (fn := Tryz.f159) Tryz.func159 O O Tryz.ntmps159 (fun I M w own => ?_))
    (repeat' (first|refine AW.seq_k (fun K hK=>?_)|(refine hK _ ?_;clear hK)|refine AW.block ?_|refine rG 0 ?_|refine Run.cE [0, 1, 2] h0 O O O (Enters.fn O O O) O O O O O O O ?_|refine UA ?_|fail))
    refine AW.loopF (X := Nat × List Wd × List Tm) (fun y => ⟨[(0, .ptr 0 0), (1, .v (.string (bs x))), (2, .v (.int .i64 kind)), (3, .fn 160 [.ptr 2 0])], rrR y.2.1 y.2.2 ++ [Res.box [.ptr 0 0]]⟩)
      (fun y => restF elem x kind y.1 y.2.1 y.2.2 = R ∧ y.2.1.length ≤ y.1 ∧ y.2.1.length ≤ N ∧ Oky y.2.1 y.2.2) (fun y => y.1) (ws1.length, ws1, ts1) ?_ ⟨hR, Nat.le_refl _, by simp only; omega, hOp⟩ ?_
    · refine Conv.mk [0, 1, 2] O O O ?_ O ?_
      · (repeat' (first|exact V0|refine V3 ?_|refine V2 ?_ ?_|fail))
        (all_goals (try (first|refine CvL.eq ?_|refine Cv.eq ?_)))
        all_goals simp [AV.ren, AV.rens, renL]
      · (repeat' (first|exact V0|refine V3 ?_|refine V2 ?_ ?_|fail))
        all_goals first | rfl | (refine Cv.eq ?_; rfl)
    · rintro ⟨f, us, vs⟩ ⟨g1, g2, g3, g4⟩
      simp only at g1 g2 g3 g4 ⊢
      have gl := g4.len
      have his := is_c x us vs
      cases hx : isP x us with
      | false =>
        have hv : isR x us = us := by rw [isR, hx]; rfl
        rw [hx, hv] at his
        have hRe : R = some (us, vs) := by
          rw [← g1]
          cases f with
          | zero => rfl
          | succ f => rw [restF, hx]; rfl
        subst hRe
        (repeat' (first|refine AW.seq_k (fun K hK=>?_)|(refine hK _ ?_;clear hK)|refine AW.uC (fun hc=>?_) (fun hc=>?_)|refine AW.exit ?_|exact trivial|refine rG 1 ?_|refine Run.cSA [0, 1] his O O O O O O O O O O O O ?_|refine UA ?_|fail))
        ((first|refine RetOk.tupS [0, 1, 2] O O O O O ?_ ?_|refine RetOk.oneS [0, 1, 2] O O O O ?_ ?_)<;>(repeat' (first|exact V0|refine V1 ?_|refine V2 ?_ ?_|fail)))
        all_goals first | rfl | (refine Cv.eq ?_; rfl)
      | true =>
        obtain ⟨r, hr⟩ := isP_cons hx
        subst hr
        have hv : isR x (x :: r) = r := by rw [isR, hx]; rfl
        rw [hx, hv] at his
        simp only [List.length_cons] at g2 g3 gl
        obtain ⟨f', rfl⟩ : ∃ f', f = f' + 1 := ⟨f - 1, by omega⟩
        rw [restF, hx, if_pos O] at g1
        have hOr : Oky r vs := ⟨fun y hy => g4.str y (List.mem_cons_of_mem _ hy), by omega⟩
        have h1 := hel r vs (by omega) hOr
        rw [List.tail_cons] at g1
        cases he : elem r vs with
        | none =>
          rw [he] at h1 g1
          subst g1
          (repeat' (first|refine AW.seq_k (fun K hK=>?_)|(refine hK _ ?_;clear hK)|refine AW.uC (fun hc=>?_) (fun hc=>?_)|refine AW.block ?_|refine AW.skip ?_|exact trivial|refine rG 1 ?_|refine Run.cSA [0, 1] his O O O O O O O O O O O O ?_|refine UA ?_|fail))
          (refine AW.die (id := 2) 1 O ?_; iterate 1 (try (first|refine UA ?_|fail));(try refine Run.fin O ?_))
          exact DieAt.call [0, 1, 2] h1 (Enters.fn O O O) O O O O O O
        | some q =>
          rw [he] at h1 g1
          have hq := hep _ _ _ he
          have hOq := hq.oky hOr
          have hql := hq.lt
          have hqn := hq.len
          clear hq he
          obtain ⟨us2, vs2⟩ := q
          simp only at g1 hOq hql hqn
          have hvl : (tmP vs2).length = vs2.length := by simp
          (repeat' (first|refine AW.seq_k (fun K hK=>?_)|(refine hK _ ?_;clear hK)|refine AW.uC (fun hc=>?_) (fun hc=>?_)|refine AW.block ?_|refine AW.skip ?_|exact trivial|refine AW.rI [1, 2, 3] O ?_|refine Run.cSA [0, 1] his O O O O O O O O O O O O ?_|refine Run.cE [0, 1, 2] h1 O O O (Enters.fn O O O) O O O O O O O ?_|refine UA ?_|fail))
          ((repeat (with_reducible refine inB_n ?_)); refine thenA_n ?_)
          refine ⟨(f', us2, vs2 ++ [(kind, [])]), ⟨g1, by simp only; omega, by simp only; omega, ⟨hOq.str, by simp only [List.length_append, List.length_singleton]; omega⟩⟩, by simp only; omega, ?_⟩
          refine Conv.mk [0, 1, 2] O O O ?_ O ?_
          · (repeat' (first|exact V0|refine V3 ?_|refine V2 ?_ ?_|fail))
            (all_goals (try (first|refine CvL.eq ?_|refine Cv.eq ?_)))
            all_goals simp [AV.ren, AV.rens, renL]
          · (repeat' (first|exact V0|refine V3 ?_|refine V2 ?_ ?_|fail))
            all_goals first | rfl | (simp; done) | (refine Cv.eq ?_; simp [AV.ren, AV.rens, renL]; done)
abbrev wActive : Wd := [97, 99, 116, 105, 118, 101]
abbrev wPresent : Wd := [112, 114, 101, 115, 101, 110, 116]
abbrev wNot : Wd := [110, 111, 116]
abbrev wOpen : Wd := [40]
abbrev wClose : Wd := [41]
abbrev wAnd : Wd := [97, 110, 100]
abbrev wOr : Wd := [111, 114]
def nameT (kind : Int) (ts : List Tm) : List Wd → RS
  | [] => none
  | y :: r => if nameB y = true then some (r, ts ++ [(kind, y)]) else none
def condF (elem : List Wd → List Tm → RS) : List Wd → List Tm → RS := joinF (joinF elem wAnd 4) wOr 5
def partF : Nat → List Wd → List Tm → RS
  | 0, _, _ => none
  | _ + 1, [], _ => none
  | n + 1, x :: r, ts =>
    if x = wActive then nameT 1 ts r else if x = wPresent then nameT 2 ts r
    else if x = wNot then (match partF n r ts with | none => none | some p => some (p.1, p.2 ++ [(3, [])]))
    else if x = wOpen then (match condF (partF n) r ts with | none => none | some p => if isP wClose p.1 = true then some (p.1.tail, p.2) else none)
    else none
theorem nameT_adv {kind : Int} {x : Wd} {r : List Wd} {ts : List Tm} {p : List Wd × List Tm} (h : nameT kind ts r = some p) : Adv (x :: r) ts p := by
  cases r with
  | nil => cases h
  | cons y t =>
    rw [nameT] at h
    split at h
    · obtain rfl : (t, ts ++ [(kind, y)]) = p := by simpa using h
      exact ⟨⟨1, rfl⟩, by simp; omega, by simp; omega⟩
    · cases h
theorem partF_adv : ∀ (n : Nat) (ws : List Wd) (ts : List Tm) (p : List Wd × List Tm), partF n ws ts = some p → Adv ws ts p
  | 0, _, _, _, h => by cases h
  | _ + 1, [], _, _, h => by cases h
  | n + 1, x :: r, ts, p, h => by
    rw [partF] at h
    split at h
    · exact nameT_adv h
    split at h
    · exact nameT_adv h
    split at h
    · cases he : partF n r ts with
      | none => rw [he] at h; cases h
      | some q =>
        rw [he] at h
        obtain rfl : (q.1, q.2 ++ [(3, [])]) = p := by simpa using h
        have a := partF_adv n r ts q he
        obtain ⟨m, hm⟩ := a.suf
        have a1 := a.lt
        have a2 := a.len
        exact ⟨⟨m + 1, by simp only; rw [hm]; rfl⟩, by simp; omega, by simp; omega⟩
    split at h
    · cases he : condF (partF n) r ts with
      | none => rw [he] at h; cases h
      | some q =>
        rw [he] at h
        simp only at h
        split at h
        · rename_i hx
          obtain rfl : (q.1.tail, q.2) = p := by simpa using h
          have a := joinF_adv (joinF_adv (partF_adv n) wAnd 4) wOr 5 r ts q he
          obtain ⟨t, ht⟩ := isP_cons hx
          obtain ⟨m, hm⟩ := a.suf
          have a1 := a.lt
          have a2 := a.len
          rw [ht] at a1 a2
          simp only [List.length_cons] at a1 a2
          refine ⟨⟨m + 2, ?_⟩, by simp [ht]; omega, by simp [ht]; omega⟩
          simp only
          rw [hm, List.tail_drop, List.drop_succ_cons]
        · cases h
    · cases h
def PartOk (N : Nat) : Prop := ∀ ws ts, ws.length ≤ N → Oky ws ts → AEnds Tryz.prog 161 [.ptr 0 0] (rrR ws ts ++ []) mstC (resE [] (partF N ws ts))
set_option maxHeartbeats 4000000 in
theorem cond1_e (N : Nat) (hN : PartOk N) (ws : List Wd) (ts : List Tm) (h : ws.length ≤ N) (hO : Oky ws ts) : AEnds Tryz.prog 160 [.ptr 2 0] (rrR ws ts ++ [Res.box [.ptr 0 0]]) mstC (resE [Res.box [.ptr 0 0]] (joinF (partF N) wAnd 4 ws ts)) := by
  have h0 := joinedA N wAnd 4 (partF N) (partF_adv N) hN ws ts h hO
  cases he : joinF (partF N) wAnd 4 ws ts with
  | none =>
    rw [he] at h0
    refine (AEnds.of (fn := Tryz.f160) Tryz.func160 O O Tryz.ntmps160 (fun I M w own => ?_))
    (refine AW.die (id := 0) 3 O ?_; iterate 3 (try (first|refine UA ?_|fail));(try refine Run.fin O ?_))
    exact DieAt.call [0, 1] h0 (Enters.fn O O O) O O O O O O
  | some p =>
    rw [he] at h0
    refine (AEnds.of (fn := Tryz.f160) Tryz.func160 O O Tryz.ntmps160 (fun I M w own => ?_))
    (repeat' (first|refine AW.region ?_|refine Run.cSA [0, 1] h0 O O O O O O O O O O O O ?_|refine UA ?_|fail))
    ((first|refine RetOk.tupS [0, 1, 2] O O O O O ?_ ?_|refine RetOk.oneS [0, 1, 2] O O O O ?_ ?_)<;>(repeat' (first|exact V0|refine V1 ?_|refine V2 ?_ ?_|fail)))
    all_goals first | rfl | (refine Cv.eq ?_; rfl)
set_option maxHeartbeats 4000000 in
theorem cond_e (N : Nat) (hN : PartOk N) (ws : List Wd) (ts : List Tm) (h : ws.length ≤ N) (hO : Oky ws ts) : AEnds Tryz.prog 150 [.ptr 0 0] (rrR ws ts) mstC (resE [] (condF (partF N) ws ts)) := by
  have h0 := joinedB N wOr 5 (joinF (partF N) wAnd 4) (joinF_adv (partF_adv N) wAnd 4) (cond1_e N hN) ws ts h hO
  generalize hR : condF (partF N) ws ts = R
  rw [condF] at hR
  rw [hR] at h0
  cases R with
  | none =>
    refine (AEnds.of (fn := Tryz.f150) Tryz.func150 O O Tryz.ntmps150 (fun I M w own => ?_))
    (repeat' (first|refine AW.seq_k (fun K hK=>?_)|(refine hK _ ?_;clear hK)|refine rG 0 ?_|refine UA ?_|fail))
    (refine AW.die (id := 1) 2 O ?_; iterate 2 (try (first|refine UA ?_|fail));(try refine Run.fin O ?_))
    exact DieAt.call [0, 1, 2] h0 (Enters.fn O O O) O O O O O O
  | some p =>
    refine (AEnds.of (fn := Tryz.f150) Tryz.func150 O O Tryz.ntmps150 (fun I M w own => ?_))
    (repeat' (first|refine AW.seq_k (fun K hK=>?_)|(refine hK _ ?_;clear hK)|refine AW.region ?_|refine Run.cSA [0, 1, 2] h0 O O O O O O O O O O O O ?_|refine UA ?_|fail))
    ((first|refine RetOk.tupS [0, 1] O O O O O ?_ ?_|refine RetOk.oneS [0, 1] O O O O ?_ ?_)<;>(repeat' (first|exact V0|refine V1 ?_|refine V2 ?_ ?_|fail)))
    all_goals first | rfl | (refine Cv.eq ?_; rfl)
set_option maxHeartbeats 4000000 in
theorem part_step (N : Nat) (hN : PartOk N) : PartOk (N + 1) := by
  intro ws ts h hO
  have ht := take_e ws ts
  have hol := hO.len
  cases ws with
  | nil =>
    rw [takeE] at ht
    rw [show partF (N + 1) [] ts = none from rfl]
    refine (AEnds.of (fn := Tryz.f161) Tryz.func161 O O Tryz.ntmps161 (fun I M w own => ?_))
    refine AW.seq_k (fun K hK => ?_)
    (refine AW.die (id := 0) 1 O ?_; iterate 1 (try (first|refine UA ?_|fail));(try refine Run.fin O ?_))
    exact DieAt.call [0, 1] ht (Enters.fn O O O) O O O O O O
  | cons x r =>
    rw [takeE] at ht
    have hrl : r.length ≤ N := by simpa using h
    have hOr : Oky r ts := ⟨fun y hy => hO.str y (List.mem_cons_of_mem _ hy), by simp only [List.length_cons] at hol; omega⟩
    rw [show partF (N + 1) (x :: r) ts = (if x = wActive then nameT 1 ts r else if x = wPresent then nameT 2 ts r else if x = wNot then (match partF N r ts with | none => none | some p => some (p.1, p.2 ++ [(3, [])])) else if x = wOpen then (match condF (partF N) r ts with | none => none | some p => if isP wClose p.1 = true then some (p.1.tail, p.2) else none) else none) from rfl]
    have hvt : (tmP ts).length = ts.length := by simp
    simp only [List.length_cons] at hol
    by_cases h1 : x = wActive
    · rw [if_pos h1]
      have hn := name_e r ts (fun y hy => hO.str y (List.mem_cons_of_mem _ hy))
      cases r with
      | nil =>
        rw [nameT]
        rw [nameE] at hn
        refine (AEnds.of (fn := Tryz.f161) Tryz.func161 O O Tryz.ntmps161 (fun I M w own => ?_))
        (repeat' (first|refine AW.seq_k (fun K hK=>?_)|(refine hK _ ?_;clear hK)|refine AW.uC (fun hc=>?_) (fun hc=>?_)|refine AW.block ?_|exact trivial|refine AW.rI [0, 2] O ?_|refine Run.cSA [0, 1] ht O O O O O O O O O O O O ?_|refine Ud ?_|fail))
        refine AW.drawS (id := 3) 6 0 99 [([], []), ([], []), ([], []), ([], []), ([0], []), ([], [])] [] [([], []), ([], []), ([], []), ([], []), ([], []), ([], [])] ([0, 1], []) (fun _ => True) False (by kernel_rfl) (by rfl) (by kernel_rfl) (by kernel_rfl) trivial (fun _ _ _ _ => trivial) ?_
        (iterate 6 (try (first|refine UA ?_|fail)))
        refine Run.fin O ?_
        refine RecG.dieK [0, 1] hn (Enters.fn O O O) O O O O O O O O ?_
        refine Run.fin O ⟨fun h => absurd h (Nat.lt_irrefl 0), ?_⟩
        refine Run.bt (.tmp 14) O O O (by simp [Op.operands]) O ?_
        refine Run.bt (.tmp 15) O O O (by simp [Op.operands]) O ?_
        refine Run.bt (.tmp 16) O O O (by simp [Op.operands, Call.operands]) O ?_
        (iterate 2 (try (first|refine UA ?_|fail)))
        refine Run.bt0 (.tmp 17) O O (by simp [Op.operands]) O ?_
        exact Run.fin O (fun h => h.elim)
      | cons y t =>
        rw [nameT]
        rw [nameE] at hn
        cases hy : nameB y with
        | false =>
          rw [if_neg (by decide)]
          rw [hy, if_neg (by decide)] at hn
          refine (AEnds.of (fn := Tryz.f161) Tryz.func161 O O Tryz.ntmps161 (fun I M w own => ?_))
          (repeat' (first|refine AW.seq_k (fun K hK=>?_)|(refine hK _ ?_;clear hK)|refine AW.uC (fun hc=>?_) (fun hc=>?_)|refine AW.block ?_|exact trivial|refine AW.rI [0, 2] O ?_|refine Run.cSA [0, 1] ht O O O O O O O O O O O O ?_|refine Ud ?_|fail))
          refine AW.drawS (id := 3) 6 0 99 [([], []), ([], []), ([], []), ([], []), ([0], []), ([], [])] [] [([], []), ([], []), ([], []), ([], []), ([], []), ([], [])] ([0, 1], []) (fun _ => True) False (by kernel_rfl) (by rfl) (by kernel_rfl) (by kernel_rfl) trivial (fun _ _ _ _ => trivial) ?_
          (iterate 6 (try (first|refine UA ?_|fail)))
          refine Run.fin O ?_
          refine RecG.dieK [0, 1] hn (Enters.fn O O O) O O O O O O O O ?_
          refine Run.fin O ⟨fun h => absurd h (Nat.lt_irrefl 0), ?_⟩
          refine Run.bt (.tmp 14) O O O (by simp [Op.operands]) O ?_
          refine Run.bt (.tmp 15) O O O (by simp [Op.operands]) O ?_
          refine Run.bt (.tmp 16) O O O (by simp [Op.operands, Call.operands]) O ?_
          (iterate 2 (try (first|refine UA ?_|fail)))
          refine Run.bt0 (.tmp 17) O O (by simp [Op.operands]) O ?_
          exact Run.fin O (fun h => h.elim)
        | true =>
          rw [if_pos O]
          rw [hy, if_pos O] at hn
          refine (AEnds.of (fn := Tryz.f161) Tryz.func161 O O Tryz.ntmps161 (fun I M w own => ?_))
          (repeat' (first|refine AW.seq_k (fun K hK=>?_)|(refine hK _ ?_;clear hK)|refine AW.uC (fun hc=>?_) (fun hc=>?_)|refine AW.block ?_|exact trivial|refine AW.rI [0, 2] O ?_|refine Run.cSA [0, 1] ht O O O O O O O O O O O O ?_|refine Ud ?_|fail))
          refine AW.drawS (id := 3) 4 2 0 [([], []), ([], []), ([], []), ([], [])] [([], []), ([0, 1], [0, 1])] [([], []), ([], []), ([1], [1]), ([], []), ([], []), ([0], [0])] ([], []) (fun σ => ∃ cs, σ 0 = .box cs ∧ cs[1]? = some (.row 1 (tmP ts).length)) True (by kernel_rfl) (by rfl) (by kernel_rfl) (by kernel_rfl) ⟨_, rfl, rfl⟩ (fun σ σ' e ⟨cs, h1, h2⟩ => ⟨cs, e ▸ h1, h2⟩) ?_
          (iterate 4 (try (first|refine UA ?_|fail)))
          refine Run.fin O ⟨_, rfl, rfl, RecG.ld1 O O O O O O, ?_⟩
          (iterate 2 (try (first|refine Run.cSA [0, 1] hn O O O O O O O O O O O O ?_|refine UA ?_|fail)))
          refine Run.fin O ⟨fun _ => ⟨_, rfl, rfl⟩, ?_⟩
          (iterate 6 (try (first|refine UA ?_|fail)))
          refine Run.fin O (fun _ => ?_)
          ((first|refine RetOk.tupS [0, 1] O O O O O ?_ ?_|refine RetOk.oneS [0, 1] O O O O ?_ ?_)<;>(repeat' (first|exact V0|refine V1 ?_|refine V2 ?_ ?_|fail)))
          all_goals first | rfl | (simp; done) | (refine Cv.eq ?_; simp [AV.ren, AV.rens, renL]; done)
    rw [if_neg h1]
    by_cases h2 : x = wPresent
    · rw [if_pos h2]
      have hn := name_e r ts (fun y hy => hO.str y (List.mem_cons_of_mem _ hy))
      cases r with
      | nil =>
        rw [nameT]
        rw [nameE] at hn
        refine (AEnds.of (fn := Tryz.f161) Tryz.func161 O O Tryz.ntmps161 (fun I M w own => ?_))
        (repeat' (first|refine AW.seq_k (fun K hK=>?_)|(refine hK _ ?_;clear hK)|refine AW.uC (fun hc=>?_) (fun hc=>?_)|refine AW.block ?_|exact trivial|refine AW.rI [0, 2, 4] O ?_|refine Run.cSA [0, 1] ht O O O O O O O O O O O O ?_|refine Ud ?_|fail))
        refine AW.drawS (id := 5) 6 0 99 [([], []), ([], []), ([], []), ([], []), ([0], []), ([], [])] [] [([], []), ([], []), ([], []), ([], []), ([], []), ([], [])] ([0, 1], []) (fun _ => True) False (by kernel_rfl) (by rfl) (by kernel_rfl) (by kernel_rfl) trivial (fun _ _ _ _ => trivial) ?_
        (iterate 6 (try (first|refine UA ?_|fail)))
        refine Run.fin O ?_
        refine RecG.dieK [0, 1] hn (Enters.fn O O O) O O O O O O O O ?_
        refine Run.fin O ⟨fun h => absurd h (Nat.lt_irrefl 0), ?_⟩
        refine Run.bt (.tmp 28) O O O (by simp [Op.operands]) O ?_
        refine Run.bt (.tmp 29) O O O (by simp [Op.operands]) O ?_
        refine Run.bt (.tmp 30) O O O (by simp [Op.operands, Call.operands]) O ?_
        (iterate 2 (try (first|refine UA ?_|fail)))
        refine Run.bt0 (.tmp 31) O O (by simp [Op.operands]) O ?_
        exact Run.fin O (fun h => h.elim)
      | cons y t =>
        rw [nameT]
        rw [nameE] at hn
        cases hy : nameB y with
        | false =>
          rw [if_neg (by decide)]
          rw [hy, if_neg (by decide)] at hn
          refine (AEnds.of (fn := Tryz.f161) Tryz.func161 O O Tryz.ntmps161 (fun I M w own => ?_))
          (repeat' (first|refine AW.seq_k (fun K hK=>?_)|(refine hK _ ?_;clear hK)|refine AW.uC (fun hc=>?_) (fun hc=>?_)|refine AW.block ?_|exact trivial|refine AW.rI [0, 2, 4] O ?_|refine Run.cSA [0, 1] ht O O O O O O O O O O O O ?_|refine Ud ?_|fail))
          refine AW.drawS (id := 5) 6 0 99 [([], []), ([], []), ([], []), ([], []), ([0], []), ([], [])] [] [([], []), ([], []), ([], []), ([], []), ([], []), ([], [])] ([0, 1], []) (fun _ => True) False (by kernel_rfl) (by rfl) (by kernel_rfl) (by kernel_rfl) trivial (fun _ _ _ _ => trivial) ?_
          (iterate 6 (try (first|refine UA ?_|fail)))
          refine Run.fin O ?_
          refine RecG.dieK [0, 1] hn (Enters.fn O O O) O O O O O O O O ?_
          refine Run.fin O ⟨fun h => absurd h (Nat.lt_irrefl 0), ?_⟩
          refine Run.bt (.tmp 28) O O O (by simp [Op.operands]) O ?_
          refine Run.bt (.tmp 29) O O O (by simp [Op.operands]) O ?_
          refine Run.bt (.tmp 30) O O O (by simp [Op.operands, Call.operands]) O ?_
          (iterate 2 (try (first|refine UA ?_|fail)))
          refine Run.bt0 (.tmp 31) O O (by simp [Op.operands]) O ?_
          exact Run.fin O (fun h => h.elim)
        | true =>
          rw [if_pos O]
          rw [hy, if_pos O] at hn
          refine (AEnds.of (fn := Tryz.f161) Tryz.func161 O O Tryz.ntmps161 (fun I M w own => ?_))
          (repeat' (first|refine AW.seq_k (fun K hK=>?_)|(refine hK _ ?_;clear hK)|refine AW.uC (fun hc=>?_) (fun hc=>?_)|refine AW.block ?_|exact trivial|refine AW.rI [0, 2, 4] O ?_|refine Run.cSA [0, 1] ht O O O O O O O O O O O O ?_|refine Ud ?_|fail))
          refine AW.drawS (id := 5) 4 2 0 [([], []), ([], []), ([], []), ([], [])] [([], []), ([0, 1], [0, 1])] [([], []), ([], []), ([1], [1]), ([], []), ([], []), ([0], [0])] ([], []) (fun σ => ∃ cs, σ 0 = .box cs ∧ cs[1]? = some (.row 1 (tmP ts).length)) True (by kernel_rfl) (by rfl) (by kernel_rfl) (by kernel_rfl) ⟨_, rfl, rfl⟩ (fun σ σ' e ⟨cs, h1, h2⟩ => ⟨cs, e ▸ h1, h2⟩) ?_
          (iterate 4 (try (first|refine UA ?_|fail)))
          refine Run.fin O ⟨_, rfl, rfl, RecG.ld1 O O O O O O, ?_⟩
          (iterate 2 (try (first|refine Run.cSA [0, 1] hn O O O O O O O O O O O O ?_|refine UA ?_|fail)))
          refine Run.fin O ⟨fun _ => ⟨_, rfl, rfl⟩, ?_⟩
          (iterate 6 (try (first|refine UA ?_|fail)))
          refine Run.fin O (fun _ => ?_)
          ((first|refine RetOk.tupS [0, 1] O O O O O ?_ ?_|refine RetOk.oneS [0, 1] O O O O ?_ ?_)<;>(repeat' (first|exact V0|refine V1 ?_|refine V2 ?_ ?_|fail)))
          all_goals first | rfl | (simp; done) | (refine Cv.eq ?_; simp [AV.ren, AV.rens, renL]; done)
    rw [if_neg h2]
    by_cases h3 : x = wNot
    · rw [if_pos h3]
      have hp := hN r ts hrl hOr
      cases he : partF N r ts with
      | none =>
        rw [he] at hp
        refine (AEnds.of (fn := Tryz.f161) Tryz.func161 O O Tryz.ntmps161 (fun I M w own => ?_))
        (repeat' (first|refine AW.seq_k (fun K hK=>?_)|(refine hK _ ?_;clear hK)|refine AW.uC (fun hc=>?_) (fun hc=>?_)|refine AW.block ?_|exact trivial|refine AW.rI [0, 2, 4, 6] O ?_|refine Run.cSA [0, 1] ht O O O O O O O O O O O O ?_|refine Ud ?_|fail))
        (refine AW.die (id := 7) 1 O ?_; iterate 1 (try (first|refine UA ?_|fail));(try refine Run.fin O ?_))
        exact DieAt.call [0, 1] hp (Enters.fn O O O) O O O O O O
      | some p =>
        rw [he] at hp
        have ha := partF_adv N r ts p he
        have hal := ha.len
        have hvp : (tmP p.2).length = p.2.length := by simp
        refine (AEnds.of (fn := Tryz.f161) Tryz.func161 O O Tryz.ntmps161 (fun I M w own => ?_))
        (repeat' (first|refine AW.seq_k (fun K hK=>?_)|(refine hK _ ?_;clear hK)|refine AW.uC (fun hc=>?_) (fun hc=>?_)|refine AW.block ?_|exact trivial|refine AW.rI [0, 2, 4, 6, 7, 8] O ?_|refine Run.cSA [0, 1] ht O O O O O O O O O O O O ?_|refine Run.cSA [0, 1] hp O O O O O O O O O O O O ?_|refine Ud ?_|fail))
        ((first|refine RetOk.tupS [0, 1] O O O O O ?_ ?_|refine RetOk.oneS [0, 1] O O O O ?_ ?_)<;>(repeat' (first|exact V0|refine V1 ?_|refine V2 ?_ ?_|fail)))
        all_goals first | rfl | (simp; done) | (refine Cv.eq ?_; simp [AV.ren, AV.rens, renL]; done)
    rw [if_neg h3]
    by_cases h4 : x = wOpen
    · rw [if_pos h4]
      have hp := cond_e N hN r ts hrl hOr
      cases he : condF (partF N) r ts with
      | none =>
        rw [he] at hp
        refine (AEnds.of (fn := Tryz.f161) Tryz.func161 O O Tryz.ntmps161 (fun I M w own => ?_))
        (repeat' (first|refine AW.seq_k (fun K hK=>?_)|(refine hK _ ?_;clear hK)|refine AW.uC (fun hc=>?_) (fun hc=>?_)|refine AW.block ?_|exact trivial|refine AW.rI [0, 2, 4, 6, 9] O ?_|refine Run.cSA [0, 1] ht O O O O O O O O O O O O ?_|refine Ud ?_|fail))
        (refine AW.die (id := 10) 1 O ?_; iterate 1 (try (first|refine UA ?_|fail));(try refine Run.fin O ?_))
        exact DieAt.call [0, 1] hp (Enters.fn O O O) O O O O O O
      | some p =>
        rw [he] at hp
        have his := is_c wClose p.1 p.2
        simp only
        cases hx : isP wClose p.1 with
        | true =>
          have hv : isR wClose p.1 = p.1.tail := by rw [isR, hx]; rfl
          rw [hx, hv] at his
          rw [if_pos O]
          refine (AEnds.of (fn := Tryz.f161) Tryz.func161 O O Tryz.ntmps161 (fun I M w own => ?_))
          (repeat' (first|refine AW.seq_k (fun K hK=>?_)|(refine hK _ ?_;clear hK)|refine AW.uC (fun hc=>?_) (fun hc=>?_)|refine AW.block ?_|refine AW.skip ?_|exact trivial|refine AW.rI [0, 2, 4, 6, 9, 10, 11] O ?_|refine Run.cSA [0, 1] ht O O O O O O O O O O O O ?_|refine Run.cSA [0, 1] hp O O O O O O O O O O O O ?_|refine Run.cSA [0, 1] his O O O O O O O O O O O O ?_|refine Ud ?_|fail))
          ((first|refine RetOk.tupS [0, 1] O O O O O ?_ ?_|refine RetOk.oneS [0, 1] O O O O ?_ ?_)<;>(repeat' (first|exact V0|refine V1 ?_|refine V2 ?_ ?_|fail)))
          all_goals first | rfl | (simp; done) | (refine Cv.eq ?_; simp [AV.ren, AV.rens, renL]; done)
        | false =>
          rw [hx] at his
          rw [if_neg (by decide)]
          refine (AEnds.of (fn := Tryz.f161) Tryz.func161 O O Tryz.ntmps161 (fun I M w own => ?_))
          (repeat' (first|refine AW.seq_k (fun K hK=>?_)|(refine hK _ ?_;clear hK)|refine AW.uC (fun hc=>?_) (fun hc=>?_)|refine AW.block ?_|exact trivial|refine AW.rI [0, 2, 4, 6, 9, 10, 11] O ?_|refine Run.cSA [0, 1] ht O O O O O O O O O O O O ?_|refine Run.cSA [0, 1] hp O O O O O O O O O O O O ?_|refine Run.cSA [0, 1] his O O O O O O O O O O O O ?_|refine Ud ?_|fail))
          (refine AW.die (id := 12) 2 O ?_; iterate 2 (try (first|refine UA ?_|fail));(try refine Run.fin O ?_))
          (exact DieAt.panic O O O O)
    · rw [if_neg h4]
      refine (AEnds.of (fn := Tryz.f161) Tryz.func161 O O Tryz.ntmps161 (fun I M w own => ?_))
      (repeat' (first|refine AW.seq_k (fun K hK=>?_)|(refine hK _ ?_;clear hK)|refine AW.uC (fun hc=>?_) (fun hc=>?_)|refine AW.block ?_|exact trivial|refine AW.rI [0, 2, 4, 6, 9] O ?_|refine Run.cSA [0, 1] ht O O O O O O O O O O O O ?_|refine Ud ?_|fail))
      (refine AW.die (id := 1) 2 O ?_; iterate 2 (try (first|refine UA ?_|fail));(try refine Run.fin O ?_))
      (exact DieAt.panic O O O O)
set_option maxHeartbeats 4000000 in
theorem part_e : ∀ N, PartOk N
  | 0 => by
    intro ws ts h hO
    obtain rfl : ws = [] := List.eq_nil_of_length_eq_zero (by omega)
    have ht := take_e [] ts
    rw [takeE] at ht
    rw [show partF 0 [] ts = none from rfl]
    refine (AEnds.of (fn := Tryz.f161) Tryz.func161 O O Tryz.ntmps161 (fun I M w own => ?_))
    refine AW.seq_k (fun K hK => ?_)
    (refine AW.die (id := 0) 1 O ?_; iterate 1 (try (first|refine UA ?_|fail));(try refine Run.fin O ?_))
    exact DieAt.call [0, 1] ht (Enters.fn O O O) O O O O O O
  | N + 1 => part_step N (part_e N)
theorem condition_e (N : Nat) (ws : List Wd) (ts : List Tm) (h : ws.length ≤ N) (hO : Oky ws ts) : AEnds Tryz.prog 150 [.ptr 0 0] (rrR ws ts) mstC (resE [] (condF (partF N) ws ts)) := cond_e N (part_e N) ws ts h hO
end Go.Proofs.YtbbcokckealagaaGreat
