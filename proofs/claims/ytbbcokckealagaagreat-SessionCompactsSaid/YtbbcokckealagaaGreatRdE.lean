/-
  Walk of the reader of rules: a rule.
-/
import Derived.Test.YtbbcokckealagaaGreatQAA
import Derived.Test.YtbbcokckealagaaGreatQAH
import Derived.Test.YtbbcokckealagaaGreatQAF
import Derived.Test.YtbbcokckealagaaGreatQAJ
namespace Go.Proofs.YtbbcokckealagaaGreat
set_option linter.unusedVariables false
set_option linter.unusedSimpArgs false
abbrev wRoute : Wd := [114, 111, 117, 116, 101]
abbrev wDuck : Wd := [100, 117, 99, 107]
abbrev wMute : Wd := [109, 117, 116, 101]
abbrev wWhen : Wd := [119, 104, 101, 110]
structure Hd where
  kind : Int
  role : Wd
  cls : Wd
  pct : Int
structure Ru where
  hd : Hd
  cond : List Tm
abbrev Hd.cells (h : Hd) : List AV := [.v (.int .i64 h.kind), .v (.string (bs h.role)), .v (.string (bs h.cls)), .v (.int .i64 h.pct)]
abbrev Ru.cells (r : Ru) : List AV := r.hd.cells ++ [.sl 2 (tmP r.cond) false]
def headF : List Wd → Option (Hd × List Wd)
  | [] => none
  | x :: r =>
    if x = wRoute then
      match r with
      | a :: b :: t => if nameB a = true then if nameB b = true then some (⟨1, a, b, 0⟩, t) else none else none
      | _ => none
    else if x = wDuck then
      match r with
      | a :: b :: t => if nameB a = true then if ((numberP b).2 ≠ 0 ∨ (numberP b).1 < 0) ∨ 100 < (numberP b).1 then none else some (⟨2, a, [], (numberP b).1⟩, t) else none
      | _ => none
    else if x = wMute then
      match r with
      | a :: t => if nameB a = true then some (⟨3, a, [], 0⟩, t) else none
      | _ => none
    else none
def tailF (t : List Wd) : Option (List Tm) :=
  if isP wWhen t = true then (match condF (partF t.tail.length) t.tail [] with | none => none | some p => if p.1 = [] then some p.2 else none)
  else if t = [] then some [] else none
def ruleF (ws : List Wd) : Option Ru :=
  match headF ws with
  | none => none
  | some y => match tailF y.2 with
    | none => none
    | some c => some ⟨y.1, c⟩
def ruleE : Option Ru → Option (AV × List Res)
  | none => none
  | some r => some (.agg r.cells, [.no])
theorem headF_suf {ws : List Wd} {y : Hd × List Wd} (h : headF ws = some y) : ∃ n, y.2 = ws.drop n := by
  cases ws with
  | nil => cases h
  | cons x r =>
    rcases r with _ | ⟨a, _ | ⟨b, t⟩⟩ <;> simp only [headF] at h <;> repeat' (split at h)
    all_goals first | (cases h; done) | (obtain rfl := Option.some.inj h; first | exact ⟨3, rfl⟩ | exact ⟨2, rfl⟩)
set_option maxHeartbeats 4000000 in
theorem rule_e (ws : List Wd) (f : Bool) (hs : ∀ x ∈ ws, x.length ≤ 1099511627776) (hl : ws.length ≤ 1000000) : AEnds Tryz.prog 127 [.ptr 0 0] [.box [.sl 1 (wdsP ws) f, .v (.slice none 0 0)]] mstC (ruleE (ruleF ws)) := by
  generalize hR : ruleF ws = R
  rw [ruleF] at hR
  refine (AEnds.of (fn := Tryz.f127) Tryz.func127 O O Tryz.ntmps127 (fun I M w own => ?_))
  refine AW.conv (s' := ⟨[(0, .ptr 0 0)], rrR ws []⟩) ?_ ?_
  · (refine Conv.ownB 0 1 2 [] O O (Or.inr ⟨rfl, rfl⟩) (by repeat constructor) (by repeat constructor) ?_)
    refine Conv.mk [0, 1] O O O ?_ O ?_
    · (repeat' (first|exact V0|refine V3 ?_|refine V2 ?_ ?_|fail))
    · (repeat' (first|exact V0|refine V3 ?_|refine V2 ?_ ?_|fail))
      all_goals rfl
  refine AW.seq_k (fun K hK => ?_)
  refine rG 0 ?_
  (iterate 1 (try (first|refine UA ?_|fail)))
  refine Run.fin O ?_
  refine hK _ ?_
  clear hK
  refine AW.seq_k (fun K hK => ?_)
  refine rG 1 ?_
  (iterate 1 (try (first|refine UA ?_|fail)))
  refine Run.fin O ?_
  refine hK _ ?_
  clear hK
  refine AW.join (X := Hd × List Wd) (fun y => ⟨[(0, .ptr 0 0), (2, .ptr 2 0), (3, .ptr 3 0)], rrR y.2 [] ++ [.box [.v (.int .i64 0), .v (.string (bs [])), .v (.string (bs [])), .v (.int .i64 0), .v (.slice none 0 0)], .box (y.1.cells ++ [.v (.slice none 0 0)])]⟩) (fun y => headF ws = some y) ?_ ?_
  · skip
    cases ws with
    | nil =>
      have ht := take_e [] []
      rw [takeE] at ht
      rw [show headF [] = none from rfl] at hR
      subst hR
      refine AW.seq_k (fun K hK => ?_)
      (refine AW.die (id := 2) 1 O ?_; iterate 1 (try (first|refine UA ?_|fail));(try refine Run.fin O ?_))
      exact DieAt.call [0, 1] ht (Enters.fn O O O) O O O O O O
    | cons x r =>
      have ht := take_e (x :: r) []
      rw [takeE] at ht
      have hsr : ∀ z ∈ r, z.length ≤ 9223372036854775807 := fun z hz => by have := hs z (List.mem_cons_of_mem _ hz); omega
      have hn1 := name_e r [] hsr
      by_cases h1 : x = wRoute
      · cases r with
        | nil =>
          rw [show headF [x] = none by rw [h1]; rfl] at hR
          subst hR
          rw [nameE] at hn1
          (repeat' (first|refine AW.seq_k (fun K hK=>?_)|(refine hK _ ?_;clear hK)|refine AW.uC (fun hc=>?_) (fun hc=>?_)|refine AW.block ?_|exact trivial|refine AW.rI [2, 4] O ?_|refine Run.cSA [0, 1] ht O O O O O O O O O O O O ?_|refine Ud ?_|fail))
          (refine AW.die (id := 5) 1 O ?_; iterate 1 (try (first|refine UA ?_|fail));(try refine Run.fin O ?_))
          exact DieAt.call [0, 1] hn1 (Enters.fn O O O) O O O O O O
        | cons a t1 =>
          rw [nameE] at hn1
          cases ha : nameB a with
          | false =>
            rw [ha, if_neg (by decide)] at hn1
            rw [show headF (x :: a :: t1) = none by cases t1 <;> simp [headF, ha, h1]] at hR
            subst hR
            (repeat' (first|refine AW.seq_k (fun K hK=>?_)|(refine hK _ ?_;clear hK)|refine AW.uC (fun hc=>?_) (fun hc=>?_)|refine AW.block ?_|exact trivial|refine AW.rI [2, 4] O ?_|refine Run.cSA [0, 1] ht O O O O O O O O O O O O ?_|refine Ud ?_|fail))
            (refine AW.die (id := 5) 1 O ?_; iterate 1 (try (first|refine UA ?_|fail));(try refine Run.fin O ?_))
            exact DieAt.call [0, 1] hn1 (Enters.fn O O O) O O O O O O
          | true =>
            rw [ha, if_pos O] at hn1
            have hn2 := name_e t1 [] (fun z hz => hsr z (List.mem_cons_of_mem _ hz))
            cases t1 with
            | nil =>
              rw [show headF [x, a] = none by rw [h1]; rfl] at hR
              subst hR
              rw [nameE] at hn2
              (repeat' (first|refine AW.seq_k (fun K hK=>?_)|(refine hK _ ?_;clear hK)|refine AW.uC (fun hc=>?_) (fun hc=>?_)|refine AW.block ?_|exact trivial|refine AW.rI [2, 4] O ?_|refine Run.cSA [0, 1] ht O O O O O O O O O O O O ?_|refine Ud ?_|fail))
              (refine AW.die (id := 5) 3 O ?_; iterate 3 (try (first|refine Run.cSA [0, 1] hn1 O O O O O O O O O O O O ?_|refine UA ?_|fail));(try refine Run.fin O ?_))
              exact DieAt.call [0, 1] hn2 (Enters.fn O O O) O O O O O O
            | cons b t =>
              rw [nameE] at hn2
              cases hb : nameB b with
              | false =>
                rw [hb, if_neg (by decide)] at hn2
                rw [show headF (x :: a :: b :: t) = none by simp [headF, ha, hb, h1]] at hR
                subst hR
                (repeat' (first|refine AW.seq_k (fun K hK=>?_)|(refine hK _ ?_;clear hK)|refine AW.uC (fun hc=>?_) (fun hc=>?_)|refine AW.block ?_|exact trivial|refine AW.rI [2, 4] O ?_|refine Run.cSA [0, 1] ht O O O O O O O O O O O O ?_|refine Ud ?_|fail))
                (refine AW.die (id := 5) 3 O ?_; iterate 3 (try (first|refine Run.cSA [0, 1] hn1 O O O O O O O O O O O O ?_|refine UA ?_|fail));(try refine Run.fin O ?_))
                exact DieAt.call [0, 1] hn2 (Enters.fn O O O) O O O O O O
              | true =>
                rw [hb, if_pos O] at hn2
                (repeat' (first|refine AW.seq_k (fun K hK=>?_)|(refine hK _ ?_;clear hK)|refine AW.uC (fun hc=>?_) (fun hc=>?_)|refine AW.block ?_|exact trivial|refine AW.rI [2, 4, 5] O ?_|refine Run.cSA [0, 1] ht O O O O O O O O O O O O ?_|refine Run.cSA [0, 1] hn1 O O O O O O O O O O O O ?_|refine Run.cSA [0, 1] hn2 O O O O O O O O O O O O ?_|refine Ud ?_|fail))
                ((repeat (with_reducible refine inB_n ?_)); refine thenA_n ?_)
                refine ⟨(⟨1, a, b, 0⟩, t), by simp [headF, ha, hb, h1], ?_⟩
                refine Conv.mk [0, 1, 2, 3] O O O ?_ O ?_
                · (repeat' (first|exact V0|refine V3 ?_|refine V2 ?_ ?_|fail))
                · (repeat' (first|exact V0|refine V3 ?_|refine V2 ?_ ?_|fail))
                  all_goals first | rfl | (refine Cv.eq ?_; simp [AV.ren, AV.rens, renL]; done)
      by_cases h2 : x = wDuck
      · cases r with
        | nil =>
          rw [show headF [x] = none by rw [h2]; rfl] at hR
          subst hR
          rw [nameE] at hn1
          (repeat' (first|refine AW.seq_k (fun K hK=>?_)|(refine hK _ ?_;clear hK)|refine AW.uC (fun hc=>?_) (fun hc=>?_)|refine AW.block ?_|exact trivial|refine AW.rI [2, 4, 6] O ?_|refine Run.cSA [0, 1] ht O O O O O O O O O O O O ?_|refine Ud ?_|fail))
          (refine AW.die (id := 7) 1 O ?_; iterate 1 (try (first|refine UA ?_|fail));(try refine Run.fin O ?_))
          exact DieAt.call [0, 1] hn1 (Enters.fn O O O) O O O O O O
        | cons a t1 =>
          rw [nameE] at hn1
          cases ha : nameB a with
          | false =>
            rw [ha, if_neg (by decide)] at hn1
            rw [show headF (x :: a :: t1) = none by cases t1 <;> simp [headF, ha, h2]] at hR
            subst hR
            (repeat' (first|refine AW.seq_k (fun K hK=>?_)|(refine hK _ ?_;clear hK)|refine AW.uC (fun hc=>?_) (fun hc=>?_)|refine AW.block ?_|exact trivial|refine AW.rI [2, 4, 6] O ?_|refine Run.cSA [0, 1] ht O O O O O O O O O O O O ?_|refine Ud ?_|fail))
            (refine AW.die (id := 7) 1 O ?_; iterate 1 (try (first|refine UA ?_|fail));(try refine Run.fin O ?_))
            exact DieAt.call [0, 1] hn1 (Enters.fn O O O) O O O O O O
          | true =>
            rw [ha, if_pos O] at hn1
            have ht2 := take_e t1 []
            cases t1 with
            | nil =>
              rw [show headF [x, a] = none by rw [h2]; rfl] at hR
              subst hR
              rw [takeE] at ht2
              (repeat' (first|refine AW.seq_k (fun K hK=>?_)|(refine hK _ ?_;clear hK)|refine AW.uC (fun hc=>?_) (fun hc=>?_)|refine AW.block ?_|exact trivial|refine AW.rI [2, 4, 6, 7] O ?_|refine Run.cSA [0, 1] ht O O O O O O O O O O O O ?_|refine Run.cSA [0, 1] hn1 O O O O O O O O O O O O ?_|refine Ud ?_|fail))
              (refine AW.die (id := 8) 1 O ?_; iterate 1 (try (first|refine UA ?_|fail));(try refine Run.fin O ?_))
              exact DieAt.call [0, 1] ht2 (Enters.fn O O O) O O O O O O
            | cons b t =>
              rw [takeE] at ht2
              have hnb := Number_c b (hs b (by simp))
              by_cases hb : ((numberP b).2 ≠ 0 ∨ (numberP b).1 < 0) ∨ 100 < (numberP b).1
              · rw [show headF (x :: a :: b :: t) = none by simp [headF, ha, hb, h2]] at hR
                subst hR
                generalize numberP b = q at hnb hb
                (repeat' (first|refine AW.seq_k (fun K hK=>?_)|(refine hK _ ?_;clear hK)|refine AW.uC (fun hc=>?_) (fun hc=>?_)|refine AW.block ?_|exact trivial|refine AW.rI [2, 4, 6, 7, 8, 9] O ?_|refine Run.cSA [0, 1] ht O O O O O O O O O O O O ?_|refine Run.cSA [0, 1] hn1 O O O O O O O O O O O O ?_|refine Run.cSA [0, 1] ht2 O O O O O O O O O O O O ?_|refine Run.c0 hnb O O O O O O O O ?_|refine Ud ?_|fail))
                all_goals first | (exfalso; omega) | skip
                (refine AW.die (id := 10) 2 O ?_; iterate 2 (try (first|refine UA ?_|fail));(try refine Run.fin O ?_))
                (exact DieAt.panic O O O O)
              · have hh : headF (x :: a :: b :: t) = some (⟨2, a, [], (numberP b).1⟩, t) := by simp [headF, ha, hb, h2]
                rw [hh]
                generalize numberP b = q at hnb hb hh
                (repeat' (first|refine AW.seq_k (fun K hK=>?_)|(refine hK _ ?_;clear hK)|refine AW.uC (fun hc=>?_) (fun hc=>?_)|refine AW.block ?_|refine AW.skip ?_|exact trivial|refine AW.rI [2, 4, 6, 7, 8, 9, 11] O ?_|refine Run.cSA [0, 1] ht O O O O O O O O O O O O ?_|refine Run.cSA [0, 1] hn1 O O O O O O O O O O O O ?_|refine Run.cSA [0, 1] ht2 O O O O O O O O O O O O ?_|refine Run.c0 hnb O O O O O O O O ?_|refine Ud ?_|fail))
                all_goals first | (exfalso; omega) | skip
                ((repeat (with_reducible refine inB_n ?_)); refine thenA_n ?_)
                refine ⟨(⟨2, a, [], q.1⟩, t), rfl, ?_⟩
                refine Conv.mk [0, 1, 2, 3] O O O ?_ O ?_
                · (repeat' (first|exact V0|refine V3 ?_|refine V2 ?_ ?_|fail))
                · (repeat' (first|exact V0|refine V3 ?_|refine V2 ?_ ?_|fail))
                  all_goals first | rfl | (refine Cv.eq ?_; simp [AV.ren, AV.rens, renL]; done)
      by_cases h3 : x = wMute
      · cases r with
        | nil =>
          rw [show headF [x] = none by rw [h3]; rfl] at hR
          subst hR
          rw [nameE] at hn1
          (repeat' (first|refine AW.seq_k (fun K hK=>?_)|(refine hK _ ?_;clear hK)|refine AW.uC (fun hc=>?_) (fun hc=>?_)|refine AW.block ?_|exact trivial|refine AW.rI [2, 4, 6, 12] O ?_|refine Run.cSA [0, 1] ht O O O O O O O O O O O O ?_|refine Ud ?_|fail))
          (refine AW.die (id := 13) 1 O ?_; iterate 1 (try (first|refine UA ?_|fail));(try refine Run.fin O ?_))
          exact DieAt.call [0, 1] hn1 (Enters.fn O O O) O O O O O O
        | cons a t =>
          rw [nameE] at hn1
          cases ha : nameB a with
          | false =>
            rw [ha, if_neg (by decide)] at hn1
            rw [show headF (x :: a :: t) = none by simp [headF, ha, h3]] at hR
            subst hR
            (repeat' (first|refine AW.seq_k (fun K hK=>?_)|(refine hK _ ?_;clear hK)|refine AW.uC (fun hc=>?_) (fun hc=>?_)|refine AW.block ?_|exact trivial|refine AW.rI [2, 4, 6, 12] O ?_|refine Run.cSA [0, 1] ht O O O O O O O O O O O O ?_|refine Ud ?_|fail))
            (refine AW.die (id := 13) 1 O ?_; iterate 1 (try (first|refine UA ?_|fail));(try refine Run.fin O ?_))
            exact DieAt.call [0, 1] hn1 (Enters.fn O O O) O O O O O O
          | true =>
            rw [ha, if_pos O] at hn1
            (repeat' (first|refine AW.seq_k (fun K hK=>?_)|(refine hK _ ?_;clear hK)|refine AW.uC (fun hc=>?_) (fun hc=>?_)|refine AW.block ?_|exact trivial|refine AW.rI [2, 4, 6, 12, 13] O ?_|refine Run.cSA [0, 1] ht O O O O O O O O O O O O ?_|refine Run.cSA [0, 1] hn1 O O O O O O O O O O O O ?_|refine Ud ?_|fail))
            ((repeat (with_reducible refine inB_n ?_)); refine thenA_n ?_)
            refine ⟨(⟨3, a, [], 0⟩, t), by simp [headF, ha, h3], ?_⟩
            refine Conv.mk [0, 1, 2, 3] O O O ?_ O ?_
            · (repeat' (first|exact V0|refine V3 ?_|refine V2 ?_ ?_|fail))
            · (repeat' (first|exact V0|refine V3 ?_|refine V2 ?_ ?_|fail))
              all_goals first | rfl | (refine Cv.eq ?_; simp [AV.ren, AV.rens, renL]; done)
      · rw [show headF (x :: r) = none by simp [headF, h1, h2, h3]] at hR
        subst hR
        (repeat' (first|refine AW.seq_k (fun K hK=>?_)|(refine hK _ ?_;clear hK)|refine AW.uC (fun hc=>?_) (fun hc=>?_)|refine AW.block ?_|exact trivial|refine AW.rI [2, 4, 6, 12] O ?_|refine Run.cSA [0, 1] ht O O O O O O O O O O O O ?_|refine Ud ?_|fail))
        (refine AW.die (id := 3) 2 O ?_; iterate 2 (try (first|refine UA ?_|fail));(try refine Run.fin O ?_))
        (exact DieAt.panic O O O O)
  · intro y hy
    rw [hy] at hR
    simp only at hR
    have his := is_c wWhen y.2 []
    obtain ⟨nd, hnd⟩ := headF_suf hy
    have hly : y.2.length ≤ 1000000 := by rw [hnd, List.length_drop]; omega
    have hsy : ∀ z ∈ y.2, z.length ≤ 9223372036854775807 := fun z hz => by rw [hnd] at hz; have := hs z (List.mem_of_mem_drop hz); omega
    clear hnd hy
    obtain ⟨hd, t⟩ := y
    simp only at hR his hly hsy ⊢
    cases hx : isP wWhen t with
    | true =>
      obtain ⟨t', rfl⟩ := isP_cons hx
      have hv : isR wWhen (wWhen :: t') = t' := by rw [isR, hx]; rfl
      rw [hx, hv] at his
      rw [tailF, if_pos hx, List.tail_cons] at hR
      have hO : Oky t' [] := ⟨fun z hz => hsy z (List.mem_cons_of_mem _ hz), by simp only [List.length_cons] at hly; simp; omega⟩
      have hc0 := condition_e t'.length t' [] (Nat.le_refl _) hO
      cases he : condF (partF t'.length) t' [] with
      | none =>
        rw [he] at hR hc0
        subst hR
        (repeat' (first|refine AW.seq_k (fun K hK=>?_)|(refine hK _ ?_;clear hK)|refine AW.uC (fun hc=>?_) (fun hc=>?_)|exact trivial|refine rG 14 ?_|refine Run.cSA [0, 1] his O O O O O O O O O O O O ?_|refine Ud ?_|fail))
        (refine AW.die (id := 15) 1 O ?_; iterate 1 (try (first|refine UA ?_|fail));(try refine Run.fin O ?_))
        exact DieAt.call [0, 1] hc0 (Enters.fn O O O) O O O O O O
      | some p =>
        rw [he] at hR hc0
        simp only at hR
        by_cases hp : p.1 = []
        · rw [if_pos hp] at hR
          simp only at hR
          subst hR
          obtain ⟨p1, p2⟩ := p
          simp only at hp hc0 ⊢
          subst hp
          (repeat' (first|refine AW.seq_k (fun K hK=>?_)|(refine hK _ ?_;clear hK)|refine AW.uC (fun hc=>?_) (fun hc=>?_)|refine AW.ret ?_|refine AW.skip ?_|exact trivial|refine AW.rI [14, 15, 16, 18, 19] O ?_|refine Run.cSA [0, 1] his O O O O O O O O O O O O ?_|refine Run.cSA [0, 1] hc0 O O O O O O O O O O O O ?_|refine Ud ?_|fail))
          ((first|refine RetOk.tupS [0] O O O O O ?_ ?_|refine RetOk.oneS [0] O O O O ?_ ?_)<;>(repeat' (first|exact V0|refine V1 ?_|refine V2 ?_ ?_|fail)))
          all_goals first | rfl | (simp; done) | (refine Cv.eq ?_; simp [AV.ren, AV.rens, renL]; done)
        · rw [if_neg hp] at hR
          simp only at hR
          subst hR
          obtain ⟨p1, p2⟩ := p
          simp only at hp hc0 ⊢
          have hlp : 0 < p1.length := by cases p1 with | nil => exact absurd O hp | cons _ _ => simp
          (repeat' (first|refine AW.seq_k (fun K hK=>?_)|(refine hK _ ?_;clear hK)|refine AW.uC (fun hc=>?_) (fun hc=>?_)|refine AW.skip ?_|exact trivial|refine AW.rI [14, 15, 16] O ?_|refine Run.cSA [0, 1] his O O O O O O O O O O O O ?_|refine Run.cSA [0, 1] hc0 O O O O O O O O O O O O ?_|refine Ud ?_|fail))
          all_goals first | (exfalso; simp only [List.length_map] at hc; omega) | skip
          (refine AW.die (id := 17) 2 O ?_; iterate 2 (try (first|refine UA ?_|fail));(try refine Run.fin O ?_))
          (exact DieAt.panic O O O O)
    | false =>
      have hv : isR wWhen t = t := by rw [isR, hx, if_neg (by decide)]
      rw [hx, hv] at his
      rw [tailF, hx, if_neg (by decide)] at hR
      by_cases hp : t = []
      · rw [if_pos hp] at hR
        simp only at hR
        subst hR
        subst hp
        (repeat' (first|refine AW.seq_k (fun K hK=>?_)|(refine hK _ ?_;clear hK)|refine AW.uC (fun hc=>?_) (fun hc=>?_)|refine AW.ret ?_|refine AW.skip ?_|exact trivial|refine AW.rI [14, 16, 18, 19] O ?_|refine Run.cSA [0, 1] his O O O O O O O O O O O O ?_|refine Ud ?_|fail))
        ((first|refine RetOk.tupS [0] O O O O O ?_ ?_|refine RetOk.oneS [0] O O O O ?_ ?_)<;>(repeat' (first|exact V0|refine V1 ?_|refine V2 ?_ ?_|fail)))
        all_goals first | rfl | (simp; done) | (refine Cv.eq ?_; simp [AV.ren, AV.rens, renL]; done)
      · rw [if_neg hp] at hR
        simp only at hR
        subst hR
        have hlp : 0 < t.length := by cases t with | nil => exact absurd O hp | cons _ _ => simp
        (repeat' (first|refine AW.seq_k (fun K hK=>?_)|(refine hK _ ?_;clear hK)|refine AW.uC (fun hc=>?_) (fun hc=>?_)|refine AW.skip ?_|exact trivial|refine AW.rI [14, 16] O ?_|refine Run.cSA [0, 1] his O O O O O O O O O O O O ?_|refine Ud ?_|fail))
        all_goals first | (exfalso; simp only [List.length_map] at hc; omega) | skip
        (refine AW.die (id := 17) 2 O ?_; iterate 2 (try (first|refine UA ?_|fail));(try refine Run.fin O ?_))
        (exact DieAt.panic O O O O)
end Go.Proofs.YtbbcokckealagaaGreat
