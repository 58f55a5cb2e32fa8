/-
  Walks of the readers of words, of the program and of the reference.
-/
import Derived.Test.YtbbcokckealagaaGreatQAA
import Derived.Test.YtbbcokckealagaaGreatTy
import Derived.Test.YtbbcokckealagaaGreatQAD
namespace Go.Proofs.YtbbcokckealagaaGreat
set_option linter.unusedVariables false
set_option linter.unusedSimpArgs false
def simpleB (c : UInt8) : Bool := decide (32 < (c.toNat : Int) ∧ (c.toNat : Int) < 127 ∧ (c.toNat : Int) ≠ 34 ∧ (c.toNat : Int) ≠ 92)
def meant (c : UInt8) : Option UInt8 := if (c.toNat : Int) = 34 ∨ (c.toNat : Int) = 92 then some c else if (c.toNat : Int) = 110 then some 10 else if (c.toNat : Int) = 114 then some 13 else none
abbrev u8 (c : UInt8) : AV := .v (.int .u8 (c.toNat : Int))
set_option maxHeartbeats 4000000 in
theorem simple_c (c : UInt8) : ACalls Tryz.prog 144 [u8 c] [] (.v (.bool (simpleB c))) [] := by
  generalize hr : simpleB c = r
  refine (ACalls.of (fn := Tryz.f144) Tryz.func144 O O Tryz.ntmps144 (fun I M w own => ?_))
  (repeat' (first|refine AW.seq_k (fun K hK=>?_)|(refine hK _ ?_;clear hK)|refine AW.ret ?_|refine AW.region ?_|refine UA ?_|fail))
  all_goals subst hr
  all_goals ((first|refine RetOk.tup O O ?_|refine RetOk.one O ?_)<;>(repeat' (first|exact V0|refine V1 ?_|refine V2 ?_ ?_|fail)))
  (all_goals (try (first|refine CvL.eq ?_|refine Cv.eq ?_)))
  all_goals (simp only [AV.ren, AV.v.injEq, Value.bool.injEq]; rw [Bool.eq_iff_iff]; simp only [simpleB, Bool.and_eq_true, Bool.or_eq_true, Bool.not_eq_true', Bool.not_eq_false', Bool.and_eq_false_iff, Bool.or_eq_false_iff, Bool.and_eq_false_imp, decide_eq_true_eq, decide_eq_false_iff_not, Decidable.not_not, Int.not_lt, Int.not_le, ne_eq, Bool.not_not]; omega)
set_option maxHeartbeats 4000000 in
theorem plainByte_c (c : UInt8) : ACalls Tryz.prog 151 [u8 c] [] (.v (.bool (simpleB c))) [] := by
  generalize hr : simpleB c = r
  refine (ACalls.of (fn := Tryz.f151) Tryz.func151 O O Tryz.ntmps151 (fun I M w own => ?_))
  (repeat' (first|refine AW.seq_k (fun K hK=>?_)|(refine hK _ ?_;clear hK)|refine AW.ret ?_|refine AW.region ?_|refine UA ?_|fail))
  all_goals subst hr
  all_goals ((first|refine RetOk.tup O O ?_|refine RetOk.one O ?_)<;>(repeat' (first|exact V0|refine V1 ?_|refine V2 ?_ ?_|fail)))
  (all_goals (try (first|refine CvL.eq ?_|refine Cv.eq ?_)))
  all_goals (simp only [AV.ren, AV.v.injEq, Value.bool.injEq]; rw [Bool.eq_iff_iff]; simp only [simpleB, Bool.and_eq_true, Bool.or_eq_true, Bool.not_eq_true', Bool.not_eq_false', Bool.and_eq_false_iff, Bool.or_eq_false_iff, Bool.and_eq_false_imp, decide_eq_true_eq, decide_eq_false_iff_not, Decidable.not_not, Int.not_lt, Int.not_le, ne_eq, Bool.not_not]; omega)
set_option maxHeartbeats 4000000 in
theorem meaning_c (c : UInt8) : ACalls Tryz.prog 145 [u8 c] [] (.tup [u8 ((meant c).getD 0), .v (.bool (meant c).isSome)]) [] := by
  generalize hr : (meant c).getD 0 = r
  generalize hr' : (meant c).isSome = r'
  refine (ACalls.of (fn := Tryz.f145) Tryz.func145 O O Tryz.ntmps145 (fun I M w own => ?_))
  (repeat' (first|refine AW.seq_k (fun K hK=>?_)|(refine hK _ ?_;clear hK)|refine AW.uC (fun hc=>?_) (fun hc=>?_)|refine AW.block ?_|refine AW.ret ?_|refine AW.skip ?_|exact trivial|refine AW.region ?_|refine UA ?_|fail))
  all_goals subst hr hr'
  all_goals ((first|refine RetOk.tup O O ?_|refine RetOk.one O ?_)<;>(repeat' (first|exact V0|refine V1 ?_|refine V2 ?_ ?_|fail)))
  (all_goals (try (first|refine CvL.eq ?_|refine Cv.eq ?_)))
  all_goals (simp [meant, AV.ren, *]; done)
set_option maxHeartbeats 4000000 in
theorem pair_c (c : UInt8) : ACalls Tryz.prog 152 [u8 c] [] (.tup [u8 ((meant c).getD 0), .v (.bool (meant c).isSome)]) [] := by
  generalize hr : (meant c).getD 0 = r
  generalize hr' : (meant c).isSome = r'
  refine (ACalls.of (fn := Tryz.f152) Tryz.func152 O O Tryz.ntmps152 (fun I M w own => ?_))
  (repeat' (first|refine AW.seq_k (fun K hK=>?_)|(refine hK _ ?_;clear hK)|refine AW.uC (fun hc=>?_) (fun hc=>?_)|refine AW.block ?_|refine AW.ret ?_|refine AW.skip ?_|exact trivial|refine AW.region ?_|refine UA ?_|fail))
  all_goals subst hr hr'
  all_goals ((first|refine RetOk.tup O O ?_|refine RetOk.one O ?_)<;>(repeat' (first|exact V0|refine V1 ?_|refine V2 ?_ ?_|fail)))
  (all_goals (try (first|refine CvL.eq ?_|refine Cv.eq ?_)))
  all_goals (simp [meant, AV.ren, *]; done)
abbrev wdsP (l : List (List UInt8)) : List (List PV) := l.map fun s => [PV.v (.string (bs s))]
abbrev rdR (st : Int) (w : List UInt8) (ws : List (List UInt8)) : List Res := [.box [.v (.int .i64 st), .row 1 (bsP w).length, .row 2 (wdsP ws).length], .row 1 (bsP w), .row 1 (wdsP ws)]
abbrev rdN (w : List UInt8) (ws : List (List UInt8)) : List Res := [.box [.v (.int .i64 0), .v (.slice none 0 0), .row 2 (wdsP ws).length], .row 1 (bsP w), .row 1 (wdsP ws)]
set_option maxHeartbeats 4000000 in
theorem push_c (st : Int) (w : List UInt8) (ws : List (List UInt8)) (hw : ws.length ≤ 5000) : ACalls Tryz.prog 125 [.ptr 0 0] (rdR st w ws) (.tup []) (rdN w (ws ++ [w])) := by
  refine (ACalls.of (fn := Tryz.f125) Tryz.func125 O O Tryz.ntmps125 (fun I M w own => ?_))
  (repeat' (first|refine AW.seq_k (fun K hK=>?_)|(refine hK _ ?_;clear hK)|refine AW.draw (id := 0) (by kernel_rfl) ?_|refine AW.region ?_|refine UA ?_|fail))
  all_goals ((first|refine RetOk.tupS [0, 1, 2] O O O O O ?_ ?_|refine RetOk.oneS [0, 1, 2] O O O O ?_ ?_)<;>(repeat' (first|exact V0|refine V1 ?_|refine V2 ?_ ?_|fail)))
  (all_goals (try (first|refine CvL.eq ?_|refine Cv.eq ?_)))
  all_goals (simp [AV.rens, AV.ren, renL]; done)
def tkPush (st : Int) (c : UInt8) : Bool := decide ((st = 1 ∨ st = 4) ∧ (c.toNat : Int) = 32)
def tkOk (st : Int) (c : UInt8) : Bool :=
  if st = 0 then decide ((c.toNat : Int) = 34) || simpleB c
  else if st = 1 ∨ st = 4 then decide ((c.toNat : Int) = 32) || decide (st = 1) && simpleB c
  else if st = 2 then decide ((c.toNat : Int) ≠ 10 ∧ (c.toNat : Int) ≠ 13)
  else (meant c).isSome
def tkSt (st : Int) (c : UInt8) : Int :=
  if st = 0 then if (c.toNat : Int) = 34 then 2 else 1
  else if st = 1 ∨ st = 4 then st
  else if st = 2 then if (c.toNat : Int) = 34 then 4 else if (c.toNat : Int) = 92 then 3 else 2
  else 2
def tkAdd (st : Int) (c : UInt8) : List UInt8 :=
  if st = 0 then if (c.toNat : Int) = 34 then [] else [c]
  else if st = 1 ∨ st = 4 then [c]
  else if st = 2 then if (c.toNat : Int) = 34 ∨ (c.toNat : Int) = 92 ∨ (c.toNat : Int) = 10 ∨ (c.toNat : Int) = 13 then [] else [c]
  else [(meant c).getD 0]
set_option maxHeartbeats 4000000 in
theorem takeN_c (st : Int) (w : List UInt8) (ws : List (List UInt8)) (c : UInt8) (hw : w.length ≤ 5000) (h : tkPush st c = false) : ACalls Tryz.prog 124 [.ptr 0 0, u8 c] (rdR st w ws) (.v (.bool (tkOk st c))) (rdR (tkSt st c) (w ++ tkAdd st c) ws) := by
  simp only [tkPush, decide_eq_false_iff_not] at h
  generalize hr : rdR (tkSt st c) (w ++ tkAdd st c) ws = r
  generalize hr' : tkOk st c = r'
  refine (ACalls.of (fn := Tryz.f124) Tryz.func124 O O Tryz.ntmps124 (fun I M w own => ?_))
  (repeat' (first|refine AW.seq_k (fun K hK=>?_)|(refine hK _ ?_;clear hK)|refine AW.uC (fun hc=>?_) (fun hc=>?_)|refine AW.block ?_|refine AW.ret ?_|refine AW.skip ?_|exact trivial|refine AW.rI [0, 1, 2, 3, 4, 5, 6, 7, 8, 9, 10, 11, 14, 15, 16, 17, 19, 20, 21, 22, 23, 24, 25, 18, 26, 27, 28, 29, 30] O ?_|refine Run.c0 (simple_c _) O O O O O O O O ?_|refine Run.gccA (fun hg=>(simple_c _)) (by first|exact Gd.t O O O O|exact Gd.t2 O O O O) O O O O O O O ?_|refine Run.c0 (meaning_c _) O O O O O O O O ?_|refine UA ?_|fail))
  all_goals subst hr hr'
  all_goals ((first|refine RetOk.tupS [0, 1, 2] O O O O O ?_ ?_|refine RetOk.oneS [0, 1, 2] O O O O ?_ ?_)<;>(repeat' (first|exact V0|refine V1 ?_|refine V2 ?_ ?_|fail)))
  (all_goals (try (first|refine CvL.eq ?_|refine Cv.eq ?_)))
  all_goals ((try clear hK); first | rfl | (simp [tkSt, tkOk, tkAdd, AV.rens, AV.ren, renL]; done) | (simp [tkSt, tkOk, tkAdd, AV.rens, AV.ren, renL, *]; done) | (simp_all [tkSt, tkOk, tkAdd, AV.rens, AV.ren, renL]; done) | (exfalso; omega) | (exfalso; simp_all; omega))
set_option maxHeartbeats 4000000 in
theorem takeP_c (st : Int) (w : List UInt8) (ws : List (List UInt8)) (c : UInt8) (hw : ws.length ≤ 5000) (h : tkPush st c = true) : ACalls Tryz.prog 124 [.ptr 0 0, u8 c] (rdR st w ws) (.v (.bool true)) (rdN w (ws ++ [w])) := by
  simp only [tkPush, decide_eq_true_eq] at h
  refine (ACalls.of (fn := Tryz.f124) Tryz.func124 O O Tryz.ntmps124 (fun I M w own => ?_))
  (repeat' (first|refine AW.seq_k (fun K hK=>?_)|(refine hK _ ?_;clear hK)|refine AW.uC (fun hc=>?_) (fun hc=>?_)|refine AW.block ?_|refine AW.ret ?_|refine AW.skip ?_|exact trivial|refine AW.rI [0, 1, 2, 9, 10, 11, 12, 13] O ?_|refine Run.cSA [0, 1, 2] (push_c _ _ _ hw) O O O O O O O O O O O O ?_|refine UA ?_|fail))
  all_goals ((first|refine RetOk.tupS [0, 1, 2] O O O O O ?_ ?_|refine RetOk.oneS [0, 1, 2] O O O O ?_ ?_)<;>(repeat' (first|exact V0|refine V1 ?_|refine V2 ?_ ?_|fail)))
  (all_goals (try (first|refine CvL.eq ?_|refine Cv.eq ?_)))
  all_goals ((try clear hK); first | rfl | (simp [tkSt, AV.rens, AV.ren, renL]; done) | (simp [tkSt, AV.rens, AV.ren, renL, *]; done) | (simp_all [tkSt, AV.rens, AV.ren, renL]; done) | (exfalso; omega) | (exfalso; simp_all; omega))
structure Rd where
  st : Int
  w : List UInt8
  ws : List (List UInt8)
def Rd.step (r : Rd) (c : UInt8) : Rd := if tkPush r.st c then ⟨0, [], r.ws ++ [r.w]⟩ else ⟨tkSt r.st c, r.w ++ tkAdd r.st c, r.ws⟩
def Rd.run : List UInt8 → Rd → Option Rd
  | [], r => some r
  | c :: l, r => if tkPush r.st c || tkOk r.st c then Rd.run l (r.step c) else none
def splitP (s : List UInt8) : List (List UInt8) × Int :=
  if 4096 < s.length then ([], 3) else if s = [] then ([], 0) else match Rd.run s ⟨0, [], []⟩ with
  | none => ([], 5)
  | some r => if r.st ≠ 1 ∧ r.st ≠ 4 then ([], 5) else if 64 < r.ws.length + 1 then ([], 3) else (r.ws ++ [r.w], 0)
set_option maxHeartbeats 4000000 in
theorem Split_c (s : List UInt8) : ACalls Tryz.prog 94 [.v (.string (bs s))] [] (.tup [.sl 1 (wdsP (splitP s).1) false, .v (.int .i64 (splitP s).2)]) [] := by
  generalize he : splitP s = sp
  refine (ACalls.of (fn := Tryz.f94) Tryz.func94 O O Tryz.ntmps94 (fun I M w own => ?_))
  (repeat' (first|refine AW.seq_k (fun K hK=>?_)|(refine hK _ ?_;clear hK)|refine AW.uC (fun hc=>?_) (fun hc=>?_)|refine AW.block ?_|refine AW.ret ?_|refine AW.skip ?_|exact trivial|refine AW.rI [0, 1, 2, 3, 4, 5, 6] O ?_|refine UA ?_|fail))
  · obtain rfl : sp = ([], 3) := by rw [← he, splitP, if_pos (by omega)]
    ((first|refine RetOk.tup O O ?_|refine RetOk.one O ?_)<;>(repeat' (first|exact V0|refine V1 ?_|refine V2 ?_ ?_|fail)))
  · obtain rfl : sp = ([], 0) := by rw [← he, splitP, if_neg (by omega), if_pos (by assumption)]
    ((first|refine RetOk.tup O O ?_|refine RetOk.one O ?_)<;>(repeat' (first|exact V0|refine V1 ?_|refine V2 ?_ ?_|fail)))
  · refine AW.loopF (X := List UInt8 × List UInt8 × Rd) (fun x => ⟨[(0, .v (.string (bs s))), (4, .ptr 0 0), (14, .v (.int .i64 (s.length : Int))), (15, .v (.int .i64 (x.1.length : Int)))], rdR x.2.2.st x.2.2.w x.2.2.ws⟩)
      (fun x => s = x.1 ++ x.2.1 ∧ Rd.run s ⟨0, [], []⟩ = Rd.run x.2.1 x.2.2 ∧ x.2.2.w.length ≤ x.1.length ∧ x.2.2.ws.length ≤ x.1.length) (fun x => x.2.1.length) ([], s, ⟨0, [], []⟩) ?_ ?_ ?_
    · (refine Conv.ownB 0 1 1 [] O O (Or.inr ⟨rfl, rfl⟩) (by repeat constructor) (by repeat constructor) ?_)
      (refine Conv.ownB 0 2 1 [] O O (Or.inr ⟨rfl, rfl⟩) (by repeat constructor) (by repeat constructor) ?_)
      refine Conv.mk [0, 1, 2] O O O ?_ O ?_
      (repeat' (first|exact V0|refine V3 ?_|refine V2 ?_ ?_|fail))
      all_goals rfl
    · simp
    · have hsp : splitP s = match Rd.run s ⟨0, [], []⟩ with | none => ([], 5) | some r => if r.st ≠ 1 ∧ r.st ≠ 4 then ([], 5) else if 64 < r.ws.length + 1 then ([], 3) else (r.ws ++ [r.w], 0) := by rw [splitP, if_neg (by omega), if_neg (by assumption)]
      rintro ⟨pre, l, q⟩ ⟨h1, h2, h3, h4⟩
      simp only at h1 h2 h3 h4 ⊢
      have hl : s.length = pre.length + l.length := by rw [h1, List.length_append]
      rw [hsp, h2] at he
      rcases l with _ | ⟨c, l⟩
      · simp only [List.length_nil] at hl
        simp only [Rd.run] at he
        (repeat' (first|refine AW.seq_k (fun K hK=>?_)|(refine hK _ ?_;clear hK)|refine AW.uC (fun hc=>?_) (fun hc=>?_)|refine AW.exit ?_|refine AW.ret ?_|refine AW.skip ?_|(clear hK;refine hK _ ?_;clear hK)|exact trivial|refine AW.rI [7, 12, 13, 14, 15, 16, 17] O ?_|refine Run.cSA [0, 1, 2] (push_c q.st q.w q.ws (by omega)) O O O O O O O O O O O O ?_|refine UA ?_|fail))
        · obtain rfl : sp = ([], 5) := by rw [← he, if_pos (by assumption)]
          ((first|refine RetOk.tup O O ?_|refine RetOk.one O ?_)<;>(repeat' (first|exact V0|refine V1 ?_|refine V2 ?_ ?_|fail)))
        · simp only [List.length_map, List.length_append, List.length_cons, List.length_nil] at hc
          obtain rfl : sp = ([], 3) := by rw [← he, if_neg (by omega), if_pos (by omega)]
          ((first|refine RetOk.tup O O ?_|refine RetOk.one O ?_)<;>(repeat' (first|exact V0|refine V1 ?_|refine V2 ?_ ?_|fail)))
        · simp only [List.length_map, List.length_append, List.length_cons, List.length_nil] at hc
          obtain rfl : sp = (q.ws ++ [q.w], 0) := by rw [← he, if_neg (by omega), if_neg (by omega)]
          ((first|refine RetOk.tup O O ?_|refine RetOk.one O ?_)<;>(repeat' (first|exact V0|refine V1 ?_|refine V2 ?_ ?_|fail)))
      · have hF : s[(pre.length : Int).toNat]? = some c := by rw [h1]; simp
        simp only [List.length_cons] at hl
        by_cases hp : tkPush q.st c = true
        · (repeat' (first|refine AW.seq_k (fun K hK=>?_)|(refine hK _ ?_;clear hK)|refine AW.uC (fun hc=>?_) (fun hc=>?_)|refine AW.block ?_|refine AW.skip ?_|exact trivial|refine AW.rI [7, 8, 9, 11] O ?_|refine Run.cSA [0, 1, 2] (takeP_c q.st q.w q.ws c (by omega) hp) O O O O O O O O O O O O ?_|refine UA ?_|fail))
          · refine thenA_n ⟨(pre ++ [c], l, ⟨0, [], q.ws ++ [q.w]⟩), ⟨by simp [h1], ?_, by simp, by simp; omega⟩, by simp, ?_⟩
            · rw [h2, Rd.run]; simp [hp, Rd.step]
            · (refine Conv.ownB 0 1 1 [] O O (Or.inr ⟨rfl, rfl⟩) (by repeat constructor) (by repeat constructor) ?_)
              refine Conv.mk [0, 3, 2] O O O ?_ O ?_
              (repeat' (first|exact V0|refine V3 ?_|refine V2 ?_ ?_|fail))
              (all_goals (try (first|refine CvL.eq ?_|refine Cv.eq ?_)))
              all_goals ((try clear hK); first | rfl | (simp [List.length_append, AV.rens, AV.ren, renL]; done) | (simp [List.length_append, AV.rens, AV.ren, renL, *]; done) | (simp_all [List.length_append, AV.rens, AV.ren, renL]; done) | (exfalso; omega) | (exfalso; simp_all; omega))
        · rw [Bool.not_eq_true] at hp
          (repeat' (first|refine AW.seq_k (fun K hK=>?_)|(refine hK _ ?_;clear hK)|refine AW.uC (fun hc=>?_) (fun hc=>?_)|refine AW.block ?_|refine AW.ret ?_|refine AW.skip ?_|exact trivial|refine AW.rI [7, 8, 9, 10, 11] O ?_|refine Run.cSA [0, 1, 2] (takeN_c q.st q.w q.ws c (by omega) hp) O O O O O O O O O O O O ?_|refine UA ?_|fail))
          · obtain rfl : sp = ([], 5) := by rw [← he, Rd.run]; simp [hp, hc]
            ((first|refine RetOk.tup O O ?_|refine RetOk.one O ?_)<;>(repeat' (first|exact V0|refine V1 ?_|refine V2 ?_ ?_|fail)))
          · refine thenA_n ⟨(pre ++ [c], l, ⟨tkSt q.st c, q.w ++ tkAdd q.st c, q.ws⟩), ⟨by simp [h1], ?_, ?_, by simp; omega⟩, by simp, ?_⟩
            · rw [h2, Rd.run]; simp [hp, hc, Rd.step]
            · have : (tkAdd q.st c).length ≤ 1 := by unfold tkAdd; (repeat' split) <;> simp
              simp; omega
            · refine Conv.mk [0, 1, 2] O O O ?_ O ?_
              (repeat' (first|exact V0|refine V3 ?_|refine V2 ?_ ?_|fail))
              (all_goals (try (first|refine CvL.eq ?_|refine Cv.eq ?_)))
              all_goals ((try clear hK); first | rfl | (simp [List.length_append, AV.rens, AV.ren, renL]; done) | (simp [List.length_append, AV.rens, AV.ren, renL, *]; done) | (simp_all [List.length_append, AV.rens, AV.ren, renL]; done) | (exfalso; omega) | (exfalso; simp_all; omega))
def qRead : Nat → List UInt8 → List UInt8 → Option (List UInt8 × List UInt8)
  | 0, _, _ => none
  | _ + 1, [], _ => none
  | n + 1, c :: l, out =>
    if (c.toNat : Int) = 34 then some (out, l)
    else if (c.toNat : Int) = 10 ∨ (c.toNat : Int) = 13 then none
    else if (c.toNat : Int) = 92 then match l with
      | [] => none
      | d :: l => match meant d with
        | none => none
        | some x => qRead n l (out ++ [x])
    else qRead n l (out ++ [c])
def wordR (l : List UInt8) : List UInt8 × Option (List UInt8) :=
  match l with
  | [] => ([], none)
  | c :: r => if (c.toNat : Int) = 34 then match qRead (r.length + 1) r [] with
      | none => ([], none)
      | some (w, t) => (w, some t)
    else (l.takeWhile simpleB, if l.takeWhile simpleB = [] then none else some (l.dropWhile simpleB))
def wordTo (s l : List UInt8) : Int := match l with
  | [] => s.length
  | c :: r => if (c.toNat : Int) = 34 then match qRead (r.length + 1) r [] with
      | none => 0
      | some (w, t) => (s.length : Int) - t.length
    else (s.length : Int) - (l.dropWhile simpleB).length
theorem wordR_plain (s l : List UInt8) (h : ∀ c r, l = c :: r → (c.toNat : Int) ≠ 34) : wordR l = (l.takeWhile simpleB, if l.takeWhile simpleB = [] then none else some (l.dropWhile simpleB)) ∧ wordTo s l = (s.length : Int) - (l.dropWhile simpleB).length := by
  rcases l with _ | ⟨c, r⟩
  · simp [wordR, wordTo]
  · have := h c r O
    simp only [wordR, wordTo, if_neg this]
    exact ⟨trivial, trivial⟩
theorem get_app (a b : List UInt8) (c : UInt8) (r : List UInt8) (i : Int) (hi : i = (a.length : Int) + b.length) (s : List UInt8) (hs : s = a ++ (b ++ c :: r)) : s[i.toNat]? = some c := by
  have : i.toNat = a.length + b.length := by omega
  rw [this, hs, ← List.append_assoc, ← List.length_append]
  simp
set_option maxHeartbeats 4000000 in
theorem word_c (s pre l : List UInt8) (hs : s = pre ++ l) (h4 : s.length ≤ 4096) : ACalls Tryz.prog 129 [.v (.string (bs s)), .v (.int .i64 (pre.length : Int))] [] (.tup [.v (.string (bs (wordR l).1)), .v (.int .i64 (wordTo s l)), .v (.bool (wordR l).2.isSome)]) [] := by
  generalize he : wordR l = wr
  generalize he' : wordTo s l = wt
  have hl : s.length = pre.length + l.length := by rw [hs, List.length_append]
  have hF : ∃ c : UInt8, (!decide ((s.length : Int) ≤ pre.length)) = true → s[(pre.length : Int).toNat]? = some c ∧ ∃ r, l = c :: r := by
    rcases l with _ | ⟨c, r⟩
    · exact ⟨0, fun h => by simp at hl h; omega⟩
    · exact ⟨c, fun _ => ⟨by rw [hs]; simp, r, rfl⟩⟩
  obtain ⟨c0, hF⟩ := hF
  have hF1 : (!decide ((s.length : Int) ≤ pre.length)) = true → s[(pre.length : Int).toNat]? = some c0 := fun h => (hF h).1
  refine (ACalls.of (fn := Tryz.f129) Tryz.func129 O O Tryz.ntmps129 (fun I M w own => ?_))
  (repeat' (first|refine AW.seq_k (fun K hK=>?_)|(refine hK _ ?_;clear hK)|refine AW.uC (fun hc=>?_) (fun hc=>?_)|refine AW.block ?_|refine AW.skip ?_|exact trivial|refine AW.rI [0, 1, 2, 6, 7] O ?_|refine UA ?_|fail))
  · obtain ⟨p1, p2⟩ := wordR_plain s l (fun c r h => by
      subst h
      simp only [List.length_cons] at hl
      rcases hc with hc | hc
      · omega
      · have : c = c0 := by
          have h1 := hF1 (by simp; omega)
          rw [hs] at h1
          simpa using h1
        subst this; exact hc)
    rw [he] at p1
    rw [he'] at p2
    subst p1 p2
    clear he he' hF hF1
    refine AW.loopF (X := List UInt8 × List UInt8) (fun x => ⟨[(0, .v (.string (bs s))), (1, .v (.int .i64 (pre.length : Int))), (7, .v (.int .i64 ((pre.length : Int) + (x.1.length : Int))))], []⟩)
      (fun x => l = x.1 ++ x.2 ∧ l.takeWhile simpleB = x.1 ++ x.2.takeWhile simpleB ∧ l.dropWhile simpleB = x.2.dropWhile simpleB) (fun x => x.2.length) ([], l) ?_ ?_ ?_
    · refine Conv.mk [] O O O ?_ O ?_
      (repeat' (first|exact V0|refine V3 ?_|refine V2 ?_ ?_|fail))
      (all_goals (try (first|refine CvL.eq ?_|refine Cv.eq ?_)))
      all_goals ((try clear hK); first | rfl | (simp [List.length_append, AV.rens, AV.ren, renL]; done) | (simp [List.length_append, AV.rens, AV.ren, renL, *]; done) | (simp_all [List.length_append, AV.rens, AV.ren, renL]; done) | (exfalso; omega) | (exfalso; simp_all; omega))
    · simp
    · rintro ⟨d, r⟩ ⟨h1, h2, h3⟩
      simp only at h1 h2 h3 ⊢
      have hl1 : l.length = d.length + r.length := by rw [h1, List.length_append]
      have hF : ∃ c : UInt8, decide ((pre.length : Int) + d.length < s.length) = true → s[((pre.length : Int) + d.length).toNat]? = some c ∧ ∃ t, r = c :: t := by
        rcases r with _ | ⟨c, t⟩
        · exact ⟨0, fun h => by simp at hl1 h; omega⟩
        · exact ⟨c, fun _ => ⟨get_app pre d c t _ O s (by rw [hs, h1]), t, rfl⟩⟩
      obtain ⟨c1, hF⟩ := hF
      have hF1 : decide ((pre.length : Int) + d.length < s.length) = true → s[((pre.length : Int) + d.length).toNat]? = some c1 := fun h => (hF h).1
      (repeat' (first|refine AW.seq_k (fun K hK=>?_)|(refine hK _ ?_;clear hK)|refine AW.uC (fun hc=>?_) (fun hc=>?_)|refine AW.block ?_|refine AW.exit ?_|refine AW.ret ?_|refine AW.skip ?_|(clear hK;refine hK _ ?_;clear hK)|exact trivial|refine AW.rI [3, 4, 5] O ?_|refine Run.gccA (fun hg=>(plainByte_c _)) (by first|exact Gd.t O O O O|exact Gd.t2 O O O O) O O O O O O O ?_|refine UA ?_|fail))
      · obtain ⟨-, t, rfl⟩ := hF (by simp; omega)
        ((repeat (with_reducible refine inB_n ?_)); refine thenA_n ?_)
        refine ⟨(d ++ [c1], t), ⟨by simp [h1], ?_, ?_⟩, by simp, ?_⟩
        · rw [h2]; simp [hc.2]
        · rw [h3]; simp [hc.2]
        · refine Conv.mk [] O O O ?_ O ?_
          (repeat' (first|exact V0|refine V3 ?_|refine V2 ?_ ?_|fail))
          (all_goals (try (first|refine CvL.eq ?_|refine Cv.eq ?_)))
          all_goals (simp [AV.ren]; omega)
      · have e1 : r.takeWhile simpleB = [] ∧ r.dropWhile simpleB = r := by
          rcases r with _ | ⟨c, t⟩
          · exact ⟨rfl, rfl⟩
          · have hb : simpleB c = false := by
              simp only [List.length_cons] at hl1
              rcases hc with hc | hc
              · omega
              · have h5 := (hF (by simp; omega)).2
                obtain ⟨t', e⟩ := h5
                injection e with e _
                rw [e]; exact hc
            simp [hb]
        rw [e1.1, List.append_nil] at h2
        rw [e1.2] at h3
        have e2 : List.drop ((pre.length : Int)).toNat (List.take ((pre.length : Int) + d.length).toNat s) = d := by
          have : ((pre.length : Int) + d.length).toNat = (pre ++ d).length := by simp; omega
          rw [this, hs, h1, ← List.append_assoc, List.take_left]
          simp
        rw [h2, h3]
        ((first|refine RetOk.tup O O ?_|refine RetOk.one O ?_)<;>(repeat' (first|exact V0|refine V1 ?_|refine V2 ?_ ?_|fail)))
        (all_goals (try (first|refine CvL.eq ?_|refine Cv.eq ?_)))
        · rw [e2]; rfl
        · simp [AV.ren]; omega
        · rcases d with _ | ⟨c, d⟩ <;> simp [AV.ren]; omega
  · obtain ⟨r, rfl⟩ := (hF (by simp; omega)).2
    clear hF1
    refine AW.loopF (X := List UInt8 × List UInt8 × List UInt8) (fun x => ⟨[(0, .v (.string (bs s))), (1, .v (.int .i64 (pre.length : Int))), (8, .row 0 (bsP x.2.2).length), (9, .v (.int .i64 ((pre.length : Int) + 1 + (x.1.length : Int))))], [.row 1 (bsP x.2.2)]⟩)
      (fun x => r = x.1 ++ x.2.1 ∧ (∃ n, x.2.1.length < n ∧ qRead (r.length + 1) r [] = qRead n x.2.1 x.2.2) ∧ x.2.2.length ≤ x.1.length) (fun x => x.2.1.length) ([], r, []) ?_ ?_ ?_
    · refine Conv.own 8 1 [] (Or.inr ⟨rfl, rfl⟩) ?_
      refine Conv.mk [0] O O O ?_ O ?_
      (repeat' (first|exact V0|refine V3 ?_|refine V2 ?_ ?_|fail))
      (all_goals (try (first|refine CvL.eq ?_|refine Cv.eq ?_)))
      all_goals ((try clear hK); first | rfl | (simp [List.length_append, AV.rens, AV.ren, renL]; done) | (simp [List.length_append, AV.rens, AV.ren, renL, *]; done) | (simp_all [List.length_append, AV.rens, AV.ren, renL]; done) | (exfalso; omega) | (exfalso; simp_all; omega))
    · refine ⟨rfl, ⟨_, ?_, rfl⟩, Nat.le_refl _⟩; simp
    · rintro ⟨d, t, out⟩ ⟨h1, ⟨n, hn, h2⟩, h3⟩
      simp only at h1 hn h2 h3 ⊢
      have hl1 : r.length = d.length + t.length := by rw [h1, List.length_append]
      simp only [List.length_cons] at hl
      have e1 : wr = match qRead n t out with | none => ([], none) | some (w, t) => (w, some t) := by rw [← he, ← h2]; simp only [wordR]; rw [if_pos hc.2]
      have e2 : wt = match qRead n t out with | none => (0 : Int) | some (w, t) => (s.length : Int) - t.length := by rw [← he', ← h2]; simp only [wordTo]; rw [if_pos hc.2]
      clear he he' hF
      obtain ⟨m, rfl⟩ : ∃ m, n = m + 1 := ⟨n - 1, by omega⟩
      rcases t with _ | ⟨c, t⟩
      · simp only [List.length_nil] at hl1
        rw [qRead] at e1 e2
        subst e1 e2
        (repeat' (first|refine AW.seq_k (fun K hK=>?_)|(refine hK _ ?_;clear hK)|refine AW.uC (fun hc=>?_) (fun hc=>?_)|refine AW.exit ?_|refine AW.ret ?_|(clear hK;refine hK _ ?_;clear hK)|exact trivial|refine AW.rI [8, 24] O ?_|refine UA ?_|fail))
        ((first|refine RetOk.tup O O ?_|refine RetOk.one O ?_)<;>(repeat' (first|exact V0|refine V1 ?_|refine V2 ?_ ?_|fail)))
      · simp only [List.length_cons] at hl1 hn
        have hF : s[((pre.length : Int) + 1 + d.length).toNat]? = some c := get_app (pre ++ [c0]) d c t _ (by simp) s (by rw [hs, h1]; simp)
        rcases t with _ | ⟨e, t⟩
        · simp only [List.length_nil] at hl1 hn
          (repeat' (first|refine AW.seq_k (fun K hK=>?_)|(refine hK _ ?_;clear hK)|refine AW.uC (fun hc=>?_) (fun hc=>?_)|refine AW.block ?_|refine AW.ret ?_|refine AW.skip ?_|exact trivial|refine AW.rI [8, 10, 12, 13, 14, 15, 16, 17, 18, 19, 11, 9] O ?_|refine UA ?_|fail))
          · simp only [qRead, hc, if_true] at e1 e2
            subst e1 e2
            ((first|refine RetOk.tup O O ?_|refine RetOk.one O ?_)<;>(repeat' (first|exact V0|refine V1 ?_|refine V2 ?_ ?_|fail)))
            (all_goals (try (first|refine CvL.eq ?_|refine Cv.eq ?_)))
            all_goals (simp [AV.ren]; omega)
          · have hq : qRead (m + 1) [c] out = none := by rw [qRead, if_neg (by assumption), if_pos hc]
            rw [hq] at e1 e2
            subst e1 e2
            ((first|refine RetOk.tup O O ?_|refine RetOk.one O ?_)<;>(repeat' (first|exact V0|refine V1 ?_|refine V2 ?_ ?_|fail)))
          · have hq : qRead (m + 1) [c] out = none := by rw [qRead, if_neg (by assumption), if_neg (by omega), if_pos (by assumption)]
            rw [hq] at e1 e2
            subst e1 e2
            ((first|refine RetOk.tup O O ?_|refine RetOk.one O ?_)<;>(repeat' (first|exact V0|refine V1 ?_|refine V2 ?_ ?_|fail)))
          · ((repeat (with_reducible refine inB_n ?_)); refine thenA_n ?_)
            refine ⟨(d ++ [c], [], out ++ [c]), ⟨by simp [h1], ⟨m, by simp; omega, ?_⟩, by simp; omega⟩, by simp, ?_⟩
            · rw [h2, qRead, if_neg (by assumption), if_neg (by omega), if_neg (by assumption)]
            · refine Conv.mk [0] O O O ?_ O ?_
              (repeat' (first|exact V0|refine V3 ?_|refine V2 ?_ ?_|fail))
              (all_goals (try (first|refine CvL.eq ?_|refine Cv.eq ?_)))
              all_goals (simp [AV.ren, renL]; try omega)
        · simp only [List.length_cons] at hl1 hn
          have hF' : s[((pre.length : Int) + 1 + d.length + 1).toNat]? = some e := get_app (pre ++ [c0]) (d ++ [c]) e t _ (by simp; omega) s (by rw [hs, h1]; simp)
          (repeat' (first|refine AW.seq_k (fun K hK=>?_)|(refine hK _ ?_;clear hK)|refine AW.uC (fun hc=>?_) (fun hc=>?_)|refine AW.block ?_|refine AW.ret ?_|refine AW.skip ?_|exact trivial|refine AW.rI [8, 10, 12, 13, 14, 15, 16, 17, 18, 20, 21, 22, 23, 11, 9] O ?_|refine Run.c0 (pair_c _) O O O O O O O O ?_|refine UA ?_|fail))
          · simp only [qRead, hc, if_true] at e1 e2
            subst e1 e2
            ((first|refine RetOk.tup O O ?_|refine RetOk.one O ?_)<;>(repeat' (first|exact V0|refine V1 ?_|refine V2 ?_ ?_|fail)))
            (all_goals (try (first|refine CvL.eq ?_|refine Cv.eq ?_)))
            have e3 : (pre.length : Int) + 1 + d.length + 1 = s.length - ((e :: t).length : Int) := by simp only [List.length_cons]; omega
            all_goals (simp only [AV.ren]; rw [e3])
          · have hq : qRead (m + 1) (c :: e :: t) out = none := by rw [qRead, if_neg (by assumption), if_pos hc]
            rw [hq] at e1 e2
            subst e1 e2
            ((first|refine RetOk.tup O O ?_|refine RetOk.one O ?_)<;>(repeat' (first|exact V0|refine V1 ?_|refine V2 ?_ ?_|fail)))
          · have hm : meant e = none := by cases hm : meant e <;> simp [hm] at hc; rfl
            have hq : qRead (m + 1) (c :: e :: t) out = none := by
              rw [qRead, if_neg (by assumption), if_neg (by omega), if_pos (by assumption)]
              simp only [hm]
            rw [hq] at e1 e2
            subst e1 e2
            ((first|refine RetOk.tup O O ?_|refine RetOk.one O ?_)<;>(repeat' (first|exact V0|refine V1 ?_|refine V2 ?_ ?_|fail)))
          · obtain ⟨x, hm⟩ := Option.isSome_iff_exists.1 hc
            ((repeat (with_reducible refine inB_n ?_)); refine thenA_n ?_)
            refine ⟨(d ++ [c, e], t, out ++ [x]), ⟨by simp [h1], ⟨m, by simp; omega, ?_⟩, by simp; omega⟩, by simp; omega, ?_⟩
            · rw [h2, qRead, if_neg (by assumption), if_neg (by omega), if_pos (by assumption)]
              simp only [hm]
            · refine Conv.mk [0] O O O ?_ O ?_
              (repeat' (first|exact V0|refine V3 ?_|refine V2 ?_ ?_|fail))
              (all_goals (try (first|refine CvL.eq ?_|refine Cv.eq ?_)))
              all_goals (simp [AV.ren, renL, hm]; try omega)
          · ((repeat (with_reducible refine inB_n ?_)); refine thenA_n ?_)
            refine ⟨(d ++ [c], e :: t, out ++ [c]), ⟨by simp [h1], ⟨m, by simp; omega, ?_⟩, by simp; omega⟩, by simp, ?_⟩
            · rw [h2, qRead, if_neg (by assumption), if_neg (by omega), if_neg (by assumption)]
            · refine Conv.mk [0] O O O ?_ O ?_
              (repeat' (first|exact V0|refine V3 ?_|refine V2 ?_ ?_|fail))
              (all_goals (try (first|refine CvL.eq ?_|refine Cv.eq ?_)))
              all_goals (simp [AV.ren, renL]; try omega)
theorem qRead_suf : ∀ (n : Nat) (l out w t : List UInt8), qRead n l out = some (w, t) → ∃ d, l = d ++ t := by
  intro n
  induction n with
  | zero => intro l out w t h; simp [qRead] at h
  | succ n ih =>
    intro l out w t h
    rcases l with _ | ⟨c, l⟩
    · simp [qRead] at h
    · simp only [qRead] at h
      split at h
      · simp at h; exact ⟨[c], by simp [h.2]⟩
      · split at h
        · cases h
        · split at h
          · rcases l with _ | ⟨e, l⟩
            · simp at h
            · simp only at h
              cases hm : meant e with
              | none => rw [hm] at h; simp at h
              | some x =>
                rw [hm] at h
                obtain ⟨d, rfl⟩ := ih _ _ _ _ h
                exact ⟨c :: e :: d, by simp⟩
          · obtain ⟨d, rfl⟩ := ih _ _ _ _ h
            exact ⟨c :: d, by simp⟩
theorem wordR_suf (s l w t : List UInt8) (h : wordR l = (w, some t)) : (∃ d, l = d ++ t) ∧ wordTo s l = (s.length : Int) - t.length := by
  rcases l with _ | ⟨c, r⟩
  · simp [wordR] at h
  · simp only [wordR, wordTo] at h ⊢
    split at h
    · rename_i hc
      rw [if_pos hc]
      cases hq : qRead (r.length + 1) r [] with
      | none => rw [hq] at h; simp at h
      | some p =>
        obtain ⟨w', t'⟩ := p
        rw [hq] at h
        simp at h
        obtain ⟨rfl, rfl⟩ := h
        obtain ⟨d, e⟩ := qRead_suf _ _ _ _ _ hq
        exact ⟨⟨c :: d, by rw [e]; rfl⟩, rfl⟩
    · rename_i hc
      rw [if_neg hc]
      injection h with h1 h2
      split at h2
      · cases h2
      · injection h2 with h2
        rw [← h2]
        exact ⟨⟨_, (List.takeWhile_append_dropWhile ..).symm⟩, rfl⟩
def rSplit : Nat → List UInt8 → List (List UInt8) → Option (List (List UInt8))
  | 0, _, _ => none
  | n + 1, l, out => match wordR l with
    | (_, none) => none
    | (w, some []) => some (out ++ [w])
    | (w, some (c :: t)) => if (c.toNat : Int) = 32 then rSplit n t (out ++ [w]) else none
def rSplitP (s : List UInt8) : List (List UInt8) × Int :=
  if 4096 < s.length then ([], 3) else if s = [] then ([], 0) else match rSplit (s.length + 1) s [] with
  | none => ([], 5)
  | some r => if 64 < r.length then ([], 3) else (r, 0)
set_option maxHeartbeats 4000000 in
theorem rSplit_c (s : List UInt8) : ACalls Tryz.prog 101 [.v (.string (bs s))] [] (.tup [.sl 1 (wdsP (rSplitP s).1) false, .v (.int .i64 (rSplitP s).2)]) [] := by
  generalize he : rSplitP s = sp
  refine (ACalls.of (fn := Tryz.f101) Tryz.func101 O O Tryz.ntmps101 (fun I M w own => ?_))
  (repeat' (first|refine AW.seq_k (fun K hK=>?_)|(refine hK _ ?_;clear hK)|refine AW.uC (fun hc=>?_) (fun hc=>?_)|refine AW.block ?_|refine AW.ret ?_|refine AW.skip ?_|exact trivial|refine AW.rI [0, 1, 2, 3, 4, 5, 6] O ?_|refine UA ?_|fail))
  · obtain rfl : sp = ([], 3) := by rw [← he, rSplitP, if_pos (by omega)]
    ((first|refine RetOk.tup O O ?_|refine RetOk.one O ?_)<;>(repeat' (first|exact V0|refine V1 ?_|refine V2 ?_ ?_|fail)))
  · obtain rfl : sp = ([], 0) := by rw [← he, rSplitP, if_neg (by omega), if_pos (by assumption)]
    ((first|refine RetOk.tup O O ?_|refine RetOk.one O ?_)<;>(repeat' (first|exact V0|refine V1 ?_|refine V2 ?_ ?_|fail)))
  · refine AW.loopF (X := List UInt8 × List UInt8 × List (List UInt8)) (fun x => ⟨[(0, .v (.string (bs s))), (4, .row 0 (wdsP x.2.2).length), (5, .v (.int .i64 (x.1.length : Int)))], [.row 1 (wdsP x.2.2)]⟩)
      (fun x => s = x.1 ++ x.2.1 ∧ (∃ n, x.2.1.length < n ∧ rSplit (s.length + 1) s [] = rSplit n x.2.1 x.2.2) ∧ x.2.2.length ≤ x.1.length) (fun x => x.2.1.length) ([], s, []) ?_ ?_ ?_
    · refine Conv.own 4 1 [] (Or.inr ⟨rfl, rfl⟩) ?_
      refine Conv.mk [0] O O O ?_ O ?_
      (repeat' (first|exact V0|refine V3 ?_|refine V2 ?_ ?_|fail))
      (all_goals (try (first|refine CvL.eq ?_|refine Cv.eq ?_)))
      all_goals ((try clear hK); first | rfl | (simp [List.length_append, AV.rens, AV.ren, renL]; done) | (simp [List.length_append, AV.rens, AV.ren, renL, *]; done) | (simp_all [List.length_append, AV.rens, AV.ren, renL]; done) | (exfalso; omega) | (exfalso; simp_all; omega))
    · refine ⟨rfl, ⟨_, ?_, rfl⟩, Nat.le_refl _⟩; simp
    · have hsp : rSplitP s = match rSplit (s.length + 1) s [] with | none => ([], 5) | some r => if 64 < r.length then ([], 3) else (r, 0) := by rw [rSplitP, if_neg (by omega), if_neg (by assumption)]
      rintro ⟨pre, l, out⟩ ⟨h1, ⟨n, hn, h2⟩, h3⟩
      simp only at h1 hn h2 h3 ⊢
      have hl : s.length = pre.length + l.length := by rw [h1, List.length_append]
      rw [hsp, h2] at he
      obtain ⟨m, rfl⟩ : ∃ m, n = m + 1 := ⟨n - 1, by omega⟩
      have hw := word_c s pre l h1 (by omega)
      rw [rSplit] at he
      generalize hwr : wordR l = wr at hw he
      obtain ⟨wd, to⟩ := wr
      rcases to with _ | t
      · (repeat' (first|refine AW.seq_k (fun K hK=>?_)|(refine hK _ ?_;clear hK)|refine AW.uC (fun hc=>?_) (fun hc=>?_)|refine AW.block ?_|refine AW.ret ?_|exact trivial|refine AW.rI [8, 9, 10] O ?_|refine Run.c0 hw O O O O O O O O ?_|refine UA ?_|fail))
        subst he
        ((first|refine RetOk.tup O O ?_|refine RetOk.one O ?_)<;>(repeat' (first|exact V0|refine V1 ?_|refine V2 ?_ ?_|fail)))
      · obtain ⟨⟨d, hd⟩, hto⟩ := wordR_suf s l wd t hwr
        have hld : l.length = d.length + t.length := by rw [hd, List.length_append]
        have hto' : wordTo s l = (pre.length : Int) + d.length := by omega
        rw [hto'] at hw
        rcases t with _ | ⟨c, t⟩
        · simp only [List.length_nil] at hld
          simp only [List.length_append, List.length_cons, List.length_nil] at he
          (repeat' (first|refine AW.seq_k (fun K hK=>?_)|(refine hK _ ?_;clear hK)|refine AW.uC (fun hc=>?_) (fun hc=>?_)|refine AW.block ?_|refine AW.exit ?_|refine AW.ret ?_|refine AW.skip ?_|(clear hK;clear hK;refine hK _ ?_;clear hK)|exact trivial|refine AW.rI [8, 9, 11, 12, 16, 17, 18] O ?_|refine Run.c0 hw O O O O O O O O ?_|refine UA ?_|fail))
          · simp only [List.length_map, List.length_append, List.length_cons, List.length_nil] at hc
            rw [if_pos (by omega)] at he
            subst he
            ((first|refine RetOk.tup O O ?_|refine RetOk.one O ?_)<;>(repeat' (first|exact V0|refine V1 ?_|refine V2 ?_ ?_|fail)))
          · simp only [List.length_map, List.length_append, List.length_cons, List.length_nil] at hc
            rw [if_neg (by omega)] at he
            subst he
            ((first|refine RetOk.tup O O ?_|refine RetOk.one O ?_)<;>(repeat' (first|exact V0|refine V1 ?_|refine V2 ?_ ?_|fail)))
            simp
        · simp only [List.length_cons] at hld
          have hF : s[((pre.length : Int) + d.length).toNat]? = some c := get_app pre d c t _ O s (by rw [h1, hd])
          (repeat' (first|refine AW.seq_k (fun K hK=>?_)|(refine hK _ ?_;clear hK)|refine AW.uC (fun hc=>?_) (fun hc=>?_)|refine AW.block ?_|refine AW.ret ?_|refine AW.skip ?_|exact trivial|refine AW.rI [8, 9, 11, 12, 13, 14, 15, 7] O ?_|refine Run.c0 hw O O O O O O O O ?_|refine UA ?_|fail))
          · simp only [if_neg (show ¬ (c.toNat : Int) = 32 by assumption)] at he
            subst he
            ((first|refine RetOk.tup O O ?_|refine RetOk.one O ?_)<;>(repeat' (first|exact V0|refine V1 ?_|refine V2 ?_ ?_|fail)))
          · ((repeat (with_reducible refine inB_n ?_)); refine thenA_n ?_)
            refine ⟨(pre ++ d ++ [c], t, out ++ [wd]), ⟨by simp [h1, hd], ⟨m, by simp only; omega, ?_⟩, by simp; omega⟩, by simp only; omega, ?_⟩
            · rw [h2, rSplit, hwr]
              simp only [if_pos (show (c.toNat : Int) = 32 by omega)]
            · refine Conv.mk [0] O O O ?_ O ?_
              (repeat' (first|exact V0|refine V3 ?_|refine V2 ?_ ?_|fail))
              (all_goals (try (first|refine CvL.eq ?_|refine Cv.eq ?_)))
              all_goals (simp [AV.ren, renL]; try omega)
def bareB (s : List UInt8) : Bool := s.all simpleB && decide (s ≠ [])
def esc (c : UInt8) : List UInt8 := if (c.toNat : Int) = 34 ∨ (c.toNat : Int) = 92 then [92, c] else if (c.toNat : Int) = 10 then [92, 110] else if (c.toNat : Int) = 13 then [92, 114] else [c]
def writtenL (s : List UInt8) : List UInt8 := if bareB s then s else 34 :: (s.flatMap esc ++ [34])
def jW : List (List UInt8) → Bool → List UInt8 → Option (List UInt8)
  | [], _, b => some b
  | w :: l, first, b => if 4096 < w.length then none else jW l false ((if first then b else b ++ [32]) ++ writtenL w)
def joinP (l : List (List UInt8)) : List UInt8 × Int :=
  if 64 < l.length then ([], 3) else match jW l true [] with
  | none => ([], 3)
  | some b => if 4096 < b.length then ([], 3) else (b, 0)
def jR : List (List UInt8) → Bool → List UInt8 → Option (List UInt8)
  | [], _, b => some b
  | w :: l, first, b => if 4096 < ((if first then b else b ++ [32]) ++ writtenL w).length then none else jR l false ((if first then b else b ++ [32]) ++ writtenL w)
def rJoinP (l : List (List UInt8)) : List UInt8 × Int :=
  if 64 < l.length then ([], 3) else match jR l true [] with
  | none => ([], 3)
  | some b => (b, 0)
end Go.Proofs.YtbbcokckealagaaGreat
