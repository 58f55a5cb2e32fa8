/-
  Walks of the readers of words, of the program and of the reference.
-/
import Derived.Test.YtpacgphnpalepaaDoorQAA
import Derived.Test.YtpacgphnpalepaaDoorTy
import Derived.Test.YtpacgphnpalepaaDoorQAD
namespace Go.Proofs.YtpacgphnpalepaaDoor
set_option linter.unusedVariables false
set_option linter.unusedSimpArgs false
def simpleB (c : UInt8) : Bool := decide (32 < (c.toNat : Int) ∧ (c.toNat : Int) < 127 ∧ (c.toNat : Int) ≠ 34 ∧ (c.toNat : Int) ≠ 92)
def meant (c : UInt8) : Option UInt8 := if (c.toNat : Int) = 34 ∨ (c.toNat : Int) = 92 then some c else if (c.toNat : Int) = 110 then some 10 else if (c.toNat : Int) = 114 then some 13 else none
abbrev u8 (c : UInt8) : AV := .v (.int .u8 (c.toNat : Int))
set_option maxHeartbeats 4000000 in
theorem simple_c (c : UInt8) : ACalls Tryd.prog 68 [u8 c] [] (.v (.bool (simpleB c))) [] := by
  generalize hr : simpleB c = r
  refine (ACalls.of (fn := Tryd.f68) Tryd.func68 Z Z Tryd.ntmps68 (fun I M w own => ?_))
  (repeat' (first|refine AW.seq_k (fun K hK=>?_)|(refine hK _ ?_;clear hK)|refine AW.ret ?_|refine AW.region ?_|refine UA ?_|fail))
  all_goals subst hr
  all_goals ((first|refine RetOk.tup Z Z ?_|refine RetOk.one Z ?_)<;>(repeat' (first|exact V0|refine V1 ?_|refine V2 ?_ ?_|fail)))
  (all_goals (try (first|refine CvL.eq ?_|refine Cv.eq ?_)))
  all_goals (simp only [AV.ren, AV.v.injEq, Value.bool.injEq]; rw [Bool.eq_iff_iff]; simp only [simpleB, Bool.and_eq_true, Bool.or_eq_true, Bool.not_eq_true', Bool.not_eq_false', Bool.and_eq_false_iff, Bool.or_eq_false_iff, Bool.and_eq_false_imp, decide_eq_true_eq, decide_eq_false_iff_not, Decidable.not_not, Int.not_lt, Int.not_le, ne_eq, Bool.not_not]; omega)
set_option maxHeartbeats 4000000 in
theorem meaning_c (c : UInt8) : ACalls Tryd.prog 69 [u8 c] [] (.tup [u8 ((meant c).getD 0), .v (.bool (meant c).isSome)]) [] := by
  generalize hr : (meant c).getD 0 = r
  generalize hr' : (meant c).isSome = r'
  refine (ACalls.of (fn := Tryd.f69) Tryd.func69 Z Z Tryd.ntmps69 (fun I M w own => ?_))
  (repeat' (first|refine AW.seq_k (fun K hK=>?_)|(refine hK _ ?_;clear hK)|refine AW.uC (fun hc=>?_) (fun hc=>?_)|refine AW.block ?_|refine AW.ret ?_|refine AW.skip ?_|exact trivial|refine AW.region ?_|refine UA ?_|fail))
  all_goals subst hr hr'
  all_goals ((first|refine RetOk.tup Z Z ?_|refine RetOk.one Z ?_)<;>(repeat' (first|exact V0|refine V1 ?_|refine V2 ?_ ?_|fail)))
  (all_goals (try (first|refine CvL.eq ?_|refine Cv.eq ?_)))
  all_goals (simp [meant, AV.ren, *]; done)
abbrev wdsP (l : List (List UInt8)) : List (List PV) := l.map fun s => [PV.v (.string (bs s))]
abbrev rdR (st : Int) (w : List UInt8) (ws : List (List UInt8)) : List Res := [.box [.v (.int .i64 st), .row 1 (bsP w).length, .row 2 (wdsP ws).length], .row 1 (bsP w), .row 1 (wdsP ws)]
abbrev rdN (w : List UInt8) (ws : List (List UInt8)) : List Res := [.box [.v (.int .i64 0), .v (.slice none 0 0), .row 2 (wdsP ws).length], .row 1 (bsP w), .row 1 (wdsP ws)]
set_option maxHeartbeats 4000000 in
theorem push_c (st : Int) (w : List UInt8) (ws : List (List UInt8)) (hw : ws.length ≤ 5000) : ACalls Tryd.prog 56 [.ptr 0 0] (rdR st w ws) (.tup []) (rdN w (ws ++ [w])) := by
  refine (ACalls.of (fn := Tryd.f56) Tryd.func56 Z Z Tryd.ntmps56 (fun I M w own => ?_))
  (repeat' (first|refine AW.seq_k (fun K hK=>?_)|(refine hK _ ?_;clear hK)|refine AW.draw (id := 0) (by kernel_rfl) ?_|refine AW.region ?_|refine UA ?_|fail))
  all_goals ((first|refine RetOk.tupS [0, 1, 2] Z Z Z Z Z ?_ ?_|refine RetOk.oneS [0, 1, 2] Z Z Z Z ?_ ?_)<;>(repeat' (first|exact V0|refine V1 ?_|refine V2 ?_ ?_|fail)))
  (all_goals (try (first|refine CvL.eq ?_|refine Cv.eq ?_)))
  all_goals (simp [AV.rens, AV.ren, renL]; done)
def tkPush (st : Int) (c : UInt8) : Bool := decide ((st = 1 ∨ st = 4) ∧ (c.toNat : Int) = 32)
def tkOk (st : Int) (c : UInt8) : Bool :=
  if st = 0 then decide ((c.toNat : Int) = 34) || simpleB c
  else if st = 1 ∨ st = 4 then decide ((c.toNat : Int) = 32) || decide (st = 1) && simpleB c
  else if st = 2 then decide ((c.toNat : Int) ≠ 10 ∧ (c.toNat : Int) ≠ 13)
  else (meant c).isSome
def tkSt (st : Int) (c : UInt8) : Int :=
  if st = 0 then if (c.toNat : Int) = 34 then 2 else 1
  else if st = 1 ∨ st = 4 then st
  else if st = 2 then if (c.toNat : Int) = 34 then 4 else if (c.toNat : Int) = 92 then 3 else 2
  else 2
def tkAdd (st : Int) (c : UInt8) : List UInt8 :=
  if st = 0 then if (c.toNat : Int) = 34 then [] else [c]
  else if st = 1 ∨ st = 4 then [c]
  else if st = 2 then if (c.toNat : Int) = 34 ∨ (c.toNat : Int) = 92 ∨ (c.toNat : Int) = 10 ∨ (c.toNat : Int) = 13 then [] else [c]
  else [(meant c).getD 0]
set_option maxHeartbeats 4000000 in
theorem takeN_c (st : Int) (w : List UInt8) (ws : List (List UInt8)) (c : UInt8) (hw : w.length ≤ 5000) (h : tkPush st c = false) : ACalls Tryd.prog 55 [.ptr 0 0, u8 c] (rdR st w ws) (.v (.bool (tkOk st c))) (rdR (tkSt st c) (w ++ tkAdd st c) ws) := by
  simp only [tkPush, decide_eq_false_iff_not] at h
  generalize hr : rdR (tkSt st c) (w ++ tkAdd st c) ws = r
  generalize hr' : tkOk st c = r'
  refine (ACalls.of (fn := Tryd.f55) Tryd.func55 Z Z Tryd.ntmps55 (fun I M w own => ?_))
  (repeat' (first|refine AW.seq_k (fun K hK=>?_)|(refine hK _ ?_;clear hK)|refine AW.uC (fun hc=>?_) (fun hc=>?_)|refine AW.block ?_|refine AW.ret ?_|refine AW.skip ?_|exact trivial|refine AW.rI [0, 1, 2, 3, 4, 5, 6, 7, 8, 9, 10, 11, 14, 15, 16, 17, 19, 20, 21, 22, 23, 24, 25, 18, 26, 27, 28, 29, 30] Z ?_|refine Run.c0 (simple_c _) Z Z Z Z Z Z Z Z ?_|refine Run.gccA (fun hg=>(simple_c _)) (by first|exact Gd.t Z Z Z Z|exact Gd.t2 Z Z Z Z) Z Z Z Z Z Z Z ?_|refine Run.c0 (meaning_c _) Z Z Z Z Z Z Z Z ?_|refine UA ?_|fail))
  all_goals subst hr hr'
  all_goals ((first|refine RetOk.tupS [0, 1, 2] Z Z Z Z Z ?_ ?_|refine RetOk.oneS [0, 1, 2] Z Z Z Z ?_ ?_)<;>(repeat' (first|exact V0|refine V1 ?_|refine V2 ?_ ?_|fail)))
  (all_goals (try (first|refine CvL.eq ?_|refine Cv.eq ?_)))
  all_goals ((try clear hK); first | rfl | (simp [tkSt, tkOk, tkAdd, AV.rens, AV.ren, renL]; done) | (simp [tkSt, tkOk, tkAdd, AV.rens, AV.ren, renL, *]; done) | (simp_all [tkSt, tkOk, tkAdd, AV.rens, AV.ren, renL]; done) | (exfalso; omega) | (exfalso; simp_all; omega))
set_option maxHeartbeats 4000000 in
theorem takeP_c (st : Int) (w : List UInt8) (ws : List (List UInt8)) (c : UInt8) (hw : ws.length ≤ 5000) (h : tkPush st c = true) : ACalls Tryd.prog 55 [.ptr 0 0, u8 c] (rdR st w ws) (.v (.bool true)) (rdN w (ws ++ [w])) := by
  simp only [tkPush, decide_eq_true_eq] at h
  refine (ACalls.of (fn := Tryd.f55) Tryd.func55 Z Z Tryd.ntmps55 (fun I M w own => ?_))
  (repeat' (first|refine AW.seq_k (fun K hK=>?_)|(refine hK _ ?_;clear hK)|refine AW.uC (fun hc=>?_) (fun hc=>?_)|refine AW.block ?_|refine AW.ret ?_|refine AW.skip ?_|exact trivial|refine AW.rI [0, 1, 2, 9, 10, 11, 12, 13] Z ?_|refine Run.cSA [0, 1, 2] (push_c _ _ _ hw) Z Z Z Z Z Z Z Z Z Z Z Z ?_|refine UA ?_|fail))
  all_goals ((first|refine RetOk.tupS [0, 1, 2] Z Z Z Z Z ?_ ?_|refine RetOk.oneS [0, 1, 2] Z Z Z Z ?_ ?_)<;>(repeat' (first|exact V0|refine V1 ?_|refine V2 ?_ ?_|fail)))
  (all_goals (try (first|refine CvL.eq ?_|refine Cv.eq ?_)))
  all_goals ((try clear hK); first | rfl | (simp [tkSt, AV.rens, AV.ren, renL]; done) | (simp [tkSt, AV.rens, AV.ren, renL, *]; done) | (simp_all [tkSt, AV.rens, AV.ren, renL]; done) | (exfalso; omega) | (exfalso; simp_all; omega))
structure Rd where
  st : Int
  w : List UInt8
  ws : List (List UInt8)
def Rd.step (r : Rd) (c : UInt8) : Rd := if tkPush r.st c then ⟨0, [], r.ws ++ [r.w]⟩ else ⟨tkSt r.st c, r.w ++ tkAdd r.st c, r.ws⟩
def Rd.run : List UInt8 → Rd → Option Rd
  | [], r => some r
  | c :: l, r => if tkPush r.st c || tkOk r.st c then Rd.run l (r.step c) else none
def splitP (s : List UInt8) : List (List UInt8) × Int :=
  if 4096 < s.length then ([], 3) else if s = [] then ([], 0) else match Rd.run s ⟨0, [], []⟩ with
  | none => ([], 5)
  | some r => if r.st ≠ 1 ∧ r.st ≠ 4 then ([], 5) else if 64 < r.ws.length + 1 then ([], 3) else (r.ws ++ [r.w], 0)
set_option maxHeartbeats 4000000 in
theorem Split_c (s : List UInt8) : ACalls Tryd.prog 32 [.v (.string (bs s))] [] (.tup [.sl 1 (wdsP (splitP s).1) false, .v (.int .i64 (splitP s).2)]) [] := by
  generalize he : splitP s = sp
  refine (ACalls.of (fn := Tryd.f32) Tryd.func32 Z Z Tryd.ntmps32 (fun I M w own => ?_))
  (repeat' (first|refine AW.seq_k (fun K hK=>?_)|(refine hK _ ?_;clear hK)|refine AW.uC (fun hc=>?_) (fun hc=>?_)|refine AW.block ?_|refine AW.ret ?_|refine AW.skip ?_|exact trivial|refine AW.rI [0, 1, 2, 3, 4, 5, 6] Z ?_|refine UA ?_|fail))
  · obtain rfl : sp = ([], 3) := by rw [← he, splitP, if_pos (by omega)]
    ((first|refine RetOk.tup Z Z ?_|refine RetOk.one Z ?_)<;>(repeat' (first|exact V0|refine V1 ?_|refine V2 ?_ ?_|fail)))
  · obtain rfl : sp = ([], 0) := by rw [← he, splitP, if_neg (by omega), if_pos (by assumption)]
    ((first|refine RetOk.tup Z Z ?_|refine RetOk.one Z ?_)<;>(repeat' (first|exact V0|refine V1 ?_|refine V2 ?_ ?_|fail)))
  · refine AW.loopF (X := List UInt8 × List UInt8 × Rd) (fun x => ⟨[(0, .v (.string (bs s))), (4, .ptr 0 0), (14, .v (.int .i64 (s.length : Int))), (15, .v (.int .i64 (x.1.length : Int)))], rdR x.2.2.st x.2.2.w x.2.2.ws⟩)
      (fun x => s = x.1 ++ x.2.1 ∧ Rd.run s ⟨0, [], []⟩ = Rd.run x.2.1 x.2.2 ∧ x.2.2.w.length ≤ x.1.length ∧ x.2.2.ws.length ≤ x.1.length) (fun x => x.2.1.length) ([], s, ⟨0, [], []⟩) ?_ ?_ ?_
    · (refine Conv.ownB 0 1 1 [] Z Z (Or.inr ⟨rfl, rfl⟩) (by repeat constructor) (by repeat constructor) ?_)
      (refine Conv.ownB 0 2 1 [] Z Z (Or.inr ⟨rfl, rfl⟩) (by repeat constructor) (by repeat constructor) ?_)
      refine Conv.mk [0, 1, 2] Z Z Z ?_ Z ?_
      (repeat' (first|exact V0|refine V3 ?_|refine V2 ?_ ?_|fail))
      all_goals rfl
    · simp
    · have hsp : splitP s = match Rd.run s ⟨0, [], []⟩ with | none => ([], 5) | some r => if r.st ≠ 1 ∧ r.st ≠ 4 then ([], 5) else if 64 < r.ws.length + 1 then ([], 3) else (r.ws ++ [r.w], 0) := by rw [splitP, if_neg (by omega), if_neg (by assumption)]
      rintro ⟨pre, l, q⟩ ⟨h1, h2, h3, h4⟩
      simp only at h1 h2 h3 h4 ⊢
      have hl : s.length = pre.length + l.length := by rw [h1, List.length_append]
      rw [hsp, h2] at he
      rcases l with _ | ⟨c, l⟩
      · simp only [List.length_nil] at hl
        simp only [Rd.run] at he
        (repeat' (first|refine AW.seq_k (fun K hK=>?_)|(refine hK _ ?_;clear hK)|refine AW.uC (fun hc=>?_) (fun hc=>?_)|refine AW.exit ?_|refine AW.ret ?_|refine AW.skip ?_|(clear hK;refine hK _ ?_;clear hK)|exact trivial|refine AW.rI [7, 12, 13, 14, 15, 16, 17] Z ?_|refine Run.cSA [0, 1, 2] (push_c q.st q.w q.ws (by omega)) Z Z Z Z Z Z Z Z Z Z Z Z ?_|refine UA ?_|fail))
        · obtain rfl : sp = ([], 5) := by rw [← he, if_pos (by assumption)]
          ((first|refine RetOk.tup Z Z ?_|refine RetOk.one Z ?_)<;>(repeat' (first|exact V0|refine V1 ?_|refine V2 ?_ ?_|fail)))
        · simp only [List.length_map, List.length_append, List.length_cons, List.length_nil] at hc
          obtain rfl : sp = ([], 3) := by rw [← he, if_neg (by omega), if_pos (by omega)]
          ((first|refine RetOk.tup Z Z ?_|refine RetOk.one Z ?_)<;>(repeat' (first|exact V0|refine V1 ?_|refine V2 ?_ ?_|fail)))
        · simp only [List.length_map, List.length_append, List.length_cons, List.length_nil] at hc
          obtain rfl : sp = (q.ws ++ [q.w], 0) := by rw [← he, if_neg (by omega), if_neg (by omega)]
          ((first|refine RetOk.tup Z Z ?_|refine RetOk.one Z ?_)<;>(repeat' (first|exact V0|refine V1 ?_|refine V2 ?_ ?_|fail)))
      · have hF : s[(pre.length : Int).toNat]? = some c := by rw [h1]; simp
        simp only [List.length_cons] at hl
        by_cases hp : tkPush q.st c = true
        · (repeat' (first|refine AW.seq_k (fun K hK=>?_)|(refine hK _ ?_;clear hK)|refine AW.uC (fun hc=>?_) (fun hc=>?_)|refine AW.block ?_|refine AW.skip ?_|exact trivial|refine AW.rI [7, 8, 9, 11] Z ?_|refine Run.cSA [0, 1, 2] (takeP_c q.st q.w q.ws c (by omega) hp) Z Z Z Z Z Z Z Z Z Z Z Z ?_|refine UA ?_|fail))
          · refine thenA_n ⟨(pre ++ [c], l, ⟨0, [], q.ws ++ [q.w]⟩), ⟨by simp [h1], ?_, by simp, by simp; omega⟩, by simp, ?_⟩
            · rw [h2, Rd.run]; simp [hp, Rd.step]
            · (refine Conv.ownB 0 1 1 [] Z Z (Or.inr ⟨rfl, rfl⟩) (by repeat constructor) (by repeat constructor) ?_)
              refine Conv.mk [0, 3, 2] Z Z Z ?_ Z ?_
              (repeat' (first|exact V0|refine V3 ?_|refine V2 ?_ ?_|fail))
              (all_goals (try (first|refine CvL.eq ?_|refine Cv.eq ?_)))
              all_goals ((try clear hK); first | rfl | (simp [List.length_append, AV.rens, AV.ren, renL]; done) | (simp [List.length_append, AV.rens, AV.ren, renL, *]; done) | (simp_all [List.length_append, AV.rens, AV.ren, renL]; done) | (exfalso; omega) | (exfalso; simp_all; omega))
        · rw [Bool.not_eq_true] at hp
          (repeat' (first|refine AW.seq_k (fun K hK=>?_)|(refine hK _ ?_;clear hK)|refine AW.uC (fun hc=>?_) (fun hc=>?_)|refine AW.block ?_|refine AW.ret ?_|refine AW.skip ?_|exact trivial|refine AW.rI [7, 8, 9, 10, 11] Z ?_|refine Run.cSA [0, 1, 2] (takeN_c q.st q.w q.ws c (by omega) hp) Z Z Z Z Z Z Z Z Z Z Z Z ?_|refine UA ?_|fail))
          · obtain rfl : sp = ([], 5) := by rw [← he, Rd.run]; simp [hp, hc]
            ((first|refine RetOk.tup Z Z ?_|refine RetOk.one Z ?_)<;>(repeat' (first|exact V0|refine V1 ?_|refine V2 ?_ ?_|fail)))
          · refine thenA_n ⟨(pre ++ [c], l, ⟨tkSt q.st c, q.w ++ tkAdd q.st c, q.ws⟩), ⟨by simp [h1], ?_, ?_, by simp; omega⟩, by simp, ?_⟩
            · rw [h2, Rd.run]; simp [hp, hc, Rd.step]
            · have : (tkAdd q.st c).length ≤ 1 := by unfold tkAdd; (repeat' split) <;> simp
              simp; omega
            · refine Conv.mk [0, 1, 2] Z Z Z ?_ Z ?_
              (repeat' (first|exact V0|refine V3 ?_|refine V2 ?_ ?_|fail))
              (all_goals (try (first|refine CvL.eq ?_|refine Cv.eq ?_)))
              all_goals ((try clear hK); first | rfl | (simp [List.length_append, AV.rens, AV.ren, renL]; done) | (simp [List.length_append, AV.rens, AV.ren, renL, *]; done) | (simp_all [List.length_append, AV.rens, AV.ren, renL]; done) | (exfalso; omega) | (exfalso; simp_all; omega))
def qRead : Nat → List UInt8 → List UInt8 → Option (List UInt8 × List UInt8)
  | 0, _, _ => none
  | _ + 1, [], _ => none
  | n + 1, c :: l, out =>
    if (c.toNat : Int) = 34 then some (out, l)
    else if (c.toNat : Int) = 10 ∨ (c.toNat : Int) = 13 then none
    else if (c.toNat : Int) = 92 then match l with
      | [] => none
      | d :: l => match meant d with
        | none => none
        | some x => qRead n l (out ++ [x])
    else qRead n l (out ++ [c])
def wordR (l : List UInt8) : List UInt8 × Option (List UInt8) :=
  match l with
  | [] => ([], none)
  | c :: r => if (c.toNat : Int) = 34 then match qRead (r.length + 1) r [] with
      | none => ([], none)
      | some (w, t) => (w, some t)
    else (l.takeWhile simpleB, if l.takeWhile simpleB = [] then none else some (l.dropWhile simpleB))
def wordTo (s l : List UInt8) : Int := match l with
  | [] => s.length
  | c :: r => if (c.toNat : Int) = 34 then match qRead (r.length + 1) r [] with
      | none => 0
      | some (w, t) => (s.length : Int) - t.length
    else (s.length : Int) - (l.dropWhile simpleB).length
theorem wordR_plain (s l : List UInt8) (h : ∀ c r, l = c :: r → (c.toNat : Int) ≠ 34) : wordR l = (l.takeWhile simpleB, if l.takeWhile simpleB = [] then none else some (l.dropWhile simpleB)) ∧ wordTo s l = (s.length : Int) - (l.dropWhile simpleB).length := by
  rcases l with _ | ⟨c, r⟩
  · simp [wordR, wordTo]
  · have := h c r Z
    simp only [wordR, wordTo, if_neg this]
    exact ⟨trivial, trivial⟩
theorem qRead_suf : ∀ (n : Nat) (l out w t : List UInt8), qRead n l out = some (w, t) → ∃ d, l = d ++ t := by
  intro n
  induction n with
  | zero => intro l out w t h; simp [qRead] at h
  | succ n ih =>
    intro l out w t h
    rcases l with _ | ⟨c, l⟩
    · simp [qRead] at h
    · simp only [qRead] at h
      split at h
      · simp at h; exact ⟨[c], by simp [h.2]⟩
      · split at h
        · cases h
        · split at h
          · rcases l with _ | ⟨e, l⟩
            · simp at h
            · simp only at h
              cases hm : meant e with
              | none => rw [hm] at h; simp at h
              | some x =>
                rw [hm] at h
                obtain ⟨d, rfl⟩ := ih _ _ _ _ h
                exact ⟨c :: e :: d, by simp⟩
          · obtain ⟨d, rfl⟩ := ih _ _ _ _ h
            exact ⟨c :: d, by simp⟩
def rSplit : Nat → List UInt8 → List (List UInt8) → Option (List (List UInt8))
  | 0, _, _ => none
  | n + 1, l, out => match wordR l with
    | (_, none) => none
    | (w, some []) => some (out ++ [w])
    | (w, some (c :: t)) => if (c.toNat : Int) = 32 then rSplit n t (out ++ [w]) else none
def rSplitP (s : List UInt8) : List (List UInt8) × Int :=
  if 4096 < s.length then ([], 3) else if s = [] then ([], 0) else match rSplit (s.length + 1) s [] with
  | none => ([], 5)
  | some r => if 64 < r.length then ([], 3) else (r, 0)
def bareB (s : List UInt8) : Bool := s.all simpleB && decide (s ≠ [])
def esc (c : UInt8) : List UInt8 := if (c.toNat : Int) = 34 ∨ (c.toNat : Int) = 92 then [92, c] else if (c.toNat : Int) = 10 then [92, 110] else if (c.toNat : Int) = 13 then [92, 114] else [c]
def writtenL (s : List UInt8) : List UInt8 := if bareB s then s else 34 :: (s.flatMap esc ++ [34])
def jW : List (List UInt8) → Bool → List UInt8 → Option (List UInt8)
  | [], _, b => some b
  | w :: l, first, b => if 4096 < w.length then none else jW l false ((if first then b else b ++ [32]) ++ writtenL w)
def joinP (l : List (List UInt8)) : List UInt8 × Int :=
  if 64 < l.length then ([], 3) else match jW l true [] with
  | none => ([], 3)
  | some b => if 4096 < b.length then ([], 3) else (b, 0)
def jR : List (List UInt8) → Bool → List UInt8 → Option (List UInt8)
  | [], _, b => some b
  | w :: l, first, b => if 4096 < ((if first then b else b ++ [32]) ++ writtenL w).length then none else jR l false ((if first then b else b ++ [32]) ++ writtenL w)
def rJoinP (l : List (List UInt8)) : List UInt8 × Int :=
  if 64 < l.length then ([], 3) else match jR l true [] with
  | none => ([], 3)
  | some b => (b, 0)
end Go.Proofs.YtpacgphnpalepaaDoor
