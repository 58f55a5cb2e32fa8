/-
  Plain facts about words: the reader by bytes, and the reader by words.
-/
import Derived.Test.YtagdhmfcgngbeaaDoorWordI
namespace Go.Proofs.YtagdhmfcgngbeaaDoor
set_option linter.unusedVariables false
set_option linter.unusedSimpArgs false
def Rd.fin (o : Option Rd) : Option (List (List UInt8)) := match o with
  | none => none
  | some r => if r.st = 1 ∨ r.st = 4 then some (r.ws ++ [r.w]) else none
theorem space_not (c : UInt8) (h : (c.toNat : Int) = 32) : simpleB c = false := by simp [simpleB, h]
theorem run1 : ∀ (l w : List UInt8) (ws : List (List UInt8)), Rd.run l ⟨1, w, ws⟩ = match l.dropWhile simpleB with
    | [] => some ⟨1, w ++ l.takeWhile simpleB, ws⟩
    | c :: t => if (c.toNat : Int) = 32 then Rd.run t ⟨0, [], ws ++ [w ++ l.takeWhile simpleB]⟩ else none := by
  intro l
  induction l with
  | nil => intro w ws; simp [Rd.run]
  | cons c l ih =>
    intro w ws
    rw [Rd.run]
    by_cases h : (c.toNat : Int) = 32
    · have hs := space_not c h
      simp [tkPush, Rd.step, h, hs]
    · by_cases hs : simpleB c = true
      · simp [tkPush, tkOk, Rd.step, h, hs, tkSt, tkAdd, ih]
      · rw [Bool.not_eq_true] at hs
        simp [tkPush, tkOk, h, hs]
theorem run4 (l w : List UInt8) (ws : List (List UInt8)) : Rd.run l ⟨4, w, ws⟩ = match l with
    | [] => some ⟨4, w, ws⟩
    | c :: t => if (c.toNat : Int) = 32 then Rd.run t ⟨0, [], ws ++ [w]⟩ else none := by
  cases l with
  | nil => rfl
  | cons c t =>
    rw [Rd.run]
    by_cases h : (c.toNat : Int) = 32 <;> simp [tkPush, tkOk, Rd.step, h]
theorem run2 : ∀ (n : Nat) (l w : List UInt8) (ws : List (List UInt8)), l.length < n → Rd.fin (Rd.run l ⟨2, w, ws⟩) = match qRead n l w with
    | none => none
    | some (w', t) => Rd.fin (Rd.run t ⟨4, w', ws⟩) := by
  intro n
  induction n with
  | zero => intro l w ws h; omega
  | succ n ih =>
    intro l w ws hl
    rcases l with _ | ⟨c, l⟩
    · simp [Rd.run, Rd.fin, qRead]
    · simp only [List.length_cons] at hl
      rw [Rd.run]
      simp only [qRead]
      by_cases h1 : (c.toNat : Int) = 34
      · simp [tkPush, tkOk, Rd.step, h1, tkSt, tkAdd]
      · by_cases h2 : (c.toNat : Int) = 10 ∨ (c.toNat : Int) = 13
        · have e : (tkPush 2 c || tkOk 2 c) = false := by
            rw [Bool.or_eq_false_iff]
            refine ⟨by simp [tkPush], ?_⟩
            simp [tkOk]; omega
          simp only [e]
          simp [h1, h2, Rd.fin]
        · have h2' : ¬ (c.toNat : Int) = 10 ∧ ¬ (c.toNat : Int) = 13 := by omega
          by_cases h3 : (c.toNat : Int) = 92
          · rcases l with _ | ⟨e, l⟩
            · simp [tkPush, tkOk, Rd.step, h1, h3, tkSt, tkAdd, Rd.run, Rd.fin]
            · simp only [List.length_cons] at hl
              cases hm : meant e with
              | none => simp [tkPush, tkOk, Rd.step, h1, h3, tkSt, tkAdd, Rd.run, Rd.fin, hm]
              | some x => simp [tkPush, tkOk, Rd.step, h1, h3, tkSt, tkAdd, Rd.run, hm, ih l (w ++ [x]) ws (by omega)]
          · simp [tkPush, tkOk, Rd.step, h1, h2, h2', h3, tkSt, tkAdd, ih l (w ++ [c]) ws (by omega)]
theorem split_run : ∀ (n : Nat) (l : List UInt8) (out : List (List UInt8)), l.length < n → rSplit n l out = Rd.fin (Rd.run l ⟨0, [], out⟩) := by
  intro n
  induction n with
  | zero => intro l out h; omega
  | succ n ih =>
    intro l out hl
    rcases l with _ | ⟨c, r⟩
    · simp [rSplit, wordR, Rd.run, Rd.fin]
    · simp only [List.length_cons] at hl
      rw [rSplit, Rd.run]
      by_cases h1 : (c.toNat : Int) = 34
      · have e1 : (if (tkPush 0 c || tkOk 0 c) = true then Rd.run r (Rd.step ⟨0, [], out⟩ c) else none) = Rd.run r ⟨2, [], out⟩ := by simp [tkPush, tkOk, Rd.step, tkSt, tkAdd, h1]
        simp only [e1]
        rw [run2 (r.length + 1) r [] out (by omega)]
        simp only [wordR, if_pos h1]
        cases hq : qRead (r.length + 1) r [] with
        | none => rfl
        | some p =>
          obtain ⟨w, t⟩ := p
          obtain ⟨d, hd⟩ := qRead_suf _ _ _ _ _ hq
          simp only
          rw [run4]
          rcases t with _ | ⟨c', t⟩
          · simp [Rd.fin]
          · simp only
            have : r.length = d.length + (t.length + 1) := by rw [hd]; simp
            by_cases h2 : (c'.toNat : Int) = 32
            · rw [if_pos h2, if_pos h2, ih t _ (by omega)]
            · rw [if_neg h2, if_neg h2]; rfl
      · by_cases hs : simpleB c = true
        · have e1 : (if (tkPush 0 c || tkOk 0 c) = true then Rd.run r (Rd.step ⟨0, [], out⟩ c) else none) = Rd.run r ⟨1, [c], out⟩ := by simp [tkPush, tkOk, Rd.step, tkSt, tkAdd, h1, hs]
          simp only [e1]
          rw [run1]
          have hlen : (r.dropWhile simpleB).length ≤ r.length := by
            have := congrArg List.length (List.takeWhile_append_dropWhile (p := simpleB) (l := r))
            rw [List.length_append] at this; omega
          simp only [wordR, if_neg h1, List.takeWhile_cons, List.dropWhile_cons, hs, if_true]
          generalize r.dropWhile simpleB = t at hlen
          rcases t with _ | ⟨c', t⟩
          · simp [Rd.fin]
          · simp only [List.length_cons] at hlen
            simp only [reduceCtorEq, if_false]
            by_cases h2 : (c'.toNat : Int) = 32
            · rw [if_pos h2, if_pos h2, ih t _ (by omega)]; rfl
            · rw [if_neg h2, if_neg h2]; rfl
        · rw [Bool.not_eq_true] at hs
          simp [wordR, h1, hs, tkPush, tkOk, Rd.fin]
theorem split_eq (s : List UInt8) : splitP s = rSplitP s := by
  unfold splitP rSplitP
  split
  · rfl
  · split
    · rfl
    · rw [split_run (s.length + 1) s [] (by omega)]
      cases Rd.run s ⟨0, [], []⟩ with
      | none => rfl
      | some r =>
        simp only [Rd.fin]
        by_cases h : r.st = 1 ∨ r.st = 4
        · rw [if_neg (by omega), if_pos h]
          simp
        · rw [if_pos (by omega), if_neg h]
end Go.Proofs.YtagdhmfcgngbeaaDoor
