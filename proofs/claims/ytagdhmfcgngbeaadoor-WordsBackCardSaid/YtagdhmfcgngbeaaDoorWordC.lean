/-
  Walks of the reference's reader of words.
-/
import Derived.Test.YtagdhmfcgngbeaaDoorWordB
namespace Go.Proofs.YtagdhmfcgngbeaaDoor
set_option linter.unusedVariables false
set_option linter.unusedSimpArgs false
def qRead : Nat → List UInt8 → List UInt8 → Option (List UInt8 × List UInt8)
  | 0, _, _ => none
  | _ + 1, [], _ => none
  | n + 1, c :: l, out =>
    if (c.toNat : Int) = 34 then some (out, l)
    else if (c.toNat : Int) = 10 ∨ (c.toNat : Int) = 13 then none
    else if (c.toNat : Int) = 92 then match l with
      | [] => none
      | d :: l => match meant d with
        | none => none
        | some x => qRead n l (out ++ [x])
    else qRead n l (out ++ [c])
/-- the word that begins a text, what lies behind it, whether there is one -/
def wordR (l : List UInt8) : List UInt8 × Option (List UInt8) :=
  match l with
  | [] => ([], none)
  | c :: r => if (c.toNat : Int) = 34 then match qRead (r.length + 1) r [] with
      | none => ([], none)
      | some (w, t) => (w, some t)
    else (l.takeWhile simpleB, if l.takeWhile simpleB = [] then none else some (l.dropWhile simpleB))
def wordTo (s l : List UInt8) : Int := match l with
  | [] => s.length
  | c :: r => if (c.toNat : Int) = 34 then match qRead (r.length + 1) r [] with
      | none => 0
      | some (w, t) => (s.length : Int) - t.length
    else (s.length : Int) - (l.dropWhile simpleB).length
theorem wordR_plain (s l : List UInt8) (h : ∀ c r, l = c :: r → (c.toNat : Int) ≠ 34) : wordR l = (l.takeWhile simpleB, if l.takeWhile simpleB = [] then none else some (l.dropWhile simpleB)) ∧ wordTo s l = (s.length : Int) - (l.dropWhile simpleB).length := by
  rcases l with _ | ⟨c, r⟩
  · simp [wordR, wordTo]
  · have := h c r rfl
    simp only [wordR, wordTo, if_neg this]
    exact ⟨trivial, trivial⟩
theorem get_app (a b : List UInt8) (c : UInt8) (r : List UInt8) (i : Int) (hi : i = (a.length : Int) + b.length) (s : List UInt8) (hs : s = a ++ (b ++ c :: r)) : s[i.toNat]? = some c := by
  have : i.toNat = a.length + b.length := by omega
  rw [this, hs, ← List.append_assoc, ← List.length_append]
  simp
end Go.Proofs.YtagdhmfcgngbeaaDoor
