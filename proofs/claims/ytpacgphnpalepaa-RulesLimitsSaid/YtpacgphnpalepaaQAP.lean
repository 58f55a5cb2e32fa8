/-
  Walks of the dice: a role, a class, a condition.
-/
import Derived.Test.YtpacgphnpalepaaQAO
namespace Go.Proofs.Ytpacgphnpalepaa
set_option linter.unusedVariables false
set_option linter.unusedSimpArgs false
def roleL : List (List UInt8) := [[109, 117, 115, 105, 99], [118, 111, 105, 99, 101], [97, 108, 97, 114, 109], [103, 97, 109, 101]]
def roleAt (n : Int) : List UInt8 := roleL.getD n.toNat []
def classL : List (List UInt8) := [[115, 112, 101, 97, 107, 101, 114], [104, 101, 97, 100, 115, 101, 116], [109, 105, 99], [97, 110, 121]]
def classAt (n : Int) : List UInt8 := classL.getD n.toNat []
/-- how far the deck is, the terms, the depth -/
structure Cs where
  a : Nat
  out : List Tm
  dep : Nat
def stepC (l : List Int) (s : Cs) : Cs :=
  if dkN l s.a 5 = 0 ∧ 1 ≤ s.dep then ⟨dkA l s.a, s.out ++ [(3, [])], s.dep⟩
  else if dkN l s.a 5 ≤ 2 ∧ 2 ≤ s.dep then ⟨dkA l s.a, s.out ++ [(4 + dkN l s.a 5 - 1, [])], s.dep - 1⟩
  else if dkN l s.a 5 = 3 then ⟨dkA l (dkA l s.a), s.out ++ [(2, classAt (dkN l (dkA l s.a) 4))], s.dep + 1⟩
  else ⟨dkA l (dkA l s.a), s.out ++ [(1, roleAt (dkN l (dkA l s.a) 4))], s.dep + 1⟩
def runC (l : List Int) : Nat → Cs → Cs
  | 0, s => s
  | k + 1, s => runC l k (stepC l s)
def endC (l : List Int) : Nat → Cs → Cs
  | 0, s => s
  | k + 1, s => endC l k ⟨dkA l s.a, s.out ++ [(4 + dkN l s.a 2, [])], s.dep - 1⟩
def fullC (l : List Int) (a : Nat) : Cs :=
  let s := runC l (dkN l a 9).toNat ⟨dkA l a, [], 0⟩
  endC l (s.dep - 1) s
def condL (l : List Int) (a : Nat) : List Tm := if 16 < (fullC l a).out.length then [] else (fullC l a).out
def condA (l : List Int) (a : Nat) : Nat := (fullC l a).a
end Go.Proofs.Ytpacgphnpalepaa
/-
  Plain laws of conditions.
-/
namespace Go.Proofs.Ytpacgphnpalepaa
set_option linter.unusedVariables false
set_option linter.unusedSimpArgs false
theorem foldN_app : ∀ (x : List Tm) (n : Nat) (y : List Tm), foldN n (x ++ y) = (foldN n x).bind fun d => foldN d y
  | [], n, y => rfl
  | t :: x, n, y => by
    rw [List.cons_append, foldN, foldN]
    split
    · rfl
    · exact foldN_app x _ y
/-- a condition that is proper, and not empty -/
def Prop1 (c : List Tm) : Prop := foldN 0 c = some 1
end Go.Proofs.Ytpacgphnpalepaa
