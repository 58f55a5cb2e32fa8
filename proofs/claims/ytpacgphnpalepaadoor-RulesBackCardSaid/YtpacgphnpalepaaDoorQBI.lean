/-
  Walks of the reference's writer of rules: a condition.
-/
import Derived.Test.YtpacgphnpalepaaDoorQAA
import Derived.Test.YtpacgphnpalepaaDoorQBA
import Derived.Test.YtpacgphnpalepaaDoorQAP
import Derived.Test.YtpacgphnpalepaaDoorQAI
import Derived.Test.YtpacgphnpalepaaDoorQAJ
namespace Go.Proofs.YtpacgphnpalepaaDoor
set_option linter.unusedVariables false
set_option linter.unusedSimpArgs false
abbrev Pc := List UInt8 × Int
abbrev pcP (l : List Pc) : List (List PV) := l.map fun p => [PV.v (.string (bs p.1)), PV.v (.int .i64 p.2)]
def aroundP (p : Pc) (b : Bool) : List UInt8 := if b = true then [40, 32] ++ p.1 ++ [32, 41] else p.1
def joinedP (p : Pc) : Bool := decide (p.2 = 4) || decide (p.2 = 5)
def pieceP (k : Int) (nm : Wd) (st : List Pc) : Pc :=
  if k = 1 then ([97, 99, 116, 105, 118, 101, 32] ++ nm, k) else if k = 2 then ([112, 114, 101, 115, 101, 110, 116, 32] ++ nm, k)
  else if k = 3 then ([110, 111, 116, 32] ++ aroundP (st.getD 0 ([], 0)) (joinedP (st.getD 0 ([], 0))), k)
  else if k = 4 then (aroundP (st.getD 0 ([], 0)) (decide ((st.getD 0 ([], 0)).2 = 5)) ++ [32, 97, 110, 100, 32] ++ aroundP (st.getD 1 ([], 0)) (joinedP (st.getD 1 ([], 0))), k)
  else ((st.getD 0 ([], 0)).1 ++ [32, 111, 114, 32] ++ aroundP (st.getD 1 ([], 0)) (joinedP (st.getD 1 ([], 0))), k)
def foldP : List Pc → List Tm → List Pc
  | st, [] => st
  | st, t :: r => foldP (st.take (st.length - (arityF t.1).toNat) ++ [pieceP t.1 t.2 (st.drop (st.length - (arityF t.1).toNat))]) r
def condP (c : List Tm) : List UInt8 := ((foldP [] c).getD 0 ([], 0)).1
theorem len_two {α : Type} {x : List α} (h : x.length = 2) : ∃ a b, x = [a, b] := by
  rcases x with _ | ⟨a, _ | ⟨b, _ | ⟨c, r⟩⟩⟩
  · simp at h
  · simp at h
  · exact ⟨a, b, rfl⟩
  · simp at h
def totP : List Pc → Nat
  | [] => 0
  | p :: r => p.1.length + totP r
theorem totP_app : ∀ (a b : List Pc), totP (a ++ b) = totP a + totP b
  | [], b => by simp [totP]
  | p :: r, b => by rw [List.cons_append, totP, totP, totP_app r b]; omega
theorem around_len (p : Pc) (b : Bool) : (aroundP p b).length ≤ p.1.length + 4 := by
  cases b <;> simp [aroundP]
end Go.Proofs.YtpacgphnpalepaaDoor
