/-
  Walk of the rules: what one term of a condition says.
-/
import Derived.Test.YtbbcokckealagaaGreatQAM
import Derived.Test.YtbbcokckealagaaGreatQAD
namespace Go.Proofs.YtbbcokckealagaaGreat
set_option linter.unusedVariables false
set_option linter.unusedSimpArgs false
abbrev blP (l : List Bool) : List (List PV) := l.map fun b => [PV.v (.bool b)]
def holdB (rs ds : List Wd) (k : Int) (nm : Wd) (st : List Bool) : Bool := if k = 1 then inB rs nm else if k = 2 then inB ds nm else if k = 3 then !(st.getD 0 false) else if k = 4 then st.getD 0 false && st.getD 1 false else st.getD 0 false || st.getD 1 false
inductive NilAs : PV → PV → Prop
  | same {p q : PV} (h : p = q) : NilAs p q
  | nil {sz : Nat} : NilAs (.v (.slice none 0 0)) (.sl sz [])
inductive NilRow : List PV → List PV → Prop
  | nil : NilRow [] []
  | cons {p q : PV} {l m : List PV} (h : NilAs p q) (hs : NilRow l m) : NilRow (p :: l) (q :: m)
inductive NilRows : List (List PV) → List (List PV) → Prop
  | nil : NilRows [] []
  | cons {p q : List PV} {l m : List (List PV)} (h : NilRow p q) (hs : NilRows l m) : NilRows (p :: l) (q :: m)
theorem NilRow.len {l m : List PV} (h : NilRow l m) : l.length = m.length := by
  induction h with
  | nil => rfl
  | cons _ _ ih => simp [ih]
theorem NilRow.app {l m l' m' : List PV} (h : NilRow l m) (h' : NilRow l' m') : NilRow (l ++ l') (m ++ m') := by
  induction h with
  | nil => exact h'
  | cons h _ ih => exact .cons h ih
theorem NilRow.get {l m : List PV} (h : NilRow l m) : ∀ (j : Nat) (q : PV), m[j]? = some q → ∃ p, l[j]? = some p ∧ NilAs p q := by
  induction h with
  | nil => intro j q h; simp at h
  | cons h _ ih =>
    intro j q hq
    cases j with
    | zero => obtain rfl : _ = q := by simpa using hq
              exact ⟨_, rfl, h⟩
    | succ j => exact ih j q (by simpa using hq)
theorem NilRows.flat {l m : List (List PV)} (h : NilRows l m) : NilRow l.flatten m.flatten ∧ l.length = m.length := by
  induction h with
  | nil => exact ⟨.nil, rfl⟩
  | cons h _ ih => exact ⟨by simpa using h.app ih.1, by simp [ih.2]⟩
theorem NilRows.sz {l m : List (List PV)} (h : NilRows l m) {sz : Nat} (hz : ∀ ys ∈ l, ys.length = sz) : ∀ ys ∈ m, ys.length = sz := by
  induction h with
  | nil => intro ys hy; cases hy
  | cons h _ ih =>
    intro ys hy
    rcases List.mem_cons.1 hy with rfl | hy
    · rw [← h.len]; exact hz _ (by simp)
    · exact ih (fun y hy => hz y (List.mem_cons_of_mem _ hy)) ys hy
theorem Cv.slN {σ : Nat → Res} {sz : Nat} {xs ys : List (List PV)} {f : Bool} (h : NilRows xs ys) : Cv σ (.sl sz xs f) (.sl sz ys f) := by
  intro I M w v hs hr
  cases hr with
  | sl h1 hf =>
    refine .sl ?_ hf
    cases h1 with
    | sl b off u hn hc hz hA hM hcell h1 hu =>
      refine .sl b off u (by rw [← h.flat.2]; exact hn) hc (h.sz hz) hA hM hcell h1 fun j p hp => ?_
      obtain ⟨q, hq, hqp⟩ := h.flat.1.get j p hp
      have := hu j q hq
      cases hqp with
      | same e => exact e ▸ this
      | nil =>
        revert this
        generalize u j = x
        intro this
        cases this
        exact .nil _ _ _ _ _
def badT (n : Nat) (t : Tm) : Bool := decide (arityF t.1 < 0 ∨ (n : Int) < arityF t.1 ∨ (arityF t.1 = 0 ∧ nameB t.2 = false) ∨ (0 < arityF t.1 ∧ t.2 ≠ []))
def foldB (rs ds : List Wd) : List Bool → List Tm → Option (List Bool)
  | st, [] => some st
  | st, t :: r => if badT st.length t = true then none else foldB rs ds (st.take (st.length - (arityF t.1).toNat) ++ [holdB rs ds t.1 t.2 (st.drop (st.length - (arityF t.1).toNat))]) r
def foldE (rs ds : List Wd) (c : List Tm) : Bool × Bool :=
  if 16 < c.length then (false, false) else match foldB rs ds [] c with
  | some [b] => (b, true)
  | _ => (false, false)
def holdsF (rs ds : List Wd) (c : List Tm) : Bool := if c = [] then true else (foldE rs ds c).1 && (foldE rs ds c).2
abbrev unP (n : Nat) : List (List PV) := List.replicate n []
def foldN : Nat → List Tm → Option Nat
  | n, [] => some n
  | n, t :: r => if badT n t = true then none else foldN (n - (arityF t.1).toNat + 1) r
def foldNE (c : List Tm) : Bool := if 16 < c.length then false else decide (foldN 0 c = some 1)
def properF (c : List Tm) : Bool := foldNE c || decide (c = [])
abbrev ruC (r : Ru) (f : Bool) : List AV := r.hd.cells ++ [.sl 2 (tmP r.cond) f]
def validF (r : Ru) : Bool :=
  if properF r.cond = true ∧ nameB r.hd.role = true then
    (if r.hd.kind = 1 then nameB r.hd.cls && decide (r.hd.pct = 0)
     else if r.hd.kind = 2 then (decide (r.hd.cls = []) && decide (0 ≤ r.hd.pct)) && decide (r.hd.pct ≤ 100)
     else if r.hd.kind = 3 then decide (r.hd.cls = []) && decide (r.hd.pct = 0) else false)
  else false
theorem foldN_app : ∀ (x : List Tm) (n : Nat) (y : List Tm), foldN n (x ++ y) = (foldN n x).bind fun d => foldN d y
  | [], n, y => rfl
  | t :: x, n, y => by
    rw [List.cons_append, foldN, foldN]
    split
    · rfl
    · exact foldN_app x _ y
def Prop1 (c : List Tm) : Prop := foldN 0 c = some 1
end Go.Proofs.YtbbcokckealagaaGreat
