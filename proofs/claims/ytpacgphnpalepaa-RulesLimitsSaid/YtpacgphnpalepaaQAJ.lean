/-
  Appending in place to an array of the call's own, or out of it when it is full; clear; overlaps. Nothing of the dump is used; no condition.
-/
import Derived.Test.YtpacgphnpalepaaQAI
import Derived.Lib.Overlaps
import Derived.Scope
namespace Go.Proofs.Ytpacgphnpalepaa
open Go.RowKit
set_option linter.unusedVariables false
set_option linter.unusedSimpArgs false
theorem avl_lt (n : Nat) : ∀ l : List PV, AV.lts n (l.map PV.av) = true
  | [] => rfl
  | .v _ :: l => by simp only [List.map_cons, AV.lts, PV.av, AV.lt, avl_lt n l, Bool.and_self]
  | .sl .. :: l => by simp only [List.map_cons, AV.lts, PV.av, AV.lt, avl_lt n l, Bool.and_self]
theorem bxs_lt (n : Nat) (xs : List (List PV)) : AV.lts n (bxs xs) = true := avl_lt n _
theorem avl_rens (ρ : Nat → Nat) : ∀ l : List PV, AV.rens ρ (l.map PV.av) = l.map PV.av
  | [] => rfl
  | .v _ :: l => by simp only [List.map_cons, AV.rens, PV.av, AV.ren, avl_rens ρ l]
  | .sl .. :: l => by simp only [List.map_cons, AV.rens, PV.av, AV.ren, avl_rens ρ l]
theorem bxs_rens (ρ : Nat → Nat) (xs : List (List PV)) : AV.rens ρ (bxs xs) = bxs xs := avl_rens ρ _
section
variable {P : Program} {o : Oper} {ρ : Operand → AV}
end
section
variable {P : Program} {n : Nat} {ops : List Oper} {chk : List FP → Bool} {K : State → Prop} {rest : List Oper} {o : Oper} {fr : Fr} {σ : List Res} {acc : List FP}
theorem Cr.bxs {σ : Nat → Res} {ρ : Nat → Nat} {xs ys : List (List PV)} (h : xs = ys) : Cr σ ρ (.box (bxs xs)) (.box (bxs ys)) := by
  subst h
  refine .box ?_
  rw [bxs_rens]
  exact CvL.refl _
theorem bxs_lt' (n : Nat) (xs : List (List PV)) : Res.lt n (.box (bxs xs)) = true := bxs_lt n xs
end
end Go.Proofs.Ytpacgphnpalepaa
/-
  Fresh memory that is appended to: a string's bytes as a row. Nothing of the dump is used; no condition.
-/
namespace Go.Proofs.Ytpacgphnpalepaa
open Go.RowKit
set_option linter.unusedVariables false
set_option linter.unusedSimpArgs false
section
variable {P : Program} {o : Oper} {ρ : Operand → AV}
end
section
variable {P : Program} {n : Nat} {ops : List Oper} {chk : List FP → Bool} {K : State → Prop} {rest : List Oper} {o : Oper} {fr : Fr} {σ : List Res} {acc : List FP}
end
/-- a scope that is not jumped in -/
abbrev noG (Q : Exit → State → Prop) : Exit → State → Prop
  | .goto _, _ => False
  | e, s => Q e s
/-- two ways that come together -/
theorem AW.join {P : Program} {g : Ent} {c1 c2 : Code} {Q : Exit → State → Prop} {s : State} {X : Type} (F : X → State) (C : X → Prop) (h : AW P g c1 (thenA (fun s' => ∃ x, C x ∧ Conv g s' (F x)) Q) s) (hy : ∀ x, C x → AW P g c2 Q (F x)) : AW P g (.seq c1 c2) Q s := by
  refine AW.seq_k fun K hK => ?_
  intro I M w a hst
  refine wp_mono (h I M w a hst) fun e a' w' ⟨I', M', s', h1, h2⟩ => ?_
  cases e with
  | normal =>
    obtain ⟨x, hx, hc⟩ := h2
    exact ⟨I', M', s', h1, hK _ (AW.conv hc (hy x hx))⟩
  | _ => exact ⟨I', M', s', h1, h2⟩
theorem over_set (p : PV) : ∀ (xs : List (List PV)) (i : Nat), (∀ y ∈ xs, y.length = 1) → i < xs.length → Over (bxs xs) i [p.av] (bxs (xs.set i [p]))
  | [], _, _, h => by simp at h
  | y :: t, i, hz, h => by
    obtain ⟨q, rfl⟩ : ∃ q, y = [q] := List.length_eq_one_iff.1 (hz y (List.mem_cons_self ..))
    cases i with
    | zero => exact .at_ (.cons .nil)
    | succ i => exact .skip (over_set p t i (fun y hy => hz y (List.mem_cons_of_mem _ hy)) (by simpa using h))
end Go.Proofs.Ytpacgphnpalepaa
