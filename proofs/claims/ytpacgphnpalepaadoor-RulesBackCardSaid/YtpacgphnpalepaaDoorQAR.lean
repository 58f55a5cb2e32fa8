/-
  Arrays that are written in place, over values without addresses: the cells of a slice of the call's own lie in a numbered variable. Nothing of the dump is used; no condition.
-/
import Derived.Test.YtpacgphnpalepaaDoorQAD
namespace Go.Proofs.YtpacgphnpalepaaDoor
set_option linter.unusedVariables false
set_option linter.unusedSimpArgs false
open Go.RowKit
def bxs (xs : List (List PV)) : List AV := xs.flatten.map PV.av
section
variable {I : Nat → CI} {M : Nat → Nat} {w : World} {σ : Nat → Res} {P : Program} {o : Oper} {ρ : Operand → AV}
end
end Go.Proofs.YtpacgphnpalepaaDoor
namespace Go.Proofs.YtpacgphnpalepaaDoor
set_option linter.unusedVariables false
set_option linter.unusedSimpArgs false
open Go.RowKit
section
variable {I : Nat → CI} {M : Nat → Nat} {w : World} {σ σ0 : Nat → Res} {P : Program} {o : Oper} {ρ : Operand → AV}
def SrcN (P : Program) (av : AV) (sz : Nat) (ys : List (List PV)) (ins : Upds) : Prop :=
  ∀ (I : Nat → CI) (M : Nat → Nat) (w : World) (σ : Nat → Res) (v : Value), Rp I M w v av → Sto I M w σ → (∀ q ∈ ins, σ q.1 = q.2) →
    ∃ news : List Value, (∀ w : World, (Builtin.lenOf v).run P w = .ok ys.length w) ∧ (∀ y ∈ ys, y.length = sz) ∧ news.length = ys.length * sz ∧ (∀ u ∈ news, u.oneCell' = true) ∧
      (∀ m, m ≤ ys.length → ∀ w1 : World, w1.heap = w.heap → (Builtin.firstCells sz m v).run P w1 = .ok (news.take (m * sz)).toArray w1) ∧ ∀ (j : Nat) (p : PV), ys.flatten[j]? = some p → ∃ u, news[j]? = some u ∧ RPV M w u p
end
end Go.Proofs.YtpacgphnpalepaaDoor
