/-
  Arrays that are written no more: they become slices that are read, or rows that are appended to. Nothing of the dump is used; no condition.
-/
import Derived.Test.YtpacgphnpalepaaDoorQAR
namespace Go.Proofs.YtpacgphnpalepaaDoor
set_option linter.unusedVariables false
set_option linter.unusedSimpArgs false
open Go.RowKit
inductive Fz (k sz : Nat) (xs : List (List PV)) (t : Option (Nat × Nat)) : AV → AV → Prop
  | row {n C T : Nat} (h : t = some (T, C)) (hn : n = xs.length) : Fz k sz xs t (.bsl k sz 0 n C) (.row T n)
  | all {n C : Nat} (hn : n = xs.length) : Fz k sz xs t (.bsl k sz 0 n C) (.sl sz xs false)
  | sl {lo m C : Nat} (h : lo + m ≤ xs.length) : Fz k sz xs t (.bsl k sz lo m C) (.sl sz ((xs.drop lo).take m) false)
  | same {v : AV} : Fz k sz xs t v v
inductive FzF (k sz : Nat) (xs : List (List PV)) (t : Option (Nat × Nat)) : Fr → Fr → Prop
  | refl {l : Fr} : FzF k sz xs t l l
  | cons {i : Nat} {v v' : AV} {l l' : Fr} (h : Fz k sz xs t v v') (hs : FzF k sz xs t l l') : FzF k sz xs t ((i, v) :: l) ((i, v') :: l')
inductive FzL (k sz : Nat) (xs : List (List PV)) (t : Option (Nat × Nat)) : List AV → List AV → Prop
  | refl {l : List AV} : FzL k sz xs t l l
  | cons {v v' : AV} {l l' : List AV} (h : Fz k sz xs t v v') (hs : FzL k sz xs t l l') : FzL k sz xs t (v :: l) (v' :: l')
inductive FzS (k sz : Nat) (xs : List (List PV)) (t : Option (Nat × Nat)) : Nat → List Res → List Res → Prop
  | nil {i : Nat} : FzS k sz xs t i [] []
  | here {i : Nat} {r : Res} {l l' : List Res} (h : i = k) (hs : FzS k sz xs t (i + 1) l l') : FzS k sz xs t i (r :: l) (.no :: l')
  | box {i : Nat} {cs cs' : List AV} {l l' : List Res} (h : i ≠ k) (hc : FzL k sz xs t cs cs') (hs : FzS k sz xs t (i + 1) l l') : FzS k sz xs t i (.box cs :: l) (.box cs' :: l')
  | same {i : Nat} {r : Res} {l l' : List Res} (h : i ≠ k) (hs : FzS k sz xs t (i + 1) l l') : FzS k sz xs t i (r :: l) (r :: l')
section
variable {k sz : Nat} {xs : List (List PV)} {t : Option (Nat × Nat)}
inductive FzR (k sz : Nat) (xs : List (List PV)) (t : Option (Nat × Nat)) : Res → Res → Prop
  | box {cs cs' : List AV} (h : FzL k sz xs t cs cs') : FzR k sz xs t (.box cs) (.box cs')
  | same {r : Res} : FzR k sz xs t r r
end
end Go.Proofs.YtpacgphnpalepaaDoor
namespace Go.Proofs.YtpacgphnpalepaaDoor
set_option linter.unusedVariables false
set_option linter.unusedSimpArgs false
open Go.RowKit
end Go.Proofs.YtpacgphnpalepaaDoor
namespace Go.Proofs.YtpacgphnpalepaaDoor
set_option linter.unusedVariables false
set_option linter.unusedSimpArgs false
open Go.RowKit
section
variable {P : Program} {n : Nat} {ops : List Oper} {chk : List FP → Bool} {K : State → Prop} {rest : List Oper} {o : Oper} {fr : Fr} {σ : List Res} {acc : List FP} {ρ : Operand → AV} {σ0 : Nat → Res}
def SrcNI (P : Program) (av : AV) (σ : List Res) (sz : Nat) (ys : List (List PV)) (ins : Upds) : Prop := SrcN P av sz ys ins ∧ ∀ q ∈ ins, sto σ q.1 = q.2
end
inductive FzW (k sz n C T : Nat) : Fr → Fr → Prop
  | refl {l : Fr} : FzW k sz n C T l l
  | row {i n' C' : Nat} {l l' : Fr} (hn : n' = n) (hC : C' = C) (hs : FzW k sz n C T l l') : FzW k sz n C T ((i, .bsl k sz 0 n' C') :: l) ((i, .row T n) :: l')
  | same {i : Nat} {v : AV} {l l' : Fr} (hs : FzW k sz n C T l l') : FzW k sz n C T ((i, v) :: l) ((i, v) :: l')
section
end
end Go.Proofs.YtpacgphnpalepaaDoor
namespace Go.Proofs.YtpacgphnpalepaaDoor
set_option linter.unusedVariables false
set_option linter.unusedSimpArgs false
open Go.RowKit
def ACallsN (P : Program) (f : FuncId) (args : List AV) (σ : List Res) {ι : Type} (r : ι → AV) (σ' : ι → List Res) : Prop :=
  ∀ (I : Nat → CI) (M : Nat → Nat) (w : World) (cargs : Array Value), cargs.size = args.length → (∀ (i : Nat) (v : Value) (c : AV), cargs[i]? = some v → args[i]? = some c → Rp I M w v c) → Sto I M w (sto σ) → (∀ k, σ.length ≤ k → I k = .no) →
    Calls P f cargs w fun e w' => ∃ q cv I' M', e = .returned cv ∧ Rp I' M' w' cv (r q) ∧ Sto I' M' w' (sto (σ' q)) ∧ (∀ k, (σ' q).length ≤ k → I' k = .no) ∧ Ext (fun b => ∃ k, blkOf (I k) (sto σ k) = some b) I I' M M' w w' ∧
      ∀ k b, blkOf (I' k) (sto (σ' q) k) = some b → w.heap.size ≤ b ∨ ∃ k', blkOf (I k') (sto σ k') = some b
def RetOkN (P : Program) (fn : Func) {ι : Type} (r : ι → AV) (σ' : ι → List Res) (g : Ent) (e : Exit) (s : State) : Prop := ∃ q, RetOk P fn (r q) (σ' q) g e s
section
variable {P : Program} {n : Nat} {ops : List Oper} {chk : List FP → Bool} {K : State → Prop} {rest : List Oper} {o : Oper} {fr : Fr} {σ : List Res} {acc : List FP}
end
end Go.Proofs.YtpacgphnpalepaaDoor
