/-
  Append of elements to an array of the call's own that is full: a new array, with room that is not known.
-/
import Derived.Test.YtgnlohecllokhaaBaC
namespace Go.Proofs.Ytgnlohecllokhaa
open Go.RowKit
set_option linter.unusedVariables false
set_option linter.unusedSimpArgs false
section
variable {P : Program} {n : Nat} {ops : List Oper} {chk : List FP → Bool} {K : State → Prop} {rest : List Oper} {o : Oper} {fr : Fr} {σ : List Res} {acc : List FP}
theorem Run.apBG {d k k0 m C mm sz bytes : Nat} {s x : Operand} {t tx e : TypeId} {dx : TypeDesc} {z : Value} {xs ys : List (List PV)} {insx : Upds} [Und P t (.slice e)] [Und P tx dx] [TyI P e z sz bytes] (hall : ∀ acc, chk acc = true) (ho : o.dst = some d) (hop : o.op = .call { callee := .builtin .append, args := #[s, x], argTypes := #[t, tx] })
    (hw : wantA ops fr o = some true) (hd : Nat.blt d n = true) (hdx : (∃ e', dx = .slice e') ∨ dx = .string) (hzs : z.cells.size = sz) (hz1 : z.cells.toList.all (·.oneCell') = true) (hsv : evA fr s = .bsl k0 sz 0 m C) (hy : SrcNI P (evA fr x) σ sz ys insx) (hk0 : sto σ k0 = .box (bxs xs)) (hsx : ∀ y ∈ xs, y.length = sz) (hC : xs.length = C) (hm : m + ys.length = mm) (hlt : C < mm) (hk : k = σ.length) (hkl : k0 < σ.length) (hki : k ∉ keys insx) (hb : mm * bytes ≤ 140737488355328) (h63 : mm ≤ maxLen)
    (hr : ∀ d', Run P n ops chk K rest ⟨(d, .bsl k sz 0 mm (mm + d')) :: fr, σ ++ [.box (bxs (xs.take m ++ ys ++ List.replicate d' (z.cells.toList.map PV.v)))]⟩ acc) : Run P n ops chk K (o :: rest) ⟨fr, σ⟩ acc := by
  subst hk
  have hO := OpSN.apBB σ.length hop hzs hz1 hsv (hy.1.g hdx hzs) hC hsx hm hlt (by omega) hki hb h63
  have hput : ∀ r, okU σ.length [(σ.length, r)] = true ∧ updL σ [(σ.length, r)] = σ ++ [r] := fun r => okU_one (putEnd σ r)
  exact .opN hall hw (by rw [ho]; exact hd) hO (fun q hq => by
    rcases List.mem_cons.1 hq with rfl | hq
    · exact hk0
    · exact hy.2 q hq) (fun d' => (hput _).1) (fun d' k' hk' => .inr (by
    obtain rfl : k' = σ.length := by simpa [keys] using hk'
    exact Nat.le_refl _)) (fun d' => by rw [ho, (hput _).2]; exact hr d')
end
end Go.Proofs.Ytgnlohecllokhaa
