/-
  Calls that are given numbered things, and leave some, as a proof types them. Nothing of the dump is used; no condition.
-/
import Derived.Test.YtbbcokckealagaaASu
namespace Go.Proofs.Ytbbcokckealagaa
open Go.RowKit
set_option linter.unusedVariables false
set_option linter.unusedSimpArgs false
mutual
/-- with other numbers -/
inductive RenR (ρ : Nat → Nat) : AV → AV → Prop
  | any : RenR ρ .any .any
  | v {x : Value} : RenR ρ (.v x) (.v x)
  | sl {sz : Nat} {xs : List (List PV)} {f : Bool} : RenR ρ (.sl sz xs f) (.sl sz xs f)
  | ep {ys : List PV} {j : Nat} : RenR ρ (.ep ys j) (.ep ys j)
  | row {t n t' n' : Nat} (h : ρ t = t') (hn : n = n') : RenR ρ (.row t n) (.row t' n')
  | ptr {t n t' : Nat} (h : ρ t = t') : RenR ρ (.ptr t n) (.ptr t' n)
  | bsl {t sz lo n C t' : Nat} (h : ρ t = t') : RenR ρ (.bsl t sz lo n C) (.bsl t' sz lo n C)
  | agg {l m : List AV} (h : RenLs ρ l m) : RenR ρ (.agg l) (.agg m)
  | tup {l m : List AV} (h : RenLs ρ l m) : RenR ρ (.tup l) (.tup m)
  | fn {f : FuncId} {l m : List AV} (h : RenLs ρ l m) : RenR ρ (.fn f l) (.fn f m)
inductive RenLs (ρ : Nat → Nat) : List AV → List AV → Prop
  | nil : RenLs ρ [] []
  | cons {a b : AV} {l m : List AV} (h : RenR ρ a b) (hs : RenLs ρ l m) : RenLs ρ (a :: l) (b :: m)
end
mutual
theorem RenR.spec {ρ : Nat → Nat} : ∀ {a b : AV}, RenR ρ a b → a.ren ρ = b
  | _, _, .any => rfl
  | _, _, .v => rfl
  | _, _, .sl => rfl
  | _, _, .ep => rfl
  | _, _, .row h hn => by subst h hn; rfl
  | _, _, .ptr h => by subst h; rfl
  | _, _, .bsl h => by subst h; rfl
  | _, _, .agg h => by simp only [AV.ren]; rw [h.spec]
  | _, _, .tup h => by simp only [AV.ren]; rw [h.spec]
  | _, _, .fn h => by simp only [AV.ren]; rw [h.spec]
theorem RenLs.spec {ρ : Nat → Nat} : ∀ {l m : List AV}, RenLs ρ l m → AV.rens ρ l = m
  | _, _, .nil => rfl
  | _, _, .cons h hs => by simp only [AV.rens]; rw [h.spec, hs.spec]
end
/-- what the callee is given is there -/
inductive InsI (σ : List Res) (ρ : Nat → Nat) : List Nat → List Res → Prop
  | nil : InsI σ ρ [] []
  | box {k : Nat} {S : List Nat} {cs cs' : List AV} {rs : List Res} (h : sto σ k = .box cs') (hr : RenLs ρ cs cs') (hs : InsI σ ρ S rs) : InsI σ ρ (k :: S) (.box cs :: rs)
  | row {k sz : Nat} {S : List Nat} {xs xs' : List (List PV)} {rs : List Res} (h : sto σ k = .row sz xs') (he : xs' = xs) (hs : InsI σ ρ S rs) : InsI σ ρ (k :: S) (.row sz xs :: rs)
theorem InsI.spec {σ : List Res} {ρ : Nat → Nat} {S : List Nat} {rs : List Res} (h : InsI σ ρ S rs) : ∀ q ∈ insOf S ρ rs, sto σ q.1 = q.2 := by
  induction h with
  | nil => exact ins_nil
  | box h hr hs ih =>
    simp only [insOf]
    rw [hr.spec]
    exact ins_cons h ih
  | row h he hs ih =>
    subst he
    exact ins_cons h ih
inductive OutI (ρ : Nat → Nat) : Nat → List Res → Upds → Prop
  | nil {i : Nat} : OutI ρ i [] []
  | box {i k : Nat} {cs cs' : List AV} {rs : List Res} {us : Upds} (hk : ρ i = k) (hr : RenLs ρ cs cs') (hs : OutI ρ (i + 1) rs us) : OutI ρ i (.box cs :: rs) ((k, .box cs') :: us)
  | row {i k sz : Nat} {xs : List (List PV)} {rs : List Res} {us : Upds} (hk : ρ i = k) (hs : OutI ρ (i + 1) rs us) : OutI ρ i (.row sz xs :: rs) ((k, .row sz xs) :: us)
  | no {i k : Nat} {rs : List Res} {us : Upds} (hk : ρ i = k) (hs : OutI ρ (i + 1) rs us) : OutI ρ i (.no :: rs) ((k, .no) :: us)
theorem OutI.spec {ρ : Nat → Nat} {i : Nat} {rs : List Res} {us : Upds} (h : OutI ρ i rs us) : outsOf ρ i rs = us := by
  induction h with
  | nil => rfl
  | box hk hr hs ih => simp only [outsOf]; rw [hk, hr.spec, ih]
  | row hk hs ih => simp only [outsOf]; rw [hk, ih]
  | no hk hs ih => simp only [outsOf]; rw [hk, ih]
inductive Puts : List Res → Upds → List Res → Prop
  | nil {l : List Res} : Puts l [] l
  | cons {l l' l'' : List Res} {k : Nat} {r : Res} {us : Upds} (h : PutAt l k r l') (hs : Puts l' us l'') : Puts l ((k, r) :: us) l''
theorem Puts.spec {l l' : List Res} {us : Upds} (h : Puts l us l') : updL l us = l' := by
  induction h with
  | nil => rfl
  | cons h hs ih => simp only [updL]; rw [h.spec.2]; exact ih
section
variable {P : Program} {n : Nat} {ops : List Oper} {chk : List FP → Bool} {K : State → Prop} {rest : List Oper} {o : Oper} {fr : Fr} {σ : List Res} {acc : List FP}
theorem Run.cS {d nx : Nat} {x : Operand} {os : Array Operand} {ts : Array TypeId} {f : FuncId} {caps args0 : List AV} {σc σc' σ' : List Res} {r0 r : AV} {outs : Upds} {k2 : List Nat} (S : List Nat) (hc : ACalls P f args0 σc r0 σc') (ho : o.dst = some d) (hop : o.op = .call { callee := .value x, args := os, argTypes := ts }) (hw : wantA ops fr o = some true) (hd : Nat.blt d n = true)
    [CallI P f] (hx : evA fr x = .fn f caps) (he : Ends σ nx) (hargs : RenLs (renC S nx) args0 (os.toList.map (evA fr) ++ caps)) (hi : InsI σ (renC S nx) S σc) (hS : nodupB S = true) (hSn : S.all (fun k => Nat.blt k nx) = true) (hl : Nat.beq S.length σc.length = true) (hl' : Nat.ble σc.length σc'.length = true) (hlt : σc'.all (Res.lt σc'.length) = true) (hrl : r0.lt σc'.length = true)
    (hlt0 : σc.all (Res.lt σc.length) = true) (hal : AV.lts σc.length args0 = true) (hr0 : RenR (renC S nx) r0 r) (hou : OutI (renC S nx) 0 σc' outs) (hok : okU σ.length outs = true) (hpu : Puts σ outs σ') (hk2 : keys outs = k2) (hnew : k2.all (fun k => S.any (Nat.beq k) || Nat.ble nx k) = true)
    (hr : Run P n ops chk K rest ⟨(d, r) :: fr, σ'⟩ (acc ++ [(S, k2)])) : Run P n ops chk K (o :: rest) ⟨fr, σ⟩ acc := by
  have e1 := hou.spec
  subst e1
  exact Run.call (as_ := []) S hc ho hop hw hd hx he hargs.spec hS hSn hl hl' hlt hrl hlt0 hal hr0.spec hi.spec hok hpu.spec (keys_insOf _ _ _ (Nat.eq_of_beq_eq_true hl)) hk2 hnew hr
end
theorem thenA_n {A : State → Prop} {Q : Exit → State → Prop} {s : State} (h : A s) : thenA A Q .normal s := h
theorem Cf.cons' {σ : Nat → Res} {fr : Fr} {ρ : Nat → Nat} {t : Nat} {u v : AV} {r : Fr} (hg : fr.get t = u) (h : Cv σ u (v.ren ρ)) (hr : Cf σ fr ρ r) : Cf σ fr ρ ((t, v) :: r) := .cons (by rw [hg]; exact h) hr
theorem inB_n {k : Nat} {Q : Exit → State → Prop} {s : State} (h : Q .normal s) : inBlockA k Q .normal s := h
theorem Cv.rowE {σ : Nat → Res} {t n sz : Nat} {xs ys : List (List PV)} (h : σ t = .row sz xs) (hn : n = xs.length) (he : xs = ys) : Cv σ (.row t n) (.sl sz ys false) := he ▸ Cv.rowf h hn
/-- elements that are bytes -/
inductive IsB : List (List PV) → List UInt8 → Prop
  | base {l : List UInt8} : IsB (bsP l) l
  | nil : IsB [] []
  | app {xs ys : List (List PV)} {l m : List UInt8} (h : IsB xs l) (hs : IsB ys m) : IsB (xs ++ ys) (l ++ m)
  | cons {c : UInt8} {xs : List (List PV)} {l : List UInt8} (h : IsB xs l) : IsB ([PV.v (.int .u8 (c.toNat : Int))] :: xs) (c :: l)
  | lit {k : Int} {xs : List (List PV)} {l : List UInt8} (hk : 0 ≤ k ∧ k < 256) (h : IsB xs l) : IsB ([PV.v (.int .u8 k)] :: xs) (UInt8.ofNat k.toNat :: l)
theorem IsB.eq {xs : List (List PV)} {l : List UInt8} (h : IsB xs l) : xs = bsP l := by
  induction h with
  | base => rfl
  | nil => rfl
  | app _ _ h1 h2 => rw [h1, h2]; simp
  | cons _ h => rw [h]; simp
  | @lit k _ _ hk _ h =>
    rw [h]
    have : k.toNat < 256 := by omega
    simp [UInt8.toNat_ofNat', Nat.mod_eq_of_lt this]
    omega
theorem OpRI.toStrB {P : Program} {o : Oper} {ρ : Operand → AV} {σ : List Res} {x : Operand} {s d e : TypeId} {l : List UInt8} {xs : List (List PV)} {ins : Upds} [Und P s (.slice e)] [Und P e (.int .u8)] [Und P d .string] (ho : o.op = .convert s d x) (hx : Dat (sto σ) (ρ x) 1 xs ins) (hb : IsB xs l) : OpRI P o ρ σ ins (.v (.string (bs l))) := OpRI.toStr ho hx hb.eq
mutual
/-- less is asked of a value -/
inductive Wk : AV → AV → Prop
  | same {v : AV} : Wk v v
  | nil {sz : Nat} {f : Bool} : Wk (.sl sz [] f) (.v (.slice none 0 0))
  | full {sz : Nat} {xs : List (List PV)} {f : Bool} : Wk (.sl sz xs false) (.sl sz xs f)
  | agg {l m : List AV} (h : WkL l m) : Wk (.agg l) (.agg m)
inductive WkL : List AV → List AV → Prop
  | nil : WkL [] []
  | cons {a b : AV} {l m : List AV} (h : Wk a b) (hs : WkL l m) : WkL (a :: l) (b :: m)
end
mutual
theorem Wk.rp {I : Nat → CI} {M : Nat → Nat} {w : World} : ∀ {a b : AV}, Wk a b → ∀ {x : Value}, Rp I M w x b → Rp I M w x a
  | _, _, .same, _, h => h
  | _, _, .nil, _, h => by rw [h.val]; exact .sl (.nil _ _ _ _ _) (fun _ => rfl)
  | _, _, .full, _, h => by
    cases h with
    | sl h _ => exact .sl h (by simp)
  | _, _, .agg hl, _, h => by
    cases h with
    | @agg vs _ hs h1 hc =>
      obtain ⟨e, k⟩ := hl.rp (I := I) (M := M) (w := w)
      exact .agg (hs.trans e.symm) h1 fun i v c hv hc' => k i v c hc' fun b hb => hc i v b hv hb
theorem WkL.rp {I : Nat → CI} {M : Nat → Nat} {w : World} : ∀ {l m : List AV}, WkL l m → l.length = m.length ∧ ∀ (i : Nat) (v : Value) (c : AV), l[i]? = some c → (∀ b, m[i]? = some b → Rp I M w v b) → Rp I M w v c
  | _, _, .nil => ⟨rfl, fun i v c h => by simp at h⟩
  | _, _, .cons (a := a) (b := b) h hs => by
    obtain ⟨e, k⟩ := hs.rp (I := I) (M := M) (w := w)
    refine ⟨by simp [e], fun i v c hc hb => ?_⟩
    cases i with
    | zero =>
      obtain rfl : a = c := by simpa using hc
      exact h.rp (hb b rfl)
    | succ i => exact k i v c (by simpa using hc) fun b hb' => hb b (by simpa using hb')
end
/-- a call with arguments of which more is known -/
theorem ACalls.weak {P : Program} {f : FuncId} {args args' : List AV} {σ σ' : List Res} {r : AV} (h : ACalls P f args σ r σ') (hw : WkL args args') : ACalls P f args' σ r σ' := by
  intro I M w cargs ha hav hs hno
  obtain ⟨e, k⟩ := hw.rp (I := I) (M := M) (w := w)
  exact h I M w cargs (ha.trans e.symm) (fun i v c hv hc => k i v c hc fun b hb => hav i v b hv hb) hs hno
end Go.Proofs.Ytbbcokckealagaa
