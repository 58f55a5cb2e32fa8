/-
  Calls that are given numbered things, and leave some, as a proof types them. Nothing of the dump is used; no condition.
-/
import Derived.Test.YtbbcokckealagaaGreatQAC
namespace Go.Proofs.YtbbcokckealagaaGreat
set_option linter.unusedVariables false
set_option linter.unusedSimpArgs false
open Go.RowKit
mutual
inductive RenR (ρ : Nat → Nat) : AV → AV → Prop
  | any : RenR ρ .any .any
  | v {x : Value} : RenR ρ (.v x) (.v x)
  | sl {sz : Nat} {xs : List (List PV)} {f : Bool} : RenR ρ (.sl sz xs f) (.sl sz xs f)
  | ep {ys : List PV} {j : Nat} : RenR ρ (.ep ys j) (.ep ys j)
  | row {t n t' n' : Nat} (h : ρ t = t') (hn : n = n') : RenR ρ (.row t n) (.row t' n')
  | ptr {t n t' : Nat} (h : ρ t = t') : RenR ρ (.ptr t n) (.ptr t' n)
  | bsl {t sz lo n C t' : Nat} (h : ρ t = t') : RenR ρ (.bsl t sz lo n C) (.bsl t' sz lo n C)
  | mb {t lo t' : Nat} {n : Option Nat} (h : ρ t = t') : RenR ρ (.mb t lo n) (.mb t' lo n)
  | tp {t T n t' : Nat} (h : ρ t = t') : RenR ρ (.tp t T n) (.tp t' T n)
  | agg {l m : List AV} (h : RenLs ρ l m) : RenR ρ (.agg l) (.agg m)
  | tup {l m : List AV} (h : RenLs ρ l m) : RenR ρ (.tup l) (.tup m)
  | fn {f : FuncId} {l m : List AV} (h : RenLs ρ l m) : RenR ρ (.fn f l) (.fn f m)
inductive RenLs (ρ : Nat → Nat) : List AV → List AV → Prop
  | nil : RenLs ρ [] []
  | cons {a b : AV} {l m : List AV} (h : RenR ρ a b) (hs : RenLs ρ l m) : RenLs ρ (a :: l) (b :: m)
end
mutual
theorem RenR.spec {ρ : Nat → Nat} : ∀ {a b : AV}, RenR ρ a b → a.ren ρ = b
  | _, _, .any => rfl
  | _, _, .v => rfl
  | _, _, .sl => rfl
  | _, _, .ep => rfl
  | _, _, .row h hn => by subst h hn; rfl
  | _, _, .ptr h => by subst h; rfl
  | _, _, .bsl h => by subst h; rfl
  | _, _, .mb h => by subst h; rfl
  | _, _, .tp h => by subst h; rfl
  | _, _, .agg h => by simp only [AV.ren]; rw [h.spec]
  | _, _, .tup h => by simp only [AV.ren]; rw [h.spec]
  | _, _, .fn h => by simp only [AV.ren]; rw [h.spec]
theorem RenLs.spec {ρ : Nat → Nat} : ∀ {l m : List AV}, RenLs ρ l m → AV.rens ρ l = m
  | _, _, .nil => rfl
  | _, _, .cons h hs => by simp only [AV.rens]; rw [h.spec, hs.spec]
end
inductive InsI (σ : List Res) (ρ : Nat → Nat) : List Nat → List Res → Prop
  | nil : InsI σ ρ [] []
  | box {k : Nat} {S : List Nat} {cs cs' : List AV} {rs : List Res} (h : sto σ k = .box cs') (hr : RenLs ρ cs cs') (hs : InsI σ ρ S rs) : InsI σ ρ (k :: S) (.box cs :: rs)
  | row {k sz : Nat} {S : List Nat} {xs xs' : List (List PV)} {rs : List Res} (h : sto σ k = .row sz xs') (he : xs' = xs) (hs : InsI σ ρ S rs) : InsI σ ρ (k :: S) (.row sz xs :: rs)
  | mby {k : Nat} {S : List Nat} {l l' : List UInt8} {rs : List Res} (h : sto σ k = .mby l') (he : l' = l) (hs : InsI σ ρ S rs) : InsI σ ρ (k :: S) (.mby l :: rs)
theorem InsI.spec {σ : List Res} {ρ : Nat → Nat} {S : List Nat} {rs : List Res} (h : InsI σ ρ S rs) : ∀ q ∈ insOf S ρ rs, sto σ q.1 = q.2 := by
  induction h with
  | nil => exact ins_nil
  | box h hr hs ih =>
    simp only [insOf]
    rw [hr.spec]
    exact ins_cons h ih
  | row h he hs ih =>
    subst he
    exact ins_cons h ih
  | mby h he hs ih =>
    subst he
    exact ins_cons h ih
inductive OutI (ρ : Nat → Nat) : Nat → List Res → Upds → Prop
  | nil {i : Nat} : OutI ρ i [] []
  | box {i k : Nat} {cs cs' : List AV} {rs : List Res} {us : Upds} (hk : ρ i = k) (hr : RenLs ρ cs cs') (hs : OutI ρ (i + 1) rs us) : OutI ρ i (.box cs :: rs) ((k, .box cs') :: us)
  | row {i k sz : Nat} {xs : List (List PV)} {rs : List Res} {us : Upds} (hk : ρ i = k) (hs : OutI ρ (i + 1) rs us) : OutI ρ i (.row sz xs :: rs) ((k, .row sz xs) :: us)
  | mby {i k : Nat} {l : List UInt8} {rs : List Res} {us : Upds} (hk : ρ i = k) (hs : OutI ρ (i + 1) rs us) : OutI ρ i (.mby l :: rs) ((k, .mby l) :: us)
  | no {i k : Nat} {rs : List Res} {us : Upds} (hk : ρ i = k) (hs : OutI ρ (i + 1) rs us) : OutI ρ i (.no :: rs) ((k, .no) :: us)
theorem OutI.spec {ρ : Nat → Nat} {i : Nat} {rs : List Res} {us : Upds} (h : OutI ρ i rs us) : outsOf ρ i rs = us := by
  induction h with
  | nil => rfl
  | box hk hr hs ih => simp only [outsOf]; rw [hk, hr.spec, ih]
  | row hk hs ih => simp only [outsOf]; rw [hk, ih]
  | mby hk hs ih => simp only [outsOf]; rw [hk, ih]
  | no hk hs ih => simp only [outsOf]; rw [hk, ih]
inductive Puts : List Res → Upds → List Res → Prop
  | nil {l : List Res} : Puts l [] l
  | cons {l l' l'' : List Res} {k : Nat} {r : Res} {us : Upds} (h : PutAt l k r l') (hs : Puts l' us l'') : Puts l ((k, r) :: us) l''
theorem Puts.spec {l l' : List Res} {us : Upds} (h : Puts l us l') : updL l us = l' := by
  induction h with
  | nil => rfl
  | cons h hs ih => simp only [updL]; rw [h.spec.2]; exact ih
section
variable {P : Program} {n : Nat} {ops : List Oper} {chk : List FP → Bool} {K : State → Prop} {rest : List Oper} {o : Oper} {fr : Fr} {σ : List Res} {acc : List FP}
theorem Run.cS {d nx : Nat} {x : Operand} {os : Array Operand} {ts : Array TypeId} {f : FuncId} {caps args0 : List AV} {σc σc' σ' : List Res} {r0 r : AV} {outs : Upds} {k2 : List Nat} (S : List Nat) (hc : ACalls P f args0 σc r0 σc') (ho : o.dst = some d) (hop : o.op = .call { callee := .value x, args := os, argTypes := ts }) (hw : wantA ops fr o = some true) (hd : Nat.blt d n = true)
    [CallI P f] (hx : evA fr x = .fn f caps) (he : Ends σ nx) (hargs : RenLs (renC S nx) args0 (os.toList.map (evA fr) ++ caps)) (hi : InsI σ (renC S nx) S σc) (hS : nodupB S = true) (hSn : S.all (fun k => Nat.blt k nx) = true) (hl : Nat.beq S.length σc.length = true) (hl' : Nat.ble σc.length σc'.length = true) (hlt : σc'.all (Res.lt σc'.length) = true) (hrl : r0.lt σc'.length = true)
    (hlt0 : σc.all (Res.lt σc.length) = true) (hal : AV.lts σc.length args0 = true) (hr0 : RenR (renC S nx) r0 r) (hou : OutI (renC S nx) 0 σc' outs) (hok : okU σ.length outs = true) (hpu : Puts σ outs σ') (hk2 : keys outs = k2) (hnew : k2.all (fun k => S.any (Nat.beq k) || Nat.ble nx k) = true)
    (hr : Run P n ops chk K rest ⟨(d, r) :: fr, σ'⟩ (acc ++ [(S, k2)])) (hnt : noB caps = true := by rfl) : Run P n ops chk K (o :: rest) ⟨fr, σ⟩ acc := by
  have e1 := hou.spec
  subst e1
  exact Run.call (as_ := []) S hc ho hop hw hd hx he hargs.spec hS hSn hl hl' hlt hrl hlt0 hal hr0.spec hi.spec hok hpu.spec (keys_insOf _ _ _ (Nat.eq_of_beq_eq_true hl)) hk2 hnew hr hnt
end
theorem thenA_n {A : State → Prop} {Q : Exit → State → Prop} {s : State} (h : A s) : thenA A Q .normal s := h
theorem Cf.cons' {σ : Nat → Res} {fr : Fr} {ρ : Nat → Nat} {t : Nat} {u v : AV} {r : Fr} (hg : fr.get t = u) (h : Cv σ u (v.ren ρ)) (hr : Cf σ fr ρ r) : Cf σ fr ρ ((t, v) :: r) := .cons (by rw [hg]; exact h) hr
theorem inB_n {k : Nat} {Q : Exit → State → Prop} {s : State} (h : Q .normal s) : inBlockA k Q .normal s := h
theorem Cv.rowE {σ : Nat → Res} {t n sz : Nat} {xs ys : List (List PV)} (h : σ t = .row sz xs) (hn : n = xs.length) (he : xs = ys) : Cv σ (.row t n) (.sl sz ys false) := he ▸ Cv.rowf h hn
inductive IsB : List (List PV) → List UInt8 → Prop
  | base {l : List UInt8} : IsB (bsP l) l
  | nil : IsB [] []
  | app {xs ys : List (List PV)} {l m : List UInt8} (h : IsB xs l) (hs : IsB ys m) : IsB (xs ++ ys) (l ++ m)
  | cons {c : UInt8} {xs : List (List PV)} {l : List UInt8} (h : IsB xs l) : IsB ([PV.v (.int .u8 (c.toNat : Int))] :: xs) (c :: l)
  | lit {k : Int} {xs : List (List PV)} {l : List UInt8} (hk : 0 ≤ k ∧ k < 256) (h : IsB xs l) : IsB ([PV.v (.int .u8 k)] :: xs) (UInt8.ofNat k.toNat :: l)
theorem IsB.eq {xs : List (List PV)} {l : List UInt8} (h : IsB xs l) : xs = bsP l := by
  induction h with
  | base => rfl
  | nil => rfl
  | app _ _ h1 h2 => rw [h1, h2]; simp
  | cons _ h => rw [h]; simp
  | @lit k _ _ hk _ h =>
    rw [h]
    have : k.toNat < 256 := by omega
    simp [UInt8.toNat_ofNat', Nat.mod_eq_of_lt this]
    omega
theorem OpRI.toStrB {P : Program} {o : Oper} {ρ : Operand → AV} {σ : List Res} {x : Operand} {s d e : TypeId} {l : List UInt8} {xs : List (List PV)} {ins : Upds} [Und P s (.slice e)] [Und P e (.int .u8)] [Und P d .string] (ho : o.op = .convert s d x) (hx : Dat (sto σ) (ρ x) 1 xs ins) (hb : IsB xs l) : OpRI P o ρ σ ins (.v (.string (bs l))) := OpRI.toStr ho hx hb.eq
mutual
inductive Wk : AV → AV → Prop
  | same {v : AV} : Wk v v
  | nil {sz : Nat} {f : Bool} : Wk (.sl sz [] f) (.v (.slice none 0 0))
  | full {sz : Nat} {xs : List (List PV)} {f : Bool} : Wk (.sl sz xs false) (.sl sz xs f)
  | agg {l m : List AV} (h : WkL l m) : Wk (.agg l) (.agg m)
inductive WkL : List AV → List AV → Prop
  | nil : WkL [] []
  | cons {a b : AV} {l m : List AV} (h : Wk a b) (hs : WkL l m) : WkL (a :: l) (b :: m)
end
mutual
theorem Wk.rp {I : Nat → CI} {M : Nat → Nat} {w : World} : ∀ {a b : AV}, Wk a b → ∀ {x : Value}, Rp I M w x b → Rp I M w x a
  | _, _, .same, _, h => h
  | _, _, .nil, _, h => by rw [h.val]; exact .sl (.nil _ _ _ _ _) (fun _ => rfl)
  | _, _, .full, _, h => by
    cases h with
    | sl h _ => exact .sl h (by simp)
  | _, _, .agg hl, _, h => by
    cases h with
    | @agg vs _ hs h1 hc =>
      obtain ⟨e, k⟩ := hl.rp (I := I) (M := M) (w := w)
      exact .agg (hs.trans e.symm) h1 fun i v c hv hc' => k i v c hc' fun b hb => hc i v b hv hb
theorem WkL.rp {I : Nat → CI} {M : Nat → Nat} {w : World} : ∀ {l m : List AV}, WkL l m → l.length = m.length ∧ ∀ (i : Nat) (v : Value) (c : AV), l[i]? = some c → (∀ b, m[i]? = some b → Rp I M w v b) → Rp I M w v c
  | _, _, .nil => ⟨rfl, fun i v c h => by simp at h⟩
  | _, _, .cons (a := a) (b := b) h hs => by
    obtain ⟨e, k⟩ := hs.rp (I := I) (M := M) (w := w)
    refine ⟨by simp [e], fun i v c hc hb => ?_⟩
    cases i with
    | zero =>
      obtain rfl : a = c := by simpa using hc
      exact h.rp (hb b O)
    | succ i => exact k i v c (by simpa using hc) fun b hb' => hb b (by simpa using hb')
end
theorem ACalls.weak {P : Program} {f : FuncId} {args args' : List AV} {σ σ' : List Res} {r : AV} (h : ACalls P f args σ r σ') (hw : WkL args args') : ACalls P f args' σ r σ' := by
  intro I M w cargs ha hav hs hno
  obtain ⟨e, k⟩ := hw.rp (I := I) (M := M) (w := w)
  exact h I M w cargs (ha.trans e.symm) (fun i v c hv hc => k i v c hc fun b hb => hav i v b hv hb) hs hno
end Go.Proofs.YtbbcokckealagaaGreat
namespace Go.Proofs.YtbbcokckealagaaGreat
set_option linter.unusedVariables false
set_option linter.unusedSimpArgs false
open Go.RowKit
section
variable {P : Program} {n : Nat} {ops : List Oper} {chk : List FP → Bool} {K : State → Prop} {rest : List Oper} {o : Oper} {fr : Fr} {σ : List Res} {acc : List FP} {ρ : Operand → AV} {σ0 : Nat → Res}
theorem Run.ldNA {d t x k off : _} {D : TypeDesc} {z : Value} {sz bytes : Nat} {cs l : List AV} [Und P t D] [TyI P t z sz bytes] (ho : o.dst = some d) (hop : o.op = .load t x) (hw : wantA ops fr o = some true) (hd : Nat.blt d n = true) (hx : evA fr x = .ptr k off) (hD : isAggD D = true) (hk : sto σ k = .box cs) (hr : Run P n ops chk K rest ⟨(d, .agg l) :: fr, σ⟩ (acc ++ [([k], [])])) (hc : Sub cs off sz l := by ((repeat constructor); first | done | fail)) : Run P n ops chk K (o :: rest) ⟨fr, σ⟩ acc :=
  Run.ldN ho hop hw hd hx hD hk hc hr
theorem Run.bxA {d t x k : _} {v : AV} {cs : List AV} {σ' : List Res} (ho : o.dst = some d) (hop : o.op = .box t x) (hw : wantA ops fr o = some true) (hd : Nat.blt d n = true) (hr : Run P n ops chk K rest ⟨(d, .ptr k 0) :: fr, σ'⟩ (acc ++ [([], [k])])) (he : Ends σ k := by ((repeat constructor); first | done | fail)) (hx : evA fr x = v := by ((conv => lhs; whnf) <;> rfl)) (hc : Cells v cs := by (first|exact Cells.agg|exact Cells.one O)) (hσ : PutAt σ k (.box cs) σ' := by ((repeat constructor);first|done|fail)) : Run P n ops chk K (o :: rest) ⟨fr, σ⟩ acc :=
  Run.bx ho hop hw hd he hx hc hσ hr
theorem Run.alA {d t k : _} {cs : List AV} {σ' : List Res} [A : AllocI P t cs] (ho : o.dst = some d) (hop : o.op = .alloc t) (hw : wantA ops fr o = some true) (hd : Nat.blt d n = true) (hr : Run P n ops chk K rest ⟨(d, .ptr k 0) :: fr, σ'⟩ (acc ++ [([], [k])])) (he : Ends σ k := by ((repeat constructor); first | done | fail)) (hσ : PutAt σ k (.box cs) σ' := by ((repeat constructor); first | done | fail)) : Run P n ops chk K (o :: rest) ⟨fr, σ⟩ acc :=
  Run.al ho hop hw hd he hσ hr
theorem Run.stA {t x y k off : _} {v : AV} {z : Value} {sz bytes : Nat} {cs new cs' : List AV} {σ' : List Res} [TyI P t z sz bytes] (ho : o.dst = none) (hop : o.op = .store t x y) (hw : wantA ops fr o = some true) (hx : evA fr x = .ptr k off) (hk : sto σ k = .box cs) (hr : Run P n ops chk K rest ⟨fr, σ'⟩ (acc ++ [([k], [k])])) (hy : evA fr y = v := by ((conv => lhs; whnf) <;> rfl)) (hc : Cells v new := by (first|exact Cells.agg|exact Cells.one O)) (hl : Nat.beq new.length sz = true := by rfl) (hcs : Over cs off new cs' := by ((repeat constructor);first|done|fail)) (hσ : PutAt σ k (.box cs') σ' := by ((repeat constructor);first|done|fail)) : Run P n ops chk K (o :: rest) ⟨fr, σ⟩ acc :=
  Run.st ho hop hw hx hy hc hl hk hcs hσ hr
theorem Run.bsA {d t e nn : _} {parts : Array (Nat × Operand)} {z : Value} {sz bytes : Nat} {xs : List (List PV)} {ins : Upds} {ks : List Nat} [Und P t (.slice e)] [TyI P e z sz bytes] (ho : o.dst = some d) (hop : o.op = .buildSlice t nn parts) (hw : wantA ops fr o = some true) (hd : Nat.blt d n = true) (hn : parts.size = nn) (hk : keys ins = ks) (hr : Run P n ops chk K rest ⟨(d, .sl sz xs true) :: fr, σ⟩ (acc ++ [(ks, [])])) (hz : z.cells.size = sz := by rfl) (hsm : nn * sz ≤ 16777216 := by decide) (hx : Elems (evA fr) (sto σ) sz 0 parts.toList xs ins := by ((repeat (first|exact Elems.nil|apply Elems.cons|exact ToPs.nil|apply ToPs.cons|exact ToP.sl|exact ToP.rowf O O|exact ToP.row O|exact ToP.nil|exact ToP.v O|((conv=>lhs;whnf)<;>rfl)|rfl));first|done|fail)) (hi : ∀ q ∈ ins, sto σ q.1 = q.2 := by ((repeat (first|exact ins_nil|refine ins_cons O ?_));first|done|fail)) : Run P n ops chk K (o :: rest) ⟨fr, σ⟩ acc :=
  Run.bs ho hop hw hd hn hz hsm hx hi hk hr
theorem Run.apRA {d k nn sz bytes : Nat} {s x : Operand} {t tx e : TypeId} {dx : TypeDesc} {z : Value} {ys xs zs : List (List PV)} {insx : Upds} {ks : List Nat} {σ' : List Res} [Und P t (.slice e)] [Und P tx dx] [TyI P e z sz bytes] (ho : o.dst = some d) (hop : o.op = .call { callee := .builtin .append, args := #[s, x], argTypes := #[t, tx] }) (hw : wantA ops fr o = some true) (hd : Nat.blt d n = true) (hsv : evA fr s = .row k nn) (hk : sto σ k = .row sz xs) (hn : nn = xs.length) (hz : xs ++ ys = zs) (hks : k :: keys insx = ks) (hr : Run P n ops chk K rest ⟨(d, .row k zs.length) :: fr, σ'⟩ (acc ++ [(ks, [k])])) (hdx : (∃ e', dx = .slice e') ∨ dx = .string := by (first|exact Or.inl ⟨_, rfl⟩|exact Or.inr O)) (hzs : z.cells.size = sz := by rfl) (hxi : SrcI P (evA fr x) σ sz ys insx := by (first|exact SrcI.str O|exact SrcI.dat (by first|exact Dat.sl|exact Dat.nil|exact Dat.rowf O O|exact Dat.row O))) (hb : zs.length * bytes ≤ 140737488355328 := by (first|omega|(simp only [List.length_append, List.length_cons, List.length_nil, List.length_map, maxLen];omega)|(simp [maxLen];omega)|simp [maxLen])) (h63 : zs.length ≤ maxLen := by (first|omega|(simp only [List.length_append, List.length_cons, List.length_nil, List.length_map, maxLen];omega)|(simp [maxLen];omega)|simp [maxLen])) (hσ : PutAt σ k (.row sz zs) σ' := by ((repeat constructor);first|done|fail)) : Run P n ops chk K (o :: rest) ⟨fr, σ⟩ acc :=
  Run.apR ho hop hw hd hdx hzs hsv hk hn hxi hz hb h63 hσ hks hr
theorem Run.apFA {d k sz bytes : Nat} {s x : Operand} {t tx e : TypeId} {dx : TypeDesc} {z : Value} {ys xs zs : List (List PV)} {insx : Upds} {ks : List Nat} {σ' : List Res} [Und P t (.slice e)] [Und P tx dx] [TyI P e z sz bytes] (ho : o.dst = some d) (hop : o.op = .call { callee := .builtin .append, args := #[s, x], argTypes := #[t, tx] }) (hw : wantA ops fr o = some true) (hd : Nat.blt d n = true) (hz : xs ++ ys = zs) (hks : keys insx = ks) (hr : Run P n ops chk K rest ⟨(d, .row k zs.length) :: fr, σ'⟩ (acc ++ [(ks, [k])])) (hdx : (∃ e', dx = .slice e') ∨ dx = .string := by (first|exact Or.inl ⟨_, rfl⟩|exact Or.inr O)) (hzs : z.cells.size = sz := by rfl) (he : Ends σ k := by ((repeat constructor);first|done|fail)) (hsv : evA fr s = .sl sz xs true ∨ evA fr s = .v (.slice none 0 0) ∧ xs = [] := by (first|exact Or.inl O|exact Or.inr ⟨rfl, rfl⟩)) (hxi : SrcI P (evA fr x) σ sz ys insx := by (first|exact SrcI.str O|exact SrcI.dat (by first|exact Dat.sl|exact Dat.nil|exact Dat.rowf O O|exact Dat.row O))) (hb : zs.length * bytes ≤ 140737488355328 := by (first|omega|(simp only [List.length_append, List.length_cons, List.length_nil, List.length_map, maxLen];omega)|(simp [maxLen];omega)|simp [maxLen])) (h63 : zs.length ≤ maxLen := by (first|omega|(simp only [List.length_append, List.length_cons, List.length_nil, List.length_map, maxLen];omega)|(simp [maxLen];omega)|simp [maxLen])) (hki : (keys insx).all (fun j=>Nat.blt j k) = true := by rfl) (hσ : PutAt σ k (.row sz zs) σ' := by ((repeat constructor);first|done|fail)) : Run P n ops chk K (o :: rest) ⟨fr, σ⟩ acc :=
  Run.apF ho hop hw hd hdx hzs he hsv hxi hz hb h63 hki hσ hks hr
theorem Run.cSA {d nx : Nat} {x : Operand} {os : Array Operand} {ts : Array TypeId} {f : FuncId} {caps args0 : List AV} {σc σc' σ' : List Res} {r0 r : AV} {outs : Upds} {k2 : List Nat} (S : List Nat) (hc : ACalls P f args0 σc r0 σc') (ho : o.dst = some d) (hop : o.op = .call { callee := .value x, args := os, argTypes := ts }) (hw : wantA ops fr o = some true) (hd : Nat.blt d n = true) [CallI P f] (hx : evA fr x = .fn f caps) (hS : nodupB S = true) (hl : Nat.beq S.length σc.length = true) (hl' : Nat.ble σc.length σc'.length = true) (hlt : σc'.all (Res.lt σc'.length) = true) (hrl : r0.lt σc'.length = true) (hlt0 : σc.all (Res.lt σc.length) = true) (hal : AV.lts σc.length args0 = true) (hr : Run P n ops chk K rest ⟨(d, r) :: fr, σ'⟩ (acc ++ [(S, k2)])) (hnt : noB caps = true := by rfl) (he : Ends σ nx := by ((repeat constructor); first | done | fail)) (hargs : RenLs (renC S nx) args0 (os.toList.map (evA fr) ++ caps) := by ((repeat (first|exact RenLs.nil|apply RenLs.cons|exact RenR.v|exact RenR.sl|apply RenR.row|apply RenR.ptr|apply RenR.bsl|apply RenR.mb|apply RenR.tp|apply RenR.agg|apply RenR.tup|apply RenR.fn|exact RenR.ep|exact RenR.any|with_reducible rfl|(focus (simp;done))|rfl));first|done|fail)) (hi : InsI σ (renC S nx) S σc := by ((repeat (first|exact InsI.nil|apply InsI.box O|apply InsI.row O|apply InsI.mby O|exact RenLs.nil|apply RenLs.cons|exact RenR.v|exact RenR.sl|apply RenR.row|apply RenR.ptr|apply RenR.bsl|apply RenR.mb|apply RenR.tp|apply RenR.agg|apply RenR.tup|apply RenR.fn|exact RenR.ep|exact RenR.any|with_reducible rfl|(focus (simp;done))|rfl));first|done|fail)) (hSn : S.all (fun k=>Nat.blt k nx) = true := by rfl) (hr0 : RenR (renC S nx) r0 r := by ((repeat (first|exact RenLs.nil|apply RenLs.cons|exact RenR.v|exact RenR.sl|apply RenR.row|apply RenR.ptr|apply RenR.bsl|apply RenR.mb|apply RenR.tp|apply RenR.agg|apply RenR.tup|apply RenR.fn|exact RenR.ep|exact RenR.any|((conv=>lhs;whnf)<;>rfl)|rfl));first|done|fail)) (hou : OutI (renC S nx) 0 σc' outs := by ((repeat (first|exact OutI.nil|apply OutI.box|apply OutI.row|apply OutI.mby|apply OutI.no|exact RenLs.nil|apply RenLs.cons|exact RenR.v|exact RenR.sl|apply RenR.row|apply RenR.ptr|apply RenR.bsl|apply RenR.mb|apply RenR.tp|apply RenR.agg|apply RenR.tup|apply RenR.fn|exact RenR.ep|exact RenR.any|((conv=>lhs;whnf)<;>rfl)|rfl));first|done|fail)) (hok : okU σ.length outs = true := by rfl) (hpu : Puts σ outs σ' := by ((repeat (first|exact Puts.nil|apply Puts.cons|exact PutAt.new|exact PutAt.here|apply PutAt.there));first|done|fail)) (hk2 : keys outs = k2 := by rfl) (hnew : k2.all (fun k=>S.any (Nat.beq k) || Nat.ble nx k) = true := by rfl) : Run P n ops chk K (o :: rest) ⟨fr, σ⟩ acc :=
  Run.cS S hc ho hop hw hd hx he hargs hi hS hSn hl hl' hlt hrl hlt0 hal hr0 hou hok hpu hk2 hnew hr hnt
theorem Run.griA {d' : Nat} {c : Bool} {v : AV} {ins : Upds} {ks : List Nat} (hG : Gd ops fr o c) (ho : o.dst = some d') (hd' : Nat.blt d' n = true) (h : c = true → OpRI P o (evO fr) σ ins v ∧ okIfs fr o.op.operands.toList) (hk : keys ins = ks) (hr : Run P n ops chk K rest ⟨(d', .ifb c v) :: fr, σ⟩ (acc ++ [(ks, [])])) (hi : ∀ q ∈ ins, sto σ q.1 = q.2 := by ((repeat (first|exact ins_nil|refine ins_cons O ?_));first|done|fail)) : Run P n ops chk K (o :: rest) ⟨fr, σ⟩ acc :=
  Run.gri hG ho hd' hi h hk hr
theorem Run.glcA {d' t x k off : _} {c : Bool} {D : TypeDesc} {cs : List AV} {v : AV} [Und P t D] (hG : Gd ops fr o c) (ho : o.dst = some d') (hd' : Nat.blt d' n = true) (hop : o.op = .load t x) (hx : evO fr x = .ptr k off) (hD : isAggD D = false) (hk : sto σ k = .box cs) (hc : cs[off]? = some v) (hr : Run P n ops chk K rest ⟨(d', .ifb c v) :: fr, σ⟩ (acc ++ [([k], [])])) (hok : c = true → okIfs fr o.op.operands.toList := by (intro _; repeat (first|exact trivial|assumption|refine ⟨?_, ?_⟩))) : Run P n ops chk K (o :: rest) ⟨fr, σ⟩ acc :=
  Run.glc hG ho hd' hop hx hD hk hc hok hr
theorem Run.gccA {d' : Nat} {c : Bool} {x : Operand} {os : Array Operand} {ts : Array TypeId} {f : FuncId} {caps args0 : List AV} {r0 : AV} (hc : c = true → ACalls P f args0 [] r0 []) (hG : Gd ops fr o c) (ho : o.dst = some d') (hd' : Nat.blt d' n = true) (hop : o.op = .call { callee := .value x, args := os, argTypes := ts }) [CallI P f] (hx : evO fr x = .fn f caps) (hargs : os.toList.map (evO fr) ++ caps = args0) (hal : AV.lts 0 args0 = true) (hrl : r0.lt 0 = true) (hr : Run P n ops chk K rest ⟨(d', .ifb c r0) :: fr, σ⟩ (acc ++ [([], [])])) (hnt : noB caps = true := by rfl) (hok : c = true → okIfs fr o.op.operands.toList := by (intro _; repeat (first|exact trivial|assumption|refine ⟨?_, ?_⟩))) : Run P n ops chk K (o :: rest) ⟨fr, σ⟩ acc :=
  Run.gcc hc hG ho hd' hop hx hargs hal hrl hok hr hnt
theorem OpRI.indexAddrA {t e : TypeId} {x y : Operand} {k : IntKind} {i : Int} {sz : Nat} {xs : List (List PV)} {ys : List PV} {ins : Upds} {z : Value} {by_ : Nat} [Und P t (.slice e)] [TyI P e z sz by_] (ho : o.op = .indexAddr t x y) (hy : ρ y = .v (.int k i)) (hx : Dat (sto σ) (ρ x) sz xs ins := by (first|exact Dat.sl|exact Dat.nil|exact Dat.rowf O O|exact Dat.row O)) (hat : At xs i ys := by (first|assumption|solve_by_elim)) : OpRI P o ρ σ ins (.ep ys 0) :=
  OpRI.indexAddr ho hx hy hat
theorem OpRI.lenA {x : Operand} {t : TypeId} {sz : Nat} {xs : List (List PV)} {ins : Upds} {e : TypeId} [Und P t (.slice e)] (ho : o.op = .call { callee := .builtin .len, args := #[x], argTypes := #[t] }) {n : Nat} (hn : xs.length = n) (hx : Dat (sto σ) (ρ x) sz xs ins := by (first|exact Dat.sl|exact Dat.nil|exact Dat.rowf O O|exact Dat.row O)) : OpRI P o ρ σ ins (.v (.int .i64 n)) :=
  OpRI.len ho hx hn
theorem OpRI.sliceLA {t e : TypeId} {x y : Operand} {k : IntKind} {l : Int} {sz bytes : Nat} {z : Value} {xs r : List (List PV)} {ins : Upds} [Und P t (.slice e)] [TyI P e z sz bytes] (ho : o.op = .slice t x (some y) none none) (hy : ρ y = .v (.int k l)) (hr : xs.drop l.toNat = r) (hx : Dat (sto σ) (ρ x) sz xs ins := by (first|exact Dat.sl|exact Dat.nil|exact Dat.rowf O O|exact Dat.row O)) (h0 : 0 ≤ l := by (first|omega|(simp only [List.length_append, List.length_cons, List.length_nil, List.length_map];omega))) (hl : l ≤ xs.length := by (first|omega|(simp only [List.length_append, List.length_cons, List.length_nil, List.length_map];omega))) : OpRI P o ρ σ ins (.sl sz r false) :=
  OpRI.sliceL ho hx hy h0 hl hr
theorem OpRI.sliceHA {t e : TypeId} {x y : Operand} {k : IntKind} {h : Int} {sz bytes : Nat} {z : Value} {xs r : List (List PV)} {ins : Upds} [Und P t (.slice e)] [TyI P e z sz bytes] (ho : o.op = .slice t x none (some y) none) (hy : ρ y = .v (.int k h)) (hr : xs.take h.toNat = r) (hx : Dat (sto σ) (ρ x) sz xs ins := by (first|exact Dat.sl|exact Dat.nil|exact Dat.rowf O O|exact Dat.row O)) (h0 : 0 ≤ h := by (first|omega|(simp only [List.length_append, List.length_cons, List.length_nil, List.length_map];omega))) (hl : h ≤ xs.length := by (first|omega|(simp only [List.length_append, List.length_cons, List.length_nil, List.length_map];omega))) : OpRI P o ρ σ ins (.sl sz r false) :=
  OpRI.sliceH ho hx hy h0 hl hr
theorem OpRI.sliceLHA {t e : TypeId} {x y1 y2 : Operand} {k k' : IntKind} {l h : Int} {sz bytes : Nat} {z : Value} {xs r : List (List PV)} {ins : Upds} [Und P t (.slice e)] [TyI P e z sz bytes] (ho : o.op = .slice t x (some y1) (some y2) none) (hy1 : ρ y1 = .v (.int k l)) (hy2 : ρ y2 = .v (.int k' h)) (hr : (xs.take h.toNat).drop l.toNat = r) (hx : Dat (sto σ) (ρ x) sz xs ins := by (first|exact Dat.sl|exact Dat.nil|exact Dat.rowf O O|exact Dat.row O)) (h0 : 0 ≤ l := by (first|omega|(simp only [List.length_append, List.length_cons, List.length_nil, List.length_map];omega))) (h1 : l ≤ h := by (first|omega|(simp only [List.length_append, List.length_cons, List.length_nil, List.length_map];omega))) (h2 : h ≤ xs.length := by (first|omega|(simp only [List.length_append, List.length_cons, List.length_nil, List.length_map];omega))) : OpRI P o ρ σ ins (.sl sz r false) :=
  OpRI.sliceLH ho hx hy1 hy2 h0 h1 h2 hr
theorem OpRI.slice3hA {t e : TypeId} {x y2 y3 : Operand} {k' k'' : IntKind} {h : Int} {sz bytes : Nat} {z : Value} {xs r : List (List PV)} {ins : Upds} [Und P t (.slice e)] [TyI P e z sz bytes] (ho : o.op = .slice t x none (some y2) (some y3)) (hy2 : ρ y2 = .v (.int k' h)) (hy3 : ρ y3 = .v (.int k'' h)) (hr : xs.take h.toNat = r) (hx : Dat (sto σ) (ρ x) sz xs ins := by (first|exact Dat.sl|exact Dat.nil|exact Dat.rowf O O|exact Dat.row O)) (h0 : 0 ≤ h := by (first|omega|(simp only [List.length_append, List.length_cons, List.length_nil, List.length_map];omega))) (h2 : h ≤ xs.length := by (first|omega|(simp only [List.length_append, List.length_cons, List.length_nil, List.length_map];omega))) : OpRI P o ρ σ ins (.sl sz r true) :=
  OpRI.slice3h ho hx hy2 hy3 h0 h2 hr
theorem OpP.sliceStrLA {t : TypeId} {x y : Operand} {k : IntKind} {l : Int} {s r : List UInt8} [Und P t .string] (ho : o.op = .slice t x (some y) none none) (hx : ρ x = .v (.string (bs s))) (hy : ρ y = .v (.int k l)) (hr : s.drop l.toNat = r) (h0 : 0 ≤ l := by (first|omega|(simp only [List.length_append, List.length_cons, List.length_nil, List.length_map];omega))) (hl : l ≤ s.length := by (first|omega|(simp only [List.length_append, List.length_cons, List.length_nil, List.length_map];omega))) : OpP P o ρ (.v (.string (bs r))) :=
  OpP.sliceStrL ho hx hy h0 hl hr
theorem OpP.sliceStrHA {t : TypeId} {x y : Operand} {k : IntKind} {h : Int} {s r : List UInt8} [Und P t .string] (ho : o.op = .slice t x none (some y) none) (hx : ρ x = .v (.string (bs s))) (hy : ρ y = .v (.int k h)) (hr : s.take h.toNat = r) (h0 : 0 ≤ h := by (first|omega|(simp only [List.length_append, List.length_cons, List.length_nil, List.length_map];omega))) (hl : h ≤ s.length := by (first|omega|(simp only [List.length_append, List.length_cons, List.length_nil, List.length_map];omega))) : OpP P o ρ (.v (.string (bs r))) :=
  OpP.sliceStrH ho hx hy h0 hl hr
theorem OpP.sliceStrLHA {t : TypeId} {x y1 y2 : Operand} {k k' : IntKind} {l h : Int} {s r : List UInt8} [Und P t .string] (ho : o.op = .slice t x (some y1) (some y2) none) (hx : ρ x = .v (.string (bs s))) (hy1 : ρ y1 = .v (.int k l)) (hy2 : ρ y2 = .v (.int k' h)) (hr : (s.take h.toNat).drop l.toNat = r) (h0 : 0 ≤ l := by (first|omega|(simp only [List.length_append, List.length_cons, List.length_nil, List.length_map];omega))) (h1 : l ≤ h := by (first|omega|(simp only [List.length_append, List.length_cons, List.length_nil, List.length_map];omega))) (h2 : h ≤ s.length := by (first|omega|(simp only [List.length_append, List.length_cons, List.length_nil, List.length_map];omega))) : OpP P o ρ (.v (.string (bs r))) :=
  OpP.sliceStrLH ho hx hy1 hy2 h0 h1 h2 hr
theorem OpRI.toStrA {x : Operand} {s d e : TypeId} {l : List UInt8} {xs : List (List PV)} {ins : Upds} [Und P s (.slice e)] [Und P e (.int .u8)] [Und P d .string] (ho : o.op = .convert s d x) (hx : Dat (sto σ) (ρ x) 1 xs ins := by (first|exact Dat.sl|exact Dat.nil|exact Dat.rowf O O|exact Dat.row O)) (hb : xs = bsP l := by (first|rfl|assumption)) : OpRI P o ρ σ ins (.v (.string (bs l))) :=
  OpRI.toStr ho hx hb
theorem OpRI.toStrBA {P : Program} {o : Oper} {ρ : Operand → AV} {σ : List Res} {x : Operand} {s d e : TypeId} {l : List UInt8} {xs : List (List PV)} {ins : Upds} [Und P s (.slice e)] [Und P e (.int .u8)] [Und P d .string] (ho : o.op = .convert s d x) (hx : Dat (sto σ) (ρ x) 1 xs ins := by (first|exact Dat.sl|exact Dat.nil|exact Dat.rowf O O|exact Dat.row O)) (hb : IsB xs l := by ((repeat (first|exact IsB.base|exact IsB.nil|apply IsB.app|apply IsB.cons|apply IsB.lit|omega));first|done|fail)) : OpRI P o ρ σ ins (.v (.string (bs l))) :=
  OpRI.toStrB ho hx hb
theorem OpP.buildSA {P : Program} {o : Oper} {ρ : Operand → AV} {t : TypeId} {parts : Array (Nat × Operand)} {pl : List (Nat × Nat)} {zs out : List AV} [S : StrI P t pl zs] (ho : o.op = .build t parts) (h : Built ρ pl zs parts.toList out := by ((repeat (first|exact Built.nil|apply Built.cons O (by (conv=>lhs;whnf)<;>rfl) (by first|exact Cells.agg|exact Cells.one O) O (by (repeat constructor);first|done|fail)));first|done|fail)) : OpP P o ρ (.agg out) :=
  OpP.buildS ho h
section
variable {t t' : TypeId} {x y : Operand} {k : IntKind} {a b r : Int}
theorem OpP.addA (ho : o.op = .binOp .add t x y t') (hx : ρ x = .v (.int k a)) (hy : ρ y = .v (.int k b)) (hr : k.wrap (a + b) = r := by (first|exact IntWalk.i64_in _ (by omega)|exact IntWalk.u64_in _ (by omega)|exact IntWalk.u8_in _ (by omega)|exact IntWalk.i32_in _ (by omega)|exact IntWalk.u16_in _ (by omega)|exact IntWalk.u32_in _ (by omega)|rfl)) : OpP P o ρ (.v (.int k r)) :=
  OpP.add ho hx hy hr
theorem OpP.subA (ho : o.op = .binOp .sub t x y t') (hx : ρ x = .v (.int k a)) (hy : ρ y = .v (.int k b)) (hr : k.wrap (a - b) = r := by (first|exact IntWalk.i64_in _ (by omega)|exact IntWalk.u64_in _ (by omega)|exact IntWalk.u8_in _ (by omega)|exact IntWalk.i32_in _ (by omega)|exact IntWalk.u16_in _ (by omega)|exact IntWalk.u32_in _ (by omega)|rfl)) : OpP P o ρ (.v (.int k r)) :=
  OpP.sub ho hx hy hr
theorem OpP.mulA (ho : o.op = .binOp .mul t x y t') (hx : ρ x = .v (.int k a)) (hy : ρ y = .v (.int k b)) (hr : k.wrap (a * b) = r := by (first|exact IntWalk.i64_in _ (by omega)|exact IntWalk.u64_in _ (by omega)|exact IntWalk.u8_in _ (by omega)|exact IntWalk.i32_in _ (by omega)|exact IntWalk.u16_in _ (by omega)|exact IntWalk.u32_in _ (by omega)|rfl)) : OpP P o ρ (.v (.int k r)) :=
  OpP.mul ho hx hy hr
theorem OpP.negA {t : TypeId} {x : Operand} {k : IntKind} {a r : Int} (ho : o.op = .unOp .neg t x) (hx : ρ x = .v (.int k a)) (hr : k.wrap (-a) = r := by (first|exact IntWalk.i64_in _ (by omega)|exact IntWalk.u64_in _ (by omega)|exact IntWalk.u8_in _ (by omega)|exact IntWalk.i32_in _ (by omega)|exact IntWalk.u16_in _ (by omega)|exact IntWalk.u32_in _ (by omega)|rfl)) : OpP P o ρ (.v (.int k r)) :=
  OpP.neg ho hx hr
theorem OpP.convA {s d : TypeId} {k k' : IntKind} [Und P s (.int k')] [Und P d (.int k)] (ho : o.op = .convert s d x) (hx : ρ x = .v (.int k' a)) (hr : k.wrap a = r := by (first|exact IntWalk.i64_in _ (by omega)|exact IntWalk.u64_in _ (by omega)|exact IntWalk.u8_in _ (by omega)|exact IntWalk.i32_in _ (by omega)|exact IntWalk.u16_in _ (by omega)|exact IntWalk.u32_in _ (by omega)|rfl)) : OpP P o ρ (.v (.int k r)) :=
  OpP.conv ho hx hr
theorem OpP.indexStrA {t : TypeId} {x y : Operand} {k : IntKind} {i : Int} {s : List UInt8} {c : UInt8} [Und P t .string] (ho : o.op = .index t x y) (hx : ρ x = .v (.string (bs s))) (hy : ρ y = .v (.int k i)) (h0 : 0 ≤ i := by omega) (hc : s[i.toNat]? = some c := by (first|assumption|solve_by_elim)) : OpP P o ρ (.v (.int .u8 (c.toNat : Int))) :=
  OpP.indexStr ho hx hy h0 hc
theorem OpP.pickA {c u v : Operand} {b : Bool} {r : AV} (ho : o.op = .pick c u v) (hc : ρ c = .v (.bool b)) (hr : (match b with | true => ρ u | false => ρ v) = r := by ((conv => lhs; whnf) <;> rfl)) : OpP P o ρ r :=
  OpP.pick ho hc hr
end
theorem OpP.mvA {x : Operand} {v : AV} (ho : o.op = .move x) (hx : ρ x = v := by ((conv => lhs; whnf) <;> rfl)) : OpP P o ρ v := OpP.move x (Or.inl ho) hx
theorem OpP.asA {x : Operand} {v : AV} (ho : o.op = .assign x) (hx : ρ x = v := by ((conv => lhs; whnf) <;> rfl)) : OpP P o ρ v := OpP.move x (Or.inr ho) hx
theorem OpP.fieldAddrA {t : TypeId} {i off sz : Nat} {ag : Bool} {x : Operand} [F : FieldI P t i off sz ag] {k f0 : Nat} {r : Nat} (ho : o.op = .fieldAddr t x i) (hx : ρ x = .ptr k f0) (hs : sz ≠ 0 := by decide) (hr : f0 + off = r := by (first|(simp only [Nat.reduceAdd, Nat.zero_add, Nat.add_zero];rfl)|rfl)) : OpP P o ρ (.ptr k r) := OpP.fieldAddr ho hx hs hr
end
end Go.Proofs.YtbbcokckealagaaGreat
