/-
  The steps of a walk over values without addresses, as a proof types them. Nothing of the dump is used; no condition.
-/
import Derived.Test.YtgnlohecllokhaaBaA
import Derived.IntWalk
import Derived.Laws.IdiomStrings
import Derived.WalkSpells
namespace Go.Proofs.Ytgnlohecllokhaa
open Go.RowKit
set_option linter.unusedVariables false
set_option linter.unusedSimpArgs false
/-- the cells of a value that can be stored -/
inductive Cells : AV → List AV → Prop
  | agg {cs : List AV} : Cells (.agg cs) cs
  | one {v : AV} (h : v.one1 = true) : Cells v [v]
theorem Cells.ok {v : AV} {cs : List AV} (h : Cells v cs) : v.okCells = true ∧ v.cells = cs := by
  cases h with
  | agg => exact ⟨rfl, rfl⟩
  | one h => cases v <;> first | exact ⟨h, rfl⟩ | cases h
inductive Over0 : List AV → List AV → List AV → Prop
  | nil {l : List AV} : Over0 l [] l
  | cons {a b : AV} {l new l' : List AV} (h : Over0 l new l') : Over0 (a :: l) (b :: new) (b :: l')
/-- cells laid over others -/
inductive Over : List AV → Nat → List AV → List AV → Prop
  | at_ {l new l' : List AV} (h : Over0 l new l') : Over l 0 new l'
  | skip {a : AV} {l new l' : List AV} {k : Nat} (h : Over l k new l') : Over (a :: l) (k + 1) new (a :: l')
theorem Over0.spec {l new l' : List AV} (h : Over0 l new l') : new.length ≤ l.length ∧ new ++ l.drop new.length = l' := by
  induction h with
  | nil => exact ⟨by simp, by simp⟩
  | cons h ih => exact ⟨by simp only [List.length_cons]; omega, by simp [ih.2]⟩
theorem Over.spec {l new l' : List AV} {k : Nat} (h : Over l k new l') : k + new.length ≤ l.length ∧ l.take k ++ (new ++ l.drop (k + new.length)) = l' := by
  induction h with
  | at_ h => obtain ⟨h1, h2⟩ := h.spec; exact ⟨by omega, by simpa using h2⟩
  | skip h ih => exact ⟨by simp only [List.length_cons]; omega, by rw [← ih.2, Nat.add_right_comm]; simp⟩
/-- some of a list's elements -/
inductive Sub : List AV → Nat → Nat → List AV → Prop
  | zero {l : List AV} : Sub l 0 0 []
  | take {a : AV} {l m : List AV} {n : Nat} (h : Sub l 0 n m) : Sub (a :: l) 0 (n + 1) (a :: m)
  | skip {a : AV} {l m : List AV} {k n : Nat} (h : Sub l k n m) : Sub (a :: l) (k + 1) n m
theorem Sub.spec {l m : List AV} {k n : Nat} (h : Sub l k n m) : k + n ≤ l.length ∧ (l.drop k).take n = m := by
  induction h with
  | zero => exact ⟨by simp, by simp⟩
  | take h ih => exact ⟨by simp only [List.length_cons]; omega, by simpa using ih.2⟩
  | skip h ih => exact ⟨by simp only [List.length_cons]; omega, by simpa using ih.2⟩
inductive PavR : PV → AV → Prop
  | v {x : Value} : PavR (.v x) (.v x)
  | sl {sz : Nat} {xs : List (List PV)} : PavR (.sl sz xs) (.sl sz xs false)
theorem PavR.spec {p : PV} {a : AV} (h : PavR p a) : p.av = a := by cases h <;> rfl
/-- data, as values -/
inductive SubP : List PV → Nat → Nat → List AV → Prop
  | zero {l : List PV} : SubP l 0 0 []
  | take {a : PV} {b : AV} {l : List PV} {m : List AV} {n : Nat} (hb : PavR a b) (h : SubP l 0 n m) : SubP (a :: l) 0 (n + 1) (b :: m)
  | skip {a : PV} {l : List PV} {m : List AV} {k n : Nat} (h : SubP l k n m) : SubP (a :: l) (k + 1) n m
theorem SubP.spec {l : List PV} {m : List AV} {k n : Nat} (h : SubP l k n m) : k + n ≤ l.length ∧ ((l.drop k).take n).map PV.av = m := by
  induction h with
  | zero => exact ⟨by simp, by simp⟩
  | take hb h ih => exact ⟨by simp only [List.length_cons]; omega, by simpa [hb.spec] using ih.2⟩
  | skip h ih => exact ⟨by simp only [List.length_cons]; omega, by simpa using ih.2⟩
mutual
theorem ren_lt0 {ρ : Nat → Nat} : ∀ {p : AV}, p.lt 0 = true → p.ren ρ = p
  | .any, _ | .v _, _ | .sl _ _ _, _ | .ep _ _, _ => rfl
  | .agg cs, h => by simp only [AV.ren]; rw [rens_lt0 cs (by simpa [AV.lt] using h)]
  | .tup cs, h => by simp only [AV.ren]; rw [rens_lt0 cs (by simpa [AV.lt] using h)]
  | .fn f cs, h => by simp only [AV.ren]; rw [rens_lt0 cs (by simpa [AV.lt] using h)]
  | .ifb b v, h => by simp only [AV.ren]; rw [ren_lt0 (p := v) (by simpa [AV.lt] using h)]
  | .row t n, h => by simp [AV.lt] at h
  | .ptr k off, h => by simp [AV.lt] at h
  | .bsl k _ _ _ _, h => by simp [AV.lt] at h
theorem rens_lt0 {ρ : Nat → Nat} : ∀ (l : List AV), AV.lts 0 l = true → AV.rens ρ l = l
  | [], _ => rfl
  | c :: cs, h => by
    simp only [AV.lts, Bool.and_eq_true] at h
    simp only [AV.rens]
    rw [ren_lt0 h.1, rens_lt0 cs h.2]
end
/-- one numbered thing changed, or a new one -/
inductive PutAt : List Res → Nat → Res → List Res → Prop
  | new {r : Res} : PutAt [] 0 r [r]
  | here {a r : Res} {l : List Res} : PutAt (a :: l) 0 r (r :: l)
  | there {a r : Res} {l l' : List Res} {k : Nat} (h : PutAt l k r l') : PutAt (a :: l) (k + 1) r (a :: l')
theorem PutAt.spec {l l' : List Res} {k : Nat} {r : Res} (h : PutAt l k r l') : k ≤ l.length ∧ putR l k r = l' := by
  induction h with
  | new => exact ⟨Nat.le_refl _, rfl⟩
  | here => exact ⟨Nat.zero_le _, rfl⟩
  | @there a r l l' k h ih =>
    refine ⟨by simp only [List.length_cons]; omega, ?_⟩
    rw [← ih.2]
    unfold putR
    have : Nat.blt (k + 1) (a :: l).length = Nat.blt k l.length := by
      simp only [List.length_cons, Nat.blt, Nat.ble]
    rw [this]
    cases Nat.blt k l.length <;> simp
/-- new things at the end -/
inductive Ends : List Res → Nat → Prop
  | nil : Ends [] 0
  | cons {a : Res} {l : List Res} {k : Nat} (h : Ends l k) : Ends (a :: l) (k + 1)
theorem Ends.spec {l : List Res} {k : Nat} (h : Ends l k) : k = l.length := by
  induction h with
  | nil => rfl
  | cons h ih => simp [ih]
/-- what alloc makes of a type -/
class AllocI (P : Program) (t : TypeId) (cs : outParam (List AV)) : Prop where
  eq : ∃ z sz bytes, TyI P t z sz bytes ∧ z.cells.toList.all (·.oneCell') = true ∧ (zav z).cells = cs
section
variable {P : Program} {n : Nat} {ops : List Oper} {chk : List FP → Bool} {K : State → Prop} {rest : List Oper} {o : Oper} {fr : Fr} {σ : List Res} {acc : List FP}
theorem okU_one {σ σ' : List Res} {k : Nat} {r : Res} (h : PutAt σ k r σ') : okU σ.length [(k, r)] = true ∧ updL σ [(k, r)] = σ' := by
  obtain ⟨h1, h2⟩ := h.spec
  exact ⟨by simp [okU, h1], by simpa [updL] using h2⟩
/-- an operation that only computes -/
theorem Run.p {d : Nat} {v : AV} (ho : o.dst = some d) (hw : wantA ops fr o = some true) (hd : Nat.blt d n = true) (h : OpP P o (evA fr) v) (hr : Run P n ops chk K rest ⟨(d, v) :: fr, σ⟩ (acc ++ [([], [])])) : Run P n ops chk K (o :: rest) ⟨fr, σ⟩ acc :=
  .op (ins := []) (outs := []) (v := v) hw (by rw [ho]; exact hd) h.s (fun _ h => by cases h) rfl (fun _ h => by cases h) (by rw [ho]; exact hr)
/-- an operation that reads numbered things -/
theorem Run.r {d : Nat} {v : AV} {ins : Upds} {ks : List Nat} (ho : o.dst = some d) (hw : wantA ops fr o = some true) (hd : Nat.blt d n = true) (h : OpR P o (evA fr) ins v) (hi : ∀ q ∈ ins, sto σ q.1 = q.2) (hk : keys ins = ks) (hr : Run P n ops chk K rest ⟨(d, v) :: fr, σ⟩ (acc ++ [(ks, [])])) : Run P n ops chk K (o :: rest) ⟨fr, σ⟩ acc :=
  .op (ins := ins) (outs := []) (v := v) hw (by rw [ho]; exact hd) h.s hi rfl (fun _ h => by cases h) (by rw [ho, hk]; exact hr)
theorem one_in {σ : List Res} {k : Nat} {r : Res} (h : sto σ k = r) : ∀ q ∈ [(k, r)], sto σ q.1 = q.2 := fun q hq => by
  obtain rfl := List.mem_singleton.1 hq; exact h
theorem Run.ld1 {d t x k off : _} {D : TypeDesc} {cs : List AV} {c : AV} [Und P t D] (ho : o.dst = some d) (hop : o.op = .load t x) (hw : wantA ops fr o = some true) (hd : Nat.blt d n = true) (hx : evA fr x = .ptr k off) (hD : isAggD D = false) (hk : sto σ k = .box cs) (hc : cs[off]? = some c)
    (hr : Run P n ops chk K rest ⟨(d, c) :: fr, σ⟩ (acc ++ [([k], [])])) : Run P n ops chk K (o :: rest) ⟨fr, σ⟩ acc :=
  Run.r ho hw hd (OpR.load1 hop hx hD hc) (one_in hk) rfl hr
theorem Run.ldN {d t x k off : _} {D : TypeDesc} {z : Value} {sz bytes : Nat} {cs l : List AV} [Und P t D] [TyI P t z sz bytes] (ho : o.dst = some d) (hop : o.op = .load t x) (hw : wantA ops fr o = some true) (hd : Nat.blt d n = true) (hx : evA fr x = .ptr k off) (hD : isAggD D = true) (hk : sto σ k = .box cs) (hc : Sub cs off sz l)
    (hr : Run P n ops chk K rest ⟨(d, .agg l) :: fr, σ⟩ (acc ++ [([k], [])])) : Run P n ops chk K (o :: rest) ⟨fr, σ⟩ acc :=
  Run.r ho hw hd (OpR.loadN hop hx hD hc.spec.1 hc.spec.2) (one_in hk) rfl hr
/-- a new variable -/
theorem Run.bx {d t x k : _} {v : AV} {cs : List AV} {σ' : List Res} (ho : o.dst = some d) (hop : o.op = .box t x) (hw : wantA ops fr o = some true) (hd : Nat.blt d n = true) (he : Ends σ k) (hx : evA fr x = v) (hc : Cells v cs) (hσ : PutAt σ k (.box cs) σ')
    (hr : Run P n ops chk K rest ⟨(d, .ptr k 0) :: fr, σ'⟩ (acc ++ [([], [k])])) : Run P n ops chk K (o :: rest) ⟨fr, σ⟩ acc :=
  .op (ins := []) (outs := [(k, .box cs)]) (v := .ptr k 0) hw (by rw [ho]; exact hd) (OpS.boxed k hop hx hc.ok.1 hc.ok.2) (fun _ h => by cases h) (okU_one hσ).1 (fun k' hk => by
    obtain rfl : k' = k := by simpa [keys] using hk
    exact .inr (Nat.le_of_eq he.spec.symm)) (by rw [ho, (okU_one hσ).2]; exact hr)
theorem Run.al {d t k : _} {cs : List AV} {σ' : List Res} [A : AllocI P t cs] (ho : o.dst = some d) (hop : o.op = .alloc t) (hw : wantA ops fr o = some true) (hd : Nat.blt d n = true) (he : Ends σ k) (hσ : PutAt σ k (.box cs) σ')
    (hr : Run P n ops chk K rest ⟨(d, .ptr k 0) :: fr, σ'⟩ (acc ++ [([], [k])])) : Run P n ops chk K (o :: rest) ⟨fr, σ⟩ acc := by
  obtain ⟨z, sz, bytes, T, h1, h2⟩ := A.eq
  exact .op (ins := []) (outs := [(k, .box cs)]) (v := .ptr k 0) hw (by rw [ho]; exact hd) (OpS.alloc k hop h1 h2) (fun _ h => by cases h) (okU_one hσ).1 (fun k' hk => by
    obtain rfl : k' = k := by simpa [keys] using hk
    exact .inr (Nat.le_of_eq he.spec.symm)) (by rw [ho, (okU_one hσ).2]; exact hr)
/-- a store into a variable -/
theorem Run.st {t x y k off : _} {v : AV} {z : Value} {sz bytes : Nat} {cs new cs' : List AV} {σ' : List Res} [TyI P t z sz bytes] (ho : o.dst = none) (hop : o.op = .store t x y) (hw : wantA ops fr o = some true) (hx : evA fr x = .ptr k off) (hy : evA fr y = v) (hc : Cells v new) (hl : Nat.beq new.length sz = true) (hk : sto σ k = .box cs) (hcs : Over cs off new cs') (hσ : PutAt σ k (.box cs') σ')
    (hr : Run P n ops chk K rest ⟨fr, σ'⟩ (acc ++ [([k], [k])])) : Run P n ops chk K (o :: rest) ⟨fr, σ⟩ acc := by
  have hl := Nat.eq_of_beq_eq_true hl
  refine .op (ins := [(k, .box cs)]) (outs := [(k, .box cs')]) (v := .any) hw (by rw [ho]; rfl) (OpS.store hop hx hy hc.ok.1 hc.ok.2 hl (by have := hcs.spec.1; omega) (by rw [← hl]; exact hcs.spec.2)) (one_in hk) (okU_one hσ).1 (fun k' hk => ?_) (by rw [ho, (okU_one hσ).2]; exact hr)
  obtain rfl : k' = k := by simpa [keys] using hk
  exact .inl (by simp [keys])
theorem Run.fin (hc : chk acc = true) (hK : K ⟨fr, σ⟩) : Run P n ops chk K [] ⟨fr, σ⟩ acc := .nil hc hK
/-- a frame with more slots -/
inductive ExtF (fr : Fr) : Fr → Prop
  | refl : ExtF fr fr
  | cons {d : Nat} {v : AV} {fr' : Fr} (h : ExtF fr fr') (hd : fr.get d = .any) : ExtF fr ((d, v) :: fr')
/-- a guarded operation that does not run -/
theorem Run.sk {d : Nat} (ho : o.dst = some d) (hw : wantA ops fr o = some false) (hd : Nat.blt d n = true) (hr : Run P n ops chk K rest ⟨(d, .v undef) :: fr, σ⟩ (acc ++ [([], [])])) : Run P n ops chk K (o :: rest) ⟨fr, σ⟩ acc :=
  .skip ([], []) hw (by rw [ho]; exact hd) (by rw [ho]; exact hr)
/-- without the condition -/
def strip : AV → AV
  | .ifb _ v => v
  | v => v
def okIf : AV → Prop
  | .ifb b _ => b = true
  | _ => True
def okIfs (fr : Fr) : List Operand → Prop
  | [] => True
  | x :: r => okIf (evA fr x) ∧ okIfs fr r
def evO (fr : Fr) (x : Operand) : AV := strip (evA fr x)
theorem okIfs.get {fr : Fr} : ∀ {l : List Operand}, okIfs fr l → ∀ x ∈ l, okIf (evA fr x)
  | [], _, x, hx => by cases hx
  | y :: r, h, x, hx => by
    rcases List.mem_cons.1 hx with rfl | hx
    · exact h.1
    · exact okIfs.get h.2 x hx
theorem OpS.open_ {P : Program} {o : Oper} {fr : Fr} {ins outs : Upds} {v : AV} (hs : OpS P o (evO fr) ins v outs) (hk : okIfs fr o.op.operands.toList) : OpS P o (evA fr) ins v outs := by
  intro I M w a σ K Q hop hst hi hn hK
  refine hs I M w a σ K Q (fun x hx => ?_) hst hi hn hK
  have h1 := hop x hx
  have h2 := hk.get x hx
  unfold evO
  generalize evA fr x = u at h1 h2
  generalize a.eval x = xv at h1 ⊢
  cases u with
  | ifb b v =>
    cases h1 with
    | ifb h _ => exact h h2
  | _ => exact h1
/-- a guarded operation that only computes or reads: what it yields if it runs -/
theorem Run.gp {d' : Nat} {c : Bool} {v : AV} {ins : Upds} {ks : List Nat} (hw : wantA ops fr o = some c) (ho : o.dst = some d') (hd' : Nat.blt d' n = true)
    (h : c = true → OpS P o (evA fr) ins v []) (hi : ∀ q ∈ ins, sto σ q.1 = q.2) (hk : keys ins = ks) (hr : Run P n ops chk K rest ⟨(d', .ifb c v) :: fr, σ⟩ (acc ++ [(ks, [])])) : Run P n ops chk K (o :: rest) ⟨fr, σ⟩ acc := by
  cases hcc : c with
  | true =>
    have h1 := h hcc
    refine .op (ins := ins) (outs := []) (v := v) (by rw [hw, hcc]) (by rw [ho]; exact hd') h1 hi rfl (fun _ h => by cases h) ?_
    rw [ho]
    refine .conv (fr' := (d', .ifb c v) :: fr) (fun t => ?_) (by rw [hk]; exact hr)
    simp only [Fr.put, Fr.get]
    cases Nat.beq t d' with
    | true => exact .ifb hcc .same
    | false => exact .same
  | false =>
    refine .skip (ks, []) (by rw [hw, hcc]) (by rw [ho]; exact hd') ?_
    rw [ho]
    refine .conv (fr' := (d', .ifb c v) :: fr) (fun t => ?_) hr
    simp only [Fr.put, Fr.get]
    cases Nat.beq t d' with
    | true => exact .ifF hcc
    | false => exact .same
/-- what a guard's condition is -/
inductive Gd (ops : List Oper) (fr : Fr) (o : Oper) : Bool → Prop
  | t {j d : Nat} {q : Oper} {b : Bool} (hg : o.guard = some (j, true)) (hq : ops[j]? = some q) (hd : q.dst = some d) (hb : fr.get d = .v (.bool b)) : Gd ops fr o b
  | f {j d : Nat} {q : Oper} {b : Bool} (hg : o.guard = some (j, false)) (hq : ops[j]? = some q) (hd : q.dst = some d) (hb : fr.get d = .v (.bool b)) : Gd ops fr o (!b)
  | t2 {j d : Nat} {q : Oper} {b c : Bool} (hg : o.guard = some (j, true)) (hq : ops[j]? = some q) (hd : q.dst = some d) (hb : fr.get d = .ifb c (.v (.bool b))) : Gd ops fr o (c && b)
  | f2 {j d : Nat} {q : Oper} {b c : Bool} (hg : o.guard = some (j, false)) (hq : ops[j]? = some q) (hd : q.dst = some d) (hb : fr.get d = .ifb c (.v (.bool b))) : Gd ops fr o (c && !b)
theorem Gd.want {ops : List Oper} {fr : Fr} {o : Oper} {c : Bool} (h : Gd ops fr o c) : wantA ops fr o = some c := by
  cases h with
  | t hg hq hd hb => simp [wantA, hg, hq, hd, hb, wantV]
  | f hg hq hd hb => simp [wantA, hg, hq, hd, hb, wantV]
  | t2 hg hq hd hb => simp [wantA, hg, hq, hd, hb, wantV]
  | f2 hg hq hd hb => simp [wantA, hg, hq, hd, hb, wantV]
theorem Run.gpc {d' : Nat} {c : Bool} {v : AV} (hG : Gd ops fr o c) (ho : o.dst = some d') (hd' : Nat.blt d' n = true) (h : c = true → OpP P o (evO fr) v ∧ okIfs fr o.op.operands.toList) (hr : Run P n ops chk K rest ⟨(d', .ifb c v) :: fr, σ⟩ (acc ++ [([], [])])) : Run P n ops chk K (o :: rest) ⟨fr, σ⟩ acc :=
  Run.gp (ins := []) (ks := []) hG.want ho hd' (fun hc => OpS.open_ (h hc).1.s (h hc).2) (fun _ h => by cases h) rfl hr
theorem Run.grc {d' : Nat} {c : Bool} {v : AV} {ins : Upds} (hG : Gd ops fr o c) (ho : o.dst = some d') (hd' : Nat.blt d' n = true) (h : OpR P o (evO fr) ins v) (hi : ∀ q ∈ ins, sto σ q.1 = q.2) (hok : c = true → okIfs fr o.op.operands.toList) (hr : Run P n ops chk K rest ⟨(d', .ifb c v) :: fr, σ⟩ (acc ++ [(keys ins, [])])) : Run P n ops chk K (o :: rest) ⟨fr, σ⟩ acc :=
  Run.gp (ins := ins) hG.want ho hd' (fun hc => OpS.open_ h.s (hok hc)) hi rfl hr
theorem Run.glc {d' t x k off : _} {c : Bool} {D : TypeDesc} {cs : List AV} {v : AV} [Und P t D] (hG : Gd ops fr o c) (ho : o.dst = some d') (hd' : Nat.blt d' n = true)
    (hop : o.op = .load t x) (hx : evO fr x = .ptr k off) (hD : isAggD D = false) (hk : sto σ k = .box cs) (hc : cs[off]? = some v) (hok : c = true → okIfs fr o.op.operands.toList) (hr : Run P n ops chk K rest ⟨(d', .ifb c v) :: fr, σ⟩ (acc ++ [([k], [])])) : Run P n ops chk K (o :: rest) ⟨fr, σ⟩ acc :=
  Run.grc hG ho hd' (OpR.load1 hop hx hD hc) (one_in hk) hok hr
/-- a guarded 'and', 'or' -/
theorem Run.gpick {d' : Nat} {g b p : Bool} {x u v : Operand} (hG : Gd ops fr o g) (ho : o.dst = some d') (hd' : Nat.blt d' n = true) (hop : o.op = .pick x u v) (hx : evA fr x = .ifb g (.v (.bool b))) (hu : evA fr u = .ifb (g && b) (.v (.bool p))) (hv : evA fr v = .v (.bool false))
    (hr : Run P n ops chk K rest ⟨(d', .ifb g (.v (.bool (b && p)))) :: fr, σ⟩ (acc ++ [([], [])])) : Run P n ops chk K (o :: rest) ⟨fr, σ⟩ acc := by
  refine Run.gp (ins := []) (ks := []) hG.want ho hd' (fun hc => OpP.s fun I M w a h => ?_) (fun _ h => by cases h) rfl hr
  have h1 := h x (by simp [hop, Op.operands])
  have h2 := h u (by simp [hop, Op.operands])
  have h3 := h v (by simp [hop, Op.operands])
  rw [hx] at h1; rw [hu] at h2; rw [hv] at h3
  have e3 := h3.val
  subst hc
  generalize ex : a.eval x = xv at h1
  generalize eu : a.eval u = uv at h2
  refine ⟨.bool (b && p), ?_, .v _⟩
  cases h1 with
  | ifb h1 _ =>
    have e1 := (h1 rfl).val
    cases b with
    | true =>
      cases h2 with
      | ifb h2 _ => simp [execOp, hop, ex, e1, asBool, eu, (h2 rfl).val]
    | false => simp [execOp, hop, ex, e1, asBool, e3]
theorem Run.gpickO {d' : Nat} {g b p : Bool} {x u v : Operand} (hG : Gd ops fr o g) (ho : o.dst = some d') (hd' : Nat.blt d' n = true) (hop : o.op = .pick x u v) (hx : evA fr x = .ifb g (.v (.bool b))) (hu : evA fr u = .v (.bool true)) (hv : evA fr v = .ifb (g && !b) (.v (.bool p)))
    (hr : Run P n ops chk K rest ⟨(d', .ifb g (.v (.bool (b || p)))) :: fr, σ⟩ (acc ++ [([], [])])) : Run P n ops chk K (o :: rest) ⟨fr, σ⟩ acc := by
  refine Run.gp (ins := []) (ks := []) hG.want ho hd' (fun hc => OpP.s fun I M w a h => ?_) (fun _ h => by cases h) rfl hr
  have h1 := h x (by simp [hop, Op.operands])
  have h2 := h u (by simp [hop, Op.operands])
  have h3 := h v (by simp [hop, Op.operands])
  rw [hx] at h1; rw [hu] at h2; rw [hv] at h3
  have e2 := h2.val
  subst hc
  generalize ex : a.eval x = xv at h1
  generalize ev : a.eval v = vv at h3
  refine ⟨.bool (b || p), ?_, .v _⟩
  cases h1 with
  | ifb h1 _ =>
    have e1 := (h1 rfl).val
    cases b with
    | false =>
      cases h3 with
      | ifb h3 _ => simp [execOp, hop, ex, e1, asBool, ev, (h3 rfl).val]
    | true => simp [execOp, hop, ex, e1, asBool, e2]
theorem OpP.pickAnd {c u v : Operand} {b p : Bool} {ρ : Operand → AV} (ho : o.op = .pick c u v) (hc : ρ c = .v (.bool b)) (hu : ρ u = .ifb b (.v (.bool p))) (hv : ρ v = .v (.bool false)) : OpP P o ρ (.v (.bool (b && p))) := by
  intro I M w a h
  have h1 := h c (by simp [ho, Op.operands])
  have h2 := h u (by simp [ho, Op.operands])
  have h3 := h v (by simp [ho, Op.operands])
  rw [hc] at h1; rw [hu] at h2; rw [hv] at h3
  have e1 := h1.val
  have e3 := h3.val
  refine ⟨.bool (b && p), ?_, .v _⟩
  cases b with
  | true =>
    generalize eu : a.eval u = uv at h2
    cases h2 with
    | ifb h _ => simp [execOp, ho, e1, asBool, eu, (h rfl).val]
  | false => simp [execOp, ho, e1, asBool, e3]
theorem OpP.pickOr {c u v : Operand} {b p : Bool} {ρ : Operand → AV} (ho : o.op = .pick c u v) (hc : ρ c = .v (.bool b)) (hu : ρ u = .v (.bool true)) (hv : ρ v = .ifb (!b) (.v (.bool p))) : OpP P o ρ (.v (.bool (b || p))) := by
  intro I M w a h
  have h1 := h c (by simp [ho, Op.operands])
  have h2 := h u (by simp [ho, Op.operands])
  have h3 := h v (by simp [ho, Op.operands])
  rw [hc] at h1; rw [hu] at h2; rw [hv] at h3
  have e1 := h1.val
  have e2 := h2.val
  refine ⟨.bool (b || p), ?_, .v _⟩
  cases b with
  | false =>
    generalize ev : a.eval v = vv at h3
    cases h3 with
    | ifb h _ => simp [execOp, ho, e1, asBool, ev, (h rfl).val]
  | true => simp [execOp, ho, e1, asBool, e2]
/-- a call -/
theorem Run.call {d nx : Nat} {x : Operand} {os : Array Operand} {ts : Array TypeId} {f : FuncId} {caps args0 as_ : List AV} {σc σc' σ' : List Res} {r0 r : AV} (S : List Nat) (hc : ACalls P f args0 σc r0 σc') (ho : o.dst = some d) (hop : o.op = .call { callee := .value x, args := os, argTypes := ts }) (hw : wantA ops fr o = some true) (hd : Nat.blt d n = true)
    [CallI P f] (hx : evA fr x = .fn f caps) (he : Ends σ nx) (hargs : AV.rens (renC S nx) args0 = os.toList.map (evA fr) ++ caps) (hS : nodupB S = true) (hSn : S.all (fun k => Nat.blt k nx) = true) (hl : Nat.beq S.length σc.length = true) (hl' : Nat.ble σc.length σc'.length = true) (hlt : σc'.all (Res.lt σc'.length) = true) (hrl : r0.lt σc'.length = true)
    (hlt0 : σc.all (Res.lt σc.length) = true) (hal : AV.lts σc.length args0 = true) (hr0 : r0.ren (renC S nx) = r) (hi : ∀ q ∈ insOf S (renC S nx) σc, sto σ q.1 = q.2) (hok : okU σ.length (outsOf (renC S nx) 0 σc') = true) (hσ : updL σ (outsOf (renC S nx) 0 σc') = σ')
    {k1 k2 : List Nat} (hk1 : keys (insOf S (renC S nx) σc) = k1) (hk2 : keys (outsOf (renC S nx) 0 σc') = k2) (hnew : k2.all (fun k => S.any (Nat.beq k) || Nat.ble nx k) = true)
    (hr : Run P n ops chk K rest ⟨(d, r) :: fr, σ'⟩ (acc ++ [(k1, k2)])) : Run P n ops chk K (o :: rest) ⟨fr, σ⟩ acc := by
  refine .op (v := r) hw (by rw [ho]; exact hd) (OpS.call S nx hc hop hx hargs hS hSn hl hl' hlt hrl hlt0 hal hr0 rfl rfl) hi hok (fun k hk => ?_) (by rw [ho, hσ, hk1, hk2]; exact hr)
  rw [hk2] at hk
  have h1 := (List.all_eq_true.1 hnew) k hk
  rw [Bool.or_eq_true] at h1
  rcases h1 with h1 | h1
  · left
    rw [keys_insOf _ _ _ (Nat.eq_of_beq_eq_true hl)]
    obtain ⟨k', hk', he'⟩ := List.any_eq_true.1 h1
    rw [Nat.eq_of_beq_eq_true he']; exact hk'
  · right
    rw [← he.spec]; exact Nat.le_of_ble_eq_true h1
/-- a call that is given no numbered thing and leaves none -/
theorem Run.c0 {d : Nat} {x : Operand} {os : Array Operand} {ts : Array TypeId} {f : FuncId} {caps args0 : List AV} {r0 : AV} (hc : ACalls P f args0 [] r0 []) (ho : o.dst = some d) (hop : o.op = .call { callee := .value x, args := os, argTypes := ts }) (hw : wantA ops fr o = some true) (hd : Nat.blt d n = true)
    [CallI P f] (hx : evA fr x = .fn f caps) (hargs : os.toList.map (evA fr) ++ caps = args0) (hal : AV.lts 0 args0 = true) (hrl : r0.lt 0 = true) (hr : Run P n ops chk K rest ⟨(d, r0) :: fr, σ⟩ (acc ++ [([], [])])) : Run P n ops chk K (o :: rest) ⟨fr, σ⟩ acc := by
  refine .op (ins := []) (outs := []) (v := r0) hw (by rw [ho]; exact hd) (OpS.call [] 0 hc hop hx (by rw [hargs]; exact (rens_lt0 _ hal)) rfl rfl rfl rfl rfl hrl rfl hal (ren_lt0 hrl) rfl rfl) (fun _ h => by cases h) rfl (fun _ h => by cases h) (by rw [ho]; exact hr)
theorem OpS.c0 {x : Operand} {os : Array Operand} {ts : Array TypeId} {f : FuncId} {caps args0 : List AV} {r0 : AV} {ρ : Operand → AV} (hc : ACalls P f args0 [] r0 []) (hop : o.op = .call { callee := .value x, args := os, argTypes := ts }) [CallI P f] (hx : ρ x = .fn f caps) (hargs : os.toList.map ρ ++ caps = args0) (hal : AV.lts 0 args0 = true) (hrl : r0.lt 0 = true) : OpS P o ρ [] r0 [] :=
  OpS.call [] 0 hc hop hx (by rw [hargs]; exact (rens_lt0 _ hal)) rfl rfl rfl rfl rfl hrl rfl hal (ren_lt0 hrl) rfl rfl
theorem Run.gcc {d' : Nat} {c : Bool} {x : Operand} {os : Array Operand} {ts : Array TypeId} {f : FuncId} {caps args0 : List AV} {r0 : AV} (hc : c = true → ACalls P f args0 [] r0 []) (hG : Gd ops fr o c) (ho : o.dst = some d') (hd' : Nat.blt d' n = true) (hop : o.op = .call { callee := .value x, args := os, argTypes := ts })
    [CallI P f] (hx : evO fr x = .fn f caps) (hargs : os.toList.map (evO fr) ++ caps = args0) (hal : AV.lts 0 args0 = true) (hrl : r0.lt 0 = true) (hok : c = true → okIfs fr o.op.operands.toList) (hr : Run P n ops chk K rest ⟨(d', .ifb c r0) :: fr, σ⟩ (acc ++ [([], [])])) : Run P n ops chk K (o :: rest) ⟨fr, σ⟩ acc :=
  Run.gp (ins := []) (ks := []) hG.want ho hd' (fun h => OpS.open_ (OpS.c0 (hc h) hop hx hargs hal hrl) (hok h)) (fun _ h => by cases h) rfl hr
end
/-- the results, in the words of the contract -/
inductive RetC (P : Program) (s : State) (ρ : Nat → Nat) : List ResultVar → List AV → Prop
  | nil : RetC P s ρ [] []
  | tmp {t : Tmp} {u v : AV} {l : List ResultVar} {vs : List AV} (h : s.fr.get t = u) (hc : Cv (sto s.σ) u (v.ren ρ)) (hs : RetC P s ρ l vs) : RetC P s ρ (.tmp t :: l) (v :: vs)
  | cell1 {t : Tmp} {ty : TypeId} {d : TypeDesc} {k off : Nat} {cs : List AV} {u v : AV} {l : List ResultVar} {vs : List AV} [Und P ty d] (hd : isAggD d = false) (h : s.fr.get t = .ptr k off) (hk : sto s.σ k = .box cs) (hu : cs[off]? = some u) (hc : Cv (sto s.σ) u (v.ren ρ)) (hs : RetC P s ρ l vs) : RetC P s ρ (.cell t ty :: l) (v :: vs)
  | cellN {t : Tmp} {ty : TypeId} {d : TypeDesc} {z : Value} {sz bytes k off : Nat} {cs m m' : List AV} {l : List ResultVar} {vs : List AV} [Und P ty d] [TyI P ty z sz bytes] (hd : isAggD d = true) (h : s.fr.get t = .ptr k off) (hk : sto s.σ k = .box cs) (hm : Sub cs off sz m) (hc : CvL (sto s.σ) m (AV.rens ρ m')) (hs : RetC P s ρ l vs) : RetC P s ρ (.cell t ty :: l) (.agg m' :: vs)
theorem RetC.res {P : Program} {s : State} {ρ : Nat → Nat} {l : List ResultVar} {vs : List AV} (h : RetC P s ρ l vs) : ∃ us, ResA P s l us ∧ CvL (sto s.σ) us (AV.rens ρ vs) := by
  induction h with
  | nil => exact ⟨[], .nil, .nil⟩
  | tmp h hc _ ih =>
    obtain ⟨us, h1, h2⟩ := ih
    exact ⟨_, .tmp h h1, .cons hc h2⟩
  | @cell1 t ty d k off cs u v l vs _ hd h hk hu hc _ ih =>
    obtain ⟨us, h1, h2⟩ := ih
    exact ⟨_, .cell1 hd h hk hu h1, .cons hc h2⟩
  | @cellN t ty d z sz bytes k off cs m m' l vs _ _ hd h hk hm hc _ ih =>
    obtain ⟨us, h1, h2⟩ := ih
    exact ⟨_, .cellN (ty := ty) hd h hk hm.spec.1 hm.spec.2 h1, .cons (.agg hc) h2⟩
/-- the end of a function that leaves no numbered thing -/
theorem RetOk.one {P : Program} {fn : Func} {r : AV} {s : State} {n : Nat} {I : Nat → CI} {M : Nat → Nat} {w : World} {own : Nat → Prop} (hlt : r.lt 0 = true) (hr : RetC P s (renL []) fn.results.toList [r]) : RetOk P fn r [] ⟨n, 0, I, M, w, own⟩ .ret s := by
  obtain ⟨us, h1, h2⟩ := hr.res
  cases h2 with
  | cons h hs =>
    cases hs with
    | nil => exact ⟨_, [], h1, rfl, rfl, Nat.le_refl _, h, hlt, .nil⟩
theorem cv_resV {σ : Nat → Res} {us vs : List AV} (h : CvL σ us vs) (hl : Nat.beq vs.length 1 = false) : Cv σ (resV us) (.tup vs) := by
  cases h with
  | nil => exact Cv.tup .nil
  | cons h1 h2 =>
    cases h2 with
    | nil => simp at hl
    | cons h2 h3 => exact Cv.tup (.cons h1 (.cons h2 h3))
theorem AV.rens_len (ρ : Nat → Nat) (l : List AV) : (AV.rens ρ l).length = l.length := by rw [AV.rens_map]; simp
theorem RetOk.tup {P : Program} {fn : Func} {vs : List AV} {s : State} {n : Nat} {I : Nat → CI} {M : Nat → Nat} {w : World} {own : Nat → Prop} (hl : Nat.beq vs.length 1 = false) (hlt : AV.lts 0 vs = true) (hr : RetC P s (renL []) fn.results.toList vs) : RetOk P fn (.tup vs) [] ⟨n, 0, I, M, w, own⟩ .ret s := by
  obtain ⟨us, h1, h2⟩ := hr.res
  exact ⟨_, [], h1, rfl, rfl, Nat.le_refl _, cv_resV h2 (by rw [AV.rens_len]; exact hl), by simpa [AV.lt] using hlt, .nil⟩
/-- cells that are plain values -/
inductive VL : List AV → List Value → Prop
  | nil : VL [] []
  | cons {x : Value} {l : List AV} {xs : List Value} (h : VL l xs) : VL (.v x :: l) (x :: xs)
theorem VL.map {l : List AV} {xs : List Value} (h : VL l xs) : l = xs.map .v := by
  induction h with
  | nil => rfl
  | cons h ih => simp [ih]
theorem VL.rp {I : Nat → CI} {M : Nat → Nat} {w : World} {v : Value} {l : List AV} {xs : List Value} (h : VL l xs) (hv : Rp I M w v (.agg l)) : v = .agg xs.toArray := by
  rw [h.map] at hv
  cases hv with
  | @agg vs _ hs h1 hc =>
    congr 1
    apply Array.ext'
    apply List.ext_getElem?
    intro i
    simp only [List.length_map] at hs
    rcases Nat.lt_or_ge i xs.length with hi | hi
    · have := hc i vs[i] (.v xs[i]) (by simp [show i < vs.size by omega]) (by simp [hi])
      simp [show i < vs.size by omega, hi, this.val]
    · rw [List.getElem?_eq_none (by simp; omega), List.getElem?_eq_none (by simpa using hi)]
class NoIf (P : Program) (t : TypeId) : Prop where
  eq : P.eqGuardType P.depth t = false
theorem OpP.binA {P : Program} {o : Oper} {ρ : Operand → AV} {op : BinOp} {t t' : TypeId} {x y : Operand} {l m : List AV} {xs ys : List Value} {r : Value} [N : NoIf P t] (ho : o.op = .binOp op t x y t') (hx : ρ x = .agg l) (hy : ρ y = .agg m) (hl : VL l xs) (hm : VL m ys)
    (hr : ∀ w : World, (binOp op t (.agg xs.toArray) (.agg ys.toArray)).run P w = .ok r w) : OpP P o ρ (.v r) := by
  intro I M w a h
  have h1 := h x (by simp [ho, Op.operands])
  have h2 := h y (by simp [ho, Op.operands])
  rw [hx] at h1; rw [hy] at h2
  have e1 := hl.rp h1
  have e2 := hm.rp h2
  have hg : (eqGuard op t x y (.agg xs.toArray) (.agg ys.toArray)).run P w = .ok () w := by
    have := N.eq
    cases op <;> simp [eqGuard, this]
  exact ⟨r, by simp [execOp, ho, e1, e2, hr, hg], .v r⟩
theorem OpP.remN {P : Program} {o : Oper} {ρ : Operand → AV} {t t' : TypeId} {x y : Operand} {k : IntKind} {a b r : Int} (ho : o.op = .binOp .rem t x y t') (hx : ρ x = .v (.int k a)) (hy : ρ y = .v (.int k b)) (ha : 0 ≤ a) (hb : 0 < b) (hr : a % b = r) : OpP P o ρ (.v (.int k r)) :=
  .rem ho hx hy (by omega) (by rw [Int.tmod_eq_emod_of_nonneg ha]; exact hr)
/-- a struct type: where its fields lie, what its zero is -/
class StrI (P : Program) (t : TypeId) (pl : outParam (List (Nat × Nat))) (zs : outParam (List AV)) : Prop where
  eq : ∃ (it : TypeInfo) (fs : Array Field) (z : Value), P.info? t = some it ∧ P.underlying t = some (.struct fs) ∧ it.zero = some z ∧ fs.toList.mapM (fun f => (P.info? f.type).map fun i => (f.offset, i.size)) = some pl ∧ z.cells.toList.all (·.oneCell') = true ∧ z.cells.toList.map .v = zs
theorem StrI.mk' {P : Program} {t : TypeId} {pl : List (Nat × Nat)} {zs : List AV} {d : TypeDesc} {z : Value} {sz bytes : Nat} [U : Und P t d] [T : TyI P t z sz bytes] (hd : (match d with | .struct fs => fs.toList.mapM (fun f => (P.info? f.type).map fun i => (f.offset, i.size)) | _ => none) = some pl)
    (h1 : z.cells.toList.all (·.oneCell') = true) (h2 : z.cells.toList.map .v = zs) : StrI P t pl zs := by
  obtain ⟨i, hi, hz, _, _⟩ := info_parts T.info
  cases d <;> simp only at hd <;> first | (cases hd; done) | skip
  exact ⟨i, _, z, hi, U.und, hz, hd, h1, h2⟩
inductive Built (ρ : Operand → AV) (pl : List (Nat × Nat)) : List AV → List (Nat × Operand) → List AV → Prop
  | nil {zs : List AV} : Built ρ pl zs [] zs
  | cons {zs zs' new out : List AV} {i off size : Nat} {x : Operand} {v : AV} {r : List (Nat × Operand)} (hp : pl[i]? = some (off, size)) (hx : ρ x = v) (hc : Cells v new) (hl : Nat.beq new.length size = true) (ho : Over zs off new zs') (hr : Built ρ pl zs' r out) : Built ρ pl zs ((i, x) :: r) out
theorem Built.run {ρ : Operand → AV} {pl : List (Nat × Nat)} {I : Nat → CI} {M : Nat → Nat} {w : World} {a : Act} {zs out : List AV} {parts : List (Nat × Operand)} (h : Built ρ pl zs parts out) (hop : ∀ q ∈ parts, Rp I M w (a.eval q.2) (ρ q.2)) :
    ∀ cur : Array Value, cur.size = zs.length → (∀ (i : Nat) (v : Value), cur[i]? = some v → v.oneCell' = true) → (∀ (i : Nat) (v : Value) (c : AV), cur[i]? = some v → zs[i]? = some c → Rp I M w v c) →
      ∃ r : Array Value, Instr.fill (pl.toArray[·]?) cur (parts.map fun q => (q.1, a.eval q.2)) = some r ∧ r.size = out.length ∧ (∀ (i : Nat) (v : Value), r[i]? = some v → v.oneCell' = true) ∧ ∀ (i : Nat) (v : Value) (c : AV), r[i]? = some v → out[i]? = some c → Rp I M w v c := by
  induction h with
  | nil => intro cur h1 h2 h3; exact ⟨cur, rfl, h1, h2, h3⟩
  | @cons zs zs' new out i off size x v r hp hx hc hl ho hr ih =>
    intro cur h1 h2 h3
    have hl := Nat.eq_of_beq_eq_true hl
    obtain ⟨o1, o2⟩ := ho.spec
    have hv := hop (i, x) (by simp)
    simp only at hv
    rw [hx] at hv
    obtain ⟨c1, c2, c3⟩ := hv.cells hc.ok.1
    rw [hc.ok.2] at c1 c3
    have hz : (a.eval x).cells.zipIdx.foldl (fun cs (c, j) => cs.setIfInBounds (off + j) c) cur = setArr cur off (a.eval x).cells.toList := by
      have := foldl_setArr (a.eval x).cells.toList off 0 cur
      rw [Nat.add_zero] at this
      rw [← this, ← Array.foldl_toList]
      simp [Array.toList_zipIdx]
    have hvl : (a.eval x).cells.toList.length = new.length := by simpa using c1
    obtain ⟨r', e1, e2⟩ := ih (fun q hq => hop q (List.mem_cons_of_mem _ hq)) (setArr cur off (a.eval x).cells.toList) (by
        have e := congrArg List.length o2
        simp only [List.length_append, List.length_take, List.length_drop] at e
        rw [setArr_size, h1]; omega) (fun j u hu => by
        rw [setArr_get _ _ _ (by omega)] at hu
        split at hu
        · exact c2 _ u (by simpa using hu)
        · exact h2 j u hu) (fun j u c hu hc' => by
        rw [setArr_get _ _ _ (by omega)] at hu
        rw [← o2] at hc'
        split at hu
        · rw [List.getElem?_append_right (by simp; omega), List.length_take, Nat.min_eq_left (by omega), List.getElem?_append_left (by omega)] at hc'
          exact c3 (j - off) u c (by simpa using hu) hc'
        · refine h3 j u c hu ?_
          rcases Nat.lt_or_ge j off with q | q
          · rw [List.getElem?_append_left (by simp; omega), List.getElem?_take, if_pos q] at hc'
            exact hc'
          · rw [List.getElem?_append_right (by simp; omega), List.length_take, Nat.min_eq_left (by omega), List.getElem?_append_right (by omega), List.getElem?_drop] at hc'
            rw [← hc']; congr 1; omega)
    refine ⟨r', ?_, e2⟩
    simp only [List.map_cons, Instr.fill]
    have hpl : pl.toArray[i]? = some (off, size) := by simpa using hp
    rw [hpl]
    simp only
    rw [if_neg (by simp; omega)]
    simp only [hz]
    exact e1
theorem OpP.buildS {P : Program} {o : Oper} {ρ : Operand → AV} {t : TypeId} {parts : Array (Nat × Operand)} {pl : List (Nat × Nat)} {zs out : List AV} [S : StrI P t pl zs] (ho : o.op = .build t parts) (h : Built ρ pl zs parts.toList out) : OpP P o ρ (.agg out) := by
  intro I M w a hop
  obtain ⟨it, fs, z, e1, e2, e3, e4, e5, e6⟩ := S.eq
  have hop' : ∀ q ∈ parts.toList, Rp I M w (a.eval q.2) (ρ q.2) := fun q hq => hop q.2 (by rw [ho]; simp only [Op.operands]; exact List.mem_map.2 ⟨q, hq, rfl⟩)
  subst e6
  obtain ⟨r, r1, r2, r3, r4⟩ := h.run hop' z.cells (by simp) (fun i v hv => (List.all_eq_true.1 e5) v (by simpa using Array.mem_of_getElem? hv)) (fun i v c hv hc => by
    rw [List.getElem?_map, Array.getElem?_toList, hv] at hc
    injection hc with hc; subst hc; exact .v _)
  refine ⟨.agg r, ?_, .agg r2 r3 r4⟩
  have hb : P.built t (parts.map fun q => (q.1, a.eval q.2)).toList = some r := by
    rw [Array.toList_map]
    simp only [Program.built, e1, e2, e3, e4]
    exact r1
  have hgo : execOp a.eval o = (do pure (.value (← Instr.build t (parts.map fun q => (q.1, a.eval q.2))))) := by simp only [execOp, ho]
  rw [hgo]
  simp [run_build w t _ r hb]
end Go.Proofs.Ytgnlohecllokhaa
/-
  Loops, and slices that a loop begins to own, over values without addresses. Nothing of the dump is used; no condition.
-/
namespace Go.Proofs.Ytgnlohecllokhaa
open Go.RowKit
set_option linter.unusedVariables false
set_option linter.unusedSimpArgs false
/-- whatever state s tells, state s' tells -/
def Conv (g : Ent) (s s' : State) : Prop := ∀ (I : Nat → CI) (M : Nat → Nat) (w : World) (a : Act), St g I M w a s → ∃ I' M', St g I' M' w a s'
theorem Conv.mk {g : Ent} {s s' : State} (S : List Nat) (hnd : nodupB S = true) (hp : fixB g.p S = true) (hl : Nat.ble g.p S.length = true) (hf : Cf (sto s.σ) s.fr (renL S) s'.fr) (hfl : s'.fr.lt s'.σ.length = true) (hc : Crs (sto s.σ) (renL S) s'.σ.length S s'.σ) : Conv g s s' :=
  fun I M w a hst => hst.conv S hnd hp (Nat.le_of_ble_eq_true hl) hf hfl hc
theorem AW.conv {P : Program} {g : Ent} {c : Code} {Q : Exit → State → Prop} {s s' : State} (h : Conv g s s') (k : AW P g c Q s') : AW P g c Q s := fun I M w a hst => by
  obtain ⟨I', M', h1⟩ := h I M w a hst
  exact k I' M' w a h1
theorem AW.loopF {P : Program} {g : Ent} {c : Code} {Q : Exit → State → Prop} {s : State} {X : Type} (F : X → State) (C : X → Prop) (m : X → Nat) (x0 : X) (hs : Conv g s (F x0)) (h0 : C x0)
    (round : ∀ x, C x → AW P g c (thenA (fun s' => ∃ x', C x' ∧ m x' < m x ∧ Conv g s' (F x')) Q) (F x)) : AW P g (.loop c) Q s := AW.loop F C m x0 hs h0 round
section
variable {g : Ent} {I : Nat → CI} {M : Nat → Nat} {w : World} {a : Act} {fr : Fr} {σ : List Res}
/-- a slice without spare places becomes a row of one's own: what this leaves of the numbered things -/
theorem own_ok (h : St g I M w a ⟨fr, σ⟩) {A : Option Addr} {sz : Nat} {xs : List (List PV)} (hr : RPV M w (.slice A xs.length xs.length) (.sl sz xs)) :
    let I' := fun i => if i = σ.length then CI.row xs sz A xs.length else I i
    Rp I' M w (.slice A xs.length xs.length) (.row σ.length xs.length) ∧ St g I' M w a ⟨fr, σ ++ [.row sz xs]⟩ := by
  intro I'
  have hno := h.no σ.length (Nat.le_refl _)
  have hIk : I' σ.length = .row xs sz A xs.length := by simp [I']
  have hle : ∀ i, (I i).le (I' i) := by
    intro i
    by_cases hi : i = σ.length
    · rw [hi, hno]; trivial
    · simp only [I', if_neg hi]; exact CI.le_refl _
  have hext : Ext (fun _ => False) I I' M M w w := ⟨rfl, rfl, rfl, hle, Evo.refl _ _, fun _ _ _ => ⟨rfl, rfl⟩⟩
  have hsto : sto (σ ++ [.row sz xs]) = updS (sto σ) [(σ.length, .row sz xs)] := by
    funext k
    have := sto_putR σ σ.length (.row sz xs) (Nat.le_refl _) k
    have h2 : putR σ σ.length (.row sz xs) = σ ++ [.row sz xs] := by
      unfold putR
      have : Nat.blt σ.length σ.length = false := by
        cases hb : Nat.blt σ.length σ.length with
        | false => rfl
        | true => rw [Nat.blt_eq] at hb; omega
      rw [this]
    rw [h2] at this
    rw [this]; rfl
  have hblk : blkOf (I' σ.length) (.row sz xs) = none := by rw [hIk]; simp [blkOf]
  have hst : Sto I' M w (sto (σ ++ [.row sz xs])) := by
    rw [hsto]
    refine h.st.upd [σ.length] hext (fun _ h => h.elim) (fun i hi => ?_) (fun i hi => updS_other _ _ _ (by simpa [keys] using hi)) (fun i hi => ?_) (fun i hi b hb => ?_) (fun i hi j hj b hne => ?_) h.st.top
    · have : i ≠ σ.length := by simpa using hi
      simp [I', this]
    · obtain rfl : i = σ.length := by simpa using hi
      simp only [updS, if_true, hIk]
      exact ⟨A, xs.length, rfl, hr, fun hne => absurd rfl hne⟩
    · obtain rfl : i = σ.length := by simpa using hi
      simp only [updS, if_true, hblk] at hb
      cases hb
    · obtain rfl : i = σ.length := by simpa using hi
      obtain rfl : j = σ.length := by simpa using hj
      exact absurd rfl hne
  refine ⟨.row hIk (Nat.le_refl _) (by rw [List.take_length]; exact hr) fun _ => ⟨rfl, rfl⟩, ⟨h.fr.evo hle (Evo.refl _ _), h.df, hst, by have := h.len; simp at this ⊢; omega, fun k hk => ?_, h.ext.trans hext (fun _ _ h => h.elim), fun k b hb => ?_, h.gno⟩⟩
  · simp only [List.length_append, List.length_cons, List.length_nil] at hk
    simp only [I', if_neg (show k ≠ σ.length by omega)]
    exact h.no k (by simp only; omega)
  · simp only at hb
    rw [hsto] at hb
    by_cases hk : k = σ.length
    · subst hk
      simp only [updS, if_true, hblk] at hb
      cases hb
    · simp only [updS, if_neg hk, I', if_neg hk] at hb
      exact h.ini k b hb
theorem full_of (h : St g I M w a ⟨fr, σ⟩) {v : Value} {p : AV} {sz : Nat} {xs : List (List PV)} (hv : Rp I M w v p) (hp : p = .sl sz xs true ∨ p = .v (.slice none 0 0) ∧ xs = []) : ∃ A, v = .slice A xs.length xs.length ∧ RPV M w v (.sl sz xs) := by
  rcases hp with rfl | ⟨rfl, rfl⟩
  · cases hv with
    | sl h hf =>
      have := hf rfl
      subst this
      have := h.len.1
      subst this
      exact ⟨_, rfl, h⟩
  · exact ⟨none, hv.val, by rw [hv.val]; exact .nil _ _ _ _ _⟩
end
/-- slot t holds a slice without spare places: from here on a row of one's own -/
theorem Conv.own {g : Ent} {fr : Fr} {σ : List Res} {s' : State} (t : Nat) (sz : Nat) (xs : List (List PV)) (hp : fr.get t = .sl sz xs true ∨ fr.get t = .v (.slice none 0 0) ∧ xs = []) (h : Conv g ⟨(t, .row σ.length xs.length) :: fr, σ ++ [.row sz xs]⟩ s') : Conv g ⟨fr, σ⟩ s' := fun I M w a hst => by
  obtain ⟨A, hv, hr⟩ := full_of hst (hst.fr.2 t) hp
  rw [hv] at hr
  obtain ⟨r1, r2⟩ := own_ok hst hr
  refine h _ M w a ⟨⟨r2.fr.1, fun t' => ?_⟩, r2.df, r2.st, r2.len, r2.no, r2.ext, r2.ini, r2.gno⟩
  simp only [Fr.get]
  cases hb : Nat.beq t' t with
  | true => obtain rfl := Nat.eq_of_beq_eq_true hb; simp only; rw [hv]; exact r1
  | false => exact r2.fr.2 t'
/-- cell i of variable k holds such a slice -/
theorem Conv.ownB {g : Ent} {fr : Fr} {σ : List Res} {s' : State} (k i : Nat) (sz : Nat) (xs : List (List PV)) {cs cs' : List AV} {c : AV} {σ' : List Res} (hk : sto σ k = .box cs) (hc : cs[i]? = some c) (hp : c = .sl sz xs true ∨ c = .v (.slice none 0 0) ∧ xs = []) (ho : Over cs i [.row σ.length xs.length] cs') (hσ : PutAt σ k (.box cs') σ')
    (h : Conv g ⟨fr, σ' ++ [.row sz xs]⟩ s') : Conv g ⟨fr, σ⟩ s' := fun I M w a hst => by
  have own := hst.st.own k
  simp only at own
  rw [hk] at own
  obtain ⟨b, cur, e, e1, e2, e3, e4, e5, e6⟩ := own
  have hil : i < cs.length := (List.getElem?_eq_some_iff.1 hc).1
  have hcur : cur[i]? = some cur[i] := by simp [show i < cur.size by omega]
  obtain ⟨A, hv, hr⟩ := full_of hst (e6 i _ c hcur hc) hp
  rw [hv] at hr
  obtain ⟨r1, r2⟩ := own_ok hst hr
  obtain ⟨p1, p2⟩ := hσ.spec
  obtain ⟨o1, o2⟩ := ho.spec
  have hkl : k < σ.length := by
    rcases Nat.lt_or_ge k σ.length with h | h
    · exact h
    · have : sto σ k = .no := by simp [sto, List.getElem?_eq_none h]
      rw [this] at hk; cases hk
  have hlen : σ'.length = σ.length := by rw [← p2, putR_len _ _ _ p1, if_neg (by omega)]
  have hcs : cs'.length = cs.length := by rw [← o2]; simp at o1 ⊢; omega
  have hget : ∀ j c', cs'[j]? = some c' → (j = i ∧ c' = .row σ.length xs.length) ∨ (j ≠ i ∧ cs[j]? = some c') := by
    intro j c' hj
    rw [← o2] at hj
    simp only [List.length_cons, List.length_nil] at o1 hj
    rcases Nat.lt_trichotomy j i with q | q | q
    · rw [List.getElem?_append_left (by simp; omega), List.getElem?_take, if_pos q] at hj
      exact .inr ⟨by omega, hj⟩
    · subst q
      rw [List.getElem?_append_right (by rw [List.length_take]; omega), List.length_take, Nat.min_eq_left (by omega), Nat.sub_self] at hj
      simp at hj
      exact .inl ⟨rfl, hj.symm⟩
    · rw [List.getElem?_append_right (by simp; omega), List.length_take, Nat.min_eq_left (by omega), List.getElem?_append_right (by simp; omega), List.getElem?_drop] at hj
      refine .inr ⟨by omega, ?_⟩
      rw [← hj]; congr 1; simp; omega
  have hs1 : ∀ j, sto (σ' ++ [.row sz xs]) j = if j = k then .box cs' else sto (σ ++ [.row sz xs]) j := by
    intro j
    have q := sto_putR σ k (.box cs') p1 j
    rw [p2] at q
    by_cases hjl : j < σ.length
    · have a1 : sto (σ' ++ [.row sz xs]) j = sto σ' j := by simp only [sto, List.getD_eq_getElem?_getD]; rw [List.getElem?_append_left (by omega)]
      have a2 : sto (σ ++ [.row sz xs]) j = sto σ j := by simp only [sto, List.getD_eq_getElem?_getD]; rw [List.getElem?_append_left hjl]
      rw [a1, a2, q]
    · rw [if_neg (by omega)]
      simp only [sto, List.getD_eq_getElem?_getD]
      rw [List.getElem?_append_right (by omega), List.getElem?_append_right (by omega), hlen]
  have hIk : (if k = σ.length then CI.row xs sz A xs.length else I k) = I k := if_neg (by omega)
  have hsk : sto (σ ++ [.row sz xs]) k = .box cs := by
    simp only [sto, List.getD_eq_getElem?_getD] at hk ⊢
    rw [List.getElem?_append_left hkl]; exact hk
  have blk : ∀ j ci, blkOf ci (sto (σ' ++ [.row sz xs]) j) = blkOf ci (sto (σ ++ [.row sz xs]) j) := by
    intro j ci
    rw [hs1]
    by_cases hj : j = k
    · rw [if_pos hj]; subst hj; rw [hsk]; cases ci <;> rfl
    · rw [if_neg hj]
  refine h _ M w a ⟨r2.fr, r2.df, ⟨fun j => ?_, fun j j' b hne hb => ?_, r2.st.top, r2.st.tab⟩, by have := r2.len; simp at this ⊢; omega, fun j hj => r2.no j (by simp at hj ⊢; omega), r2.ext, fun j b hb => ?_, r2.gno⟩
  · have o := r2.st.own j
    simp only at o ⊢
    rw [hs1]
    by_cases hj : j = k
    · rw [if_pos hj]
      subst hj
      rw [hsk] at o
      obtain ⟨b', cur', e', f1, f2, f3, f4, f5, f6⟩ := o
      refine ⟨b', cur', e', f1, f2, f3, by omega, f5, fun i' v' c' hv' hc' => ?_⟩
      rcases hget i' c' hc' with ⟨rfl, rfl⟩ | ⟨_, hc'⟩
      · have hbb : b' = b := by
          rw [hIk, e1] at f1
          injection f1 with f1; exact f1.symm
        subst hbb
        rw [e2] at f2
        injection f2 with f2
        injection f2 with f2
        subst f2
        rw [hcur] at hv'
        injection hv' with hv'
        rw [← hv', hv]; exact r1
      · exact f6 i' v' c' hv' hc'
    · rw [if_neg hj]; exact o
  · simp only at hb ⊢
    rw [blk] at hb ⊢
    exact r2.st.dis j j' b hne hb
  · simp only at hb
    rw [blk] at hb
    exact r2.ini j b hb
end Go.Proofs.Ytgnlohecllokhaa
/-
  More steps of a walk over values without addresses: slices, literals, append, conversions. Nothing of the dump is used; no condition.
-/
namespace Go.Proofs.Ytgnlohecllokhaa
open Go.RowKit
set_option linter.unusedVariables false
set_option linter.unusedSimpArgs false
section
variable {P : Program} {n : Nat} {ops : List Oper} {chk : List FP → Bool} {K : State → Prop} {rest : List Oper} {o : Oper} {fr : Fr} {σ : List Res} {acc : List FP} {ρ : Operand → AV} {σ0 : Nat → Res}
theorem OpR.sliceL {t e : TypeId} {x y : Operand} {k : IntKind} {sz bytes l : Nat} {z : Value} {xs r : List (List PV)} {ins : Upds} [Und P t (.slice e)] [TyI P e z sz bytes] (ho : o.op = .slice t x (some y) none none) (hx : Dat σ0 (ρ x) sz xs ins) (hy : ρ y = .v (.int k (l : Int))) (hl : l ≤ xs.length) (hr : xs.drop l = r) : OpR P o ρ ins (.sl sz r false) := by
  subst hr
  have := OpR.slice (P := P) (o := o) (ρ := ρ) (σ0 := σ0) (t := t) (e := e) (z := z) (bytes := bytes) (h := none) (m := none) (f := false) (L := l) (H := xs.length) ho hx (OpI.so hy rfl) OpI.no OpI.no (by simp) rfl rfl hl (Nat.le_refl _) (by simp) (by simp) (by simp)
  rwa [List.take_length] at this
theorem OpR.sliceH {t e : TypeId} {x y : Operand} {k : IntKind} {sz bytes h : Nat} {z : Value} {xs r : List (List PV)} {ins : Upds} [Und P t (.slice e)] [TyI P e z sz bytes] (ho : o.op = .slice t x none (some y) none) (hx : Dat σ0 (ρ x) sz xs ins) (hy : ρ y = .v (.int k (h : Int))) (hl : h ≤ xs.length) (hr : xs.take h = r) : OpR P o ρ ins (.sl sz r false) := by
  subst hr
  exact OpR.slice (l := none) (m := none) (f := false) (L := 0) (H := h) ho hx OpI.no (OpI.so hy rfl) OpI.no (by simp) rfl rfl (Nat.zero_le _) hl (by simp) (by simpa using hl) (by simp)
theorem OpR.sliceLH {t e : TypeId} {x y1 y2 : Operand} {k k' : IntKind} {sz bytes l h : Nat} {z : Value} {xs r : List (List PV)} {ins : Upds} [Und P t (.slice e)] [TyI P e z sz bytes] (ho : o.op = .slice t x (some y1) (some y2) none) (hx : Dat σ0 (ρ x) sz xs ins) (hy1 : ρ y1 = .v (.int k (l : Int))) (hy2 : ρ y2 = .v (.int k' (h : Int))) (h1 : l ≤ h) (h2 : h ≤ xs.length) (hr : (xs.take h).drop l = r) : OpR P o ρ ins (.sl sz r false) := by
  subst hr
  exact OpR.slice (m := none) (f := false) (L := l) (H := h) ho hx (OpI.so hy1 rfl) (OpI.so hy2 rfl) OpI.no (by simp) rfl rfl h1 h2 (by simp) (by simpa using h2) (by simp)
theorem OpP.decT {p : Prop} [Decidable p] (h : OpP P o ρ (.v (.bool (decide p)))) (hp : p) : OpP P o ρ (.v (.bool true)) := by rw [decide_eq_true hp] at h; exact h
theorem OpP.decF {p : Prop} [Decidable p] (h : OpP P o ρ (.v (.bool (decide p)))) (hp : ¬ p) : OpP P o ρ (.v (.bool false)) := by rw [decide_eq_false hp] at h; exact h
theorem OpP.lenNil {x : Operand} {t e : TypeId} {A : Option Addr} {n c : Nat} [Und P t (.slice e)] (ho : o.op = .call { callee := .builtin .len, args := #[x], argTypes := #[t] }) (hx : ρ x = .v (.slice A n c)) : OpP P o ρ (.v (.int .i64 n)) := by
  intro I M w a hop
  have q1 := hop x (by simp [ho, Op.operands, Call.operands])
  rw [hx] at q1
  exact ⟨_, by simp [execOp, ho, resolve, invoke, builtin, q1.val, Builtin.len_, run_und, goInt], .v _⟩
theorem ins_nil {f : Nat → Res} : ∀ q ∈ ([] : Upds), f q.1 = q.2 := fun _ h => by cases h
theorem ins_cons {f : Nat → Res} {k : Nat} {r : Res} {l : Upds} (h : f k = r) (hl : ∀ q ∈ l, f q.1 = q.2) : ∀ q ∈ (k, r) :: l, f q.1 = q.2 := fun q hq => by
  rcases List.mem_cons.1 hq with rfl | hq
  · exact h
  · exact hl q hq
theorem OpP.loadES {t : TypeId} {x : Operand} {j sz bytes : Nat} {z : Value} {ys : List PV} {l : List AV} {d : TypeDesc} [Und P t d] [TyI P t z sz bytes] (ho : o.op = .load t x) (hx : ρ x = .ep ys j) (hd : isAggD d = true) (h : SubP ys j sz l) : OpP P o ρ (.agg l) := OpP.loadEN ho hx hd h.spec.1 h.spec.2
/-- an operation that leaves no numbered thing, and new memory -/
theorem Run.s0 {d : Nat} {v : AV} {ins : Upds} {ks : List Nat} (ho : o.dst = some d) (hw : wantA ops fr o = some true) (hd : Nat.blt d n = true) (h : OpS P o (evA fr) ins v []) (hi : ∀ q ∈ ins, sto σ q.1 = q.2) (hk : keys ins = ks) (hr : Run P n ops chk K rest ⟨(d, v) :: fr, σ⟩ (acc ++ [(ks, [])])) : Run P n ops chk K (o :: rest) ⟨fr, σ⟩ acc :=
  .op (ins := ins) (outs := []) (v := v) hw (by rw [ho]; exact hd) h hi rfl (fun _ h => by cases h) (by rw [ho, hk]; exact hr)
theorem Dat.ins {f : Nat → Res} {av : AV} {sz : Nat} {xs : List (List PV)} {ins : Upds} (h : Dat f av sz xs ins) : ∀ q ∈ ins, f q.1 = q.2 := by
  cases h with
  | sl => exact ins_nil
  | nil => exact ins_nil
  | rowf h hn => exact ins_cons h ins_nil
  | row h => exact ins_cons h ins_nil
/-- a reading operation, and that what it reads is there -/
def OpRI (P : Program) (o : Oper) (ρ : Operand → AV) (σ : List Res) (ins : Upds) (v : AV) : Prop := OpR P o ρ ins v ∧ ∀ q ∈ ins, sto σ q.1 = q.2
theorem OpRI.toStr {x : Operand} {s d e : TypeId} {l : List UInt8} {xs : List (List PV)} {ins : Upds} [Und P s (.slice e)] [Und P e (.int .u8)] [Und P d .string] (ho : o.op = .convert s d x) (hx : Dat (sto σ) (ρ x) 1 xs ins) (hb : xs = bsP l) : OpRI P o ρ σ ins (.v (.string (bs l))) := ⟨OpR.toStr ho hx hb, hx.ins⟩
theorem OpRI.len {x : Operand} {t : TypeId} {sz : Nat} {xs : List (List PV)} {ins : Upds} {e : TypeId} [Und P t (.slice e)] (ho : o.op = .call { callee := .builtin .len, args := #[x], argTypes := #[t] }) (hx : Dat (sto σ) (ρ x) sz xs ins) {n : Nat} (hn : xs.length = n) : OpRI P o ρ σ ins (.v (.int .i64 n)) := ⟨OpR.len (ty := t) (d := .string) ho hx hn, hx.ins⟩
theorem OpRI.indexAddr {t e : TypeId} {x y : Operand} {k : IntKind} {i : Int} {sz : Nat} {xs : List (List PV)} {ys : List PV} {ins : Upds} {z : Value} {by_ : Nat} [Und P t (.slice e)] [TyI P e z sz by_]
    (ho : o.op = .indexAddr t x y) (hx : Dat (sto σ) (ρ x) sz xs ins) (hy : ρ y = .v (.int k i)) (hat : At xs i ys) : OpRI P o ρ σ ins (.ep ys 0) := ⟨OpR.indexAddr ho hx hy hat, hx.ins⟩
theorem OpRI.sliceL {t e : TypeId} {x y : Operand} {k : IntKind} {l : Int} {sz bytes : Nat} {z : Value} {xs r : List (List PV)} {ins : Upds} [Und P t (.slice e)] [TyI P e z sz bytes] (ho : o.op = .slice t x (some y) none none) (hx : Dat (sto σ) (ρ x) sz xs ins) (hy : ρ y = .v (.int k l)) (h0 : 0 ≤ l) (hl : l ≤ xs.length) (hr : xs.drop l.toNat = r) : OpRI P o ρ σ ins (.sl sz r false) := by
  obtain ⟨l, rfl⟩ := Int.eq_ofNat_of_zero_le h0
  exact ⟨OpR.sliceL ho hx hy (by omega) hr, hx.ins⟩
theorem OpRI.sliceH {t e : TypeId} {x y : Operand} {k : IntKind} {h : Int} {sz bytes : Nat} {z : Value} {xs r : List (List PV)} {ins : Upds} [Und P t (.slice e)] [TyI P e z sz bytes] (ho : o.op = .slice t x none (some y) none) (hx : Dat (sto σ) (ρ x) sz xs ins) (hy : ρ y = .v (.int k h)) (h0 : 0 ≤ h) (hl : h ≤ xs.length) (hr : xs.take h.toNat = r) : OpRI P o ρ σ ins (.sl sz r false) := by
  obtain ⟨h, rfl⟩ := Int.eq_ofNat_of_zero_le h0
  exact ⟨OpR.sliceH ho hx hy (by omega) hr, hx.ins⟩
theorem OpRI.sliceLH {t e : TypeId} {x y1 y2 : Operand} {k k' : IntKind} {l h : Int} {sz bytes : Nat} {z : Value} {xs r : List (List PV)} {ins : Upds} [Und P t (.slice e)] [TyI P e z sz bytes] (ho : o.op = .slice t x (some y1) (some y2) none) (hx : Dat (sto σ) (ρ x) sz xs ins) (hy1 : ρ y1 = .v (.int k l)) (hy2 : ρ y2 = .v (.int k' h)) (h0 : 0 ≤ l) (h1 : l ≤ h) (h2 : h ≤ xs.length) (hr : (xs.take h.toNat).drop l.toNat = r) : OpRI P o ρ σ ins (.sl sz r false) := by
  obtain ⟨l, rfl⟩ := Int.eq_ofNat_of_zero_le h0
  obtain ⟨h, rfl⟩ := Int.eq_ofNat_of_zero_le (show 0 ≤ h by omega)
  exact ⟨OpR.sliceLH ho hx hy1 hy2 (by omega) (by omega) hr, hx.ins⟩
theorem Run.ri {d : Nat} {v : AV} {ins : Upds} {ks : List Nat} (ho : o.dst = some d) (hw : wantA ops fr o = some true) (hd : Nat.blt d n = true) (h : OpRI P o (evA fr) σ ins v) (hk : keys ins = ks) (hr : Run P n ops chk K rest ⟨(d, v) :: fr, σ⟩ (acc ++ [(ks, [])])) : Run P n ops chk K (o :: rest) ⟨fr, σ⟩ acc := Run.r ho hw hd h.1 h.2 hk hr
theorem Run.gri {d' : Nat} {c : Bool} {v : AV} {ins : Upds} {ks : List Nat} (hG : Gd ops fr o c) (ho : o.dst = some d') (hd' : Nat.blt d' n = true) (hi : ∀ q ∈ ins, sto σ q.1 = q.2) (h : c = true → OpRI P o (evO fr) σ ins v ∧ okIfs fr o.op.operands.toList) (hk : keys ins = ks) (hr : Run P n ops chk K rest ⟨(d', .ifb c v) :: fr, σ⟩ (acc ++ [(ks, [])])) : Run P n ops chk K (o :: rest) ⟨fr, σ⟩ acc :=
  Run.gp (ins := ins) hG.want ho hd' (fun hc => OpS.open_ (h hc).1.1.s (h hc).2) hi hk hr
/-- what is appended, and that it is there -/
def SrcI (P : Program) (av : AV) (σ : List Res) (sz : Nat) (ys : List (List PV)) (ins : Upds) : Prop := Src P av sz ys ins ∧ ∀ q ∈ ins, sto σ q.1 = q.2
theorem SrcI.dat {av : AV} {sz : Nat} {ys : List (List PV)} {ins : Upds} (d : Dat (sto σ) av sz ys ins) : SrcI P av σ sz ys ins := ⟨Src.dat d, d.ins⟩
theorem SrcI.str {l : List UInt8} {av : AV} (h : av = .v (.string (bs l))) : SrcI P av σ 1 (bsP l) [] := ⟨Src.str h, ins_nil⟩
/-- a literal -/
theorem Run.bs {d t e nn : _} {parts : Array (Nat × Operand)} {z : Value} {sz bytes : Nat} {xs : List (List PV)} {ins : Upds} {ks : List Nat} [Und P t (.slice e)] [TyI P e z sz bytes] (ho : o.dst = some d) (hop : o.op = .buildSlice t nn parts) (hw : wantA ops fr o = some true) (hd : Nat.blt d n = true) (hn : parts.size = nn) (hz : z.cells.size = sz) (hsm : nn * sz ≤ 16777216)
    (hx : Elems (evA fr) (sto σ) sz 0 parts.toList xs ins) (hi : ∀ q ∈ ins, sto σ q.1 = q.2) (hk : keys ins = ks) (hr : Run P n ops chk K rest ⟨(d, .sl sz xs true) :: fr, σ⟩ (acc ++ [(ks, [])])) : Run P n ops chk K (o :: rest) ⟨fr, σ⟩ acc :=
  Run.s0 ho hw hd (OpS.buildSlice hop hn hz hsm hx) hi hk hr
/-- append to a row of one's own -/
theorem Run.apR {d k nn sz bytes : Nat} {s x : Operand} {t tx e : TypeId} {dx : TypeDesc} {z : Value} {ys xs zs : List (List PV)} {insx : Upds} {ks : List Nat} {σ' : List Res} [Und P t (.slice e)] [Und P tx dx] [TyI P e z sz bytes] (ho : o.dst = some d) (hop : o.op = .call { callee := .builtin .append, args := #[s, x], argTypes := #[t, tx] })
    (hw : wantA ops fr o = some true) (hd : Nat.blt d n = true) (hdx : (∃ e', dx = .slice e') ∨ dx = .string) (hzs : z.cells.size = sz) (hsv : evA fr s = .row k nn) (hk : sto σ k = .row sz xs) (hn : nn = xs.length) (hxi : SrcI P (evA fr x) σ sz ys insx) (hz : xs ++ ys = zs) (hb : zs.length * bytes ≤ 140737488355328) (h63 : zs.length ≤ maxLen)
    (hσ : PutAt σ k (.row sz zs) σ') (hks : k :: keys insx = ks) (hr : Run P n ops chk K rest ⟨(d, .row k zs.length) :: fr, σ'⟩ (acc ++ [(ks, [k])])) : Run P n ops chk K (o :: rest) ⟨fr, σ⟩ acc := by
  subst hz
  obtain ⟨hx, hi⟩ := hxi
  exact .op (ins := (k, .row sz xs) :: insx) (outs := [(k, .row sz (xs ++ ys))]) (v := .row k (xs ++ ys).length) hw (by rw [ho]; exact hd) (OpS.appRow hop hdx hzs hsv hn hx (by rw [hn, List.length_append]) hb h63) (fun q hq => by
    rcases List.mem_cons.1 hq with rfl | hq
    · exact hk
    · exact hi q hq) (okU_one hσ).1 (fun k' hk' => .inl (by
      obtain rfl : k' = k := by simpa [keys] using hk'
      simp [keys])) (by
      have : keys ((k, Res.row sz xs) :: insx) = ks := by rw [← hks]; rfl
      rw [ho, (okU_one hσ).2, this]; exact hr)
/-- append to nothing, or to a slice without spare places -/
theorem Run.apF {d k sz bytes : Nat} {s x : Operand} {t tx e : TypeId} {dx : TypeDesc} {z : Value} {ys xs zs : List (List PV)} {insx : Upds} {ks : List Nat} {σ' : List Res} [Und P t (.slice e)] [Und P tx dx] [TyI P e z sz bytes] (ho : o.dst = some d) (hop : o.op = .call { callee := .builtin .append, args := #[s, x], argTypes := #[t, tx] })
    (hw : wantA ops fr o = some true) (hd : Nat.blt d n = true) (hdx : (∃ e', dx = .slice e') ∨ dx = .string) (hzs : z.cells.size = sz) (he : Ends σ k) (hsv : evA fr s = .sl sz xs true ∨ evA fr s = .v (.slice none 0 0) ∧ xs = []) (hxi : SrcI P (evA fr x) σ sz ys insx) (hz : xs ++ ys = zs) (hb : zs.length * bytes ≤ 140737488355328) (h63 : zs.length ≤ maxLen)
    (hki : (keys insx).all (fun j => Nat.blt j k) = true) (hσ : PutAt σ k (.row sz zs) σ') (hks : keys insx = ks) (hr : Run P n ops chk K rest ⟨(d, .row k zs.length) :: fr, σ'⟩ (acc ++ [(ks, [k])])) : Run P n ops chk K (o :: rest) ⟨fr, σ⟩ acc := by
  subst hz
  obtain ⟨hx, hi⟩ := hxi
  exact .op (ins := insx) (outs := [(k, .row sz (xs ++ ys))]) (v := .row k (xs ++ ys).length) hw (by rw [ho]; exact hd) (OpS.appFull k hop hdx hzs hsv hx (by rw [List.length_append]) (fun hk => by
      have := (List.all_eq_true.1 hki) k hk
      rw [Nat.blt_eq] at this; omega) hb h63) hi (okU_one hσ).1 (fun k' hk' => .inr (by
      obtain rfl : k' = k := by simpa [keys] using hk'
      exact Nat.le_of_eq he.spec.symm)) (by rw [ho, (okU_one hσ).2, hks]; exact hr)
end
/-- the end of a function that is given numbered things, or leaves some -/
theorem RetOk.tupS {P : Program} {fn : Func} {vs : List AV} {s : State} {n p : Nat} {I : Nat → CI} {M : Nat → Nat} {w : World} {own : Nat → Prop} {σ' : List Res} (S : List Nat) (hnd : nodupB S = true) (hp : fixB p S = true) (hpl : Nat.ble p S.length = true) (hl : Nat.beq vs.length 1 = false) (hlt : AV.lts σ'.length vs = true)
    (hc : Crs (sto s.σ) (renL S) σ'.length S σ') (hr : RetC P s (renL S) fn.results.toList vs) : RetOk P fn (.tup vs) σ' ⟨n, p, I, M, w, own⟩ .ret s := by
  obtain ⟨us, h1, h2⟩ := hr.res
  exact ⟨us, S, h1, hnd, hp, Nat.le_of_ble_eq_true hpl, cv_resV h2 (by rw [AV.rens_len]; exact hl), by simpa [AV.lt] using hlt, hc⟩
theorem RetOk.oneS {P : Program} {fn : Func} {r : AV} {s : State} {n p : Nat} {I : Nat → CI} {M : Nat → Nat} {w : World} {own : Nat → Prop} {σ' : List Res} (S : List Nat) (hnd : nodupB S = true) (hp : fixB p S = true) (hpl : Nat.ble p S.length = true) (hlt : r.lt σ'.length = true)
    (hc : Crs (sto s.σ) (renL S) σ'.length S σ') (hr : RetC P s (renL S) fn.results.toList [r]) : RetOk P fn r σ' ⟨n, p, I, M, w, own⟩ .ret s := by
  obtain ⟨us, h1, h2⟩ := hr.res
  cases h2 with
  | cons h hs =>
    cases hs with
    | nil => exact ⟨_, S, h1, hnd, hp, Nat.le_of_ble_eq_true hpl, h, hlt, hc⟩
end Go.Proofs.Ytgnlohecllokhaa
/-
  Calls that are given numbered things, and leave some, as a proof types them. Nothing of the dump is used; no condition.
-/
namespace Go.Proofs.Ytgnlohecllokhaa
open Go.RowKit
set_option linter.unusedVariables false
set_option linter.unusedSimpArgs false
mutual
/-- with other numbers -/
inductive RenR (ρ : Nat → Nat) : AV → AV → Prop
  | any : RenR ρ .any .any
  | v {x : Value} : RenR ρ (.v x) (.v x)
  | sl {sz : Nat} {xs : List (List PV)} {f : Bool} : RenR ρ (.sl sz xs f) (.sl sz xs f)
  | ep {ys : List PV} {j : Nat} : RenR ρ (.ep ys j) (.ep ys j)
  | row {t n t' n' : Nat} (h : ρ t = t') (hn : n = n') : RenR ρ (.row t n) (.row t' n')
  | ptr {t n t' : Nat} (h : ρ t = t') : RenR ρ (.ptr t n) (.ptr t' n)
  | bsl {t sz lo n C t' : Nat} (h : ρ t = t') : RenR ρ (.bsl t sz lo n C) (.bsl t' sz lo n C)
  | agg {l m : List AV} (h : RenLs ρ l m) : RenR ρ (.agg l) (.agg m)
  | tup {l m : List AV} (h : RenLs ρ l m) : RenR ρ (.tup l) (.tup m)
  | fn {f : FuncId} {l m : List AV} (h : RenLs ρ l m) : RenR ρ (.fn f l) (.fn f m)
inductive RenLs (ρ : Nat → Nat) : List AV → List AV → Prop
  | nil : RenLs ρ [] []
  | cons {a b : AV} {l m : List AV} (h : RenR ρ a b) (hs : RenLs ρ l m) : RenLs ρ (a :: l) (b :: m)
end
mutual
theorem RenR.spec {ρ : Nat → Nat} : ∀ {a b : AV}, RenR ρ a b → a.ren ρ = b
  | _, _, .any => rfl
  | _, _, .v => rfl
  | _, _, .sl => rfl
  | _, _, .ep => rfl
  | _, _, .row h hn => by subst h hn; rfl
  | _, _, .ptr h => by subst h; rfl
  | _, _, .bsl h => by subst h; rfl
  | _, _, .agg h => by simp only [AV.ren]; rw [h.spec]
  | _, _, .tup h => by simp only [AV.ren]; rw [h.spec]
  | _, _, .fn h => by simp only [AV.ren]; rw [h.spec]
theorem RenLs.spec {ρ : Nat → Nat} : ∀ {l m : List AV}, RenLs ρ l m → AV.rens ρ l = m
  | _, _, .nil => rfl
  | _, _, .cons h hs => by simp only [AV.rens]; rw [h.spec, hs.spec]
end
/-- what the callee is given is there -/
inductive InsI (σ : List Res) (ρ : Nat → Nat) : List Nat → List Res → Prop
  | nil : InsI σ ρ [] []
  | box {k : Nat} {S : List Nat} {cs cs' : List AV} {rs : List Res} (h : sto σ k = .box cs') (hr : RenLs ρ cs cs') (hs : InsI σ ρ S rs) : InsI σ ρ (k :: S) (.box cs :: rs)
  | row {k sz : Nat} {S : List Nat} {xs xs' : List (List PV)} {rs : List Res} (h : sto σ k = .row sz xs') (he : xs' = xs) (hs : InsI σ ρ S rs) : InsI σ ρ (k :: S) (.row sz xs :: rs)
theorem InsI.spec {σ : List Res} {ρ : Nat → Nat} {S : List Nat} {rs : List Res} (h : InsI σ ρ S rs) : ∀ q ∈ insOf S ρ rs, sto σ q.1 = q.2 := by
  induction h with
  | nil => exact ins_nil
  | box h hr hs ih =>
    simp only [insOf]
    rw [hr.spec]
    exact ins_cons h ih
  | row h he hs ih =>
    subst he
    exact ins_cons h ih
inductive OutI (ρ : Nat → Nat) : Nat → List Res → Upds → Prop
  | nil {i : Nat} : OutI ρ i [] []
  | box {i k : Nat} {cs cs' : List AV} {rs : List Res} {us : Upds} (hk : ρ i = k) (hr : RenLs ρ cs cs') (hs : OutI ρ (i + 1) rs us) : OutI ρ i (.box cs :: rs) ((k, .box cs') :: us)
  | row {i k sz : Nat} {xs : List (List PV)} {rs : List Res} {us : Upds} (hk : ρ i = k) (hs : OutI ρ (i + 1) rs us) : OutI ρ i (.row sz xs :: rs) ((k, .row sz xs) :: us)
  | no {i k : Nat} {rs : List Res} {us : Upds} (hk : ρ i = k) (hs : OutI ρ (i + 1) rs us) : OutI ρ i (.no :: rs) ((k, .no) :: us)
theorem OutI.spec {ρ : Nat → Nat} {i : Nat} {rs : List Res} {us : Upds} (h : OutI ρ i rs us) : outsOf ρ i rs = us := by
  induction h with
  | nil => rfl
  | box hk hr hs ih => simp only [outsOf]; rw [hk, hr.spec, ih]
  | row hk hs ih => simp only [outsOf]; rw [hk, ih]
  | no hk hs ih => simp only [outsOf]; rw [hk, ih]
inductive Puts : List Res → Upds → List Res → Prop
  | nil {l : List Res} : Puts l [] l
  | cons {l l' l'' : List Res} {k : Nat} {r : Res} {us : Upds} (h : PutAt l k r l') (hs : Puts l' us l'') : Puts l ((k, r) :: us) l''
theorem Puts.spec {l l' : List Res} {us : Upds} (h : Puts l us l') : updL l us = l' := by
  induction h with
  | nil => rfl
  | cons h hs ih => simp only [updL]; rw [h.spec.2]; exact ih
section
variable {P : Program} {n : Nat} {ops : List Oper} {chk : List FP → Bool} {K : State → Prop} {rest : List Oper} {o : Oper} {fr : Fr} {σ : List Res} {acc : List FP}
theorem Run.cS {d nx : Nat} {x : Operand} {os : Array Operand} {ts : Array TypeId} {f : FuncId} {caps args0 : List AV} {σc σc' σ' : List Res} {r0 r : AV} {outs : Upds} {k2 : List Nat} (S : List Nat) (hc : ACalls P f args0 σc r0 σc') (ho : o.dst = some d) (hop : o.op = .call { callee := .value x, args := os, argTypes := ts }) (hw : wantA ops fr o = some true) (hd : Nat.blt d n = true)
    [CallI P f] (hx : evA fr x = .fn f caps) (he : Ends σ nx) (hargs : RenLs (renC S nx) args0 (os.toList.map (evA fr) ++ caps)) (hi : InsI σ (renC S nx) S σc) (hS : nodupB S = true) (hSn : S.all (fun k => Nat.blt k nx) = true) (hl : Nat.beq S.length σc.length = true) (hl' : Nat.ble σc.length σc'.length = true) (hlt : σc'.all (Res.lt σc'.length) = true) (hrl : r0.lt σc'.length = true)
    (hlt0 : σc.all (Res.lt σc.length) = true) (hal : AV.lts σc.length args0 = true) (hr0 : RenR (renC S nx) r0 r) (hou : OutI (renC S nx) 0 σc' outs) (hok : okU σ.length outs = true) (hpu : Puts σ outs σ') (hk2 : keys outs = k2) (hnew : k2.all (fun k => S.any (Nat.beq k) || Nat.ble nx k) = true)
    (hr : Run P n ops chk K rest ⟨(d, r) :: fr, σ'⟩ (acc ++ [(S, k2)])) : Run P n ops chk K (o :: rest) ⟨fr, σ⟩ acc := by
  have e1 := hou.spec
  subst e1
  exact Run.call (as_ := []) S hc ho hop hw hd hx he hargs.spec hS hSn hl hl' hlt hrl hlt0 hal hr0.spec hi.spec hok hpu.spec (keys_insOf _ _ _ (Nat.eq_of_beq_eq_true hl)) hk2 hnew hr
end
theorem thenA_n {A : State → Prop} {Q : Exit → State → Prop} {s : State} (h : A s) : thenA A Q .normal s := h
theorem Cf.cons' {σ : Nat → Res} {fr : Fr} {ρ : Nat → Nat} {t : Nat} {u v : AV} {r : Fr} (hg : fr.get t = u) (h : Cv σ u (v.ren ρ)) (hr : Cf σ fr ρ r) : Cf σ fr ρ ((t, v) :: r) := .cons (by rw [hg]; exact h) hr
theorem inB_n {k : Nat} {Q : Exit → State → Prop} {s : State} (h : Q .normal s) : inBlockA k Q .normal s := h
theorem Cv.rowE {σ : Nat → Res} {t n sz : Nat} {xs ys : List (List PV)} (h : σ t = .row sz xs) (hn : n = xs.length) (he : xs = ys) : Cv σ (.row t n) (.sl sz ys false) := he ▸ Cv.rowf h hn
/-- elements that are bytes -/
inductive IsB : List (List PV) → List UInt8 → Prop
  | base {l : List UInt8} : IsB (bsP l) l
  | nil : IsB [] []
  | app {xs ys : List (List PV)} {l m : List UInt8} (h : IsB xs l) (hs : IsB ys m) : IsB (xs ++ ys) (l ++ m)
  | cons {c : UInt8} {xs : List (List PV)} {l : List UInt8} (h : IsB xs l) : IsB ([PV.v (.int .u8 (c.toNat : Int))] :: xs) (c :: l)
  | lit {k : Int} {xs : List (List PV)} {l : List UInt8} (hk : 0 ≤ k ∧ k < 256) (h : IsB xs l) : IsB ([PV.v (.int .u8 k)] :: xs) (UInt8.ofNat k.toNat :: l)
theorem IsB.eq {xs : List (List PV)} {l : List UInt8} (h : IsB xs l) : xs = bsP l := by
  induction h with
  | base => rfl
  | nil => rfl
  | app _ _ h1 h2 => rw [h1, h2]; simp
  | cons _ h => rw [h]; simp
  | @lit k _ _ hk _ h =>
    rw [h]
    have : k.toNat < 256 := by omega
    simp [UInt8.toNat_ofNat', Nat.mod_eq_of_lt this]
    omega
theorem OpRI.toStrB {P : Program} {o : Oper} {ρ : Operand → AV} {σ : List Res} {x : Operand} {s d e : TypeId} {l : List UInt8} {xs : List (List PV)} {ins : Upds} [Und P s (.slice e)] [Und P e (.int .u8)] [Und P d .string] (ho : o.op = .convert s d x) (hx : Dat (sto σ) (ρ x) 1 xs ins) (hb : IsB xs l) : OpRI P o ρ σ ins (.v (.string (bs l))) := OpRI.toStr ho hx hb.eq
mutual
/-- less is asked of a value -/
inductive Wk : AV → AV → Prop
  | same {v : AV} : Wk v v
  | nil {sz : Nat} {f : Bool} : Wk (.sl sz [] f) (.v (.slice none 0 0))
  | full {sz : Nat} {xs : List (List PV)} {f : Bool} : Wk (.sl sz xs false) (.sl sz xs f)
  | agg {l m : List AV} (h : WkL l m) : Wk (.agg l) (.agg m)
inductive WkL : List AV → List AV → Prop
  | nil : WkL [] []
  | cons {a b : AV} {l m : List AV} (h : Wk a b) (hs : WkL l m) : WkL (a :: l) (b :: m)
end
mutual
theorem Wk.rp {I : Nat → CI} {M : Nat → Nat} {w : World} : ∀ {a b : AV}, Wk a b → ∀ {x : Value}, Rp I M w x b → Rp I M w x a
  | _, _, .same, _, h => h
  | _, _, .nil, _, h => by rw [h.val]; exact .sl (.nil _ _ _ _ _) (fun _ => rfl)
  | _, _, .full, _, h => by
    cases h with
    | sl h _ => exact .sl h (by simp)
  | _, _, .agg hl, _, h => by
    cases h with
    | @agg vs _ hs h1 hc =>
      obtain ⟨e, k⟩ := hl.rp (I := I) (M := M) (w := w)
      exact .agg (hs.trans e.symm) h1 fun i v c hv hc' => k i v c hc' fun b hb => hc i v b hv hb
theorem WkL.rp {I : Nat → CI} {M : Nat → Nat} {w : World} : ∀ {l m : List AV}, WkL l m → l.length = m.length ∧ ∀ (i : Nat) (v : Value) (c : AV), l[i]? = some c → (∀ b, m[i]? = some b → Rp I M w v b) → Rp I M w v c
  | _, _, .nil => ⟨rfl, fun i v c h => by simp at h⟩
  | _, _, .cons (a := a) (b := b) h hs => by
    obtain ⟨e, k⟩ := hs.rp (I := I) (M := M) (w := w)
    refine ⟨by simp [e], fun i v c hc hb => ?_⟩
    cases i with
    | zero =>
      obtain rfl : a = c := by simpa using hc
      exact h.rp (hb b rfl)
    | succ i => exact k i v c (by simpa using hc) fun b hb' => hb b (by simpa using hb')
end
/-- a call with arguments of which more is known -/
theorem ACalls.weak {P : Program} {f : FuncId} {args args' : List AV} {σ σ' : List Res} {r : AV} (h : ACalls P f args σ r σ') (hw : WkL args args') : ACalls P f args' σ r σ' := by
  intro I M w cargs ha hav hs hno
  obtain ⟨e, k⟩ := hw.rp (I := I) (M := M) (w := w)
  exact h I M w cargs (ha.trans e.symm) (fun i v c hv hc => k i v c hc fun b hb => hav i v b hv hb) hs hno
end Go.Proofs.Ytgnlohecllokhaa
/-
  Rules of a walk over values without addresses whose side goals are closed by tactics of their own. Printed by a program of ours out of our own rules. Nothing of the dump is used; no condition.
-/
namespace Go.Proofs.Ytgnlohecllokhaa
open Go.RowKit
set_option linter.unusedVariables false
set_option linter.unusedSimpArgs false
section
variable {P : Program} {n : Nat} {ops : List Oper} {chk : List FP → Bool} {K : State → Prop} {rest : List Oper} {o : Oper} {fr : Fr} {σ : List Res} {acc : List FP} {ρ : Operand → AV} {σ0 : Nat → Res}
theorem Run.ldNA {d t x k off : _} {D : TypeDesc} {z : Value} {sz bytes : Nat} {cs l : List AV} [Und P t D] [TyI P t z sz bytes] (ho : o.dst = some d) (hop : o.op = .load t x) (hw : wantA ops fr o = some true) (hd : Nat.blt d n = true) (hx : evA fr x = .ptr k off) (hD : isAggD D = true) (hk : sto σ k = .box cs) (hr : Run P n ops chk K rest ⟨(d, .agg l) :: fr, σ⟩ (acc ++ [([k], [])])) (hc : Sub cs off sz l := by ((repeat constructor); first | done | fail)) : Run P n ops chk K (o :: rest) ⟨fr, σ⟩ acc :=
  Run.ldN ho hop hw hd hx hD hk hc hr
theorem Run.bxA {d t x k : _} {v : AV} {cs : List AV} {σ' : List Res} (ho : o.dst = some d) (hop : o.op = .box t x) (hw : wantA ops fr o = some true) (hd : Nat.blt d n = true) (hr : Run P n ops chk K rest ⟨(d, .ptr k 0) :: fr, σ'⟩ (acc ++ [([], [k])])) (he : Ends σ k := by ((repeat constructor); first | done | fail)) (hx : evA fr x = v := by ((conv => lhs; whnf) <;> rfl)) (hc : Cells v cs := by (first | exact Cells.agg | exact Cells.one rfl)) (hσ : PutAt σ k (.box cs) σ' := by ((repeat constructor); first | done | fail)) : Run P n ops chk K (o :: rest) ⟨fr, σ⟩ acc :=
  Run.bx ho hop hw hd he hx hc hσ hr
theorem Run.alA {d t k : _} {cs : List AV} {σ' : List Res} [A : AllocI P t cs] (ho : o.dst = some d) (hop : o.op = .alloc t) (hw : wantA ops fr o = some true) (hd : Nat.blt d n = true) (hr : Run P n ops chk K rest ⟨(d, .ptr k 0) :: fr, σ'⟩ (acc ++ [([], [k])])) (he : Ends σ k := by ((repeat constructor); first | done | fail)) (hσ : PutAt σ k (.box cs) σ' := by ((repeat constructor); first | done | fail)) : Run P n ops chk K (o :: rest) ⟨fr, σ⟩ acc :=
  Run.al ho hop hw hd he hσ hr
theorem Run.stA {t x y k off : _} {v : AV} {z : Value} {sz bytes : Nat} {cs new cs' : List AV} {σ' : List Res} [TyI P t z sz bytes] (ho : o.dst = none) (hop : o.op = .store t x y) (hw : wantA ops fr o = some true) (hx : evA fr x = .ptr k off) (hk : sto σ k = .box cs) (hr : Run P n ops chk K rest ⟨fr, σ'⟩ (acc ++ [([k], [k])])) (hy : evA fr y = v := by ((conv => lhs; whnf) <;> rfl)) (hc : Cells v new := by (first | exact Cells.agg | exact Cells.one rfl)) (hl : Nat.beq new.length sz = true := by rfl) (hcs : Over cs off new cs' := by ((repeat constructor); first | done | fail)) (hσ : PutAt σ k (.box cs') σ' := by ((repeat constructor); first | done | fail)) : Run P n ops chk K (o :: rest) ⟨fr, σ⟩ acc :=
  Run.st ho hop hw hx hy hc hl hk hcs hσ hr
theorem Run.bsA {d t e nn : _} {parts : Array (Nat × Operand)} {z : Value} {sz bytes : Nat} {xs : List (List PV)} {ins : Upds} {ks : List Nat} [Und P t (.slice e)] [TyI P e z sz bytes] (ho : o.dst = some d) (hop : o.op = .buildSlice t nn parts) (hw : wantA ops fr o = some true) (hd : Nat.blt d n = true) (hn : parts.size = nn) (hk : keys ins = ks) (hr : Run P n ops chk K rest ⟨(d, .sl sz xs true) :: fr, σ⟩ (acc ++ [(ks, [])])) (hz : z.cells.size = sz := by rfl) (hsm : nn * sz ≤ 16777216 := by decide) (hx : Elems (evA fr) (sto σ) sz 0 parts.toList xs ins := by ((repeat (first | exact Elems.nil | apply Elems.cons | exact ToPs.nil | apply ToPs.cons | exact ToP.sl | exact ToP.rowf rfl rfl | exact ToP.row rfl | exact ToP.nil | exact ToP.v rfl | ((conv => lhs; whnf) <;> rfl) | rfl)); first | done | fail)) (hi : ∀ q ∈ ins, sto σ q.1 = q.2 := by ((repeat (first | exact ins_nil | refine ins_cons rfl ?_)); first | done | fail)) : Run P n ops chk K (o :: rest) ⟨fr, σ⟩ acc :=
  Run.bs ho hop hw hd hn hz hsm hx hi hk hr
theorem Run.apRA {d k nn sz bytes : Nat} {s x : Operand} {t tx e : TypeId} {dx : TypeDesc} {z : Value} {ys xs zs : List (List PV)} {insx : Upds} {ks : List Nat} {σ' : List Res} [Und P t (.slice e)] [Und P tx dx] [TyI P e z sz bytes] (ho : o.dst = some d) (hop : o.op = .call { callee := .builtin .append, args := #[s, x], argTypes := #[t, tx] }) (hw : wantA ops fr o = some true) (hd : Nat.blt d n = true) (hsv : evA fr s = .row k nn) (hk : sto σ k = .row sz xs) (hn : nn = xs.length) (hz : xs ++ ys = zs) (hks : k :: keys insx = ks) (hr : Run P n ops chk K rest ⟨(d, .row k zs.length) :: fr, σ'⟩ (acc ++ [(ks, [k])])) (hdx : (∃ e', dx = .slice e') ∨ dx = .string := by (first | exact Or.inl ⟨_, rfl⟩ | exact Or.inr rfl)) (hzs : z.cells.size = sz := by rfl) (hxi : SrcI P (evA fr x) σ sz ys insx := by (first | exact SrcI.str rfl | exact SrcI.dat (by first | exact Dat.sl | exact Dat.nil | exact Dat.rowf rfl rfl | exact Dat.row rfl))) (hb : zs.length * bytes ≤ 140737488355328 := by (first | omega | (simp only [List.length_append, List.length_cons, List.length_nil, List.length_map, maxLen]; omega) | (simp [maxLen]; omega) | simp [maxLen])) (h63 : zs.length ≤ maxLen := by (first | omega | (simp only [List.length_append, List.length_cons, List.length_nil, List.length_map, maxLen]; omega) | (simp [maxLen]; omega) | simp [maxLen])) (hσ : PutAt σ k (.row sz zs) σ' := by ((repeat constructor); first | done | fail)) : Run P n ops chk K (o :: rest) ⟨fr, σ⟩ acc :=
  Run.apR ho hop hw hd hdx hzs hsv hk hn hxi hz hb h63 hσ hks hr
theorem Run.apFA {d k sz bytes : Nat} {s x : Operand} {t tx e : TypeId} {dx : TypeDesc} {z : Value} {ys xs zs : List (List PV)} {insx : Upds} {ks : List Nat} {σ' : List Res} [Und P t (.slice e)] [Und P tx dx] [TyI P e z sz bytes] (ho : o.dst = some d) (hop : o.op = .call { callee := .builtin .append, args := #[s, x], argTypes := #[t, tx] }) (hw : wantA ops fr o = some true) (hd : Nat.blt d n = true) (hz : xs ++ ys = zs) (hks : keys insx = ks) (hr : Run P n ops chk K rest ⟨(d, .row k zs.length) :: fr, σ'⟩ (acc ++ [(ks, [k])])) (hdx : (∃ e', dx = .slice e') ∨ dx = .string := by (first | exact Or.inl ⟨_, rfl⟩ | exact Or.inr rfl)) (hzs : z.cells.size = sz := by rfl) (he : Ends σ k := by ((repeat constructor); first | done | fail)) (hsv : evA fr s = .sl sz xs true ∨ evA fr s = .v (.slice none 0 0) ∧ xs = [] := by (first | exact Or.inl rfl | exact Or.inr ⟨rfl, rfl⟩)) (hxi : SrcI P (evA fr x) σ sz ys insx := by (first | exact SrcI.str rfl | exact SrcI.dat (by first | exact Dat.sl | exact Dat.nil | exact Dat.rowf rfl rfl | exact Dat.row rfl))) (hb : zs.length * bytes ≤ 140737488355328 := by (first | omega | (simp only [List.length_append, List.length_cons, List.length_nil, List.length_map, maxLen]; omega) | (simp [maxLen]; omega) | simp [maxLen])) (h63 : zs.length ≤ maxLen := by (first | omega | (simp only [List.length_append, List.length_cons, List.length_nil, List.length_map, maxLen]; omega) | (simp [maxLen]; omega) | simp [maxLen])) (hki : (keys insx).all (fun j => Nat.blt j k) = true := by rfl) (hσ : PutAt σ k (.row sz zs) σ' := by ((repeat constructor); first | done | fail)) : Run P n ops chk K (o :: rest) ⟨fr, σ⟩ acc :=
  Run.apF ho hop hw hd hdx hzs he hsv hxi hz hb h63 hki hσ hks hr
theorem Run.cSA {d nx : Nat} {x : Operand} {os : Array Operand} {ts : Array TypeId} {f : FuncId} {caps args0 : List AV} {σc σc' σ' : List Res} {r0 r : AV} {outs : Upds} {k2 : List Nat} (S : List Nat) (hc : ACalls P f args0 σc r0 σc') (ho : o.dst = some d) (hop : o.op = .call { callee := .value x, args := os, argTypes := ts }) (hw : wantA ops fr o = some true) (hd : Nat.blt d n = true) [CallI P f] (hx : evA fr x = .fn f caps) (hS : nodupB S = true) (hl : Nat.beq S.length σc.length = true) (hl' : Nat.ble σc.length σc'.length = true) (hlt : σc'.all (Res.lt σc'.length) = true) (hrl : r0.lt σc'.length = true) (hlt0 : σc.all (Res.lt σc.length) = true) (hal : AV.lts σc.length args0 = true) (hr : Run P n ops chk K rest ⟨(d, r) :: fr, σ'⟩ (acc ++ [(S, k2)])) (he : Ends σ nx := by ((repeat constructor); first | done | fail)) (hargs : RenLs (renC S nx) args0 (os.toList.map (evA fr) ++ caps) := by ((repeat (first | exact RenLs.nil | apply RenLs.cons | exact RenR.v | exact RenR.sl | apply RenR.row | apply RenR.ptr | apply RenR.bsl | apply RenR.agg | apply RenR.tup | apply RenR.fn | exact RenR.ep | exact RenR.any | with_reducible rfl | (focus (simp; done)) | rfl)); first | done | fail)) (hi : InsI σ (renC S nx) S σc := by ((repeat (first | exact InsI.nil | apply InsI.box rfl | apply InsI.row rfl | exact RenLs.nil | apply RenLs.cons | exact RenR.v | exact RenR.sl | apply RenR.row | apply RenR.ptr | apply RenR.bsl | apply RenR.agg | apply RenR.tup | apply RenR.fn | exact RenR.ep | exact RenR.any | with_reducible rfl | (focus (simp; done)) | rfl)); first | done | fail)) (hSn : S.all (fun k => Nat.blt k nx) = true := by rfl) (hr0 : RenR (renC S nx) r0 r := by ((repeat (first | exact RenLs.nil | apply RenLs.cons | exact RenR.v | exact RenR.sl | apply RenR.row | apply RenR.ptr | apply RenR.bsl | apply RenR.agg | apply RenR.tup | apply RenR.fn | exact RenR.ep | exact RenR.any | ((conv => lhs; whnf) <;> rfl) | rfl)); first | done | fail)) (hou : OutI (renC S nx) 0 σc' outs := by ((repeat (first | exact OutI.nil | apply OutI.box | apply OutI.row | apply OutI.no | exact RenLs.nil | apply RenLs.cons | exact RenR.v | exact RenR.sl | apply RenR.row | apply RenR.ptr | apply RenR.bsl | apply RenR.agg | apply RenR.tup | apply RenR.fn | exact RenR.ep | exact RenR.any | ((conv => lhs; whnf) <;> rfl) | rfl)); first | done | fail)) (hok : okU σ.length outs = true := by rfl) (hpu : Puts σ outs σ' := by ((repeat (first | exact Puts.nil | apply Puts.cons | exact PutAt.new | exact PutAt.here | apply PutAt.there)); first | done | fail)) (hk2 : keys outs = k2 := by rfl) (hnew : k2.all (fun k => S.any (Nat.beq k) || Nat.ble nx k) = true := by rfl) : Run P n ops chk K (o :: rest) ⟨fr, σ⟩ acc :=
  Run.cS S hc ho hop hw hd hx he hargs hi hS hSn hl hl' hlt hrl hlt0 hal hr0 hou hok hpu hk2 hnew hr
theorem Run.griA {d' : Nat} {c : Bool} {v : AV} {ins : Upds} {ks : List Nat} (hG : Gd ops fr o c) (ho : o.dst = some d') (hd' : Nat.blt d' n = true) (h : c = true → OpRI P o (evO fr) σ ins v ∧ okIfs fr o.op.operands.toList) (hk : keys ins = ks) (hr : Run P n ops chk K rest ⟨(d', .ifb c v) :: fr, σ⟩ (acc ++ [(ks, [])])) (hi : ∀ q ∈ ins, sto σ q.1 = q.2 := by ((repeat (first | exact ins_nil | refine ins_cons rfl ?_)); first | done | fail)) : Run P n ops chk K (o :: rest) ⟨fr, σ⟩ acc :=
  Run.gri hG ho hd' hi h hk hr
theorem Run.glcA {d' t x k off : _} {c : Bool} {D : TypeDesc} {cs : List AV} {v : AV} [Und P t D] (hG : Gd ops fr o c) (ho : o.dst = some d') (hd' : Nat.blt d' n = true) (hop : o.op = .load t x) (hx : evO fr x = .ptr k off) (hD : isAggD D = false) (hk : sto σ k = .box cs) (hc : cs[off]? = some v) (hr : Run P n ops chk K rest ⟨(d', .ifb c v) :: fr, σ⟩ (acc ++ [([k], [])])) (hok : c = true → okIfs fr o.op.operands.toList := by (intro _; repeat (first | exact trivial | assumption | refine ⟨?_, ?_⟩))) : Run P n ops chk K (o :: rest) ⟨fr, σ⟩ acc :=
  Run.glc hG ho hd' hop hx hD hk hc hok hr
theorem Run.gccA {d' : Nat} {c : Bool} {x : Operand} {os : Array Operand} {ts : Array TypeId} {f : FuncId} {caps args0 : List AV} {r0 : AV} (hc : c = true → ACalls P f args0 [] r0 []) (hG : Gd ops fr o c) (ho : o.dst = some d') (hd' : Nat.blt d' n = true) (hop : o.op = .call { callee := .value x, args := os, argTypes := ts }) [CallI P f] (hx : evO fr x = .fn f caps) (hargs : os.toList.map (evO fr) ++ caps = args0) (hal : AV.lts 0 args0 = true) (hrl : r0.lt 0 = true) (hr : Run P n ops chk K rest ⟨(d', .ifb c r0) :: fr, σ⟩ (acc ++ [([], [])])) (hok : c = true → okIfs fr o.op.operands.toList := by (intro _; repeat (first | exact trivial | assumption | refine ⟨?_, ?_⟩))) : Run P n ops chk K (o :: rest) ⟨fr, σ⟩ acc :=
  Run.gcc hc hG ho hd' hop hx hargs hal hrl hok hr
theorem OpRI.indexAddrA {t e : TypeId} {x y : Operand} {k : IntKind} {i : Int} {sz : Nat} {xs : List (List PV)} {ys : List PV} {ins : Upds} {z : Value} {by_ : Nat} [Und P t (.slice e)] [TyI P e z sz by_] (ho : o.op = .indexAddr t x y) (hy : ρ y = .v (.int k i)) (hx : Dat (sto σ) (ρ x) sz xs ins := by (first | exact Dat.sl | exact Dat.nil | exact Dat.rowf rfl rfl | exact Dat.row rfl)) (hat : At xs i ys := by (first | assumption | solve_by_elim)) : OpRI P o ρ σ ins (.ep ys 0) :=
  OpRI.indexAddr ho hx hy hat
theorem OpRI.lenA {x : Operand} {t : TypeId} {sz : Nat} {xs : List (List PV)} {ins : Upds} {e : TypeId} [Und P t (.slice e)] (ho : o.op = .call { callee := .builtin .len, args := #[x], argTypes := #[t] }) {n : Nat} (hn : xs.length = n) (hx : Dat (sto σ) (ρ x) sz xs ins := by (first | exact Dat.sl | exact Dat.nil | exact Dat.rowf rfl rfl | exact Dat.row rfl)) : OpRI P o ρ σ ins (.v (.int .i64 n)) :=
  OpRI.len ho hx hn
theorem OpRI.sliceLA {t e : TypeId} {x y : Operand} {k : IntKind} {l : Int} {sz bytes : Nat} {z : Value} {xs r : List (List PV)} {ins : Upds} [Und P t (.slice e)] [TyI P e z sz bytes] (ho : o.op = .slice t x (some y) none none) (hy : ρ y = .v (.int k l)) (hr : xs.drop l.toNat = r) (hx : Dat (sto σ) (ρ x) sz xs ins := by (first | exact Dat.sl | exact Dat.nil | exact Dat.rowf rfl rfl | exact Dat.row rfl)) (h0 : 0 ≤ l := by (first | omega | (simp only [List.length_append, List.length_cons, List.length_nil, List.length_map]; omega))) (hl : l ≤ xs.length := by (first | omega | (simp only [List.length_append, List.length_cons, List.length_nil, List.length_map]; omega))) : OpRI P o ρ σ ins (.sl sz r false) :=
  OpRI.sliceL ho hx hy h0 hl hr
theorem OpRI.sliceHA {t e : TypeId} {x y : Operand} {k : IntKind} {h : Int} {sz bytes : Nat} {z : Value} {xs r : List (List PV)} {ins : Upds} [Und P t (.slice e)] [TyI P e z sz bytes] (ho : o.op = .slice t x none (some y) none) (hy : ρ y = .v (.int k h)) (hr : xs.take h.toNat = r) (hx : Dat (sto σ) (ρ x) sz xs ins := by (first | exact Dat.sl | exact Dat.nil | exact Dat.rowf rfl rfl | exact Dat.row rfl)) (h0 : 0 ≤ h := by (first | omega | (simp only [List.length_append, List.length_cons, List.length_nil, List.length_map]; omega))) (hl : h ≤ xs.length := by (first | omega | (simp only [List.length_append, List.length_cons, List.length_nil, List.length_map]; omega))) : OpRI P o ρ σ ins (.sl sz r false) :=
  OpRI.sliceH ho hx hy h0 hl hr
theorem OpRI.sliceLHA {t e : TypeId} {x y1 y2 : Operand} {k k' : IntKind} {l h : Int} {sz bytes : Nat} {z : Value} {xs r : List (List PV)} {ins : Upds} [Und P t (.slice e)] [TyI P e z sz bytes] (ho : o.op = .slice t x (some y1) (some y2) none) (hy1 : ρ y1 = .v (.int k l)) (hy2 : ρ y2 = .v (.int k' h)) (hr : (xs.take h.toNat).drop l.toNat = r) (hx : Dat (sto σ) (ρ x) sz xs ins := by (first | exact Dat.sl | exact Dat.nil | exact Dat.rowf rfl rfl | exact Dat.row rfl)) (h0 : 0 ≤ l := by (first | omega | (simp only [List.length_append, List.length_cons, List.length_nil, List.length_map]; omega))) (h1 : l ≤ h := by (first | omega | (simp only [List.length_append, List.length_cons, List.length_nil, List.length_map]; omega))) (h2 : h ≤ xs.length := by (first | omega | (simp only [List.length_append, List.length_cons, List.length_nil, List.length_map]; omega))) : OpRI P o ρ σ ins (.sl sz r false) :=
  OpRI.sliceLH ho hx hy1 hy2 h0 h1 h2 hr
theorem OpRI.toStrBA {P : Program} {o : Oper} {ρ : Operand → AV} {σ : List Res} {x : Operand} {s d e : TypeId} {l : List UInt8} {xs : List (List PV)} {ins : Upds} [Und P s (.slice e)] [Und P e (.int .u8)] [Und P d .string] (ho : o.op = .convert s d x) (hx : Dat (sto σ) (ρ x) 1 xs ins := by (first | exact Dat.sl | exact Dat.nil | exact Dat.rowf rfl rfl | exact Dat.row rfl)) (hb : IsB xs l := by ((repeat (first | exact IsB.base | exact IsB.nil | apply IsB.app | apply IsB.cons | apply IsB.lit | omega)); first | done | fail)) : OpRI P o ρ σ ins (.v (.string (bs l))) :=
  OpRI.toStrB ho hx hb
theorem OpP.buildSA {P : Program} {o : Oper} {ρ : Operand → AV} {t : TypeId} {parts : Array (Nat × Operand)} {pl : List (Nat × Nat)} {zs out : List AV} [S : StrI P t pl zs] (ho : o.op = .build t parts) (h : Built ρ pl zs parts.toList out := by ((repeat (first | exact Built.nil | apply Built.cons rfl (by (conv => lhs; whnf) <;> rfl) (by first | exact Cells.agg | exact Cells.one rfl) rfl (by (repeat constructor); first | done | fail))); first | done | fail)) : OpP P o ρ (.agg out) :=
  OpP.buildS ho h
section
variable {t t' : TypeId} {x y : Operand} {k : IntKind} {a b r : Int}
theorem OpP.addA (ho : o.op = .binOp .add t x y t') (hx : ρ x = .v (.int k a)) (hy : ρ y = .v (.int k b)) (hr : k.wrap (a + b) = r := by (first | exact IntWalk.i64_in _ (by omega) | exact IntWalk.u64_in _ (by omega) | exact IntWalk.u8_in _ (by omega) | exact IntWalk.i32_in _ (by omega) | exact IntWalk.u16_in _ (by omega) | exact IntWalk.u32_in _ (by omega) | rfl)) : OpP P o ρ (.v (.int k r)) :=
  OpP.add ho hx hy hr
theorem OpP.subA (ho : o.op = .binOp .sub t x y t') (hx : ρ x = .v (.int k a)) (hy : ρ y = .v (.int k b)) (hr : k.wrap (a - b) = r := by (first | exact IntWalk.i64_in _ (by omega) | exact IntWalk.u64_in _ (by omega) | exact IntWalk.u8_in _ (by omega) | exact IntWalk.i32_in _ (by omega) | exact IntWalk.u16_in _ (by omega) | exact IntWalk.u32_in _ (by omega) | rfl)) : OpP P o ρ (.v (.int k r)) :=
  OpP.sub ho hx hy hr
theorem OpP.mulA (ho : o.op = .binOp .mul t x y t') (hx : ρ x = .v (.int k a)) (hy : ρ y = .v (.int k b)) (hr : k.wrap (a * b) = r := by (first | exact IntWalk.i64_in _ (by omega) | exact IntWalk.u64_in _ (by omega) | exact IntWalk.u8_in _ (by omega) | exact IntWalk.i32_in _ (by omega) | exact IntWalk.u16_in _ (by omega) | exact IntWalk.u32_in _ (by omega) | rfl)) : OpP P o ρ (.v (.int k r)) :=
  OpP.mul ho hx hy hr
theorem OpP.convA {s d : TypeId} {k k' : IntKind} [Und P s (.int k')] [Und P d (.int k)] (ho : o.op = .convert s d x) (hx : ρ x = .v (.int k' a)) (hr : k.wrap a = r := by (first | exact IntWalk.i64_in _ (by omega) | exact IntWalk.u64_in _ (by omega) | exact IntWalk.u8_in _ (by omega) | exact IntWalk.i32_in _ (by omega) | exact IntWalk.u16_in _ (by omega) | exact IntWalk.u32_in _ (by omega) | rfl)) : OpP P o ρ (.v (.int k r)) :=
  OpP.conv ho hx hr
theorem OpP.indexStrA {t : TypeId} {x y : Operand} {k : IntKind} {i : Int} {s : List UInt8} {c : UInt8} [Und P t .string] (ho : o.op = .index t x y) (hx : ρ x = .v (.string (bs s))) (hy : ρ y = .v (.int k i)) (h0 : 0 ≤ i := by omega) (hc : s[i.toNat]? = some c := by (first | assumption | solve_by_elim)) : OpP P o ρ (.v (.int .u8 (c.toNat : Int))) :=
  OpP.indexStr ho hx hy h0 hc
theorem OpP.pickA {c u v : Operand} {b : Bool} {r : AV} (ho : o.op = .pick c u v) (hc : ρ c = .v (.bool b)) (hr : (match b with | true => ρ u | false => ρ v) = r := by ((conv => lhs; whnf) <;> rfl)) : OpP P o ρ r :=
  OpP.pick ho hc hr
end
theorem OpP.mvA {x : Operand} {v : AV} (ho : o.op = .move x) (hx : ρ x = v := by ((conv => lhs; whnf) <;> rfl)) : OpP P o ρ v := OpP.move x (Or.inl ho) hx
theorem OpP.asA {x : Operand} {v : AV} (ho : o.op = .assign x) (hx : ρ x = v := by ((conv => lhs; whnf) <;> rfl)) : OpP P o ρ v := OpP.move x (Or.inr ho) hx
theorem OpP.fieldAddrA {t : TypeId} {i off sz : Nat} {ag : Bool} {x : Operand} [F : FieldI P t i off sz ag] {k f0 : Nat} {r : Nat} (ho : o.op = .fieldAddr t x i) (hx : ρ x = .ptr k f0) (hs : sz ≠ 0 := by decide) (hr : f0 + off = r := by (first | (simp only [Nat.reduceAdd, Nat.zero_add, Nat.add_zero]; rfl) | rfl)) : OpP P o ρ (.ptr k r) := OpP.fieldAddr ho hx hs hr
end
end Go.Proofs.Ytgnlohecllokhaa
