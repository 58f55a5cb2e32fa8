/-
  The steps of a walk over values without addresses, as a proof types them. Nothing of the dump is used; no condition.
-/
import Derived.Test.YtbbcokckealagaaACa
import Derived.IntWalk
namespace Go.Proofs.Ytbbcokckealagaa
open Go.RowKit
set_option linter.unusedVariables false
set_option linter.unusedSimpArgs false
/-- the cells of a value that can be stored -/
inductive Cells : AV → List AV → Prop
  | agg {cs : List AV} : Cells (.agg cs) cs
  | one {v : AV} (h : v.one1 = true) : Cells v [v]
theorem Cells.ok {v : AV} {cs : List AV} (h : Cells v cs) : v.okCells = true ∧ v.cells = cs := by
  cases h with
  | agg => exact ⟨rfl, rfl⟩
  | one h => cases v <;> first | exact ⟨h, rfl⟩ | cases h
inductive Over0 : List AV → List AV → List AV → Prop
  | nil {l : List AV} : Over0 l [] l
  | cons {a b : AV} {l new l' : List AV} (h : Over0 l new l') : Over0 (a :: l) (b :: new) (b :: l')
/-- cells laid over others -/
inductive Over : List AV → Nat → List AV → List AV → Prop
  | at_ {l new l' : List AV} (h : Over0 l new l') : Over l 0 new l'
  | skip {a : AV} {l new l' : List AV} {k : Nat} (h : Over l k new l') : Over (a :: l) (k + 1) new (a :: l')
theorem Over0.spec {l new l' : List AV} (h : Over0 l new l') : new.length ≤ l.length ∧ new ++ l.drop new.length = l' := by
  induction h with
  | nil => exact ⟨by simp, by simp⟩
  | cons h ih => exact ⟨by simp only [List.length_cons]; omega, by simp [ih.2]⟩
theorem Over.spec {l new l' : List AV} {k : Nat} (h : Over l k new l') : k + new.length ≤ l.length ∧ l.take k ++ (new ++ l.drop (k + new.length)) = l' := by
  induction h with
  | at_ h => obtain ⟨h1, h2⟩ := h.spec; exact ⟨by omega, by simpa using h2⟩
  | skip h ih => exact ⟨by simp only [List.length_cons]; omega, by rw [← ih.2, Nat.add_right_comm]; simp⟩
/-- some of a list's elements -/
inductive Sub : List AV → Nat → Nat → List AV → Prop
  | zero {l : List AV} : Sub l 0 0 []
  | take {a : AV} {l m : List AV} {n : Nat} (h : Sub l 0 n m) : Sub (a :: l) 0 (n + 1) (a :: m)
  | skip {a : AV} {l m : List AV} {k n : Nat} (h : Sub l k n m) : Sub (a :: l) (k + 1) n m
theorem Sub.spec {l m : List AV} {k n : Nat} (h : Sub l k n m) : k + n ≤ l.length ∧ (l.drop k).take n = m := by
  induction h with
  | zero => exact ⟨by simp, by simp⟩
  | take h ih => exact ⟨by simp only [List.length_cons]; omega, by simpa using ih.2⟩
  | skip h ih => exact ⟨by simp only [List.length_cons]; omega, by simpa using ih.2⟩
inductive PavR : PV → AV → Prop
  | v {x : Value} : PavR (.v x) (.v x)
  | sl {sz : Nat} {xs : List (List PV)} : PavR (.sl sz xs) (.sl sz xs false)
theorem PavR.spec {p : PV} {a : AV} (h : PavR p a) : p.av = a := by cases h <;> rfl
/-- data, as values -/
inductive SubP : List PV → Nat → Nat → List AV → Prop
  | zero {l : List PV} : SubP l 0 0 []
  | take {a : PV} {b : AV} {l : List PV} {m : List AV} {n : Nat} (hb : PavR a b) (h : SubP l 0 n m) : SubP (a :: l) 0 (n + 1) (b :: m)
  | skip {a : PV} {l : List PV} {m : List AV} {k n : Nat} (h : SubP l k n m) : SubP (a :: l) (k + 1) n m
theorem SubP.spec {l : List PV} {m : List AV} {k n : Nat} (h : SubP l k n m) : k + n ≤ l.length ∧ ((l.drop k).take n).map PV.av = m := by
  induction h with
  | zero => exact ⟨by simp, by simp⟩
  | take hb h ih => exact ⟨by simp only [List.length_cons]; omega, by simpa [hb.spec] using ih.2⟩
  | skip h ih => exact ⟨by simp only [List.length_cons]; omega, by simpa using ih.2⟩
mutual
theorem ren_lt0 {ρ : Nat → Nat} : ∀ {p : AV}, p.lt 0 = true → p.ren ρ = p
  | .any, _ | .v _, _ | .sl _ _ _, _ | .ep _ _, _ => rfl
  | .agg cs, h => by simp only [AV.ren]; rw [rens_lt0 cs (by simpa [AV.lt] using h)]
  | .tup cs, h => by simp only [AV.ren]; rw [rens_lt0 cs (by simpa [AV.lt] using h)]
  | .fn f cs, h => by simp only [AV.ren]; rw [rens_lt0 cs (by simpa [AV.lt] using h)]
  | .ifb b v, h => by simp only [AV.ren]; rw [ren_lt0 (p := v) (by simpa [AV.lt] using h)]
  | .row t n, h => by simp [AV.lt] at h
  | .ptr k off, h => by simp [AV.lt] at h
  | .bsl k _ _ _ _, h => by simp [AV.lt] at h
theorem rens_lt0 {ρ : Nat → Nat} : ∀ (l : List AV), AV.lts 0 l = true → AV.rens ρ l = l
  | [], _ => rfl
  | c :: cs, h => by
    simp only [AV.lts, Bool.and_eq_true] at h
    simp only [AV.rens]
    rw [ren_lt0 h.1, rens_lt0 cs h.2]
end
/-- one numbered thing changed, or a new one -/
inductive PutAt : List Res → Nat → Res → List Res → Prop
  | new {r : Res} : PutAt [] 0 r [r]
  | here {a r : Res} {l : List Res} : PutAt (a :: l) 0 r (r :: l)
  | there {a r : Res} {l l' : List Res} {k : Nat} (h : PutAt l k r l') : PutAt (a :: l) (k + 1) r (a :: l')
theorem PutAt.spec {l l' : List Res} {k : Nat} {r : Res} (h : PutAt l k r l') : k ≤ l.length ∧ putR l k r = l' := by
  induction h with
  | new => exact ⟨Nat.le_refl _, rfl⟩
  | here => exact ⟨Nat.zero_le _, rfl⟩
  | @there a r l l' k h ih =>
    refine ⟨by simp only [List.length_cons]; omega, ?_⟩
    rw [← ih.2]
    unfold putR
    have : Nat.blt (k + 1) (a :: l).length = Nat.blt k l.length := by
      simp only [List.length_cons, Nat.blt, Nat.ble]
    rw [this]
    cases Nat.blt k l.length <;> simp
/-- new things at the end -/
inductive Ends : List Res → Nat → Prop
  | nil : Ends [] 0
  | cons {a : Res} {l : List Res} {k : Nat} (h : Ends l k) : Ends (a :: l) (k + 1)
theorem Ends.spec {l : List Res} {k : Nat} (h : Ends l k) : k = l.length := by
  induction h with
  | nil => rfl
  | cons h ih => simp [ih]
/-- what alloc makes of a type -/
class AllocI (P : Program) (t : TypeId) (cs : outParam (List AV)) : Prop where
  eq : ∃ z sz bytes, TyI P t z sz bytes ∧ z.cells.toList.all (·.oneCell') = true ∧ (zav z).cells = cs
section
variable {P : Program} {n : Nat} {ops : List Oper} {chk : List FP → Bool} {K : State → Prop} {rest : List Oper} {o : Oper} {fr : Fr} {σ : List Res} {acc : List FP}
theorem okU_one {σ σ' : List Res} {k : Nat} {r : Res} (h : PutAt σ k r σ') : okU σ.length [(k, r)] = true ∧ updL σ [(k, r)] = σ' := by
  obtain ⟨h1, h2⟩ := h.spec
  exact ⟨by simp [okU, h1], by simpa [updL] using h2⟩
/-- an operation that only computes -/
theorem Run.p {d : Nat} {v : AV} (ho : o.dst = some d) (hw : wantA ops fr o = some true) (hd : Nat.blt d n = true) (h : OpP P o (evA fr) v) (hr : Run P n ops chk K rest ⟨(d, v) :: fr, σ⟩ (acc ++ [([], [])])) : Run P n ops chk K (o :: rest) ⟨fr, σ⟩ acc :=
  .op (ins := []) (outs := []) (v := v) hw (by rw [ho]; exact hd) h.s (fun _ h => by cases h) rfl (fun _ h => by cases h) (by rw [ho]; exact hr)
/-- an operation that reads numbered things -/
theorem Run.r {d : Nat} {v : AV} {ins : Upds} {ks : List Nat} (ho : o.dst = some d) (hw : wantA ops fr o = some true) (hd : Nat.blt d n = true) (h : OpR P o (evA fr) ins v) (hi : ∀ q ∈ ins, sto σ q.1 = q.2) (hk : keys ins = ks) (hr : Run P n ops chk K rest ⟨(d, v) :: fr, σ⟩ (acc ++ [(ks, [])])) : Run P n ops chk K (o :: rest) ⟨fr, σ⟩ acc :=
  .op (ins := ins) (outs := []) (v := v) hw (by rw [ho]; exact hd) h.s hi rfl (fun _ h => by cases h) (by rw [ho, hk]; exact hr)
theorem one_in {σ : List Res} {k : Nat} {r : Res} (h : sto σ k = r) : ∀ q ∈ [(k, r)], sto σ q.1 = q.2 := fun q hq => by
  obtain rfl := List.mem_singleton.1 hq; exact h
theorem Run.ld1 {d t x k off : _} {D : TypeDesc} {cs : List AV} {c : AV} [Und P t D] (ho : o.dst = some d) (hop : o.op = .load t x) (hw : wantA ops fr o = some true) (hd : Nat.blt d n = true) (hx : evA fr x = .ptr k off) (hD : isAggD D = false) (hk : sto σ k = .box cs) (hc : cs[off]? = some c)
    (hr : Run P n ops chk K rest ⟨(d, c) :: fr, σ⟩ (acc ++ [([k], [])])) : Run P n ops chk K (o :: rest) ⟨fr, σ⟩ acc :=
  Run.r ho hw hd (OpR.load1 hop hx hD hc) (one_in hk) rfl hr
theorem Run.ldN {d t x k off : _} {D : TypeDesc} {z : Value} {sz bytes : Nat} {cs l : List AV} [Und P t D] [TyI P t z sz bytes] (ho : o.dst = some d) (hop : o.op = .load t x) (hw : wantA ops fr o = some true) (hd : Nat.blt d n = true) (hx : evA fr x = .ptr k off) (hD : isAggD D = true) (hk : sto σ k = .box cs) (hc : Sub cs off sz l)
    (hr : Run P n ops chk K rest ⟨(d, .agg l) :: fr, σ⟩ (acc ++ [([k], [])])) : Run P n ops chk K (o :: rest) ⟨fr, σ⟩ acc :=
  Run.r ho hw hd (OpR.loadN hop hx hD hc.spec.1 hc.spec.2) (one_in hk) rfl hr
/-- a new variable -/
theorem Run.bx {d t x k : _} {v : AV} {cs : List AV} {σ' : List Res} (ho : o.dst = some d) (hop : o.op = .box t x) (hw : wantA ops fr o = some true) (hd : Nat.blt d n = true) (he : Ends σ k) (hx : evA fr x = v) (hc : Cells v cs) (hσ : PutAt σ k (.box cs) σ')
    (hr : Run P n ops chk K rest ⟨(d, .ptr k 0) :: fr, σ'⟩ (acc ++ [([], [k])])) : Run P n ops chk K (o :: rest) ⟨fr, σ⟩ acc :=
  .op (ins := []) (outs := [(k, .box cs)]) (v := .ptr k 0) hw (by rw [ho]; exact hd) (OpS.boxed k hop hx hc.ok.1 hc.ok.2) (fun _ h => by cases h) (okU_one hσ).1 (fun k' hk => by
    obtain rfl : k' = k := by simpa [keys] using hk
    exact .inr (Nat.le_of_eq he.spec.symm)) (by rw [ho, (okU_one hσ).2]; exact hr)
theorem Run.al {d t k : _} {cs : List AV} {σ' : List Res} [A : AllocI P t cs] (ho : o.dst = some d) (hop : o.op = .alloc t) (hw : wantA ops fr o = some true) (hd : Nat.blt d n = true) (he : Ends σ k) (hσ : PutAt σ k (.box cs) σ')
    (hr : Run P n ops chk K rest ⟨(d, .ptr k 0) :: fr, σ'⟩ (acc ++ [([], [k])])) : Run P n ops chk K (o :: rest) ⟨fr, σ⟩ acc := by
  obtain ⟨z, sz, bytes, T, h1, h2⟩ := A.eq
  exact .op (ins := []) (outs := [(k, .box cs)]) (v := .ptr k 0) hw (by rw [ho]; exact hd) (OpS.alloc k hop h1 h2) (fun _ h => by cases h) (okU_one hσ).1 (fun k' hk => by
    obtain rfl : k' = k := by simpa [keys] using hk
    exact .inr (Nat.le_of_eq he.spec.symm)) (by rw [ho, (okU_one hσ).2]; exact hr)
/-- a store into a variable -/
theorem Run.st {t x y k off : _} {v : AV} {z : Value} {sz bytes : Nat} {cs new cs' : List AV} {σ' : List Res} [TyI P t z sz bytes] (ho : o.dst = none) (hop : o.op = .store t x y) (hw : wantA ops fr o = some true) (hx : evA fr x = .ptr k off) (hy : evA fr y = v) (hc : Cells v new) (hl : Nat.beq new.length sz = true) (hk : sto σ k = .box cs) (hcs : Over cs off new cs') (hσ : PutAt σ k (.box cs') σ')
    (hr : Run P n ops chk K rest ⟨fr, σ'⟩ (acc ++ [([k], [k])])) : Run P n ops chk K (o :: rest) ⟨fr, σ⟩ acc := by
  have hl := Nat.eq_of_beq_eq_true hl
  refine .op (ins := [(k, .box cs)]) (outs := [(k, .box cs')]) (v := .any) hw (by rw [ho]; rfl) (OpS.store hop hx hy hc.ok.1 hc.ok.2 hl (by have := hcs.spec.1; omega) (by rw [← hl]; exact hcs.spec.2)) (one_in hk) (okU_one hσ).1 (fun k' hk => ?_) (by rw [ho, (okU_one hσ).2]; exact hr)
  obtain rfl : k' = k := by simpa [keys] using hk
  exact .inl (by simp [keys])
theorem Run.fin (hc : chk acc = true) (hK : K ⟨fr, σ⟩) : Run P n ops chk K [] ⟨fr, σ⟩ acc := .nil hc hK
/-- a guarded operation: both ways -/
theorem Run.g {j : Nat} {want : Bool} {q : Oper} {d : Nat} {b : Bool} (hg : o.guard = some (j, want)) (hq : ops[j]? = some q) (hd : q.dst = some d) (hb : fr.get d = .v (.bool b)) (h1 : b = true → Run P n ops chk K (o :: rest) ⟨(d, .v (.bool true)) :: fr, σ⟩ acc)
    (h2 : b = false → Run P n ops chk K (o :: rest) ⟨(d, .v (.bool false)) :: fr, σ⟩ acc) : Run P n ops chk K (o :: rest) ⟨fr, σ⟩ acc := by
  have key : ∀ c, b = c → Fr.le ((d, .v (.bool c)) :: fr) fr := by
    rintro c rfl t
    simp only [Fr.get]
    cases hb' : Nat.beq t d with
    | true => obtain rfl := Nat.eq_of_beq_eq_true hb'; simp only; rw [hb]; exact .same
    | false => exact .same
  cases hbb : b with
  | true => exact .conv (key true hbb) (h1 hbb)
  | false => exact .conv (key false hbb) (h2 hbb)
theorem Run.gD {j : Nat} {want : Bool} {q : Oper} {d : Nat} {p : Prop} [Decidable p] (hg : o.guard = some (j, want)) (hq : ops[j]? = some q) (hd : q.dst = some d) (hb : fr.get d = .v (.bool (decide p))) (h1 : p → Run P n ops chk K (o :: rest) ⟨(d, .v (.bool true)) :: fr, σ⟩ acc)
    (h2 : ¬ p → Run P n ops chk K (o :: rest) ⟨(d, .v (.bool false)) :: fr, σ⟩ acc) : Run P n ops chk K (o :: rest) ⟨fr, σ⟩ acc :=
  Run.g hg hq hd hb (fun h => h1 (of_decide_eq_true h)) (fun h => h2 (of_decide_eq_false h))
theorem Run.gN {j : Nat} {want : Bool} {q : Oper} {d : Nat} {p : Prop} [Decidable p] (hg : o.guard = some (j, want)) (hq : ops[j]? = some q) (hd : q.dst = some d) (hb : fr.get d = .v (.bool (!decide p))) (h1 : ¬ p → Run P n ops chk K (o :: rest) ⟨(d, .v (.bool true)) :: fr, σ⟩ acc)
    (h2 : p → Run P n ops chk K (o :: rest) ⟨(d, .v (.bool false)) :: fr, σ⟩ acc) : Run P n ops chk K (o :: rest) ⟨fr, σ⟩ acc :=
  Run.g hg hq hd hb (fun h => h1 (of_decide_eq_false (by simpa using h))) (fun h => h2 (of_decide_eq_true (by simpa using h)))
/-- another end -/
theorem Run.monoW {K' : State → Prop} {s : State} (h : Run P n ops chk K' rest s acc) (hk : ∀ fr' σ', K' ⟨fr', σ'⟩ → ∃ fr'' : Fr, fr''.le fr' ∧ K ⟨fr'', σ'⟩) : Run P n ops chk K rest s acc := by
  induction h with
  | @nil s acc hc hK =>
    obtain ⟨fr', σ'⟩ := s
    obtain ⟨fr'', h1, h2⟩ := hk fr' σ' hK
    exact .conv h1 (.nil hc h2)
  | op hw hd h hi hu hn hr ih => exact .op hw hd h hi hu hn ih
  | opN hall hw hd h hi hu hn hr ih => exact .opN hall hw hd h hi hu hn ih
  | conv h hr ih => exact .conv h ih
  | skip f hw hd hr ih => exact .skip f hw hd ih
/-- a frame with more slots -/
inductive ExtF (fr : Fr) : Fr → Prop
  | refl : ExtF fr fr
  | cons {d : Nat} {v : AV} {fr' : Fr} (h : ExtF fr fr') (hd : fr.get d = .any) : ExtF fr ((d, v) :: fr')
theorem ExtF.le {fr fr' : Fr} (h : ExtF fr fr') : fr.le fr' := by
  induction h with
  | refl => exact fun _ => .same
  | @cons d v fr' h hd ih =>
    intro t
    by_cases ht : t = d
    · subst ht; rw [hd]; exact .any
    · simp only [Fr.get]
      cases hb : Nat.beq t d with
      | true => exact absurd (Nat.eq_of_beq_eq_true hb) ht
      | false => exact ih t
/-- the rest of a region finds out whether p -/
theorem Run.test (t : Nat) (p : Prop) [Decidable p] (h : Run P n ops chk (fun s' => s'.σ = σ ∧ ExtF fr s'.fr ∧ s'.fr.get t = .v (.bool (decide p))) rest ⟨fr, σ⟩ acc) (hK : K ⟨(t, .v (.bool (decide p))) :: fr, σ⟩) : Run P n ops chk K rest ⟨fr, σ⟩ acc := by
  refine h.monoW fun fr' σ' ⟨h1, h2, h3⟩ => ⟨(t, .v (.bool (decide p))) :: fr, fun t' => ?_, ?_⟩
  · simp only [Fr.get]
    cases hb : Nat.beq t' t with
    | true => obtain rfl := Nat.eq_of_beq_eq_true hb; simp only; rw [← h3]; exact .same
    | false => exact h2.le t'
  · simp only at h1
    rw [h1]; exact hK
/-- a guarded operation that does not run -/
theorem Run.sk {d : Nat} (ho : o.dst = some d) (hw : wantA ops fr o = some false) (hd : Nat.blt d n = true) (hr : Run P n ops chk K rest ⟨(d, .v undef) :: fr, σ⟩ (acc ++ [([], [])])) : Run P n ops chk K (o :: rest) ⟨fr, σ⟩ acc :=
  .skip ([], []) hw (by rw [ho]; exact hd) (by rw [ho]; exact hr)
theorem Run.sk0 (ho : o.dst = none) (hw : wantA ops fr o = some false) (hr : Run P n ops chk K rest ⟨fr, σ⟩ (acc ++ [([], [])])) : Run P n ops chk K (o :: rest) ⟨fr, σ⟩ acc :=
  .skip ([], []) hw (by rw [ho]; rfl) (by rw [ho]; exact hr)
/-- without the condition -/
def strip : AV → AV
  | .ifb _ v => v
  | v => v
def okIf : AV → Prop
  | .ifb b _ => b = true
  | _ => True
def okIfs (fr : Fr) : List Operand → Prop
  | [] => True
  | x :: r => okIf (evA fr x) ∧ okIfs fr r
def evO (fr : Fr) (x : Operand) : AV := strip (evA fr x)
theorem okIfs.get {fr : Fr} : ∀ {l : List Operand}, okIfs fr l → ∀ x ∈ l, okIf (evA fr x)
  | [], _, x, hx => by cases hx
  | y :: r, h, x, hx => by
    rcases List.mem_cons.1 hx with rfl | hx
    · exact h.1
    · exact okIfs.get h.2 x hx
theorem OpS.open_ {P : Program} {o : Oper} {fr : Fr} {ins outs : Upds} {v : AV} (hs : OpS P o (evO fr) ins v outs) (hk : okIfs fr o.op.operands.toList) : OpS P o (evA fr) ins v outs := by
  intro I M w a σ K Q hop hst hi hn hK
  refine hs I M w a σ K Q (fun x hx => ?_) hst hi hn hK
  have h1 := hop x hx
  have h2 := hk.get x hx
  unfold evO
  generalize evA fr x = u at h1 h2
  generalize a.eval x = xv at h1 ⊢
  cases u with
  | ifb b v =>
    cases h1 with
    | ifb h _ => exact h h2
  | _ => exact h1
/-- a guarded operation that only computes or reads: what it yields if it runs -/
theorem Run.gp {d' : Nat} {c : Bool} {v : AV} {ins : Upds} {ks : List Nat} (hw : wantA ops fr o = some c) (ho : o.dst = some d') (hd' : Nat.blt d' n = true)
    (h : c = true → OpS P o (evA fr) ins v []) (hi : ∀ q ∈ ins, sto σ q.1 = q.2) (hk : keys ins = ks) (hr : Run P n ops chk K rest ⟨(d', .ifb c v) :: fr, σ⟩ (acc ++ [(ks, [])])) : Run P n ops chk K (o :: rest) ⟨fr, σ⟩ acc := by
  cases hcc : c with
  | true =>
    have h1 := h hcc
    refine .op (ins := ins) (outs := []) (v := v) (by rw [hw, hcc]) (by rw [ho]; exact hd') h1 hi rfl (fun _ h => by cases h) ?_
    rw [ho]
    refine .conv (fr' := (d', .ifb c v) :: fr) (fun t => ?_) (by rw [hk]; exact hr)
    simp only [Fr.put, Fr.get]
    cases Nat.beq t d' with
    | true => exact .ifb hcc .same
    | false => exact .same
  | false =>
    refine .skip (ks, []) (by rw [hw, hcc]) (by rw [ho]; exact hd') ?_
    rw [ho]
    refine .conv (fr' := (d', .ifb c v) :: fr) (fun t => ?_) hr
    simp only [Fr.put, Fr.get]
    cases Nat.beq t d' with
    | true => exact .ifF hcc
    | false => exact .same
/-- what a guard's condition is -/
inductive Gd (ops : List Oper) (fr : Fr) (o : Oper) : Bool → Prop
  | t {j d : Nat} {q : Oper} {b : Bool} (hg : o.guard = some (j, true)) (hq : ops[j]? = some q) (hd : q.dst = some d) (hb : fr.get d = .v (.bool b)) : Gd ops fr o b
  | f {j d : Nat} {q : Oper} {b : Bool} (hg : o.guard = some (j, false)) (hq : ops[j]? = some q) (hd : q.dst = some d) (hb : fr.get d = .v (.bool b)) : Gd ops fr o (!b)
  | t2 {j d : Nat} {q : Oper} {b c : Bool} (hg : o.guard = some (j, true)) (hq : ops[j]? = some q) (hd : q.dst = some d) (hb : fr.get d = .ifb c (.v (.bool b))) : Gd ops fr o (c && b)
  | f2 {j d : Nat} {q : Oper} {b c : Bool} (hg : o.guard = some (j, false)) (hq : ops[j]? = some q) (hd : q.dst = some d) (hb : fr.get d = .ifb c (.v (.bool b))) : Gd ops fr o (c && !b)
theorem Gd.want {ops : List Oper} {fr : Fr} {o : Oper} {c : Bool} (h : Gd ops fr o c) : wantA ops fr o = some c := by
  cases h with
  | t hg hq hd hb => simp [wantA, hg, hq, hd, hb, wantV]
  | f hg hq hd hb => simp [wantA, hg, hq, hd, hb, wantV]
  | t2 hg hq hd hb => simp [wantA, hg, hq, hd, hb, wantV]
  | f2 hg hq hd hb => simp [wantA, hg, hq, hd, hb, wantV]
theorem Run.gpc {d' : Nat} {c : Bool} {v : AV} (hG : Gd ops fr o c) (ho : o.dst = some d') (hd' : Nat.blt d' n = true) (h : c = true → OpP P o (evO fr) v ∧ okIfs fr o.op.operands.toList) (hr : Run P n ops chk K rest ⟨(d', .ifb c v) :: fr, σ⟩ (acc ++ [([], [])])) : Run P n ops chk K (o :: rest) ⟨fr, σ⟩ acc :=
  Run.gp (ins := []) (ks := []) hG.want ho hd' (fun hc => OpS.open_ (h hc).1.s (h hc).2) (fun _ h => by cases h) rfl hr
theorem Run.grc {d' : Nat} {c : Bool} {v : AV} {ins : Upds} (hG : Gd ops fr o c) (ho : o.dst = some d') (hd' : Nat.blt d' n = true) (h : OpR P o (evO fr) ins v) (hi : ∀ q ∈ ins, sto σ q.1 = q.2) (hok : c = true → okIfs fr o.op.operands.toList) (hr : Run P n ops chk K rest ⟨(d', .ifb c v) :: fr, σ⟩ (acc ++ [(keys ins, [])])) : Run P n ops chk K (o :: rest) ⟨fr, σ⟩ acc :=
  Run.gp (ins := ins) hG.want ho hd' (fun hc => OpS.open_ h.s (hok hc)) hi rfl hr
theorem Run.glc {d' t x k off : _} {c : Bool} {D : TypeDesc} {cs : List AV} {v : AV} [Und P t D] (hG : Gd ops fr o c) (ho : o.dst = some d') (hd' : Nat.blt d' n = true)
    (hop : o.op = .load t x) (hx : evO fr x = .ptr k off) (hD : isAggD D = false) (hk : sto σ k = .box cs) (hc : cs[off]? = some v) (hok : c = true → okIfs fr o.op.operands.toList) (hr : Run P n ops chk K rest ⟨(d', .ifb c v) :: fr, σ⟩ (acc ++ [([k], [])])) : Run P n ops chk K (o :: rest) ⟨fr, σ⟩ acc :=
  Run.grc hG ho hd' (OpR.load1 hop hx hD hc) (one_in hk) hok hr
/-- a guarded 'and', 'or' -/
theorem Run.gpick {d' : Nat} {g b p : Bool} {x u v : Operand} (hG : Gd ops fr o g) (ho : o.dst = some d') (hd' : Nat.blt d' n = true) (hop : o.op = .pick x u v) (hx : evA fr x = .ifb g (.v (.bool b))) (hu : evA fr u = .ifb (g && b) (.v (.bool p))) (hv : evA fr v = .v (.bool false))
    (hr : Run P n ops chk K rest ⟨(d', .ifb g (.v (.bool (b && p)))) :: fr, σ⟩ (acc ++ [([], [])])) : Run P n ops chk K (o :: rest) ⟨fr, σ⟩ acc := by
  refine Run.gp (ins := []) (ks := []) hG.want ho hd' (fun hc => OpP.s fun I M w a h => ?_) (fun _ h => by cases h) rfl hr
  have h1 := h x (by simp [hop, Op.operands])
  have h2 := h u (by simp [hop, Op.operands])
  have h3 := h v (by simp [hop, Op.operands])
  rw [hx] at h1; rw [hu] at h2; rw [hv] at h3
  have e3 := h3.val
  subst hc
  generalize ex : a.eval x = xv at h1
  generalize eu : a.eval u = uv at h2
  refine ⟨.bool (b && p), ?_, .v _⟩
  cases h1 with
  | ifb h1 _ =>
    have e1 := (h1 rfl).val
    cases b with
    | true =>
      cases h2 with
      | ifb h2 _ => simp [execOp, hop, ex, e1, asBool, eu, (h2 rfl).val]
    | false => simp [execOp, hop, ex, e1, asBool, e3]
theorem Run.gpickO {d' : Nat} {g b p : Bool} {x u v : Operand} (hG : Gd ops fr o g) (ho : o.dst = some d') (hd' : Nat.blt d' n = true) (hop : o.op = .pick x u v) (hx : evA fr x = .ifb g (.v (.bool b))) (hu : evA fr u = .v (.bool true)) (hv : evA fr v = .ifb (g && !b) (.v (.bool p)))
    (hr : Run P n ops chk K rest ⟨(d', .ifb g (.v (.bool (b || p)))) :: fr, σ⟩ (acc ++ [([], [])])) : Run P n ops chk K (o :: rest) ⟨fr, σ⟩ acc := by
  refine Run.gp (ins := []) (ks := []) hG.want ho hd' (fun hc => OpP.s fun I M w a h => ?_) (fun _ h => by cases h) rfl hr
  have h1 := h x (by simp [hop, Op.operands])
  have h2 := h u (by simp [hop, Op.operands])
  have h3 := h v (by simp [hop, Op.operands])
  rw [hx] at h1; rw [hu] at h2; rw [hv] at h3
  have e2 := h2.val
  subst hc
  generalize ex : a.eval x = xv at h1
  generalize ev : a.eval v = vv at h3
  refine ⟨.bool (b || p), ?_, .v _⟩
  cases h1 with
  | ifb h1 _ =>
    have e1 := (h1 rfl).val
    cases b with
    | false =>
      cases h3 with
      | ifb h3 _ => simp [execOp, hop, ex, e1, asBool, ev, (h3 rfl).val]
    | true => simp [execOp, hop, ex, e1, asBool, e2]
theorem OpR.load1k {t x k off : _} {D : TypeDesc} {cs : List AV} {c : AV} {ρ : Operand → AV} [Und P t D] (ho : o.op = .load t x) (hx : ρ x = .ptr k off) (hD : isAggD D = false) (hk : sto σ k = .box cs) (hc : cs[off]? = some c) : OpR P o ρ [(k, .box cs)] c := OpR.load1 ho hx hD hc
theorem OpR.loadNk {t x k off : _} {D : TypeDesc} {z : Value} {sz bytes : Nat} {cs l : List AV} {ρ : Operand → AV} [Und P t D] [TyI P t z sz bytes] (ho : o.op = .load t x) (hx : ρ x = .ptr k off) (hD : isAggD D = true) (hk : sto σ k = .box cs) (hc : Sub cs off sz l) : OpR P o ρ [(k, .box cs)] (.agg l) := OpR.loadN ho hx hD hc.spec.1 hc.spec.2
theorem OpP.pickAnd {c u v : Operand} {b p : Bool} {ρ : Operand → AV} (ho : o.op = .pick c u v) (hc : ρ c = .v (.bool b)) (hu : ρ u = .ifb b (.v (.bool p))) (hv : ρ v = .v (.bool false)) : OpP P o ρ (.v (.bool (b && p))) := by
  intro I M w a h
  have h1 := h c (by simp [ho, Op.operands])
  have h2 := h u (by simp [ho, Op.operands])
  have h3 := h v (by simp [ho, Op.operands])
  rw [hc] at h1; rw [hu] at h2; rw [hv] at h3
  have e1 := h1.val
  have e3 := h3.val
  refine ⟨.bool (b && p), ?_, .v _⟩
  cases b with
  | true =>
    generalize eu : a.eval u = uv at h2
    cases h2 with
    | ifb h _ => simp [execOp, ho, e1, asBool, eu, (h rfl).val]
  | false => simp [execOp, ho, e1, asBool, e3]
theorem OpP.pickOr {c u v : Operand} {b p : Bool} {ρ : Operand → AV} (ho : o.op = .pick c u v) (hc : ρ c = .v (.bool b)) (hu : ρ u = .v (.bool true)) (hv : ρ v = .ifb (!b) (.v (.bool p))) : OpP P o ρ (.v (.bool (b || p))) := by
  intro I M w a h
  have h1 := h c (by simp [ho, Op.operands])
  have h2 := h u (by simp [ho, Op.operands])
  have h3 := h v (by simp [ho, Op.operands])
  rw [hc] at h1; rw [hu] at h2; rw [hv] at h3
  have e1 := h1.val
  have e2 := h2.val
  refine ⟨.bool (b || p), ?_, .v _⟩
  cases b with
  | false =>
    generalize ev : a.eval v = vv at h3
    cases h3 with
    | ifb h _ => simp [execOp, ho, e1, asBool, ev, (h rfl).val]
  | true => simp [execOp, ho, e1, asBool, e2]
/-- a call -/
theorem Run.call {d nx : Nat} {x : Operand} {os : Array Operand} {ts : Array TypeId} {f : FuncId} {caps args0 as_ : List AV} {σc σc' σ' : List Res} {r0 r : AV} (S : List Nat) (hc : ACalls P f args0 σc r0 σc') (ho : o.dst = some d) (hop : o.op = .call { callee := .value x, args := os, argTypes := ts }) (hw : wantA ops fr o = some true) (hd : Nat.blt d n = true)
    [CallI P f] (hx : evA fr x = .fn f caps) (he : Ends σ nx) (hargs : AV.rens (renC S nx) args0 = os.toList.map (evA fr) ++ caps) (hS : nodupB S = true) (hSn : S.all (fun k => Nat.blt k nx) = true) (hl : Nat.beq S.length σc.length = true) (hl' : Nat.ble σc.length σc'.length = true) (hlt : σc'.all (Res.lt σc'.length) = true) (hrl : r0.lt σc'.length = true)
    (hlt0 : σc.all (Res.lt σc.length) = true) (hal : AV.lts σc.length args0 = true) (hr0 : r0.ren (renC S nx) = r) (hi : ∀ q ∈ insOf S (renC S nx) σc, sto σ q.1 = q.2) (hok : okU σ.length (outsOf (renC S nx) 0 σc') = true) (hσ : updL σ (outsOf (renC S nx) 0 σc') = σ')
    {k1 k2 : List Nat} (hk1 : keys (insOf S (renC S nx) σc) = k1) (hk2 : keys (outsOf (renC S nx) 0 σc') = k2) (hnew : k2.all (fun k => S.any (Nat.beq k) || Nat.ble nx k) = true)
    (hr : Run P n ops chk K rest ⟨(d, r) :: fr, σ'⟩ (acc ++ [(k1, k2)])) : Run P n ops chk K (o :: rest) ⟨fr, σ⟩ acc := by
  refine .op (v := r) hw (by rw [ho]; exact hd) (OpS.call S nx hc hop hx hargs hS hSn hl hl' hlt hrl hlt0 hal hr0 rfl rfl) hi hok (fun k hk => ?_) (by rw [ho, hσ, hk1, hk2]; exact hr)
  rw [hk2] at hk
  have h1 := (List.all_eq_true.1 hnew) k hk
  rw [Bool.or_eq_true] at h1
  rcases h1 with h1 | h1
  · left
    rw [keys_insOf _ _ _ (Nat.eq_of_beq_eq_true hl)]
    obtain ⟨k', hk', he'⟩ := List.any_eq_true.1 h1
    rw [Nat.eq_of_beq_eq_true he']; exact hk'
  · right
    rw [← he.spec]; exact Nat.le_of_ble_eq_true h1
/-- a call that is given no numbered thing and leaves none -/
theorem Run.c0 {d : Nat} {x : Operand} {os : Array Operand} {ts : Array TypeId} {f : FuncId} {caps args0 : List AV} {r0 : AV} (hc : ACalls P f args0 [] r0 []) (ho : o.dst = some d) (hop : o.op = .call { callee := .value x, args := os, argTypes := ts }) (hw : wantA ops fr o = some true) (hd : Nat.blt d n = true)
    [CallI P f] (hx : evA fr x = .fn f caps) (hargs : os.toList.map (evA fr) ++ caps = args0) (hal : AV.lts 0 args0 = true) (hrl : r0.lt 0 = true) (hr : Run P n ops chk K rest ⟨(d, r0) :: fr, σ⟩ (acc ++ [([], [])])) : Run P n ops chk K (o :: rest) ⟨fr, σ⟩ acc := by
  refine .op (ins := []) (outs := []) (v := r0) hw (by rw [ho]; exact hd) (OpS.call [] 0 hc hop hx (by rw [hargs]; exact (rens_lt0 _ hal)) rfl rfl rfl rfl rfl hrl rfl hal (ren_lt0 hrl) rfl rfl) (fun _ h => by cases h) rfl (fun _ h => by cases h) (by rw [ho]; exact hr)
theorem OpS.c0 {x : Operand} {os : Array Operand} {ts : Array TypeId} {f : FuncId} {caps args0 : List AV} {r0 : AV} {ρ : Operand → AV} (hc : ACalls P f args0 [] r0 []) (hop : o.op = .call { callee := .value x, args := os, argTypes := ts }) [CallI P f] (hx : ρ x = .fn f caps) (hargs : os.toList.map ρ ++ caps = args0) (hal : AV.lts 0 args0 = true) (hrl : r0.lt 0 = true) : OpS P o ρ [] r0 [] :=
  OpS.call [] 0 hc hop hx (by rw [hargs]; exact (rens_lt0 _ hal)) rfl rfl rfl rfl rfl hrl rfl hal (ren_lt0 hrl) rfl rfl
theorem Run.gcc {d' : Nat} {c : Bool} {x : Operand} {os : Array Operand} {ts : Array TypeId} {f : FuncId} {caps args0 : List AV} {r0 : AV} (hc : c = true → ACalls P f args0 [] r0 []) (hG : Gd ops fr o c) (ho : o.dst = some d') (hd' : Nat.blt d' n = true) (hop : o.op = .call { callee := .value x, args := os, argTypes := ts })
    [CallI P f] (hx : evO fr x = .fn f caps) (hargs : os.toList.map (evO fr) ++ caps = args0) (hal : AV.lts 0 args0 = true) (hrl : r0.lt 0 = true) (hok : c = true → okIfs fr o.op.operands.toList) (hr : Run P n ops chk K rest ⟨(d', .ifb c r0) :: fr, σ⟩ (acc ++ [([], [])])) : Run P n ops chk K (o :: rest) ⟨fr, σ⟩ acc :=
  Run.gp (ins := []) (ks := []) hG.want ho hd' (fun h => OpS.open_ (OpS.c0 (hc h) hop hx hargs hal hrl) (hok h)) (fun _ h => by cases h) rfl hr
end
/-- the results, in the words of the contract -/
inductive RetC (P : Program) (s : State) (ρ : Nat → Nat) : List ResultVar → List AV → Prop
  | nil : RetC P s ρ [] []
  | tmp {t : Tmp} {u v : AV} {l : List ResultVar} {vs : List AV} (h : s.fr.get t = u) (hc : Cv (sto s.σ) u (v.ren ρ)) (hs : RetC P s ρ l vs) : RetC P s ρ (.tmp t :: l) (v :: vs)
  | cell1 {t : Tmp} {ty : TypeId} {d : TypeDesc} {k off : Nat} {cs : List AV} {u v : AV} {l : List ResultVar} {vs : List AV} [Und P ty d] (hd : isAggD d = false) (h : s.fr.get t = .ptr k off) (hk : sto s.σ k = .box cs) (hu : cs[off]? = some u) (hc : Cv (sto s.σ) u (v.ren ρ)) (hs : RetC P s ρ l vs) : RetC P s ρ (.cell t ty :: l) (v :: vs)
  | cellN {t : Tmp} {ty : TypeId} {d : TypeDesc} {z : Value} {sz bytes k off : Nat} {cs m m' : List AV} {l : List ResultVar} {vs : List AV} [Und P ty d] [TyI P ty z sz bytes] (hd : isAggD d = true) (h : s.fr.get t = .ptr k off) (hk : sto s.σ k = .box cs) (hm : Sub cs off sz m) (hc : CvL (sto s.σ) m (AV.rens ρ m')) (hs : RetC P s ρ l vs) : RetC P s ρ (.cell t ty :: l) (.agg m' :: vs)
theorem RetC.res {P : Program} {s : State} {ρ : Nat → Nat} {l : List ResultVar} {vs : List AV} (h : RetC P s ρ l vs) : ∃ us, ResA P s l us ∧ CvL (sto s.σ) us (AV.rens ρ vs) := by
  induction h with
  | nil => exact ⟨[], .nil, .nil⟩
  | tmp h hc _ ih =>
    obtain ⟨us, h1, h2⟩ := ih
    exact ⟨_, .tmp h h1, .cons hc h2⟩
  | @cell1 t ty d k off cs u v l vs _ hd h hk hu hc _ ih =>
    obtain ⟨us, h1, h2⟩ := ih
    exact ⟨_, .cell1 hd h hk hu h1, .cons hc h2⟩
  | @cellN t ty d z sz bytes k off cs m m' l vs _ _ hd h hk hm hc _ ih =>
    obtain ⟨us, h1, h2⟩ := ih
    exact ⟨_, .cellN (ty := ty) hd h hk hm.spec.1 hm.spec.2 h1, .cons (.agg hc) h2⟩
/-- the end of a function that leaves no numbered thing -/
theorem RetOk.one {P : Program} {fn : Func} {r : AV} {s : State} {n : Nat} {I : Nat → CI} {M : Nat → Nat} {w : World} {own : Nat → Prop} (hlt : r.lt 0 = true) (hr : RetC P s (renL []) fn.results.toList [r]) : RetOk P fn r [] ⟨n, 0, I, M, w, own⟩ .ret s := by
  obtain ⟨us, h1, h2⟩ := hr.res
  cases h2 with
  | cons h hs =>
    cases hs with
    | nil => exact ⟨_, [], h1, rfl, rfl, Nat.le_refl _, h, hlt, .nil⟩
theorem RetOk.oneE {P : Program} {fn : Func} {r r' : AV} {s : State} {n : Nat} {I : Nat → CI} {M : Nat → Nat} {w : World} {own : Nat → Prop} (hr : RetC P s (renL []) fn.results.toList [r']) (hlt : r'.lt 0 = true) (he : r' = r) : RetOk P fn r [] ⟨n, 0, I, M, w, own⟩ .ret s := he ▸ RetOk.one hlt hr
theorem cv_resV {σ : Nat → Res} {us vs : List AV} (h : CvL σ us vs) (hl : Nat.beq vs.length 1 = false) : Cv σ (resV us) (.tup vs) := by
  cases h with
  | nil => exact Cv.tup .nil
  | cons h1 h2 =>
    cases h2 with
    | nil => simp at hl
    | cons h2 h3 => exact Cv.tup (.cons h1 (.cons h2 h3))
theorem AV.rens_len (ρ : Nat → Nat) (l : List AV) : (AV.rens ρ l).length = l.length := by rw [AV.rens_map]; simp
theorem RetOk.tup {P : Program} {fn : Func} {vs : List AV} {s : State} {n : Nat} {I : Nat → CI} {M : Nat → Nat} {w : World} {own : Nat → Prop} (hl : Nat.beq vs.length 1 = false) (hlt : AV.lts 0 vs = true) (hr : RetC P s (renL []) fn.results.toList vs) : RetOk P fn (.tup vs) [] ⟨n, 0, I, M, w, own⟩ .ret s := by
  obtain ⟨us, h1, h2⟩ := hr.res
  exact ⟨_, [], h1, rfl, rfl, Nat.le_refl _, cv_resV h2 (by rw [AV.rens_len]; exact hl), by simpa [AV.lt] using hlt, .nil⟩
/-- cells that are plain values -/
inductive VL : List AV → List Value → Prop
  | nil : VL [] []
  | cons {x : Value} {l : List AV} {xs : List Value} (h : VL l xs) : VL (.v x :: l) (x :: xs)
theorem VL.map {l : List AV} {xs : List Value} (h : VL l xs) : l = xs.map .v := by
  induction h with
  | nil => rfl
  | cons h ih => simp [ih]
theorem VL.rp {I : Nat → CI} {M : Nat → Nat} {w : World} {v : Value} {l : List AV} {xs : List Value} (h : VL l xs) (hv : Rp I M w v (.agg l)) : v = .agg xs.toArray := by
  rw [h.map] at hv
  cases hv with
  | @agg vs _ hs h1 hc =>
    congr 1
    apply Array.ext'
    apply List.ext_getElem?
    intro i
    simp only [List.length_map] at hs
    rcases Nat.lt_or_ge i xs.length with hi | hi
    · have := hc i vs[i] (.v xs[i]) (by simp [show i < vs.size by omega]) (by simp [hi])
      simp [show i < vs.size by omega, hi, this.val]
    · rw [List.getElem?_eq_none (by simp; omega), List.getElem?_eq_none (by simpa using hi)]
class NoIf (P : Program) (t : TypeId) : Prop where
  eq : P.eqGuardType P.depth t = false
theorem OpP.binA {P : Program} {o : Oper} {ρ : Operand → AV} {op : BinOp} {t t' : TypeId} {x y : Operand} {l m : List AV} {xs ys : List Value} {r : Value} [N : NoIf P t] (ho : o.op = .binOp op t x y t') (hx : ρ x = .agg l) (hy : ρ y = .agg m) (hl : VL l xs) (hm : VL m ys)
    (hr : ∀ w : World, (binOp op t (.agg xs.toArray) (.agg ys.toArray)).run P w = .ok r w) : OpP P o ρ (.v r) := by
  intro I M w a h
  have h1 := h x (by simp [ho, Op.operands])
  have h2 := h y (by simp [ho, Op.operands])
  rw [hx] at h1; rw [hy] at h2
  have e1 := hl.rp h1
  have e2 := hm.rp h2
  have hg : (eqGuard op t x y (.agg xs.toArray) (.agg ys.toArray)).run P w = .ok () w := by
    have := N.eq
    cases op <;> simp [eqGuard, this]
  exact ⟨r, by simp [execOp, ho, e1, e2, hr, hg], .v r⟩
theorem OpP.quoN {P : Program} {o : Oper} {ρ : Operand → AV} {t t' : TypeId} {x y : Operand} {k : IntKind} {a b r : Int} (ho : o.op = .binOp .quo t x y t') (hx : ρ x = .v (.int k a)) (hy : ρ y = .v (.int k b)) (ha : 0 ≤ a) (hb : 0 < b) (hr : k.wrap (a / b) = r) : OpP P o ρ (.v (.int k r)) :=
  .quo ho hx hy (by omega) (by rw [Int.tdiv_eq_ediv_of_nonneg ha]; exact hr)
theorem OpP.remN {P : Program} {o : Oper} {ρ : Operand → AV} {t t' : TypeId} {x y : Operand} {k : IntKind} {a b r : Int} (ho : o.op = .binOp .rem t x y t') (hx : ρ x = .v (.int k a)) (hy : ρ y = .v (.int k b)) (ha : 0 ≤ a) (hb : 0 < b) (hr : a % b = r) : OpP P o ρ (.v (.int k r)) :=
  .rem ho hx hy (by omega) (by rw [Int.tmod_eq_emod_of_nonneg ha]; exact hr)
/-- a struct type: where its fields lie, what its zero is -/
class StrI (P : Program) (t : TypeId) (pl : outParam (List (Nat × Nat))) (zs : outParam (List AV)) : Prop where
  eq : ∃ (it : TypeInfo) (fs : Array Field) (z : Value), P.info? t = some it ∧ P.underlying t = some (.struct fs) ∧ it.zero = some z ∧ fs.toList.mapM (fun f => (P.info? f.type).map fun i => (f.offset, i.size)) = some pl ∧ z.cells.toList.all (·.oneCell') = true ∧ z.cells.toList.map .v = zs
theorem StrI.mk' {P : Program} {t : TypeId} {pl : List (Nat × Nat)} {zs : List AV} {d : TypeDesc} {z : Value} {sz bytes : Nat} [U : Und P t d] [T : TyI P t z sz bytes] (hd : (match d with | .struct fs => fs.toList.mapM (fun f => (P.info? f.type).map fun i => (f.offset, i.size)) | _ => none) = some pl)
    (h1 : z.cells.toList.all (·.oneCell') = true) (h2 : z.cells.toList.map .v = zs) : StrI P t pl zs := by
  obtain ⟨i, hi, hz, _, _⟩ := info_parts T.info
  cases d <;> simp only at hd <;> first | (cases hd; done) | skip
  exact ⟨i, _, z, hi, U.und, hz, hd, h1, h2⟩
inductive Built (ρ : Operand → AV) (pl : List (Nat × Nat)) : List AV → List (Nat × Operand) → List AV → Prop
  | nil {zs : List AV} : Built ρ pl zs [] zs
  | cons {zs zs' new out : List AV} {i off size : Nat} {x : Operand} {v : AV} {r : List (Nat × Operand)} (hp : pl[i]? = some (off, size)) (hx : ρ x = v) (hc : Cells v new) (hl : Nat.beq new.length size = true) (ho : Over zs off new zs') (hr : Built ρ pl zs' r out) : Built ρ pl zs ((i, x) :: r) out
theorem Built.run {ρ : Operand → AV} {pl : List (Nat × Nat)} {I : Nat → CI} {M : Nat → Nat} {w : World} {a : Act} {zs out : List AV} {parts : List (Nat × Operand)} (h : Built ρ pl zs parts out) (hop : ∀ q ∈ parts, Rp I M w (a.eval q.2) (ρ q.2)) :
    ∀ cur : Array Value, cur.size = zs.length → (∀ (i : Nat) (v : Value), cur[i]? = some v → v.oneCell' = true) → (∀ (i : Nat) (v : Value) (c : AV), cur[i]? = some v → zs[i]? = some c → Rp I M w v c) →
      ∃ r : Array Value, Instr.fill (pl.toArray[·]?) cur (parts.map fun q => (q.1, a.eval q.2)) = some r ∧ r.size = out.length ∧ (∀ (i : Nat) (v : Value), r[i]? = some v → v.oneCell' = true) ∧ ∀ (i : Nat) (v : Value) (c : AV), r[i]? = some v → out[i]? = some c → Rp I M w v c := by
  induction h with
  | nil => intro cur h1 h2 h3; exact ⟨cur, rfl, h1, h2, h3⟩
  | @cons zs zs' new out i off size x v r hp hx hc hl ho hr ih =>
    intro cur h1 h2 h3
    have hl := Nat.eq_of_beq_eq_true hl
    obtain ⟨o1, o2⟩ := ho.spec
    have hv := hop (i, x) (by simp)
    simp only at hv
    rw [hx] at hv
    obtain ⟨c1, c2, c3⟩ := hv.cells hc.ok.1
    rw [hc.ok.2] at c1 c3
    have hz : (a.eval x).cells.zipIdx.foldl (fun cs (c, j) => cs.setIfInBounds (off + j) c) cur = setArr cur off (a.eval x).cells.toList := by
      have := foldl_setArr (a.eval x).cells.toList off 0 cur
      rw [Nat.add_zero] at this
      rw [← this, ← Array.foldl_toList]
      simp [Array.toList_zipIdx]
    have hvl : (a.eval x).cells.toList.length = new.length := by simpa using c1
    obtain ⟨r', e1, e2⟩ := ih (fun q hq => hop q (List.mem_cons_of_mem _ hq)) (setArr cur off (a.eval x).cells.toList) (by
        have e := congrArg List.length o2
        simp only [List.length_append, List.length_take, List.length_drop] at e
        rw [setArr_size, h1]; omega) (fun j u hu => by
        rw [setArr_get _ _ _ (by omega)] at hu
        split at hu
        · exact c2 _ u (by simpa using hu)
        · exact h2 j u hu) (fun j u c hu hc' => by
        rw [setArr_get _ _ _ (by omega)] at hu
        rw [← o2] at hc'
        split at hu
        · rw [List.getElem?_append_right (by simp; omega), List.length_take, Nat.min_eq_left (by omega), List.getElem?_append_left (by omega)] at hc'
          exact c3 (j - off) u c (by simpa using hu) hc'
        · refine h3 j u c hu ?_
          rcases Nat.lt_or_ge j off with q | q
          · rw [List.getElem?_append_left (by simp; omega), List.getElem?_take, if_pos q] at hc'
            exact hc'
          · rw [List.getElem?_append_right (by simp; omega), List.length_take, Nat.min_eq_left (by omega), List.getElem?_append_right (by omega), List.getElem?_drop] at hc'
            rw [← hc']; congr 1; omega)
    refine ⟨r', ?_, e2⟩
    simp only [List.map_cons, Instr.fill]
    have hpl : pl.toArray[i]? = some (off, size) := by simpa using hp
    rw [hpl]
    simp only
    rw [if_neg (by simp; omega)]
    simp only [hz]
    exact e1
theorem OpP.buildS {P : Program} {o : Oper} {ρ : Operand → AV} {t : TypeId} {parts : Array (Nat × Operand)} {pl : List (Nat × Nat)} {zs out : List AV} [S : StrI P t pl zs] (ho : o.op = .build t parts) (h : Built ρ pl zs parts.toList out) : OpP P o ρ (.agg out) := by
  intro I M w a hop
  obtain ⟨it, fs, z, e1, e2, e3, e4, e5, e6⟩ := S.eq
  have hop' : ∀ q ∈ parts.toList, Rp I M w (a.eval q.2) (ρ q.2) := fun q hq => hop q.2 (by rw [ho]; simp only [Op.operands]; exact List.mem_map.2 ⟨q, hq, rfl⟩)
  subst e6
  obtain ⟨r, r1, r2, r3, r4⟩ := h.run hop' z.cells (by simp) (fun i v hv => (List.all_eq_true.1 e5) v (by simpa using Array.mem_of_getElem? hv)) (fun i v c hv hc => by
    rw [List.getElem?_map, Array.getElem?_toList, hv] at hc
    injection hc with hc; subst hc; exact .v _)
  refine ⟨.agg r, ?_, .agg r2 r3 r4⟩
  have hb : P.built t (parts.map fun q => (q.1, a.eval q.2)).toList = some r := by
    rw [Array.toList_map]
    simp only [Program.built, e1, e2, e3, e4]
    exact r1
  have hgo : execOp a.eval o = (do pure (.value (← Instr.build t (parts.map fun q => (q.1, a.eval q.2))))) := by simp only [execOp, ho]
  rw [hgo]
  simp [run_build w t _ r hb]
end Go.Proofs.Ytbbcokckealagaa
