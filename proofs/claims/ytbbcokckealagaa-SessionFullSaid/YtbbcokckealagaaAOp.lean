/-
  The operations over values without addresses: what each yields, proved once for any program. Nothing of the dump is used; no condition.
-/
import Derived.Test.YtbbcokckealagaaAbs
namespace Go.Proofs.Ytbbcokckealagaa
open Go.RowKit
/-- a frame: what is known of its slots; of a slot that is not named nothing is known -/
abbrev Fr := List (Nat × AV)
def Fr.get : Fr → Nat → AV
  | [], _ => .any
  | (t', v) :: r, t => match Nat.beq t t' with | true => v | false => Fr.get r t
def Fr.put (fr : Fr) (d : Option Tmp) (v : AV) : Fr := match d with | some d => (d, v) :: fr | none => fr
def evA (fr : Fr) : Operand → AV
  | .tmp t => fr.get t
  | .const v => .v v
  | .func f => .fn f []
  | .global _ => .any
def FrOk (I : Nat → CI) (M : Nat → Nat) (w : World) (n : Nat) (a : Act) (fr : Fr) : Prop := a.tmps.size = n ∧ ∀ t, Rp I M w (a.tmps.getD t undef) (fr.get t)
theorem FrOk.eval {I : Nat → CI} {M : Nat → Nat} {w : World} {n : Nat} {a : Act} {fr : Fr} (h : FrOk I M w n a fr) (x : Operand) : Rp I M w (a.eval x) (evA fr x) := by
  cases x with
  | tmp t => exact h.2 t
  | const v => exact .v v
  | func f => exact .fn (by simp) (by intro i v c hv; simp at hv)
  | global g => exact .any _
def dstOk (n : Nat) : Option Tmp → Bool
  | some d => Nat.blt d n
  | none => true
theorem Fr.get_put (fr : Fr) (d t : Nat) (v : AV) : (Fr.put fr (some d) v).get t = if t = d then v else fr.get t := by
  simp only [Fr.put, Fr.get]
  by_cases h : t = d
  · subst h; simp
  · have : Nat.beq t d = false := by
      cases hb : Nat.beq t d with
      | false => rfl
      | true => exact absurd (Nat.eq_of_beq_eq_true hb) h
    rw [this, if_neg h]
theorem FrOk.put {I : Nat → CI} {M : Nat → Nat} {w : World} {n : Nat} {a : Act} {fr : Fr} (h : FrOk I M w n a fr) {d : Option Tmp} (hd : dstOk n d = true) {cv : Value} {v : AV} (hv : Rp I M w cv v) : FrOk I M w n (a.put d cv) (fr.put d v) := by
  cases d with
  | none => exact h
  | some d =>
    have hd : d < n := by simpa [dstOk, Nat.blt_eq] using hd
    refine ⟨by simpa [Act.put] using h.1, fun t => ?_⟩
    rw [Fr.get_put]
    by_cases ht : t = d
    · subst ht
      have : t < a.tmps.size := by rw [h.1]; exact hd
      simpa [Act.put, this] using hv
    · have hne : d ≠ t := fun e => ht e.symm
      simpa [Act.put, ht, Array.getElem?_setIfInBounds_ne hne] using h.2 t
theorem FrOk.evo {I I' : Nat → CI} {M M' : Nat → Nat} {w w' : World} {n : Nat} {a : Act} {fr : Fr} (h : FrOk I M w n a fr) (hI : ∀ k, (I k).le (I' k)) (e : Evo M M' w w') : FrOk I' M' w' n a fr := ⟨h.1, fun t => (h.2 t).evo hI e⟩

abbrev Upds := List (Nat × Res)
def keys {α : Type} (u : List (Nat × α)) : List Nat := u.map (·.1)
def updS {α : Type} (σ : Nat → α) : List (Nat × α) → Nat → α
  | [], k => σ k
  | (k', r) :: us, k => if k = k' then r else updS σ us k
theorem updS_other {α : Type} (σ : Nat → α) (us : List (Nat × α)) (k : Nat) (h : k ∉ keys us) : updS σ us k = σ k := by
  induction us with
  | nil => rfl
  | cons p us ih =>
    obtain ⟨k', r⟩ := p
    simp only [keys, List.map_cons, List.mem_cons, not_or] at h
    simp only [updS, if_neg h.1]
    exact ih h.2

/-- what an operation does, out of what its operands and some numbered things (ins) hold: its value, and what numbered things hold behind it (outs) -/
def OpS (P : Program) (o : Oper) (ρ : Operand → AV) (ins : Upds) (v : AV) (outs : Upds) : Prop :=
  ∀ (I : Nat → CI) (M : Nat → Nat) (w : World) (a : Act) (σ : Nat → Res) (K : Act → World → Prop) (Q : Exit → Act → World → Prop),
    (∀ x ∈ o.op.operands.toList, Rp I M w (a.eval x) (ρ x)) → Sto I M w σ → (∀ p ∈ ins, σ p.1 = p.2) → (∀ k ∈ keys outs, k ∈ keys ins ∨ (σ k = .no ∧ I k = .no)) →
    (∀ cv I' M' w', Rp I' M' w' cv v → Sto I' M' w' (updS σ outs) → Ext (fun b => ∃ k ∈ keys ins, blkOf (I k) (σ k) = some b) I I' M M' w w' → (∀ k, k ∉ keys outs → I' k = I k) →
      (∀ k ∈ keys outs, ∀ b, blkOf (I' k) (updS σ outs k) = some b → w.heap.size ≤ b ∨ ∃ k0 ∈ keys ins, blkOf (I k0) (σ k0) = some b) → K (a.put o.dst cv) w') → o.wp P a w K Q
/-- an operation of which only a choice of results is known -/
def OpSN (P : Program) (o : Oper) (ρ : Operand → AV) (ins : Upds) {ι : Type} (v : ι → AV) (outs : ι → Upds) : Prop :=
  ∀ (I : Nat → CI) (M : Nat → Nat) (w : World) (a : Act) (σ : Nat → Res) (K : Act → World → Prop) (Q : Exit → Act → World → Prop),
    (∀ x ∈ o.op.operands.toList, Rp I M w (a.eval x) (ρ x)) → Sto I M w σ → (∀ p ∈ ins, σ p.1 = p.2) → (∀ i, ∀ k ∈ keys (outs i), k ∈ keys ins ∨ (σ k = .no ∧ I k = .no)) →
    (∀ i cv I' M' w', Rp I' M' w' cv (v i) → Sto I' M' w' (updS σ (outs i)) → Ext (fun b => ∃ k ∈ keys ins, blkOf (I k) (σ k) = some b) I I' M M' w w' → (∀ k, k ∉ keys (outs i) → I' k = I k) →
      (∀ k ∈ keys (outs i), ∀ b, blkOf (I' k) (updS σ (outs i) k) = some b → w.heap.size ≤ b ∨ ∃ k0 ∈ keys ins, blkOf (I k0) (σ k0) = some b) → K (a.put o.dst cv) w') → o.wp P a w K Q
/-- an operation that only computes -/
def OpP (P : Program) (o : Oper) (ρ : Operand → AV) (v : AV) : Prop :=
  ∀ (I : Nat → CI) (M : Nat → Nat) (w : World) (a : Act), (∀ x ∈ o.op.operands.toList, Rp I M w (a.eval x) (ρ x)) → ∃ cv, (execOp a.eval o).run P w = .ok (.value cv) w ∧ Rp I M w cv v
theorem OpP.s {P : Program} {o : Oper} {ρ : Operand → AV} {v : AV} (h : OpP P o ρ v) : OpS P o ρ [] v [] := by
  intro I M w a σ K Q hx hs _ _ hK
  obtain ⟨cv, hr, hv⟩ := h I M w a hx
  unfold Oper.wp
  rw [hr]
  exact hK cv I M w hv hs (Ext.refl _ _ _ _) (fun _ _ => rfl) (fun _ h => by cases h)
/-- an operation that only reads the numbered things -/
def OpR (P : Program) (o : Oper) (ρ : Operand → AV) (ins : Upds) (v : AV) : Prop :=
  ∀ (I : Nat → CI) (M : Nat → Nat) (w : World) (a : Act) (σ : Nat → Res), (∀ x ∈ o.op.operands.toList, Rp I M w (a.eval x) (ρ x)) → Sto I M w σ → (∀ p ∈ ins, σ p.1 = p.2) → ∃ cv, (execOp a.eval o).run P w = .ok (.value cv) w ∧ Rp I M w cv v
theorem OpR.s {P : Program} {o : Oper} {ρ : Operand → AV} {ins : Upds} {v : AV} (h : OpR P o ρ ins v) : OpS P o ρ ins v [] := by
  intro I M w a σ K Q hx hs hi _ hK
  obtain ⟨cv, hr, hv⟩ := h I M w a σ hx hs hi
  unfold Oper.wp
  rw [hr]
  exact hK cv I M w hv hs (Ext.refl _ _ _ _) (fun _ _ => rfl) (fun _ h => by cases h)

theorem Rp.val {I : Nat → CI} {M : Nat → Nat} {w : World} {x y : Value} (h : Rp I M w x (.v y)) : x = y := by cases h; rfl
theorem Rp.val' {I : Nat → CI} {M : Nat → Nat} {w : World} {x y : Value} {p : AV} (h : Rp I M w x p) (e : p = .v y) : x = y := by subst e; exact h.val

/-- a type's row of the table -/
class TyI (P : Program) (t : TypeId) (z : outParam Value) (size bytes : outParam Nat) : Prop where
  info : (P.info? t).map (fun i => (i.zero, i.size, i.bytes)) = some (some z, size, bytes)
class Und (P : Program) (t : TypeId) (d : outParam TypeDesc) : Prop where
  und : P.underlying t = some d
section
variable {P : Program} {o : Oper} {ρ : Operand → AV}
theorem run_typeInfo {t : TypeId} {z : Value} {size bytes : Nat} [T : TyI P t z size bytes] (w : World) : ∃ i, P.info? t = some i ∧ i.zero = some z ∧ i.size = size ∧ i.bytes = bytes ∧ (typeInfo t).run P w = .ok i w ∧ (zeroValue t).run P w = .ok z w ∧ (sizeOf t).run P w = .ok size w := by
  obtain ⟨i, h1, h2, h3, h4⟩ := info_parts T.info
  exact ⟨i, h1, h2, h3, h4, by simp [typeInfo, h1], by simp [zeroValue, typeInfo, h1, h2], by simp [sizeOf, typeInfo, h1, h3]⟩
theorem run_und {t : TypeId} {d : TypeDesc} [T : Und P t d] (w : World) : (underlying t).run P w = .ok d w := run_underlying T.und w

theorem OpP.move (x : Operand) (ho : o.op = .move x ∨ o.op = .assign x) {v : AV} (hx : ρ x = v) : OpP P o ρ v := by
  intro I M w a h
  refine ⟨a.eval x, ?_, ?_⟩
  · rcases ho with ho | ho <;> simp [execOp, ho]
  · rw [← hx]; exact h x (by rcases ho with ho | ho <;> simp [ho, Op.operands])
theorem OpP.bin {op : BinOp} {t t' : TypeId} {x y : Operand} (ho : o.op = .binOp op t x y t') {u v r : Value} (hx : ρ x = .v u) (hy : ρ y = .v v)
    (hr : ∀ w : World, (binOp op t u v).run P w = .ok r w) (hg : ∀ w : World, (eqGuard op t x y u v).run P w = .ok () w) : OpP P o ρ (.v r) := by
  intro I M w a h
  have h1 := h x (by simp [ho, Op.operands])
  have h2 := h y (by simp [ho, Op.operands])
  rw [hx] at h1; rw [hy] at h2
  exact ⟨r, by simp [execOp, ho, h1.val, h2.val, hr, hg], .v r⟩
theorem eqGuard_int (op : BinOp) (t : TypeId) (x y : Operand) (k k' : IntKind) (a b : Int) (w : World) : (eqGuard op t x y (.int k a) (.int k' b)).run P w = .ok () w := by
  cases op <;> simp [eqGuard]
theorem eqGuard_str (op : BinOp) (t : TypeId) (x y : Operand) (a b : ByteArray) (w : World) : (eqGuard op t x y (.string a) (.string b)).run P w = .ok () w := by
  cases op <;> simp [eqGuard]
theorem eqGuard_bool (op : BinOp) (t : TypeId) (x y : Operand) (a b : Bool) (w : World) : (eqGuard op t x y (.bool a) (.bool b)).run P w = .ok () w := by
  cases op <;> simp [eqGuard]
/-- a string of these bytes -/
abbrev bs (l : List UInt8) : ByteArray := ⟨l.toArray⟩
theorem bs_size (l : List UInt8) : (bs l).size = l.length := by simp [ByteArray.size]
theorem bs_append (l m : List UInt8) : bs l ++ bs m = bs (l ++ m) := ByteArray.mk_append_mk l m
theorem bs_of (s : ByteArray) : s = bs s.data.toList := rfl
theorem ba_beq (l m : List UInt8) : ((bs l).toList == (bs m).toList) = decide (l = m) := by
  rw [ByteArray.toList_eq, ByteArray.toList_eq]
  by_cases h : l = m <;> simp [h]
section
variable {t t' : TypeId} {x y : Operand} {k : IntKind} {a b r : Int}
theorem OpP.add (ho : o.op = .binOp .add t x y t') (hx : ρ x = .v (.int k a)) (hy : ρ y = .v (.int k b)) (hr : k.wrap (a + b) = r) : OpP P o ρ (.v (.int k r)) :=
  .bin ho hx hy (fun w => by simp [binOp, Op.intArith, hr]) (fun w => eqGuard_int ..)
theorem OpP.sub (ho : o.op = .binOp .sub t x y t') (hx : ρ x = .v (.int k a)) (hy : ρ y = .v (.int k b)) (hr : k.wrap (a - b) = r) : OpP P o ρ (.v (.int k r)) :=
  .bin ho hx hy (fun w => by simp [binOp, Op.intArith, hr]) (fun w => eqGuard_int ..)
theorem OpP.mul (ho : o.op = .binOp .mul t x y t') (hx : ρ x = .v (.int k a)) (hy : ρ y = .v (.int k b)) (hr : k.wrap (a * b) = r) : OpP P o ρ (.v (.int k r)) :=
  .bin ho hx hy (fun w => by simp [binOp, Op.intArith, hr]) (fun w => eqGuard_int ..)
theorem OpP.quo (ho : o.op = .binOp .quo t x y t') (hx : ρ x = .v (.int k a)) (hy : ρ y = .v (.int k b)) (hb : b ≠ 0) (hr : k.wrap (a.tdiv b) = r) : OpP P o ρ (.v (.int k r)) :=
  .bin ho hx hy (fun w => by simp [binOp, Op.intDiv, hb, hr]) (fun w => eqGuard_int ..)
theorem OpP.rem (ho : o.op = .binOp .rem t x y t') (hx : ρ x = .v (.int k a)) (hy : ρ y = .v (.int k b)) (hb : b ≠ 0) (hr : a.tmod b = r) : OpP P o ρ (.v (.int k r)) :=
  .bin ho hx hy (fun w => by simp [binOp, Op.intDiv, hb, hr]) (fun w => eqGuard_int ..)
/-- the bits, shifts: what the model says -/
theorem OpP.binv {op : BinOp} {u v z : Value} (ho : o.op = .binOp op t x y t') (hx : ρ x = .v u) (hy : ρ y = .v v) (hi : ∃ k a k' b, u = .int k a ∧ v = .int k' b) (hr : ∀ w, (binOp op t u v).run P w = .ok z w) : OpP P o ρ (.v z) := by
  obtain ⟨k, a, k', b, rfl, rfl⟩ := hi
  exact .bin ho hx hy hr (fun w => eqGuard_int ..)
theorem OpP.eq (ho : o.op = .binOp .eql t x y t') (hx : ρ x = .v (.int k a)) (hy : ρ y = .v (.int k b)) : OpP P o ρ (.v (.bool (decide (a = b)))) :=
  .bin ho hx hy (fun w => by simp [binOp, Op.intCmp]; rfl) (fun w => eqGuard_int ..)
theorem OpP.ne (ho : o.op = .binOp .neq t x y t') (hx : ρ x = .v (.int k a)) (hy : ρ y = .v (.int k b)) : OpP P o ρ (.v (.bool (decide (a ≠ b)))) :=
  .bin ho hx hy (fun w => by simp [binOp, Op.intCmp, bne]; rfl) (fun w => eqGuard_int ..)
theorem OpP.ltt (ho : o.op = .binOp .lss t x y t') (hx : ρ x = .v (.int k a)) (hy : ρ y = .v (.int k b)) : OpP P o ρ (.v (.bool (decide (a < b)))) :=
  .bin ho hx hy (fun w => by simp [binOp, Op.intCmp]) (fun w => eqGuard_int ..)
theorem OpP.lee (ho : o.op = .binOp .leq t x y t') (hx : ρ x = .v (.int k a)) (hy : ρ y = .v (.int k b)) : OpP P o ρ (.v (.bool (decide (a ≤ b)))) :=
  .bin ho hx hy (fun w => by simp [binOp, Op.intCmp]) (fun w => eqGuard_int ..)
theorem OpP.gtt (ho : o.op = .binOp .gtr t x y t') (hx : ρ x = .v (.int k a)) (hy : ρ y = .v (.int k b)) : OpP P o ρ (.v (.bool (decide (b < a)))) :=
  .bin ho hx hy (fun w => by simp [binOp, Op.intCmp]) (fun w => eqGuard_int ..)
theorem OpP.gee (ho : o.op = .binOp .geq t x y t') (hx : ρ x = .v (.int k a)) (hy : ρ y = .v (.int k b)) : OpP P o ρ (.v (.bool (decide (b ≤ a)))) :=
  .bin ho hx hy (fun w => by simp [binOp, Op.intCmp]) (fun w => eqGuard_int ..)
theorem OpP.cat {s u : List UInt8} (ho : o.op = .binOp .add t x y t') (hx : ρ x = .v (.string (bs s))) (hy : ρ y = .v (.string (bs u))) (hl : s.length + u.length ≤ maxLen) : OpP P o ρ (.v (.string (bs (s ++ u)))) :=
  .bin ho hx hy (fun w => by
    unfold maxLen at hl
    rw [binOp_string_add, run_string_add_sum _ _ _ (by rw [bs_size, bs_size]; omega), bs_append]) (fun w => eqGuard_str ..)
theorem OpP.seq {s u : List UInt8} (ho : o.op = .binOp .eql t x y t') (hx : ρ x = .v (.string (bs s))) (hy : ρ y = .v (.string (bs u))) : OpP P o ρ (.v (.bool (decide (s = u)))) :=
  .bin ho hx hy (fun w => by rw [binOp_string_eql, ba_beq]; rfl) (fun w => eqGuard_str ..)
theorem OpP.sne {s u : List UInt8} (ho : o.op = .binOp .neq t x y t') (hx : ρ x = .v (.string (bs s))) (hy : ρ y = .v (.string (bs u))) : OpP P o ρ (.v (.bool (decide (s ≠ u)))) :=
  .bin ho hx hy (fun w => by rw [binOp_string_neq, ba_beq]; simp) (fun w => eqGuard_str ..)
theorem OpP.beq {p q : Bool} [Und P t .bool] (ho : o.op = .binOp .eql t x y t') (hx : ρ x = .v (.bool p)) (hy : ρ y = .v (.bool q)) : OpP P o ρ (.v (.bool (p == q))) :=
  .bin ho hx hy (fun w => by simp only [binOp, Sem.run_bind, run_equal_bool w t p q (Und.und), Result.andThen_ok, Sem.run_pure]) (fun w => eqGuard_bool ..)
theorem OpP.bne {p q : Bool} [Und P t .bool] (ho : o.op = .binOp .neq t x y t') (hx : ρ x = .v (.bool p)) (hy : ρ y = .v (.bool q)) : OpP P o ρ (.v (.bool (!(p == q)))) :=
  .bin ho hx hy (fun w => by simp only [binOp, Sem.run_bind, run_equal_bool w t p q (Und.und), Result.andThen_ok, Sem.run_pure]) (fun w => eqGuard_bool ..)
theorem OpP.pick {c u v : Operand} {b : Bool} {r : AV} (ho : o.op = .pick c u v) (hc : ρ c = .v (.bool b)) (hr : (match b with | true => ρ u | false => ρ v) = r) : OpP P o ρ r := by
  intro I M w a h
  have h1 := h c (by simp [ho, Op.operands])
  rw [hc] at h1
  subst hr
  cases b with
  | true => exact ⟨a.eval u, by simp [execOp, ho, h1.val, asBool], h u (by simp [ho, Op.operands])⟩
  | false => exact ⟨a.eval v, by simp [execOp, ho, h1.val, asBool], h v (by simp [ho, Op.operands])⟩
theorem OpP.not {b : Bool} (ho : o.op = .unOp .not t x) (hx : ρ x = .v (.bool b)) : OpP P o ρ (.v (.bool (!b))) := by
  intro I M w a h
  have h1 := h x (by simp [ho, Op.operands])
  rw [hx] at h1
  exact ⟨_, by simp [execOp, ho, h1.val, Op.unary], .v _⟩
theorem OpP.un {op : UnOp} {u z : Value} (ho : o.op = .unOp op t x) (hx : ρ x = .v u) (hr : ∀ w, (Op.unary op u).run P w = .ok z w) : OpP P o ρ (.v z) := by
  intro I M w a h
  have h1 := h x (by simp [ho, Op.operands])
  rw [hx] at h1
  exact ⟨z, by simp [execOp, ho, h1.val, hr], .v z⟩
theorem OpP.conv {s d : TypeId} {k k' : IntKind} [Und P s (.int k')] [Und P d (.int k)] (ho : o.op = .convert s d x) (hx : ρ x = .v (.int k' a)) (hr : k.wrap a = r) : OpP P o ρ (.v (.int k r)) := by
  intro I M w ac h
  have h1 := h x (by simp [ho, Op.operands])
  rw [hx] at h1
  exact ⟨_, by simp [execOp, ho, h1.val, convert, run_und, Conv.intToInt, hr], .v _⟩
end
end
end Go.Proofs.Ytbbcokckealagaa
