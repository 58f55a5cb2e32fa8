/-
  More steps of a walk over values without addresses: slices, literals, append, conversions. Nothing of the dump is used; no condition.
-/
import Derived.Test.YtbbcokckealagaaALp
import Derived.Laws.IdiomStrings
import Derived.WalkSpells
namespace Go.Proofs.Ytbbcokckealagaa
open Go.RowKit
set_option linter.unusedVariables false
set_option linter.unusedSimpArgs false
section
variable {P : Program} {n : Nat} {ops : List Oper} {chk : List FP → Bool} {K : State → Prop} {rest : List Oper} {o : Oper} {fr : Fr} {σ : List Res} {acc : List FP} {ρ : Operand → AV} {σ0 : Nat → Res}
theorem OpR.sliceL {t e : TypeId} {x y : Operand} {k : IntKind} {sz bytes l : Nat} {z : Value} {xs r : List (List PV)} {ins : Upds} [Und P t (.slice e)] [TyI P e z sz bytes] (ho : o.op = .slice t x (some y) none none) (hx : Dat σ0 (ρ x) sz xs ins) (hy : ρ y = .v (.int k (l : Int))) (hl : l ≤ xs.length) (hr : xs.drop l = r) : OpR P o ρ ins (.sl sz r false) := by
  subst hr
  have := OpR.slice (P := P) (o := o) (ρ := ρ) (σ0 := σ0) (t := t) (e := e) (z := z) (bytes := bytes) (h := none) (m := none) (f := false) (L := l) (H := xs.length) ho hx (OpI.so hy rfl) OpI.no OpI.no (by simp) rfl rfl hl (Nat.le_refl _) (by simp) (by simp) (by simp)
  rwa [List.take_length] at this
theorem OpR.sliceH {t e : TypeId} {x y : Operand} {k : IntKind} {sz bytes h : Nat} {z : Value} {xs r : List (List PV)} {ins : Upds} [Und P t (.slice e)] [TyI P e z sz bytes] (ho : o.op = .slice t x none (some y) none) (hx : Dat σ0 (ρ x) sz xs ins) (hy : ρ y = .v (.int k (h : Int))) (hl : h ≤ xs.length) (hr : xs.take h = r) : OpR P o ρ ins (.sl sz r false) := by
  subst hr
  exact OpR.slice (l := none) (m := none) (f := false) (L := 0) (H := h) ho hx OpI.no (OpI.so hy rfl) OpI.no (by simp) rfl rfl (Nat.zero_le _) hl (by simp) (by simpa using hl) (by simp)
theorem OpR.sliceLH {t e : TypeId} {x y1 y2 : Operand} {k k' : IntKind} {sz bytes l h : Nat} {z : Value} {xs r : List (List PV)} {ins : Upds} [Und P t (.slice e)] [TyI P e z sz bytes] (ho : o.op = .slice t x (some y1) (some y2) none) (hx : Dat σ0 (ρ x) sz xs ins) (hy1 : ρ y1 = .v (.int k (l : Int))) (hy2 : ρ y2 = .v (.int k' (h : Int))) (h1 : l ≤ h) (h2 : h ≤ xs.length) (hr : (xs.take h).drop l = r) : OpR P o ρ ins (.sl sz r false) := by
  subst hr
  exact OpR.slice (m := none) (f := false) (L := l) (H := h) ho hx (OpI.so hy1 rfl) (OpI.so hy2 rfl) OpI.no (by simp) rfl rfl h1 h2 (by simp) (by simpa using h2) (by simp)
/-- s[l:h:h] -/
theorem OpR.slice3 {t e : TypeId} {x y1 y2 y3 : Operand} {k k' k'' : IntKind} {sz bytes l h : Nat} {z : Value} {xs r : List (List PV)} {ins : Upds} [Und P t (.slice e)] [TyI P e z sz bytes] (ho : o.op = .slice t x (some y1) (some y2) (some y3)) (hx : Dat σ0 (ρ x) sz xs ins) (hy1 : ρ y1 = .v (.int k (l : Int))) (hy2 : ρ y2 = .v (.int k' (h : Int))) (hy3 : ρ y3 = .v (.int k'' (h : Int))) (h1 : l ≤ h) (h2 : h ≤ xs.length) (hr : (xs.take h).drop l = r) : OpR P o ρ ins (.sl sz r true) := by
  subst hr
  exact OpR.slice (f := true) (L := l) (H := h) ho hx (OpI.so hy1 rfl) (OpI.so hy2 rfl) (OpI.so hy3 rfl) (by simp) rfl rfl h1 h2 (by simp) (by simpa using h2) (fun _ => .inl rfl)
theorem OpR.slice3h {t e : TypeId} {x y2 y3 : Operand} {k' k'' : IntKind} {sz bytes h : Nat} {z : Value} {xs r : List (List PV)} {ins : Upds} [Und P t (.slice e)] [TyI P e z sz bytes] (ho : o.op = .slice t x none (some y2) (some y3)) (hx : Dat σ0 (ρ x) sz xs ins) (hy2 : ρ y2 = .v (.int k' (h : Int))) (hy3 : ρ y3 = .v (.int k'' (h : Int))) (h2 : h ≤ xs.length) (hr : xs.take h = r) : OpR P o ρ ins (.sl sz r true) := by
  subst hr
  exact OpR.slice (l := none) (f := true) (L := 0) (H := h) ho hx OpI.no (OpI.so hy2 rfl) (OpI.so hy3 rfl) (by simp) rfl rfl (Nat.zero_le _) h2 (by simp) (by simpa using h2) (fun _ => .inl rfl)
theorem OpP.sliceStrL {t : TypeId} {x y : Operand} {k : IntKind} {l : Int} {s r : List UInt8} [Und P t .string] (ho : o.op = .slice t x (some y) none none) (hx : ρ x = .v (.string (bs s))) (hy : ρ y = .v (.int k l)) (h0 : 0 ≤ l) (hl : l ≤ s.length) (hr : s.drop l.toNat = r) : OpP P o ρ (.v (.string (bs r))) := by
  obtain ⟨l, rfl⟩ := Int.eq_ofNat_of_zero_le h0
  exact OpP.sliceStr (h := none) (L := l) (H := s.length) ho hx (OpI.so hy rfl) OpI.no rfl rfl (by omega) (Nat.le_refl _) (by rw [List.take_length]; exact hr)
theorem OpP.sliceStrH {t : TypeId} {x y : Operand} {k : IntKind} {h : Int} {s r : List UInt8} [Und P t .string] (ho : o.op = .slice t x none (some y) none) (hx : ρ x = .v (.string (bs s))) (hy : ρ y = .v (.int k h)) (h0 : 0 ≤ h) (hl : h ≤ s.length) (hr : s.take h.toNat = r) : OpP P o ρ (.v (.string (bs r))) := by
  obtain ⟨h, rfl⟩ := Int.eq_ofNat_of_zero_le h0
  exact OpP.sliceStr (l := none) (L := 0) (H := h) ho hx OpI.no (OpI.so hy rfl) rfl rfl (Nat.zero_le _) (by omega) hr
theorem OpP.sliceStrLH {t : TypeId} {x y1 y2 : Operand} {k k' : IntKind} {l h : Int} {s r : List UInt8} [Und P t .string] (ho : o.op = .slice t x (some y1) (some y2) none) (hx : ρ x = .v (.string (bs s))) (hy1 : ρ y1 = .v (.int k l)) (hy2 : ρ y2 = .v (.int k' h)) (h0 : 0 ≤ l) (h1 : l ≤ h) (h2 : h ≤ s.length) (hr : (s.take h.toNat).drop l.toNat = r) : OpP P o ρ (.v (.string (bs r))) := by
  obtain ⟨l, rfl⟩ := Int.eq_ofNat_of_zero_le h0
  obtain ⟨h, rfl⟩ := Int.eq_ofNat_of_zero_le (show 0 ≤ h by omega)
  exact OpP.sliceStr (L := l) (H := h) ho hx (OpI.so hy1 rfl) (OpI.so hy2 rfl) rfl rfl (by omega) (by omega) hr
theorem OpP.convS {s d : TypeId} {x : Operand} {u : ByteArray} [Und P s .string] [Und P d .string] (ho : o.op = .convert s d x) (hx : ρ x = .v (.string u)) : OpP P o ρ (.v (.string u)) := by
  intro I M w a h
  have h1 := h x (by simp [ho, Op.operands])
  rw [hx] at h1
  exact ⟨_, by simp [execOp, ho, h1.val, convert, run_und], .v _⟩
theorem OpP.neg {t : TypeId} {x : Operand} {k : IntKind} {a r : Int} (ho : o.op = .unOp .neg t x) (hx : ρ x = .v (.int k a)) (hr : k.wrap (-a) = r) : OpP P o ρ (.v (.int k r)) :=
  OpP.un ho hx fun w => by simp [Op.unary, Op.intArith, Int.zero_sub, hr]
/-- a string's bytes, in new memory -/
theorem OpS.toBytes {s d e : TypeId} {x : Operand} {l : List UInt8} [Und P s .string] [Und P d (.slice e)] [Und P e (.int .u8)] (ho : o.op = .convert s d x) (hx : ρ x = .v (.string (bs l))) (hl : l.length ≤ maxLen) : OpS P o ρ [] (.sl 1 (bsP l) false) [] := by
  refine OpS.fresh fun I M w a σ hop hs hi => ?_
  have h1 := hop x (by simp [ho, Op.operands])
  rw [hx] at h1
  let cap := grownCap w (bs l).size 0 e
  have hsz := bs_size l
  have hcap : l.length ≤ cap := by have := grownCap_ge w (bs l).size 0 e; omega
  have hcur : ∀ (j : Nat) (c : UInt8), l[j]? = some c → (bytesRow (bs l) cap)[j]? = some (Value.int .u8 (c.toNat : Int)) := by
    intro j c hc
    have hj := (List.getElem?_eq_some_iff.1 hc).1
    unfold bytesRow
    rw [Array.getElem?_append_left (by simpa using hj)]
    simp [hc]
  have hcs : (bytesRow (bs l) cap).size = cap := by
    unfold bytesRow
    have : (bs l).data.size = l.length := by simp
    simp only [Array.size_append, Array.size_map, Array.size_replicate, this]
    rw [hsz]
    omega
  refine ⟨w.drew, bytesRow (bs l) cap, e, ((bytesRow (bs l) cap).size, (bytesRow (bs l) cap).size + 1), cap, rfl, rfl, rfl, rfl, by simp, by simpa using hcap, by simp [hcs]; exact hcap, by simp, fun j p hp => ?_, ?_⟩
  · rw [bsP_flat, List.getElem?_map] at hp
    obtain ⟨c, hc, rfl⟩ := Option.map_eq_some_iff.1 hp
    exact ⟨_, hcur j c hc, rfl, .v _⟩
  · have hlen : (bsP l).length = (bs l).size := by rw [hsz]; simp
    have := run_bytes_of_string (P := P) w s d e (bs l) Und.und Und.und Und.und
    simp only [execOp, ho, h1.val, Sem.run_bind, this, Result.andThen_ok, Sem.run_pure, hlen]
    rfl
theorem OpP.decT {p : Prop} [Decidable p] (h : OpP P o ρ (.v (.bool (decide p)))) (hp : p) : OpP P o ρ (.v (.bool true)) := by rw [decide_eq_true hp] at h; exact h
theorem OpP.decF {p : Prop} [Decidable p] (h : OpP P o ρ (.v (.bool (decide p)))) (hp : ¬ p) : OpP P o ρ (.v (.bool false)) := by rw [decide_eq_false hp] at h; exact h
theorem OpP.lenNil {x : Operand} {t e : TypeId} {A : Option Addr} {n c : Nat} [Und P t (.slice e)] (ho : o.op = .call { callee := .builtin .len, args := #[x], argTypes := #[t] }) (hx : ρ x = .v (.slice A n c)) : OpP P o ρ (.v (.int .i64 n)) := by
  intro I M w a hop
  have q1 := hop x (by simp [ho, Op.operands, Call.operands])
  rw [hx] at q1
  exact ⟨_, by simp [execOp, ho, resolve, invoke, builtin, q1.val, Builtin.len_, run_und, goInt], .v _⟩
theorem OpP.eqNil {t t' e : TypeId} {x y : Operand} [U : Und P t (.slice e)] (ho : o.op = .binOp .eql t x y t') (hx : ρ x = .v (.slice none 0 0)) (hy : ρ y = .v (.slice none 0 0)) : OpP P o ρ (.v (.bool true)) :=
  .bin ho hx hy (fun w => by rw [Lib.run_eql_slice_nil w t e none 0 0 0 0 U.und]; rfl) (fun w => by simp [eqGuard])
theorem ins_nil {f : Nat → Res} : ∀ q ∈ ([] : Upds), f q.1 = q.2 := fun _ h => by cases h
theorem ins_cons {f : Nat → Res} {k : Nat} {r : Res} {l : Upds} (h : f k = r) (hl : ∀ q ∈ l, f q.1 = q.2) : ∀ q ∈ (k, r) :: l, f q.1 = q.2 := fun q hq => by
  rcases List.mem_cons.1 hq with rfl | hq
  · exact h
  · exact hl q hq
theorem OpP.fieldS {t : TypeId} {x : Operand} {i off sz : Nat} {ag : Bool} [F : FieldI P t i off sz ag] {cs l : List AV} (ho : o.op = .field t x i) (hx : ρ x = .agg cs) (hag : ag = true) (h : Sub cs off sz l) : OpP P o ρ (.agg l) := OpP.fieldN ho hx hag h.spec.1 h.spec.2
theorem OpP.loadES {t : TypeId} {x : Operand} {j sz bytes : Nat} {z : Value} {ys : List PV} {l : List AV} {d : TypeDesc} [Und P t d] [TyI P t z sz bytes] (ho : o.op = .load t x) (hx : ρ x = .ep ys j) (hd : isAggD d = true) (h : SubP ys j sz l) : OpP P o ρ (.agg l) := OpP.loadEN ho hx hd h.spec.1 h.spec.2
/-- an operation that leaves no numbered thing, and new memory -/
theorem Run.s0 {d : Nat} {v : AV} {ins : Upds} {ks : List Nat} (ho : o.dst = some d) (hw : wantA ops fr o = some true) (hd : Nat.blt d n = true) (h : OpS P o (evA fr) ins v []) (hi : ∀ q ∈ ins, sto σ q.1 = q.2) (hk : keys ins = ks) (hr : Run P n ops chk K rest ⟨(d, v) :: fr, σ⟩ (acc ++ [(ks, [])])) : Run P n ops chk K (o :: rest) ⟨fr, σ⟩ acc :=
  .op (ins := ins) (outs := []) (v := v) hw (by rw [ho]; exact hd) h hi rfl (fun _ h => by cases h) (by rw [ho, hk]; exact hr)
theorem Dat.ins {f : Nat → Res} {av : AV} {sz : Nat} {xs : List (List PV)} {ins : Upds} (h : Dat f av sz xs ins) : ∀ q ∈ ins, f q.1 = q.2 := by
  cases h with
  | sl => exact ins_nil
  | nil => exact ins_nil
  | rowf h hn => exact ins_cons h ins_nil
  | row h => exact ins_cons h ins_nil
/-- a reading operation, and that what it reads is there -/
def OpRI (P : Program) (o : Oper) (ρ : Operand → AV) (σ : List Res) (ins : Upds) (v : AV) : Prop := OpR P o ρ ins v ∧ ∀ q ∈ ins, sto σ q.1 = q.2
theorem OpRI.toStr {x : Operand} {s d e : TypeId} {l : List UInt8} {xs : List (List PV)} {ins : Upds} [Und P s (.slice e)] [Und P e (.int .u8)] [Und P d .string] (ho : o.op = .convert s d x) (hx : Dat (sto σ) (ρ x) 1 xs ins) (hb : xs = bsP l) : OpRI P o ρ σ ins (.v (.string (bs l))) := ⟨OpR.toStr ho hx hb, hx.ins⟩
theorem OpRI.len {x : Operand} {t : TypeId} {sz : Nat} {xs : List (List PV)} {ins : Upds} {e : TypeId} [Und P t (.slice e)] (ho : o.op = .call { callee := .builtin .len, args := #[x], argTypes := #[t] }) (hx : Dat (sto σ) (ρ x) sz xs ins) {n : Nat} (hn : xs.length = n) : OpRI P o ρ σ ins (.v (.int .i64 n)) := ⟨OpR.len (ty := t) (d := .string) ho hx hn, hx.ins⟩
theorem OpRI.indexAddr {t e : TypeId} {x y : Operand} {k : IntKind} {i : Int} {sz : Nat} {xs : List (List PV)} {ys : List PV} {ins : Upds} {z : Value} {by_ : Nat} [Und P t (.slice e)] [TyI P e z sz by_]
    (ho : o.op = .indexAddr t x y) (hx : Dat (sto σ) (ρ x) sz xs ins) (hy : ρ y = .v (.int k i)) (hat : At xs i ys) : OpRI P o ρ σ ins (.ep ys 0) := ⟨OpR.indexAddr ho hx hy hat, hx.ins⟩
theorem OpRI.sliceL {t e : TypeId} {x y : Operand} {k : IntKind} {l : Int} {sz bytes : Nat} {z : Value} {xs r : List (List PV)} {ins : Upds} [Und P t (.slice e)] [TyI P e z sz bytes] (ho : o.op = .slice t x (some y) none none) (hx : Dat (sto σ) (ρ x) sz xs ins) (hy : ρ y = .v (.int k l)) (h0 : 0 ≤ l) (hl : l ≤ xs.length) (hr : xs.drop l.toNat = r) : OpRI P o ρ σ ins (.sl sz r false) := by
  obtain ⟨l, rfl⟩ := Int.eq_ofNat_of_zero_le h0
  exact ⟨OpR.sliceL ho hx hy (by omega) hr, hx.ins⟩
theorem OpRI.sliceH {t e : TypeId} {x y : Operand} {k : IntKind} {h : Int} {sz bytes : Nat} {z : Value} {xs r : List (List PV)} {ins : Upds} [Und P t (.slice e)] [TyI P e z sz bytes] (ho : o.op = .slice t x none (some y) none) (hx : Dat (sto σ) (ρ x) sz xs ins) (hy : ρ y = .v (.int k h)) (h0 : 0 ≤ h) (hl : h ≤ xs.length) (hr : xs.take h.toNat = r) : OpRI P o ρ σ ins (.sl sz r false) := by
  obtain ⟨h, rfl⟩ := Int.eq_ofNat_of_zero_le h0
  exact ⟨OpR.sliceH ho hx hy (by omega) hr, hx.ins⟩
theorem OpRI.sliceLH {t e : TypeId} {x y1 y2 : Operand} {k k' : IntKind} {l h : Int} {sz bytes : Nat} {z : Value} {xs r : List (List PV)} {ins : Upds} [Und P t (.slice e)] [TyI P e z sz bytes] (ho : o.op = .slice t x (some y1) (some y2) none) (hx : Dat (sto σ) (ρ x) sz xs ins) (hy1 : ρ y1 = .v (.int k l)) (hy2 : ρ y2 = .v (.int k' h)) (h0 : 0 ≤ l) (h1 : l ≤ h) (h2 : h ≤ xs.length) (hr : (xs.take h.toNat).drop l.toNat = r) : OpRI P o ρ σ ins (.sl sz r false) := by
  obtain ⟨l, rfl⟩ := Int.eq_ofNat_of_zero_le h0
  obtain ⟨h, rfl⟩ := Int.eq_ofNat_of_zero_le (show 0 ≤ h by omega)
  exact ⟨OpR.sliceLH ho hx hy1 hy2 (by omega) (by omega) hr, hx.ins⟩
theorem OpRI.slice3 {t e : TypeId} {x y1 y2 y3 : Operand} {k k' k'' : IntKind} {l h : Int} {sz bytes : Nat} {z : Value} {xs r : List (List PV)} {ins : Upds} [Und P t (.slice e)] [TyI P e z sz bytes] (ho : o.op = .slice t x (some y1) (some y2) (some y3)) (hx : Dat (sto σ) (ρ x) sz xs ins) (hy1 : ρ y1 = .v (.int k l)) (hy2 : ρ y2 = .v (.int k' h)) (hy3 : ρ y3 = .v (.int k'' h)) (h0 : 0 ≤ l) (h1 : l ≤ h) (h2 : h ≤ xs.length) (hr : (xs.take h.toNat).drop l.toNat = r) : OpRI P o ρ σ ins (.sl sz r true) := by
  obtain ⟨l, rfl⟩ := Int.eq_ofNat_of_zero_le h0
  obtain ⟨h, rfl⟩ := Int.eq_ofNat_of_zero_le (show 0 ≤ h by omega)
  exact ⟨OpR.slice3 ho hx hy1 hy2 hy3 (by omega) (by omega) hr, hx.ins⟩
theorem OpRI.slice3h {t e : TypeId} {x y2 y3 : Operand} {k' k'' : IntKind} {h : Int} {sz bytes : Nat} {z : Value} {xs r : List (List PV)} {ins : Upds} [Und P t (.slice e)] [TyI P e z sz bytes] (ho : o.op = .slice t x none (some y2) (some y3)) (hx : Dat (sto σ) (ρ x) sz xs ins) (hy2 : ρ y2 = .v (.int k' h)) (hy3 : ρ y3 = .v (.int k'' h)) (h0 : 0 ≤ h) (h2 : h ≤ xs.length) (hr : xs.take h.toNat = r) : OpRI P o ρ σ ins (.sl sz r true) := by
  obtain ⟨h, rfl⟩ := Int.eq_ofNat_of_zero_le h0
  exact ⟨OpR.slice3h ho hx hy2 hy3 (by omega) hr, hx.ins⟩
theorem Run.ri {d : Nat} {v : AV} {ins : Upds} {ks : List Nat} (ho : o.dst = some d) (hw : wantA ops fr o = some true) (hd : Nat.blt d n = true) (h : OpRI P o (evA fr) σ ins v) (hk : keys ins = ks) (hr : Run P n ops chk K rest ⟨(d, v) :: fr, σ⟩ (acc ++ [(ks, [])])) : Run P n ops chk K (o :: rest) ⟨fr, σ⟩ acc := Run.r ho hw hd h.1 h.2 hk hr
theorem Run.gri {d' : Nat} {c : Bool} {v : AV} {ins : Upds} {ks : List Nat} (hG : Gd ops fr o c) (ho : o.dst = some d') (hd' : Nat.blt d' n = true) (hi : ∀ q ∈ ins, sto σ q.1 = q.2) (h : c = true → OpRI P o (evO fr) σ ins v ∧ okIfs fr o.op.operands.toList) (hk : keys ins = ks) (hr : Run P n ops chk K rest ⟨(d', .ifb c v) :: fr, σ⟩ (acc ++ [(ks, [])])) : Run P n ops chk K (o :: rest) ⟨fr, σ⟩ acc :=
  Run.gp (ins := ins) hG.want ho hd' (fun hc => OpS.open_ (h hc).1.1.s (h hc).2) hi hk hr
/-- what is appended, and that it is there -/
def SrcI (P : Program) (av : AV) (σ : List Res) (sz : Nat) (ys : List (List PV)) (ins : Upds) : Prop := Src P av sz ys ins ∧ ∀ q ∈ ins, sto σ q.1 = q.2
theorem SrcI.dat {av : AV} {sz : Nat} {ys : List (List PV)} {ins : Upds} (d : Dat (sto σ) av sz ys ins) : SrcI P av σ sz ys ins := ⟨Src.dat d, d.ins⟩
theorem SrcI.str {l : List UInt8} {av : AV} (h : av = .v (.string (bs l))) : SrcI P av σ 1 (bsP l) [] := ⟨Src.str h, ins_nil⟩
theorem OpSN.eqNil {o : Oper} {ρ : Operand → AV} {σ0 : Nat → Res} {t t' e : TypeId} {x y : Operand} {sz : Nat} {xs : List (List PV)} {ins : Upds} [U : Und P t (.slice e)] (neg : Bool) (ho : o.op = .binOp (match neg with | true => .neq | false => .eql) t x y t') (hx : Dat σ0 (ρ x) sz xs ins) (hy : ρ y = .v (.slice none 0 0)) :
    OpSN P o ρ ins (fun b : { b : Bool // b = true → xs = [] } => .v (.bool (match neg with | true => !b.1 | false => b.1))) (fun _ => []) := by
  intro I M w a σ K Q hop hs hi _ hK
  have h1 := hop x (by simp [ho, Op.operands])
  have h2 := hop y (by simp [ho, Op.operands])
  rw [hy] at h2
  obtain ⟨A, c, e1, h3⟩ := hx.rpv hi hs h1
  have e2 := h2.val
  unfold Oper.wp
  have hb : A.isNone = true → xs = [] := by
    intro hA
    cases h3 with
    | sl b off u hn hc hz hA' hM hcell ho1 hu =>
      rcases Nat.eq_zero_or_pos xs.length with h | h
      · exact List.eq_nil_of_length_eq_zero h
      · rw [hA' h] at hA; cases hA
  cases neg with
  | true =>
    have h4 := run_neq_slice_nil_any (P := P) w t e A xs.length c 0 0 U.und
    simp only at ho
    have hr : (execOp a.eval o).run P w = .ok (.value (.bool (!A.isNone))) w := by simp [execOp, ho, e1, e2, h4, eqGuard]
    rw [hr]
    exact hK ⟨A.isNone, hb⟩ _ I M w (.v _) hs (Ext.refl _ _ _ _) (fun _ _ => rfl) (fun _ h => by cases h)
  | false =>
    have h4 := Lib.run_eql_slice_nil (P := P) w t e A xs.length c 0 0 U.und
    simp only at ho
    have hr : (execOp a.eval o).run P w = .ok (.value (.bool A.isNone)) w := by simp [execOp, ho, e1, e2, h4, eqGuard]
    rw [hr]
    exact hK ⟨A.isNone, hb⟩ _ I M w (.v _) hs (Ext.refl _ _ _ _) (fun _ _ => rfl) (fun _ h => by cases h)
/-- a slice against nil: whether it is nil is open -/
theorem Run.eqN {d : Nat} {t t' e : TypeId} {x y : Operand} {sz : Nat} {xs : List (List PV)} {ins : Upds} [U : Und P t (.slice e)] (ho : o.dst = some d) (hop : o.op = .binOp .eql t x y t') (hall : ∀ acc, chk acc = true) (hw : wantA ops fr o = some true) (hd : Nat.blt d n = true)
    (hx : Dat (sto σ) (evA fr x) sz xs ins) (hy : evA fr y = .v (.slice none 0 0)) (hr : ∀ b : Bool, (b = true → xs = []) → Run P n ops chk K rest ⟨(d, .v (.bool b)) :: fr, σ⟩ acc) : Run P n ops chk K (o :: rest) ⟨fr, σ⟩ acc :=
  .opN hall hw (by rw [ho]; exact hd) (OpSN.eqNil false hop hx hy) hx.ins (fun _ => rfl) (fun _ _ h => by cases h) (fun b => by rw [ho]; exact hr b.1 b.2)
theorem Run.neN {d : Nat} {t t' e : TypeId} {x y : Operand} {sz : Nat} {xs : List (List PV)} {ins : Upds} [U : Und P t (.slice e)] (ho : o.dst = some d) (hop : o.op = .binOp .neq t x y t') (hall : ∀ acc, chk acc = true) (hw : wantA ops fr o = some true) (hd : Nat.blt d n = true)
    (hx : Dat (sto σ) (evA fr x) sz xs ins) (hy : evA fr y = .v (.slice none 0 0)) (hr : ∀ b : Bool, (b = true → xs = []) → Run P n ops chk K rest ⟨(d, .v (.bool (!b))) :: fr, σ⟩ acc) : Run P n ops chk K (o :: rest) ⟨fr, σ⟩ acc :=
  .opN hall hw (by rw [ho]; exact hd) (OpSN.eqNil true hop hx hy) hx.ins (fun _ => rfl) (fun _ _ h => by cases h) (fun b => by rw [ho]; exact hr b.1 b.2)
/-- a literal -/
theorem Run.bs {d t e nn : _} {parts : Array (Nat × Operand)} {z : Value} {sz bytes : Nat} {xs : List (List PV)} {ins : Upds} {ks : List Nat} [Und P t (.slice e)] [TyI P e z sz bytes] (ho : o.dst = some d) (hop : o.op = .buildSlice t nn parts) (hw : wantA ops fr o = some true) (hd : Nat.blt d n = true) (hn : parts.size = nn) (hz : z.cells.size = sz) (hsm : nn * sz ≤ 16777216)
    (hx : Elems (evA fr) (sto σ) sz 0 parts.toList xs ins) (hi : ∀ q ∈ ins, sto σ q.1 = q.2) (hk : keys ins = ks) (hr : Run P n ops chk K rest ⟨(d, .sl sz xs true) :: fr, σ⟩ (acc ++ [(ks, [])])) : Run P n ops chk K (o :: rest) ⟨fr, σ⟩ acc :=
  Run.s0 ho hw hd (OpS.buildSlice hop hn hz hsm hx) hi hk hr
/-- append to a row of one's own -/
theorem Run.apR {d k nn sz bytes : Nat} {s x : Operand} {t tx e : TypeId} {dx : TypeDesc} {z : Value} {ys xs zs : List (List PV)} {insx : Upds} {ks : List Nat} {σ' : List Res} [Und P t (.slice e)] [Und P tx dx] [TyI P e z sz bytes] (ho : o.dst = some d) (hop : o.op = .call { callee := .builtin .append, args := #[s, x], argTypes := #[t, tx] })
    (hw : wantA ops fr o = some true) (hd : Nat.blt d n = true) (hdx : (∃ e', dx = .slice e') ∨ dx = .string) (hzs : z.cells.size = sz) (hsv : evA fr s = .row k nn) (hk : sto σ k = .row sz xs) (hn : nn = xs.length) (hxi : SrcI P (evA fr x) σ sz ys insx) (hz : xs ++ ys = zs) (hb : zs.length * bytes ≤ 140737488355328) (h63 : zs.length ≤ maxLen)
    (hσ : PutAt σ k (.row sz zs) σ') (hks : k :: keys insx = ks) (hr : Run P n ops chk K rest ⟨(d, .row k zs.length) :: fr, σ'⟩ (acc ++ [(ks, [k])])) : Run P n ops chk K (o :: rest) ⟨fr, σ⟩ acc := by
  subst hz
  obtain ⟨hx, hi⟩ := hxi
  exact .op (ins := (k, .row sz xs) :: insx) (outs := [(k, .row sz (xs ++ ys))]) (v := .row k (xs ++ ys).length) hw (by rw [ho]; exact hd) (OpS.appRow hop hdx hzs hsv hn hx (by rw [hn, List.length_append]) hb h63) (fun q hq => by
    rcases List.mem_cons.1 hq with rfl | hq
    · exact hk
    · exact hi q hq) (okU_one hσ).1 (fun k' hk' => .inl (by
      obtain rfl : k' = k := by simpa [keys] using hk'
      simp [keys])) (by
      have : keys ((k, Res.row sz xs) :: insx) = ks := by rw [← hks]; rfl
      rw [ho, (okU_one hσ).2, this]; exact hr)
/-- append to nothing, or to a slice without spare places -/
theorem Run.apF {d k sz bytes : Nat} {s x : Operand} {t tx e : TypeId} {dx : TypeDesc} {z : Value} {ys xs zs : List (List PV)} {insx : Upds} {ks : List Nat} {σ' : List Res} [Und P t (.slice e)] [Und P tx dx] [TyI P e z sz bytes] (ho : o.dst = some d) (hop : o.op = .call { callee := .builtin .append, args := #[s, x], argTypes := #[t, tx] })
    (hw : wantA ops fr o = some true) (hd : Nat.blt d n = true) (hdx : (∃ e', dx = .slice e') ∨ dx = .string) (hzs : z.cells.size = sz) (he : Ends σ k) (hsv : evA fr s = .sl sz xs true ∨ evA fr s = .v (.slice none 0 0) ∧ xs = []) (hxi : SrcI P (evA fr x) σ sz ys insx) (hz : xs ++ ys = zs) (hb : zs.length * bytes ≤ 140737488355328) (h63 : zs.length ≤ maxLen)
    (hki : (keys insx).all (fun j => Nat.blt j k) = true) (hσ : PutAt σ k (.row sz zs) σ') (hks : keys insx = ks) (hr : Run P n ops chk K rest ⟨(d, .row k zs.length) :: fr, σ'⟩ (acc ++ [(ks, [k])])) : Run P n ops chk K (o :: rest) ⟨fr, σ⟩ acc := by
  subst hz
  obtain ⟨hx, hi⟩ := hxi
  exact .op (ins := insx) (outs := [(k, .row sz (xs ++ ys))]) (v := .row k (xs ++ ys).length) hw (by rw [ho]; exact hd) (OpS.appFull k hop hdx hzs hsv hx (by rw [List.length_append]) (fun hk => by
      have := (List.all_eq_true.1 hki) k hk
      rw [Nat.blt_eq] at this; omega) hb h63) hi (okU_one hσ).1 (fun k' hk' => .inr (by
      obtain rfl : k' = k := by simpa [keys] using hk'
      exact Nat.le_of_eq he.spec.symm)) (by rw [ho, (okU_one hσ).2, hks]; exact hr)
end
/-- the end of a function that is given numbered things, or leaves some -/
theorem RetOk.tupS {P : Program} {fn : Func} {vs : List AV} {s : State} {n p : Nat} {I : Nat → CI} {M : Nat → Nat} {w : World} {own : Nat → Prop} {σ' : List Res} (S : List Nat) (hnd : nodupB S = true) (hp : fixB p S = true) (hpl : Nat.ble p S.length = true) (hl : Nat.beq vs.length 1 = false) (hlt : AV.lts σ'.length vs = true)
    (hc : Crs (sto s.σ) (renL S) σ'.length S σ') (hr : RetC P s (renL S) fn.results.toList vs) : RetOk P fn (.tup vs) σ' ⟨n, p, I, M, w, own⟩ .ret s := by
  obtain ⟨us, h1, h2⟩ := hr.res
  exact ⟨us, S, h1, hnd, hp, Nat.le_of_ble_eq_true hpl, cv_resV h2 (by rw [AV.rens_len]; exact hl), by simpa [AV.lt] using hlt, hc⟩
theorem RetOk.oneS {P : Program} {fn : Func} {r : AV} {s : State} {n p : Nat} {I : Nat → CI} {M : Nat → Nat} {w : World} {own : Nat → Prop} {σ' : List Res} (S : List Nat) (hnd : nodupB S = true) (hp : fixB p S = true) (hpl : Nat.ble p S.length = true) (hlt : r.lt σ'.length = true)
    (hc : Crs (sto s.σ) (renL S) σ'.length S σ') (hr : RetC P s (renL S) fn.results.toList [r]) : RetOk P fn r σ' ⟨n, p, I, M, w, own⟩ .ret s := by
  obtain ⟨us, h1, h2⟩ := hr.res
  cases h2 with
  | cons h hs =>
    cases hs with
    | nil => exact ⟨_, S, h1, hnd, hp, Nat.le_of_ble_eq_true hpl, h, hlt, hc⟩
end Go.Proofs.Ytbbcokckealagaa
