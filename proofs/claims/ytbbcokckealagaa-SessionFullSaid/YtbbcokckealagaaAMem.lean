/-
  The operations that read and write memory, over values without addresses: loads, stores, addresses, slices, what is made anew. Nothing of the dump is used; no condition.
-/
import Derived.Test.YtbbcokckealagaaAOp
import Derived.Laws.IdiomCopy
import Derived.Deep.AppendLies
import Derived.Maps.AppendAt
namespace Go.Proofs.Ytbbcokckealagaa
open Go.RowKit
def PV.av : PV → AV
  | .v x => .v x
  | .sl sz xs => .sl sz xs false
theorem RPV.rp {I : Nat → CI} {M : Nat → Nat} {w : World} {x : Value} {p : PV} (h : RPV M w x p) : Rp I M w x p.av := by
  cases h with
  | v x => exact .v x
  | sl b off u hn hc hz hA hM hcell h1 hu => exact .sl (.sl b off u hn hc hz hA hM hcell h1 hu) (by simp)
theorem RPV.nil (M : Nat → Nat) (w : World) (A : Option Addr) (c sz : Nat) : RPV M w (.slice A 0 c) (.sl sz []) :=
  .sl 0 0 (fun _ => default) rfl (Nat.zero_le _) (by simp) (by simp) (by simp) (by simp) (by simp) (by simp)
theorem flat_len {sz : Nat} {xs : List (List PV)} (hz : ∀ ys ∈ xs, ys.length = sz) : xs.flatten.length = xs.length * sz := by
  induction xs with
  | nil => simp
  | cons y ys ih =>
    rw [List.flatten_cons, List.length_append, ih (fun z h => hz z (List.mem_cons_of_mem _ h)), hz y (by simp), List.length_cons, Nat.add_mul]
    omega
theorem flat_drop {sz : Nat} {xs : List (List PV)} (hz : ∀ ys ∈ xs, ys.length = sz) (k : Nat) : (xs.drop k).flatten = xs.flatten.drop (k * sz) := by
  induction xs generalizing k with
  | nil => simp
  | cons y ys ih =>
    cases k with
    | zero => simp
    | succ k =>
      rw [List.drop_succ_cons, ih (fun z h => hz z (List.mem_cons_of_mem _ h)), List.flatten_cons, Nat.add_mul, Nat.one_mul, Nat.add_comm, ← List.drop_drop]
      congr 1
      rw [List.drop_left' (hz y (by simp))]
theorem flat_take {sz : Nat} {xs : List (List PV)} (hz : ∀ ys ∈ xs, ys.length = sz) (k : Nat) : (xs.take k).flatten = xs.flatten.take (k * sz) := by
  induction xs generalizing k with
  | nil => simp
  | cons y ys ih =>
    cases k with
    | zero => simp
    | succ k =>
      have hy := hz y (by simp)
      rw [List.take_succ_cons, List.flatten_cons, ih (fun z h => hz z (List.mem_cons_of_mem _ h)), List.flatten_cons, Nat.add_mul, Nat.one_mul, List.take_append, hy]
      have e1 : List.take (k * sz + sz) y = y := List.take_of_length_le (by omega)
      have e2 : k * sz + sz - sz = k * sz := by omega
      rw [e1, e2]
theorem flat_get {sz : Nat} {xs : List (List PV)} (hz : ∀ ys ∈ xs, ys.length = sz) {k : Nat} {ys : List PV} (hk : xs[k]? = some ys) {j : Nat} {p : PV} (hj : ys[j]? = some p) : xs.flatten[k * sz + j]? = some p := by
  rw [← List.getElem?_drop, ← flat_drop hz]
  obtain ⟨h1, h2⟩ := List.getElem?_eq_some_iff.1 hk
  rw [List.drop_eq_getElem_cons h1, h2, List.flatten_cons, List.getElem?_append_left (List.getElem?_eq_some_iff.1 hj).1, hj]
/-- part of a slice -/
theorem RPV.part {M : Nat → Nat} {w : World} {A : Option Addr} {n c sz : Nat} {xs : List (List PV)} (h : RPV M w (.slice A n c) (.sl sz xs)) {l k m : Nat} (hl : l ≤ k) (hk : k ≤ n) (hm : k ≤ m) :
    RPV M w (.slice (if m = l then A else A.map (·.add (l * sz))) (k - l) (m - l)) (.sl sz ((xs.take k).drop l)) := by
  cases h with
  | sl b off u hn hc hz hA hM hcell h1 hu =>
    have hz1 : ∀ ys ∈ xs.take k, ys.length = sz := fun ys h => hz ys (List.mem_of_mem_take h)
    have hz2 : ∀ ys ∈ (xs.take k).drop l, ys.length = sz := fun ys h => hz1 ys (List.mem_of_mem_drop h)
    have hlen : ((xs.take k).drop l).length = k - l := by rw [List.length_drop, List.length_take, hn]; omega
    have hle : (k - l) * sz + l * sz ≤ n * sz := by rw [← Nat.add_mul]; exact Nat.mul_le_mul_right _ (by omega)
    refine .sl b (off + l * sz) (fun j => u (l * sz + j)) hlen (by omega) hz2 (fun h => ?_) (fun h => ?_) (fun j hj => ?_) (fun j hj => ?_) (fun j p hp => ?_)
    · rw [if_neg (by omega), hA (by omega)]
      simp [Addr.add_lit]
    · have := hM (by omega); omega
    · rw [Nat.add_assoc]; exact hcell _ (by omega)
    · exact h1 _ (by omega)
    · rw [flat_drop hz1, flat_take hz, List.getElem?_drop, List.getElem?_take] at hp
      split at hp
      · exact hu _ _ hp
      · cases hp

/-- av reads as the list xs -/
inductive Dat (σ : Nat → Res) : AV → Nat → List (List PV) → Upds → Prop
  | sl {sz : Nat} {xs : List (List PV)} {f : Bool} : Dat σ (.sl sz xs f) sz xs []
  | nil {sz : Nat} : Dat σ (.v (.slice none 0 0)) sz [] []
  | rowf {t sz n : Nat} {xs : List (List PV)} (h : σ t = .row sz xs) (hn : n = xs.length) : Dat σ (.row t n) sz xs [(t, .row sz xs)]
  | row {t sz n : Nat} {xs : List (List PV)} (h : σ t = .row sz xs) : Dat σ (.row t n) sz (xs.take n) [(t, .row sz xs)]
section
variable {P : Program} {o : Oper} {ρ : Operand → AV} {I : Nat → CI} {M : Nat → Nat} {w : World} {σ0 σ : Nat → Res}
theorem Sto.rowCI (hs : Sto I M w σ) {t sz : Nat} {xs : List (List PV)} (h : σ t = .row sz xs) : ∃ A c, I t = .row xs sz A c ∧ RPV M w (.slice A xs.length c) (.sl sz xs) := by
  have := hs.own t
  rw [h] at this
  obtain ⟨A, c, h1, h2, _⟩ := this
  exact ⟨A, c, h1, h2⟩
theorem RPV.len {A : Option Addr} {n c sz : Nat} {xs : List (List PV)} (h : RPV M w (.slice A n c) (.sl sz xs)) : xs.length = n ∧ n ≤ c := by cases h; exact ⟨by assumption, by assumption⟩
theorem Dat.rpv {av : AV} {sz : Nat} {xs : List (List PV)} {ins : Upds} (d : Dat σ0 av sz xs ins) (hi : ∀ p ∈ ins, σ p.1 = p.2) (hs : Sto I M w σ) {v : Value} (h : Rp I M w v av) :
    ∃ A c, v = .slice A xs.length c ∧ RPV M w (.slice A xs.length c) (.sl sz xs) := by
  cases d with
  | sl =>
    cases h with
    | sl h hf =>
      have := h.len.1
      subst this
      exact ⟨_, _, rfl, h⟩
  | nil => cases h; exact ⟨none, 0, rfl, .nil _ _ _ _ _⟩
  | rowf h0 hn =>
    obtain ⟨A0, c0, h1, _⟩ := hs.rowCI (hi _ (List.mem_singleton.2 rfl))
    cases h with
    | row hI hn' h hk =>
      rw [h1] at hI
      injection hI with e1 e2 e3 e4
      subst e1 e2 hn
      rw [List.take_length] at h
      exact ⟨_, _, rfl, h⟩
  | row h0 =>
    obtain ⟨A0, c0, h1, _⟩ := hs.rowCI (hi _ (List.mem_singleton.2 rfl))
    cases h with
    | row hI hn' h hk =>
      rw [h1] at hI
      injection hI with e1 e2 e3 e4
      subst e1 e2
      have : ∀ n (xs : List (List PV)), n ≤ xs.length → (xs.take n).length = n := fun n xs h => by rw [List.length_take]; omega
      rw [this _ _ hn']
      exact ⟨_, _, rfl, h⟩

/-- what element i is -/
def At (xs : List (List PV)) (i : Int) (ys : List PV) : Prop := 0 ≤ i ∧ xs[i.toNat]? = some ys
theorem At.mk {xs : List (List PV)} {i : Int} {ys : List PV} (k : Nat) (hi : i = k) (h : xs[k]? = some ys) : At xs i ys := ⟨by omega, by subst hi; simpa using h⟩
def AtS (s : ByteArray) (i : Int) (c : UInt8) : Prop := 0 ≤ i ∧ s.data.toList[i.toNat]? = some c
theorem OpR.indexAddr {t e : TypeId} {x y : Operand} {k : IntKind} {i : Int} {sz : Nat} {xs : List (List PV)} {ys : List PV} {ins : Upds} {z : Value} {by_ : Nat} [Und P t (.slice e)] [TyI P e z sz by_]
    (ho : o.op = .indexAddr t x y) (hx : Dat σ0 (ρ x) sz xs ins) (hy : ρ y = .v (.int k i)) (hat : At xs i ys) : OpR P o ρ ins (.ep ys 0) := by
  intro I M w a σ h hs hi
  have h1 := h x (by simp [ho, Op.operands])
  have h2 := h y (by simp [ho, Op.operands])
  rw [hy] at h2
  obtain ⟨A, c, e1, h3⟩ := hx.rpv hi hs h1
  obtain ⟨hat1, hat2⟩ := hat
  have hlt := (List.getElem?_eq_some_iff.1 hat2).1
  cases h3 with
  | sl b off u hn hc hz hA hM hcell ho1 hu =>
    have hpos : 0 < xs.length := by omega
    have hA := hA hpos
    subst hA
    obtain ⟨_, _, _, _, _, _, _, hsz⟩ := run_typeInfo (P := P) (t := e) w
    have hilt : i < (xs.length : Int) := by omega
    have hys : ys.length = sz := hz ys (List.mem_of_getElem? hat2)
    have hle : i.toNat * sz + sz ≤ xs.length * sz := by rw [← Nat.succ_mul]; exact Nat.mul_le_mul_right _ hlt
    refine ⟨.pointer (some ⟨b, off + i.toNat * sz, none⟩), ?_, ?_⟩
    · simp [execOp, ho, e1, h2.val, Instr.indexAt, run_und, asIntOf, hat1, hilt, hsz, Addr.add_lit]
    · have hM := hM hpos
      have := Rp.ep (I := I) (M := M) (w := w) (b := b) (off := off + i.toNat * sz) (j := 0) (ys := ys) (fun j => u (i.toNat * sz + j)) (Nat.zero_le _) (by omega)
        (fun j hj => by rw [Nat.add_assoc]; exact hcell _ (by omega)) (fun j hj => ho1 _ (by omega)) (fun j p hp => hu _ _ (flat_get hz hat2 hp))
      simpa using this
def isAggD : TypeDesc → Bool
  | .struct _ | .array _ _ => true
  | _ => false
theorem run_isAgg {t : TypeId} {d : TypeDesc} [Und P t d] (w : World) : (isAgg t).run P w = .ok (isAggD d) w := by
  cases d <;> simp [isAgg, run_und, isAggD]
theorem run_loadVar1 {t : TypeId} {d : TypeDesc} [Und P t d] (hd : isAggD d = false) {p : Addr} {v : Value} (h : w.cell? p = some v) : (loadVar t p).run P w = .ok v w := by
  simp [loadVar, run_isAgg, hd, run_load, h]
theorem run_loadVarN {t : TypeId} {d : TypeDesc} [Und P t d] {z : Value} {sz bytes : Nat} [TyI P t z sz bytes] (hd : isAggD d = true) {p : Addr} (f : Nat → Value) (h : ∀ j, j < sz → w.cell? (p.add j) = some (f j)) :
    (loadVar t p).run P w = .ok (.agg ((List.range sz).map f).toArray) w := by
  obtain ⟨_, _, _, _, _, _, _, hsz⟩ := run_typeInfo (P := P) (t := t) w
  simp [loadVar, run_isAgg, hd, hsz, run_loadCells w p sz f h]
/-- the cells behind an address -/
theorem OpR.load1 {t : TypeId} {x : Operand} {k off : Nat} {cs : List AV} {c : AV} {d : TypeDesc} [Und P t d] (ho : o.op = .load t x) (hx : ρ x = .ptr k off) (hd : isAggD d = false) (hc : cs[off]? = some c) : OpR P o ρ [(k, .box cs)] c := by
  intro I M w a σ h hs hi
  have h1 := h x (by simp [ho, Op.operands])
  rw [hx] at h1
  have h2 := hs.own k
  rw [hi _ (List.mem_singleton.2 rfl)] at h2
  obtain ⟨b, cur, e, e1, e2, e3, e4, _, e5⟩ := h2
  generalize eq0 : a.eval x = q at h1
  cases h1 with
  | ptr hI =>
    rw [e1] at hI
    injection hI with hI
    subst hI
    have hlt : off < cur.size := by rw [e4]; exact (List.getElem?_eq_some_iff.1 hc).1
    have hcell : w.cell? ⟨b, off, none⟩ = some cur[off] := by rw [cell_of_row w b off cur e (0, 0) e2]; simp [hlt]
    exact ⟨cur[off], by simp [execOp, ho, eq0, Instr.loadAt, Instr.sureAddr, run_loadVar1 hd hcell], e5 off _ c (by simp [hlt]) hc⟩
theorem OpR.loadN {t : TypeId} {x : Operand} {k off sz bytes : Nat} {z : Value} {cs l : List AV} {d : TypeDesc} [Und P t d] [TyI P t z sz bytes] (ho : o.op = .load t x) (hx : ρ x = .ptr k off) (hd : isAggD d = true) (hl : off + sz ≤ cs.length) (hc : (cs.drop off).take sz = l) : OpR P o ρ [(k, .box cs)] (.agg l) := by
  intro I M w a σ h hs hi
  have h1 := h x (by simp [ho, Op.operands])
  rw [hx] at h1
  have h2 := hs.own k
  rw [hi _ (List.mem_singleton.2 rfl)] at h2
  obtain ⟨b, cur, e, e1, e2, e3, e4, e6, e5⟩ := h2
  generalize eq0 : a.eval x = q at h1
  cases h1 with
  | ptr hI =>
    rw [e1] at hI
    injection hI with hI
    subst hI
    have hcell : ∀ j, j < sz → w.cell? ((⟨b, off, none⟩ : Addr).add j) = some (cur.getD (off + j) undef) := by
      intro j hj
      rw [Addr.add_lit, cell_of_row w b (off + j) cur e (0, 0) e2]
      simp [show off + j < cur.size by omega]
    refine ⟨_, by simp [execOp, ho, eq0, Instr.loadAt, Instr.sureAddr, run_loadVarN hd _ hcell]; rfl, ?_⟩
    subst hc
    refine .agg (by simp; omega) (fun i v hv => ?_) fun i v c hv hc => ?_
    · have hi : i < sz := by have := (Array.getElem?_eq_some_iff.1 hv).1; simpa using this
      have : cur.getD (off + i) undef = v := by simpa [hi] using hv
      exact e6 (off + i) v (by rw [← this]; simp [show off + i < cur.size by omega])
    · have hi : i < sz := by have := (Array.getElem?_eq_some_iff.1 hv).1; simpa using this
      have : cur.getD (off + i) undef = v := by simpa [hi] using hv
      exact e5 (off + i) v c (by rw [← this]; simp [show off + i < cur.size by omega]) (by rw [List.getElem?_take, if_pos hi, List.getElem?_drop] at hc; exact hc)
theorem OpP.loadE1 {t : TypeId} {x : Operand} {j : Nat} {ys : List PV} {p : PV} {d : TypeDesc} [Und P t d] (ho : o.op = .load t x) (hx : ρ x = .ep ys j) (hd : isAggD d = false) (hc : ys[j]? = some p) {c : AV} (hp : p.av = c) : OpP P o ρ c := by
  intro I M w a h
  have h1 := h x (by simp [ho, Op.operands])
  rw [hx] at h1
  generalize e : a.eval x = q at h1
  cases h1 with
  | ep u hj hM hcell ho1 hu =>
    have hlt := (List.getElem?_eq_some_iff.1 hc).1
    exact ⟨u j, by simp [execOp, ho, e, Instr.loadAt, Instr.sureAddr, run_loadVar1 hd (hcell j hlt)], hp ▸ (hu j p hc).rp⟩
theorem OpP.loadEN {t : TypeId} {x : Operand} {j sz bytes : Nat} {z : Value} {ys : List PV} {l : List AV} {d : TypeDesc} [Und P t d] [TyI P t z sz bytes] (ho : o.op = .load t x) (hx : ρ x = .ep ys j) (hd : isAggD d = true) (hl : j + sz ≤ ys.length) (hc : ((ys.drop j).take sz).map PV.av = l) : OpP P o ρ (.agg l) := by
  intro I M w a h
  have h1 := h x (by simp [ho, Op.operands])
  rw [hx] at h1
  generalize e : a.eval x = q at h1
  cases h1 with
  | @ep b off _ _ u hj hM hcell ho1 hu =>
    have hcell' : ∀ i, i < sz → w.cell? ((⟨b, off + j, none⟩ : Addr).add i) = some (u (j + i)) := by
      intro i hi
      rw [Addr.add_lit, Nat.add_assoc]
      exact hcell _ (by omega)
    refine ⟨_, by simp [execOp, ho, e, Instr.loadAt, Instr.sureAddr, run_loadVarN hd _ hcell']; rfl, ?_⟩
    subst hc
    refine .agg (by simp; omega) (fun i v hv => ?_) fun i v c hv hc => ?_
    · have hi : i < sz := by have := (Array.getElem?_eq_some_iff.1 hv).1; simpa using this
      have : u (j + i) = v := by simpa [hi] using hv
      rw [← this]; exact ho1 _ (by omega)
    · have hi : i < sz := by have := (Array.getElem?_eq_some_iff.1 hv).1; simpa using this
      have : u (j + i) = v := by simpa [hi] using hv
      rw [← this]
      rw [List.getElem?_map, List.getElem?_take, if_pos hi, List.getElem?_drop] at hc
      obtain ⟨p, hp, rfl⟩ := Option.map_eq_some_iff.1 hc
      exact (hu _ p hp).rp
end
/-- a field of a struct type: offset, size, whether it is a struct or an array -/
def fieldOf (P : Program) (t : TypeId) (i : Nat) : Option (Nat × Nat × Bool) :=
  match P.underlying t with
  | some (.struct fs) => match fs[i]? with
    | some f => match P.info? f.type, P.underlying f.type with
      | some j, some d => some (f.offset, j.size, isAggD d)
      | _, _ => none
    | none => none
  | _ => none
class FieldI (P : Program) (t : TypeId) (i : Nat) (off sz : outParam Nat) (ag : outParam Bool) : Prop where
  eq : fieldOf P t i = some (off, sz, ag)
theorem fieldOf_some {P : Program} {t : TypeId} {i off sz : Nat} {ag : Bool} (h : fieldOf P t i = some (off, sz, ag)) :
    ∃ fs f j d, P.underlying t = some (.struct fs) ∧ fs[i]? = some f ∧ f.offset = off ∧ P.info? f.type = some j ∧ j.size = sz ∧ P.underlying f.type = some d ∧ isAggD d = ag := by
  unfold fieldOf at h
  split at h
  · rename_i fs hfs
    split at h
    · rename_i f hf
      split at h
      · rename_i j d hj hd
        injection h with h
        injection h with h1 h2
        injection h2 with h2 h3
        exact ⟨fs, f, j, d, hfs, hf, h1, hj, h2, hd, h3⟩
      · cases h
    · cases h
  · cases h
section
variable {P : Program} {o : Oper} {ρ : Operand → AV} {t : TypeId} {x : Operand} {i off sz : Nat} {ag : Bool}
theorem OpP.fieldAddr [F : FieldI P t i off sz ag] {k f0 : Nat} (ho : o.op = .fieldAddr t x i) (hx : ρ x = .ptr k f0) (hs : sz ≠ 0) {r : Nat} (hr : f0 + off = r) : OpP P o ρ (.ptr k r) := by
  intro I M w a h
  have h1 := h x (by simp [ho, Op.operands])
  rw [hx] at h1
  obtain ⟨fs, f, j, d, e1, e2, e3, e4, e5, _, _⟩ := fieldOf_some F.eq
  subst hr
  generalize e : a.eval x = q at h1
  cases h1 with
  | ptr hI =>
    refine ⟨_, ?_, .ptr hI⟩
    simp [execOp, ho, e, Instr.fieldAt, run_underlying e1, e2, Instr.sureAddr, fieldPlace, sizeOf, typeInfo, e4, e5, hs, Addr.add_lit, e3]
theorem OpP.fieldAddrE [F : FieldI P t i off sz ag] {j0 : Nat} {ys : List PV} (ho : o.op = .fieldAddr t x i) (hx : ρ x = .ep ys j0) (hs : sz ≠ 0) {r : Nat} (hr : j0 + off = r) (hl : r ≤ ys.length) : OpP P o ρ (.ep ys r) := by
  intro I M w a h
  have h1 := h x (by simp [ho, Op.operands])
  rw [hx] at h1
  obtain ⟨fs, f, j, d, e1, e2, e3, e4, e5, _, _⟩ := fieldOf_some F.eq
  subst hr
  generalize e : a.eval x = q at h1
  cases h1 with
  | @ep b o1 _ _ u hj hM hcell ho1 hu =>
    refine ⟨.pointer (some ⟨b, o1 + (j0 + off), none⟩), ?_, .ep u hl hM hcell ho1 hu⟩
    simp [execOp, ho, e, Instr.fieldAt, run_underlying e1, e2, Instr.sureAddr, fieldPlace, sizeOf, typeInfo, e4, e5, hs, Addr.add_lit, e3, Nat.add_assoc]
theorem OpP.field1 [F : FieldI P t i off sz ag] {cs : List AV} {c : AV} (ho : o.op = .field t x i) (hx : ρ x = .agg cs) (hag : ag = false) (hc : cs[off]? = some c) : OpP P o ρ c := by
  intro I M w a h
  have h1 := h x (by simp [ho, Op.operands])
  rw [hx] at h1
  obtain ⟨fs, f, j, d, e1, e2, e3, e4, e5, e6, e7⟩ := fieldOf_some F.eq
  subst hag e3
  generalize e : a.eval x = q at h1
  cases h1 with
  | @agg vs _ hl h11 hcs =>
    have hlt : f.offset < vs.size := by rw [hl]; exact (List.getElem?_eq_some_iff.1 hc).1
    have : Und P f.type d := ⟨e6⟩
    refine ⟨vs[f.offset], ?_, hcs f.offset _ c (by simp [hlt]) hc⟩
    simp [execOp, ho, e, Instr.field, run_underlying e1, e2, part, run_isAgg, e7, asAgg, hlt]
theorem OpP.fieldN [F : FieldI P t i off sz ag] {cs l : List AV} (ho : o.op = .field t x i) (hx : ρ x = .agg cs) (hag : ag = true) (hl : off + sz ≤ cs.length) (hc : (cs.drop off).take sz = l) : OpP P o ρ (.agg l) := by
  intro I M w a h
  have h1 := h x (by simp [ho, Op.operands])
  rw [hx] at h1
  obtain ⟨fs, f, j, d, e1, e2, e3, e4, e5, e6, e7⟩ := fieldOf_some F.eq
  subst hag e3 e5 hc
  generalize e : a.eval x = q at h1
  cases h1 with
  | @agg vs _ hsz h11 hcs =>
    have : Und P f.type d := ⟨e6⟩
    refine ⟨.agg (vs.extract f.offset (f.offset + j.size)), ?_, .agg (by simp; omega) (fun i v hv => ?_) fun i v c hv hc => ?_⟩
    · simp [execOp, ho, e, Instr.field, run_underlying e1, e2, part, run_isAgg, e7, asAgg, sizeOf, typeInfo, e4]
    · rw [Array.getElem?_extract] at hv
      split at hv
      · exact h11 _ v hv
      · cases hv
    · rw [Array.getElem?_extract] at hv
      rw [List.getElem?_take, List.getElem?_drop] at hc
      split at hv
      · split at hc
        · exact hcs _ v c hv hc
        · cases hc
      · cases hv
end
end Go.Proofs.Ytbbcokckealagaa
