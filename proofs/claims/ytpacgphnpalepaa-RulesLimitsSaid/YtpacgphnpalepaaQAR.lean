/-
  Arrays that are written in place, over values without addresses: the cells of a slice of the call's own lie in a numbered variable. Nothing of the dump is used; no condition.
-/
import Derived.Test.YtpacgphnpalepaaQAD
namespace Go.Proofs.Ytpacgphnpalepaa
open Go.RowKit
set_option linter.unusedVariables false
set_option linter.unusedSimpArgs false
/-- the cells of a list of elements -/
def bxs (xs : List (List PV)) : List AV := xs.flatten.map PV.av
theorem bx_len {sz : Nat} {xs : List (List PV)} (hz : ∀ ys ∈ xs, ys.length = sz) : (bxs xs).length = xs.length * sz := by rw [bxs, List.length_map, flat_len hz]
theorem bx_append (xs ys : List (List PV)) : bxs (xs ++ ys) = bxs xs ++ bxs ys := by simp [bxs]
theorem Rp.rpv {I : Nat → CI} {M : Nat → Nat} {w : World} {x : Value} {p : PV} (h : Rp I M w x p.av) : RPV M w x p := by
  cases p with
  | v y =>
    have := h.val
    subst this
    exact .v _
  | sl sz xs =>
    simp only [PV.av] at h
    cases h with
    | sl h _ => exact h
section
variable {I : Nat → CI} {M : Nat → Nat} {w : World} {σ : Nat → Res} {P : Program} {o : Oper} {ρ : Operand → AV}
theorem zbx_get (zs : List PV) (m i : Nat) : (bxs (List.replicate m zs))[i]? = if i < m * zs.length then (zs[i % zs.length]?).map PV.av else none := by
  have : ∀ (m i : Nat), (List.replicate m zs).flatten[i]? = if i < m * zs.length then zs[i % zs.length]? else none := by
    intro m
    induction m with
    | zero => intro i; simp
    | succ m ih =>
      intro i
      rw [List.replicate_succ, List.flatten_cons]
      rcases Nat.lt_or_ge i zs.length with h | h
      · rw [List.getElem?_append_left h, if_pos (by rw [Nat.add_mul]; omega), Nat.mod_eq_of_lt h]
      · rw [List.getElem?_append_right h, ih]
        have e : i % zs.length = (i - zs.length) % zs.length := by rw [← Nat.mod_eq_sub_mod h]
        rw [e]
        by_cases h2 : i - zs.length < m * zs.length
        · rw [if_pos h2, if_pos (by rw [Nat.add_mul]; omega)]
        · rw [if_neg h2, if_neg (by rw [Nat.add_mul]; omega)]
  rw [bxs, List.getElem?_map, this]
  split <;> simp
/-- make: a row of zeros, in a variable of its own -/
theorem OpS.makeB {t e : TypeId} {x y : Operand} {kl kc : IntKind} {m k : Nat} {a : Int} {z : Value} {sz bytes : Nat} [Und P t (.slice e)] [TyI P e z sz bytes] (ho : o.op = .makeSlice t x y) (hx : ρ x = .v (.int kl a)) (hy : ρ y = .v (.int kc a)) (ha : a = (m : Int))
    (hz : z.cells.toList.all (·.oneCell') = true) (hzs : z.cells.size = sz) (hb : m * bytes ≤ 140737488355328) (h63 : m ≤ maxLen) :
    OpS P o ρ [] (.bsl k sz 0 m m) [(k, .box (bxs (List.replicate m (z.cells.toList.map .v))))] := by
  intro I M w ac σ K Q hop hs _ hk hK
  obtain ⟨hk1, hk2⟩ := (hk k (by simp [keys])).resolve_left (by simp [keys])
  have q1 := (hx ▸ hop x (by simp [ho, Op.operands])).val
  have q2 := (hy ▸ hop y (by simp [ho, Op.operands])).val
  subst ha
  let zero : Array Value := if m * sz = 0 then #[] else z.cells
  let cur : Array Value := (Array.range (m * sz)).map (zero[· % zero.size]!)
  have hget : ∀ (i : Nat) (v : Value), cur[i]? = some v → i < m * sz ∧ z.cells[i % sz]? = some v := by
    intro i v hv
    have hi : i < m * sz := by have := (Array.getElem?_eq_some_iff.1 hv).1; simpa [cur] using this
    have h0 : ¬ m * sz = 0 := by omega
    have hsz : 0 < sz := by
      rcases Nat.eq_zero_or_pos sz with h | h
      · subst h; simp at h0
      · exact h
    have hlt : i % sz < z.cells.size := by rw [hzs]; exact Nat.mod_lt _ hsz
    refine ⟨hi, ?_⟩
    have : cur[i]? = some (z.cells[i % sz]!) := by simp [cur, zero, h0, hi, hzs]
    rw [this] at hv
    rw [← hv]; simp [hlt]
  have hone : ∀ (i : Nat) (v : Value), cur[i]? = some v → v.oneCell' = true := by
    intro i v hv
    obtain ⟨_, h⟩ := hget i v hv
    exact List.all_eq_true.1 hz v (by simpa using Array.mem_of_getElem? h)
  let cs := bxs (List.replicate m (z.cells.toList.map PV.v))
  have hlen : cs.length = m * sz := by
    have := bx_len (sz := sz) (xs := List.replicate m (z.cells.toList.map PV.v)) (fun ys h => by rw [(List.mem_replicate.1 h).2]; simp [hzs])
    simpa [cs] using this
  have hRp : Rp I M w (.agg cur) (.agg cs) := by
    refine .agg (by simp [cur, hlen]) hone fun i v c hv hc => ?_
    obtain ⟨hi, h⟩ := hget i v hv
    simp only [cs, zbx_get, List.length_map, Array.length_toList, hzs] at hc
    rw [if_pos hi, List.getElem?_map, Array.getElem?_toList, h] at hc
    obtain rfl : AV.v v = c := by simpa [PV.av] using hc
    exact .v _
  obtain ⟨r1, r2, r3, r4⟩ := newVar_ok (t := e) hs hRp rfl k hk1 hk2
  obtain ⟨i, hi, hz', hs', hby, hti, hzv, hsz⟩ := run_typeInfo (P := P) (t := e) w
  have hm : (m : Int) ≤ 9223372036854775807 := by simp only [maxLen] at h63; omega
  have hw : IntKind.i64.wrap (m : Int) = m := IntWalk.i64_in _ (by omega)
  have hbm : bytes * (m : Int) ≤ 2 ^ 47 := by
    have : m * bytes = bytes * m := Nat.mul_comm _ _
    rw [this] at hb
    exact_mod_cast hb
  have hrun : (execOp ac.eval o).run P w = .ok (.value (.slice (some ⟨w.heap.size, 0, none⟩) m m)) (w.alloc (.cells cur e)) := by
    have n1 : ¬ (281474976710656 < (bytes : Int) * (m : Int)) := by omega
    have n3 : ¬ ((m : Int) < 0) := by omega
    have n2 : ¬ (140737488355328 < m * bytes) := by omega
    simp only [execOp, ho, q1, q2, Instr.makeSlice]
    by_cases h0 : m * sz = 0
    · simp [run_und, asInt, asIntOf, hti, hi, hw, hby, n1, n3, hsz, h0, newRow, askRoom, roomBytes, n2, cur, zero]
    · simp [run_und, asInt, asIntOf, hti, hi, hw, hby, n1, n3, hsz, h0, hzv, newRow, askRoom, roomBytes, n2, cur, zero]
  unfold Oper.wp
  rw [hrun]
  have hI : (if k = k then CI.box w.heap.size else I k) = .box w.heap.size := by simp
  refine hK _ _ M _ (.bsl (b := w.heap.size) (lo := 0) (C := m) (by simp) (by omega) (fun _ => by simp)) r2 (r3.wide fun _ _ h => h.elim) (fun i hi => r4 i (by simpa [keys] using hi)) fun i hi b hb => ?_
  obtain rfl : i = k := by simpa [keys] using hi
  simp only [updS, if_true, blkOf] at hb
  injection hb with hb
  exact .inl (by omega)
theorem OpP.lenB {x : Operand} {t e : TypeId} {k sz lo n C : Nat} [Und P t (.slice e)] (ho : o.op = .call { callee := .builtin .len, args := #[x], argTypes := #[t] }) (hx : ρ x = .bsl k sz lo n C) : OpP P o ρ (.v (.int .i64 n)) := by
  intro I M w a h
  have h1 := h x (by simp [ho, Op.operands, Call.operands])
  rw [hx] at h1
  generalize hv : a.eval x = xv at h1
  cases h1 with
  | bsl hI hn hA => exact ⟨_, by simp [execOp, ho, hv, resolve, invoke, builtin, Builtin.len_, run_und, goInt], .v _⟩
theorem OpP.indexAddrB {t e : TypeId} {x y : Operand} {kk : IntKind} {i : Int} {k sz lo n C off : Nat} {z : Value} {by_ : Nat} [Und P t (.slice e)] [TyI P e z sz by_]
    (ho : o.op = .indexAddr t x y) (hx : ρ x = .bsl k sz lo n C) (hy : ρ y = .v (.int kk i)) (h0 : 0 ≤ i) (h1 : i < (n : Int)) (hr : lo * sz + i.toNat * sz = off) : OpP P o ρ (.ptr k off) := by
  intro I M w a h
  have q1 := h x (by simp [ho, Op.operands])
  have q2 := h y (by simp [ho, Op.operands])
  rw [hy] at q2
  rw [hx] at q1
  generalize hv : a.eval x = xv at q1
  cases q1 with
  | bsl hI hn hA =>
    obtain rfl := hA (by omega)
    obtain ⟨_, _, _, _, _, _, _, hsz⟩ := run_typeInfo (P := P) (t := e) w
    subst hr
    exact ⟨_, by simp [execOp, ho, hv, q2.val, Instr.indexAt, run_und, asIntOf, h0, h1, hsz, Addr.add_lit], .ptr hI⟩
end
end Go.Proofs.Ytpacgphnpalepaa
/-
  Arrays that are written in place: copy, and what is written no more. Nothing of the dump is used; no condition.
-/
namespace Go.Proofs.Ytpacgphnpalepaa
open Go.RowKit
set_option linter.unusedVariables false
set_option linter.unusedSimpArgs false
section
variable {I : Nat → CI} {M : Nat → Nat} {w : World} {σ σ0 : Nat → Res} {P : Program} {o : Oper} {ρ : Operand → AV}
/-- what is copied or appended, and its beginnings -/
def SrcN (P : Program) (av : AV) (sz : Nat) (ys : List (List PV)) (ins : Upds) : Prop :=
  ∀ (I : Nat → CI) (M : Nat → Nat) (w : World) (σ : Nat → Res) (v : Value), Rp I M w v av → Sto I M w σ → (∀ q ∈ ins, σ q.1 = q.2) →
    ∃ news : List Value, (∀ w : World, (Builtin.lenOf v).run P w = .ok ys.length w) ∧ (∀ y ∈ ys, y.length = sz) ∧ news.length = ys.length * sz ∧ (∀ u ∈ news, u.oneCell' = true) ∧
      (∀ m, m ≤ ys.length → ∀ w1 : World, w1.heap = w.heap → (Builtin.firstCells sz m v).run P w1 = .ok (news.take (m * sz)).toArray w1) ∧ ∀ (j : Nat) (p : PV), ys.flatten[j]? = some p → ∃ u, news[j]? = some u ∧ RPV M w u p
end
end Go.Proofs.Ytpacgphnpalepaa
