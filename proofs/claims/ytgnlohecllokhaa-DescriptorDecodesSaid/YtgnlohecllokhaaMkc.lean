/-
  make with a length and a capacity: a row of zeros of one's own, of which a beginning is used.
-/
import Derived.Test.YtgnlohecllokhaaBaC
namespace Go.Proofs.Ytgnlohecllokhaa
open Go.RowKit
set_option linter.unusedVariables false
set_option linter.unusedSimpArgs false
theorem OpS.makeBC {t e : TypeId} {o : Oper} {P : Program} {ρ : Operand → AV} {x y : Operand} {kl kc : IntKind} {q m k : Nat} {a c : Int} {z : Value} {sz bytes : Nat} [Und P t (.slice e)] [TyI P e z sz bytes] (ho : o.op = .makeSlice t x y) (hx : ρ x = .v (.int kl a)) (hy : ρ y = .v (.int kc c)) (ha : a = (q : Int)) (hc : c = (m : Int)) (hqm : q ≤ m)
    (hz : z.cells.toList.all (·.oneCell') = true) (hzs : z.cells.size = sz) (hb : m * bytes ≤ 140737488355328) (h63 : m ≤ maxLen) :
    OpS P o ρ [] (.bsl k sz 0 q m) [(k, .box (bxs (List.replicate m (z.cells.toList.map .v))))] := by
  intro I M w ac σ K Q hop hs _ hk hK
  obtain ⟨hk1, hk2⟩ := (hk k (by simp [keys])).resolve_left (by simp [keys])
  have q1 := (hx ▸ hop x (by simp [ho, Op.operands])).val
  have q2 := (hy ▸ hop y (by simp [ho, Op.operands])).val
  subst ha
  subst hc
  let zero : Array Value := if m * sz = 0 then #[] else z.cells
  let cur : Array Value := (Array.range (m * sz)).map (zero[· % zero.size]!)
  have hget : ∀ (i : Nat) (v : Value), cur[i]? = some v → i < m * sz ∧ z.cells[i % sz]? = some v := by
    intro i v hv
    have hi : i < m * sz := by have := (Array.getElem?_eq_some_iff.1 hv).1; simpa [cur] using this
    have h0 : ¬ m * sz = 0 := by omega
    have hsz : 0 < sz := by
      rcases Nat.eq_zero_or_pos sz with h | h
      · subst h; simp at h0
      · exact h
    have hlt : i % sz < z.cells.size := by rw [hzs]; exact Nat.mod_lt _ hsz
    refine ⟨hi, ?_⟩
    have : cur[i]? = some (z.cells[i % sz]!) := by simp [cur, zero, h0, hi, hzs]
    rw [this] at hv
    rw [← hv]; simp [hlt]
  have hone : ∀ (i : Nat) (v : Value), cur[i]? = some v → v.oneCell' = true := by
    intro i v hv
    obtain ⟨_, h⟩ := hget i v hv
    exact List.all_eq_true.1 hz v (by simpa using Array.mem_of_getElem? h)
  let cs := bxs (List.replicate m (z.cells.toList.map PV.v))
  have hlen : cs.length = m * sz := by
    have := bx_len (sz := sz) (xs := List.replicate m (z.cells.toList.map PV.v)) (fun ys h => by rw [(List.mem_replicate.1 h).2]; simp [hzs])
    simpa [cs] using this
  have hRp : Rp I M w (.agg cur) (.agg cs) := by
    refine .agg (by simp [cur, hlen]) hone fun i v c hv hc' => ?_
    obtain ⟨hi, h⟩ := hget i v hv
    simp only [cs, zbx_get, List.length_map, Array.length_toList, hzs] at hc'
    rw [if_pos hi, List.getElem?_map, Array.getElem?_toList, h] at hc'
    obtain rfl : AV.v v = c := by simpa [PV.av] using hc'
    exact .v _
  obtain ⟨r1, r2, r3, r4⟩ := newVar_ok (t := e) hs hRp rfl k hk1 hk2
  obtain ⟨i, hi, hz', hs', hby, hti, hzv, hsz⟩ := run_typeInfo (P := P) (t := e) w
  have hm : (m : Int) ≤ 9223372036854775807 := by simp only [maxLen] at h63; omega
  have hw : IntKind.i64.wrap (m : Int) = m := IntWalk.i64_in _ (by omega)
  have hwq : IntKind.i64.wrap (q : Int) = q := IntWalk.i64_in _ (by omega)
  have hbm : bytes * (m : Int) ≤ 2 ^ 47 := by
    have : m * bytes = bytes * m := Nat.mul_comm _ _
    rw [this] at hb
    exact_mod_cast hb
  have hrun : (execOp ac.eval o).run P w = .ok (.value (.slice (some ⟨w.heap.size, 0, none⟩) q m)) (w.alloc (.cells cur e)) := by
    have n1 : ¬ (281474976710656 < (bytes : Int) * (m : Int)) := by omega
    have n3 : ¬ ((m : Int) < 0) := by omega
    have n4 : ¬ ((q : Int) < 0) := by omega
    have n5 : ¬ ((m : Int) < (q : Int)) := by omega
    have n6 : ¬ (m < q) := by omega
    have n2 : ¬ (140737488355328 < m * bytes) := by omega
    simp only [execOp, ho, q1, q2, Instr.makeSlice]
    by_cases h0 : m * sz = 0
    · simp [run_und, asInt, asIntOf, hti, hi, hw, hwq, hby, n1, n3, n4, n5, n6, hsz, h0, newRow, askRoom, roomBytes, n2, cur, zero]
    · simp [run_und, asInt, asIntOf, hti, hi, hw, hwq, hby, n1, n3, n4, n5, n6, hsz, h0, hzv, newRow, askRoom, roomBytes, n2, cur, zero]
  unfold Oper.wp
  rw [hrun]
  have hI : (if k = k then CI.box w.heap.size else I k) = .box w.heap.size := by simp
  refine hK _ _ M _ (.bsl (b := w.heap.size) (lo := 0) (C := m) (by simp) (by omega) (fun _ => by simp)) r2 (r3.wide fun _ _ h => h.elim) (fun i hi => r4 i (by simpa [keys] using hi)) fun i hi b hb => ?_
  obtain rfl : i = k := by simpa [keys] using hi
  simp only [updS, if_true, blkOf] at hb
  injection hb with hb
  exact .inl (by omega)
theorem Run.mkBC {P : Program} {n : Nat} {ops : List Oper} {chk : List (List Nat × List Nat) → Bool} {K : State → Prop} {rest : List Oper} {o : Oper} {fr : Fr} {σ : List Res} {acc : List (List Nat × List Nat)} {d t e k q m sz bytes : Nat} {x y : Operand} {kl kc : IntKind} {a c : Int} {z : Value} {σ' : List Res} [Und P t (.slice e)] [TyI P e z sz bytes] (ho : o.dst = some d) (hop : o.op = .makeSlice t x y) (hw : wantA ops fr o = some true) (hd : Nat.blt d n = true)
    (hx : evA fr x = .v (.int kl a)) (hy : evA fr y = .v (.int kc c)) (hr : Run P n ops chk K rest ⟨(d, .bsl k sz 0 q m) :: fr, σ'⟩ (acc ++ [([], [k])])) (ha : a = (q : Int) := by (first | assumption | rfl | exact nat_of (by omega))) (hc : c = (m : Int) := by (first | assumption | rfl | exact nat_of (by omega))) (hqm : q ≤ m := by (first | exact Nat.zero_le _ | omega)) (he : Ends σ k := by ((repeat constructor); first | done | fail))
    (hz : z.cells.toList.all (·.oneCell') = true := by rfl) (hzs : z.cells.size = sz := by rfl) (hb : m * bytes ≤ 140737488355328 := by (first | omega | (simp [maxLen]; omega))) (h63 : m ≤ maxLen := by (simp only [maxLen]; omega))
    (hσ : PutAt σ k (.box (bxs (List.replicate m (z.cells.toList.map .v)))) σ' := by ((repeat constructor); first | done | fail)) : Run P n ops chk K (o :: rest) ⟨fr, σ⟩ acc :=
  .op (ins := []) (outs := [(k, .box (bxs (List.replicate m (z.cells.toList.map .v))))]) (v := .bsl k sz 0 q m) hw (by rw [ho]; exact hd) (OpS.makeBC hop hx hy ha hc hqm hz hzs hb h63) (fun _ h => by cases h) (okU_one hσ).1 (fun k' hk => by
    obtain rfl : k' = k := by simpa [keys] using hk
    exact .inr (Nat.le_of_eq he.spec.symm)) (by rw [ho, (okU_one hσ).2]; exact hr)
theorem OpP.cpl {P : Program} {o : Oper} {ρ : Operand → AV} {t : TypeId} {x : Operand} {k : IntKind} {a : Int} (ho : o.op = .unOp .xor t x) (hx : ρ x = .v (.int k a)) : OpP P o ρ (.v (.int k (bits .xor k (if k.signed then -1 else k.max) a))) :=
  OpP.un ho hx fun w => rfl
end Go.Proofs.Ytgnlohecllokhaa
