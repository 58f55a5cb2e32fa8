/-
  append of zeros (make), and append to a slice without spare places that is written in place afterwards. Nothing of the dump is used; no condition.
-/
import Derived.Test.YtbbcokckealagaaArf
namespace Go.Proofs.Ytbbcokckealagaa
open Go.RowKit
set_option linter.unusedVariables false
set_option linter.unusedSimpArgs false
set_option maxHeartbeats 1000000 in
theorem run_appz_core {P : Program} {t tx e ty : TypeId} {k1 k2 : IntKind} {z : Value} {sz bytes : Nat} [Und P t (.slice e)] [Und P tx (.int k1)] [TyI P e z sz bytes] (hzs : z.cells.size = sz) (hz1 : z.cells.toList.all (·.oneCell') = true)
    {w : World} {A : Option Addr} {n c m : Nat} {olds : List Value}
    (hol : olds.length = n * sz) (hA : 0 < n → ∃ b off, A = some ⟨b, off, none⟩ ∧ ∀ (j : Nat) (u : Value), olds[j]? = some u → w.cell? ⟨b, off + j, none⟩ = some u)
    (hin : n + m ≤ c → 0 < m → ∃ g cur e fr, A = some ⟨g, 0, none⟩ ∧ w.heap[g]? = some (.cells cur e fr) ∧ cur.size = c * sz ∧ Unfr fr cur.size)
    (hb : (n + m) * bytes ≤ 140737488355328) (h63 : n + m ≤ maxLen) :
    App3 P t tx ty e z sz w A n c m (.int k2 (m : Int)) (Builtin.zeroCells z.cells m).toList olds := by
  obtain ⟨i, hi, hz, hs, hby, hti, hzv, hsz⟩ := run_typeInfo (P := P) (t := e) w
  have hxt : ∀ w : World, (underlying tx).run P w = .ok (.int k1) w := fun w => run_und w
  have hm : n + m ≤ 9223372036854775807 := by simp only [maxLen] at h63; omega
  have hw : IntKind.i64.wrap (m : Int) = m := IntWalk.i64_in _ (by omega)
  have m0 : ¬ ((m : Int) < 0) := by omega
  have mb0 : m * bytes ≤ (n + m) * bytes := Nat.mul_le_mul_right _ (by omega)
  have mb : ¬ (281474976710656 < (m : Int) * (bytes : Int)) := by
    have : (m : Int) * (bytes : Int) = ((m * bytes : Nat) : Int) := by simp
    rw [this]; omega
  have happ : ∀ w : World, (if m * sz = 0 then pure #[] else do pure (Builtin.zeroCells (← zeroValue e).cells m) : Sem (Array Value)).run P w = .ok (Builtin.zeroCells z.cells m) w := by
    intro w
    by_cases h0 : m * sz = 0
    · rw [if_pos h0]
      have : Builtin.zeroCells z.cells m = #[] := by simp [Builtin.zeroCells, hzs, h0]
      rw [this]; simp
    · rw [if_neg h0]; simp [zeroValue, typeInfo, hi, hz]
  have hzl : (Builtin.zeroCells z.cells m).toList.length = m * sz := by simp [size_zeroCells, hzs]
  unfold App3
  by_cases hroom : n + m ≤ c
  · rcases Nat.eq_zero_or_pos m with hm0 | hm0
    · left
      subst hm0
      refine ⟨hroom, rfl, ?_⟩
      have hw0 : IntKind.i64.wrap 0 = 0 := rfl
      cases A <;> simp [Builtin.append_, run_und, sizeOf, typeInfo, hi, hs, hby, hxt, asInt, asIntOf, hw0, storeCells, show n ≤ c from hroom]
    · right; left
      refine ⟨hroom, hm0, ?_⟩
      obtain ⟨g, cur, e', fr, rfl, hg, hcs, hun⟩ := hin hroom hm0
      refine ⟨g, rfl, ?_⟩
      have hle : n * sz + (Builtin.zeroCells z.cells m).toList.length ≤ cur.size := by rw [hzl, hcs, ← Nat.add_mul]; exact Nat.mul_le_mul_right _ hroom
      have h1 : ∀ v ∈ (Builtin.zeroCells z.cells m).toList, v.oneCell' = true := by
        intro v hv
        simp only [Builtin.zeroCells, Array.toList_map, List.mem_map] at hv
        obtain ⟨j, hj, rfl⟩ := hv
        have hj' : j < m * z.cells.size := by simpa using hj
        have hpos : 0 < z.cells.size := by
          rcases Nat.eq_zero_or_pos z.cells.size with h | h
          · rw [h] at hj'; omega
          · exact h
        have hlt := Nat.mod_lt j hpos
        simp only [hlt, getElem!_pos]
        exact List.all_eq_true.1 hz1 _ (by simp)
      have hst := run_storeCells_cells (P := P) g (n * sz) (Builtin.zeroCells z.cells m).toList 0 w (fun j hj => by
          rw [cell_of_row w g _ cur e' fr hg]
          have : n * sz + j < cur.size := by omega
          simp [this]) (fun j hj => by
          have := hun (n * sz + 0 + j) (by omega)
          simp only [World.frozen?, hg, Bool.and_eq_false_iff, decide_eq_false_iff_not]
          omega) h1
      simp only [Nat.add_zero] at hst
      have ha := happ w
      by_cases h0 : m * sz = 0
      · rw [if_pos h0] at ha
        simp at ha
        simp [Builtin.append_, run_und, sizeOf, typeInfo, hi, hs, hby, hxt, asInt, asIntOf, hw, m0, mb, hroom, Addr.add_lit, h0]
        simp [ha, storeCells, World.setCells]
      · simp [Builtin.append_, run_und, sizeOf, typeInfo, hi, hs, hby, hxt, asInt, asIntOf, hw, m0, mb, hroom, Addr.add_lit, h0, zeroValue, hz, hst]
  · right; right
    have hc : c < n + m := by omega
    refine ⟨hc, grownCap w (n + m) c e, grownCap_ge w (n + m) c e, ?_⟩
    have h63' : ¬ (9223372036854775807 < ((n : Int) + (m : Int))) := by omega
    have hfit : ¬ (281474976710656 < Builtin.nextslicecap (n + m) c * bytes) := by have := growslice_fits hc hb; omega
    have hold : (Builtin.firstCells sz n (.slice A n c)).run P w.drew = .ok olds.toArray w.drew := by
      rcases Nat.eq_zero_or_pos n with h0 | h0
      · subst h0
        have : olds = [] := List.eq_nil_of_length_eq_zero (by simpa using hol)
        subst this
        cases A <;> simp [Builtin.firstCells, loadCells, loadCellsFrom]
      · obtain ⟨b, off, rfl, hcell⟩ := hA h0
        exact run_firstCells_some (P := P) w.drew sz n ⟨b, off, none⟩ n c olds hol (fun j v hv => by rw [Addr.add_lit]; simpa using hcell j v hv)
    have ha := happ w
    by_cases h0 : m * sz = 0
    · rw [if_pos h0] at ha
      simp at ha
      simp [Builtin.append_, run_und, sizeOf, typeInfo, zeroValue, hi, hs, hz, hby, hxt, asInt, asIntOf, hw, m0, mb, hroom, h63', hfit, Question.forced, hold, newRow, grownCap, h0]
      simp [ha]
    · simp [Builtin.append_, run_und, sizeOf, typeInfo, zeroValue, hi, hs, hz, hby, hxt, asInt, asIntOf, hw, m0, mb, hroom, h63', hfit, Question.forced, hold, newRow, grownCap, h0]
theorem zeroCells_get (cs : Array Value) (m j : Nat) : (Builtin.zeroCells cs m)[j]? = if j < m * cs.size then some (cs[j % cs.size]!) else none := by
  by_cases h : j < m * cs.size
  · rw [if_pos h]; simp [Builtin.zeroCells, h]
  · rw [if_neg h]; simp [Builtin.zeroCells, h]
theorem zrep_get (zs : List PV) : ∀ (m i : Nat), (List.replicate m zs).flatten[i]? = if i < m * zs.length then zs[i % zs.length]? else none := by
  intro m
  induction m with
  | zero => intro i; simp
  | succ m ih =>
    intro i
    rw [List.replicate_succ, List.flatten_cons]
    rcases Nat.lt_or_ge i zs.length with h | h
    · rw [List.getElem?_append_left h, if_pos (by rw [Nat.add_mul]; omega), Nat.mod_eq_of_lt h]
    · rw [List.getElem?_append_right h, ih]
      have e : i % zs.length = (i - zs.length) % zs.length := by rw [← Nat.mod_eq_sub_mod h]
      rw [e]
      by_cases h2 : i - zs.length < m * zs.length
      · rw [if_pos h2, if_pos (by rw [Nat.add_mul]; omega)]
      · rw [if_neg h2, if_neg (by rw [Nat.add_mul]; omega)]
/-- zeros -/
theorem SrcG.zeros {P : Program} {t tx e : TypeId} {k1 k2 : IntKind} {z : Value} {sz bytes m : Nat} {a : Int} {av : AV} [Und P t (.slice e)] [Und P tx (.int k1)] [TyI P e z sz bytes] (hzs : z.cells.size = sz) (hz1 : z.cells.toList.all (·.oneCell') = true) (hav : av = .v (.int k2 a)) (ha : a = (m : Int)) :
    SrcG P t tx e z bytes av sz (List.replicate m (z.cells.toList.map PV.v)) [] := by
  intro I M w σ v hv hs hi
  subst hav ha
  obtain rfl := hv.val
  have hl : (List.replicate m (z.cells.toList.map PV.v)).length = m := by simp
  refine ⟨(Builtin.zeroCells z.cells m).toList, fun y hy => by rw [(List.mem_replicate.1 hy).2]; simp [hzs], by simp [size_zeroCells, hzs], fun v hv => ?_, fun j p hp => ?_, fun ty A n c olds h1 h2 h3 h4 h5 => ?_⟩
  · obtain ⟨j, hj⟩ := List.getElem?_of_mem hv
    rw [Array.getElem?_toList, zeroCells_get] at hj
    split at hj
    · rename_i hlt
      injection hj with hj
      have hpos : 0 < z.cells.size := by
        rcases Nat.eq_zero_or_pos z.cells.size with h | h
        · rw [h] at hlt; omega
        · exact h
      have hm := Nat.mod_lt j hpos
      simp only [hm, getElem!_pos] at hj
      rw [← hj]
      exact List.all_eq_true.1 hz1 _ (by simp)
    · cases hj
  · rw [zrep_get] at hp
    simp only [List.length_map, Array.length_toList] at hp
    split at hp
    · rename_i hlt
      rw [List.getElem?_map] at hp
      obtain ⟨u, hu, rfl⟩ := Option.map_eq_some_iff.1 hp
      refine ⟨u, ?_, .v _⟩
      rw [Array.getElem?_toList, zeroCells_get, if_pos hlt]
      rw [Array.getElem?_toList] at hu
      have := (Array.getElem?_eq_some_iff.1 hu).1
      simp only [this, getElem!_pos]
      rw [Array.getElem?_eq_getElem this] at hu
      exact hu
    · cases hp
  · rw [hl] at h3 h4 h5 ⊢
    exact run_appz_core hzs hz1 h1 h2 h3 h4 h5
end Go.Proofs.Ytbbcokckealagaa
