/-
  The operations that make and change memory, over values without addresses: variables, stores, new slices, append. Nothing of the dump is used; no condition.
-/
import Derived.Test.YtbbcokckealagaaAMk
namespace Go.Proofs.Ytbbcokckealagaa
open Go.RowKit
set_option linter.unusedVariables false
set_option linter.unusedSimpArgs false
def AV.cells : AV → List AV
  | .agg cs => cs
  | c => [c]
def AV.one1 : AV → Bool
  | .v x => x.oneCell'
  | .any | .agg _ | .tup _ | .ifb _ _ => false
  | _ => true
theorem Rp.one1 {I : Nat → CI} {M : Nat → Nat} {w : World} {x : Value} {p : AV} (h : Rp I M w x p) (hp : p.one1 = true) : x.oneCell' = true := by
  cases h <;> first | rfl | exact hp | (simp [AV.one1] at hp)
def AV.okCells : AV → Bool
  | .agg _ => true
  | c => c.one1
theorem one_cells {x : Value} (h : x.oneCell' = true) : x.cells = #[x] := by
  cases x <;> first | rfl | cases h
theorem Rp.cells {I : Nat → CI} {M : Nat → Nat} {w : World} {x : Value} {p : AV} (h : Rp I M w x p) (hp : p.okCells = true) :
    x.cells.size = p.cells.length ∧ (∀ (i : Nat) (v : Value), x.cells[i]? = some v → v.oneCell' = true) ∧ ∀ (i : Nat) (v : Value) (c : AV), x.cells[i]? = some v → p.cells[i]? = some c → Rp I M w v c := by
  have sing : p.one1 = true → p.cells = [p] → x.cells.size = p.cells.length ∧ (∀ (i : Nat) (v : Value), x.cells[i]? = some v → v.oneCell' = true) ∧ ∀ (i : Nat) (v : Value) (c : AV), x.cells[i]? = some v → p.cells[i]? = some c → Rp I M w v c := by
    intro h1 h2
    have h3 := h.one1 h1
    rw [one_cells h3, h2]
    refine ⟨rfl, fun i v hv => ?_, fun i v c hv hc => ?_⟩
    · cases i with
      | zero => obtain rfl : x = v := by simpa using hv
                exact h3
      | succ i => simp at hv
    · cases i with
      | zero =>
        obtain rfl : x = v := by simpa using hv
        obtain rfl : p = c := by simpa using hc
        exact h
      | succ i => simp at hv
  cases p with
  | agg cs =>
    cases h with
    | agg hs h1 hc => exact ⟨hs, h1, hc⟩
  | _ => exact sing hp rfl
section
variable {P : Program} {o : Oper} {ρ : Operand → AV} {σ0 : Nat → Res}
/-- a new variable -/
theorem newVar_ok {I : Nat → CI} {M : Nat → Nat} {w : World} {σ : Nat → Res} {t : TypeId} {v : Value} {p : AV} (hs : Sto I M w σ) (hv : Rp I M w v p) (hp : p.okCells = true) (k : Nat) (hk : σ k = .no) (hI : I k = .no) :
    let I' := fun i => if i = k then CI.box w.heap.size else I i
    let w' := w.alloc (.cells v.cells t)
    Rp I' M w' (.pointer (some ⟨w.heap.size, 0, none⟩)) (.ptr k 0) ∧ Sto I' M w' (updS σ [(k, .box p.cells)]) ∧ Ext (fun _ => False) I I' M M w w' ∧ (∀ i, i ≠ k → I' i = I i) := by
  intro I' w'
  have hle : ∀ i, (I i).le (I' i) := by
    intro i
    show (I i).le (if i = k then CI.box w.heap.size else I i)
    by_cases h : i = k
    · rw [h, hI]; trivial
    · rw [if_neg h]; exact CI.le_refl _
  have hext : Ext (fun _ => False) I I' M M w w' := ⟨rfl, rfl, rfl, hle, ⟨by simp [w'], fun _ => Nat.le_refl _, fun b o v _ hv => by
      rw [World.cell?_alloc_lt _ _ _ (World.block_lt_of_cell? w _ hv)]; exact hv⟩, fun b hb _ => ⟨Below.heap_alloc w _ b hb, rfl⟩⟩
  have hIk : I' k = .box w.heap.size := by simp [I']
  refine ⟨.ptr hIk, ?_, hext, fun i hi => by simp [I', hi]⟩
  refine hs.upd [k] hext (fun _ h => h.elim) (fun i hi => by have : i ≠ k := by simpa using hi
                                                             simp [I', this]) (fun i hi => updS_other _ _ _ (by simpa [keys] using hi)) (fun i hi => ?_) (fun i hi b hb => ?_) (fun i hi j hj b hne => ?_) (fun b hb => ?_)
  · obtain rfl : i = k := by simpa using hi
    obtain ⟨c1, c2, c3⟩ := hv.cells hp
    simp only [updS, if_true, hIk]
    refine ⟨w.heap.size, v.cells, t, rfl, heap_alloc_new w _, hs.top _ (Nat.le_refl _), c1, c2, fun j u c hu hc => (c3 j u c hu hc).evo hle hext.evo⟩
  · obtain rfl : i = k := by simpa using hi
    simp only [updS, if_true, hIk, blkOf] at hb
    injection hb with hb
    exact .inl (by omega)
  · obtain rfl : i = k := by simpa using hi
    obtain rfl : j = i := by simpa using hj
    exact absurd rfl hne
  · exact hs.top b (by have : w'.heap.size = w.heap.size + 1 := by simp [w']
                       omega)
theorem OpS.newVar {v : AV} {t : TypeId} (k : Nat) (hp : v.okCells = true)
    (hrun : ∀ (I : Nat → CI) (M : Nat → Nat) (w : World) (a : Act), (∀ x ∈ o.op.operands.toList, Rp I M w (a.eval x) (ρ x)) → ∃ cv, Rp I M w cv v ∧ (execOp a.eval o).run P w = .ok (.value (.pointer (some ⟨w.heap.size, 0, none⟩))) (w.alloc (.cells cv.cells t))) :
    OpS P o ρ [] (.ptr k 0) [(k, .box v.cells)] := by
  intro I M w a σ K Q hx hs _ hk hK
  obtain ⟨cv, hv, hr⟩ := hrun I M w a hx
  obtain ⟨hk1, hk2⟩ := (hk k (by simp [keys])).resolve_left (by simp [keys])
  obtain ⟨r1, r2, r3, r4⟩ := newVar_ok (t := t) hs hv hp k hk1 hk2
  unfold Oper.wp
  rw [hr]
  refine hK _ _ M _ r1 r2 (r3.wide fun _ _ h => h.elim) (fun i hi => r4 i (by simpa [keys] using hi)) fun i hi b hb => ?_
  obtain rfl : i = k := by simpa [keys] using hi
  simp only [updS, if_true, blkOf] at hb
  injection hb with hb
  exact .inl (by omega)
theorem OpS.boxed {t : TypeId} {x : Operand} {v : AV} (k : Nat) (ho : o.op = .box t x) (hx : ρ x = v) (hp : v.okCells = true) {cs : List AV} (hc : v.cells = cs) : OpS P o ρ [] (.ptr k 0) [(k, .box cs)] := by
  subst hc
  refine OpS.newVar (t := t) k hp fun I M w a h => ?_
  have h1 := h x (by simp [ho, Op.operands])
  rw [hx] at h1
  exact ⟨_, h1, by simp [execOp, ho, Instr.box, Go.newVar, newRow]⟩
/-- a constant as cells -/
def zav (z : Value) : AV := match z with | .agg vs => .agg (vs.toList.map .v) | z => .v z
theorem zav_ok {I : Nat → CI} {M : Nat → Nat} {w : World} (z : Value) (h : z.cells.toList.all (·.oneCell') = true) : Rp I M w z (zav z) ∧ (zav z).okCells = true := by
  cases z with
  | agg vs =>
    refine ⟨.agg (by simp) (fun i v hv => ?_) fun i v c hv hc => ?_, rfl⟩
    · rw [List.all_eq_true] at h
      exact h v (by simpa [Value.cells] using Array.mem_of_getElem? hv)
    · simp only [List.getElem?_map, Option.map_eq_some_iff, Array.getElem?_toList] at hc
      obtain ⟨u, hu, rfl⟩ := hc
      rw [hv] at hu; injection hu with hu; subst hu
      exact .v _
  | _ => exact ⟨.v _, by simpa [Value.cells, zav, AV.okCells, AV.one1] using h⟩
theorem OpS.alloc {t : TypeId} {z : Value} {sz bytes : Nat} [TyI P t z sz bytes] (k : Nat) (ho : o.op = .alloc t) (hz : z.cells.toList.all (·.oneCell') = true) {cs : List AV} (hc : (zav z).cells = cs) : OpS P o ρ [] (.ptr k 0) [(k, .box cs)] := by
  subst hc
  refine OpS.newVar (t := t) k (zav_ok (I := fun _ => .no) (M := fun _ => 0) (w := default) z hz).2 fun I M w a h => ?_
  obtain ⟨_, _, _, _, _, _, hzv, _⟩ := run_typeInfo (P := P) (t := t) w
  exact ⟨z, (zav_ok z hz).1, by simp [execOp, ho, Instr.alloc, Go.newVar, newRow, hzv]⟩

/-- cells written one after the other -/
def setArr (cur : Array Value) : Nat → List Value → Array Value
  | _, [] => cur
  | o, v :: r => setArr (cur.setIfInBounds o v) (o + 1) r
theorem setArr_size (cur : Array Value) (o : Nat) (vs : List Value) : (setArr cur o vs).size = cur.size := by
  induction vs generalizing cur o with
  | nil => rfl
  | cons v r ih => simp [setArr, ih]
theorem setArr_get (cur : Array Value) (o : Nat) (vs : List Value) (h : o + vs.length ≤ cur.size) (i : Nat) : (setArr cur o vs)[i]? = if o ≤ i ∧ i < o + vs.length then vs[i - o]? else cur[i]? := by
  induction vs generalizing cur o with
  | nil => simp only [setArr, List.length_nil]; rw [if_neg (by omega)]
  | cons v r ih =>
    simp only [List.length_cons] at h
    rw [setArr, ih _ _ (by simp; omega)]
    by_cases h1 : o + 1 ≤ i ∧ i < o + 1 + r.length
    · rw [if_pos h1, if_pos (by simp; omega), show i - o = (i - (o + 1)) + 1 by omega, List.getElem?_cons_succ]
    · rw [if_neg h1]
      by_cases h2 : i = o
      · subst h2
        rw [if_pos (by simp)]
        simp [show i < cur.size by omega]
      · rw [if_neg (by simp; omega), Array.getElem?_setIfInBounds_ne (by omega)]
theorem heap_setCells (w : World) (b : Nat) (cur : Array Value) (e : TypeId) (fr : Nat × Nat) (vs : List Value) (o : Nat) (h : w.heap[b]? = some (.cells cur e fr)) :
    (w.setCells b o vs).heap[b]? = some (.cells (setArr cur o vs) e fr) ∧ (∀ b', b' ≠ b → (w.setCells b o vs).heap[b']? = w.heap[b']?) ∧ (w.setCells b o vs).heap.size = w.heap.size ∧
      (w.setCells b o vs).os = w.os ∧ (w.setCells b o vs).tape = w.tape ∧ (w.setCells b o vs).output = w.output := by
  induction vs generalizing w cur o with
  | nil => exact ⟨h, fun _ _ => rfl, rfl, rfl, rfl, rfl⟩
  | cons v r ih =>
    have h1 : (w.setCell ⟨b, o, none⟩ v).heap[b]? = some (.cells (cur.setIfInBounds o v) e fr) := by
      simp [World.setCell, Array.getElem?_modify, h]
    obtain ⟨a1, a2, a3, a4, a5, a6⟩ := ih _ _ (o + 1) h1
    refine ⟨a1, fun b' hb => ?_, ?_, a4, a5, a6⟩
    · rw [World.setCells, a2 b' hb, Below.heap_setCell _ _ _ _ hb]
    · rw [World.setCells, a3]; simp [World.setCell]
/-- a store into a variable -/
theorem OpS.store {t : TypeId} {x y : Operand} {k off sz bytes : Nat} {z : Value} {cs new cs' : List AV} {v : AV} [TyI P t z sz bytes] (ho : o.op = .store t x y) (hx : ρ x = .ptr k off) (hy : ρ y = v) (hp : v.okCells = true) (hn : v.cells = new) (hl : new.length = sz)
    (hb : off + sz ≤ cs.length) (hc : cs.take off ++ (new ++ cs.drop (off + sz)) = cs') : OpS P o ρ [(k, .box cs)] .any [(k, .box cs')] := by
  intro I M w a σ K Q hop hs hi _ hK
  have q1 := hop x (by simp [ho, Op.operands])
  have q2 := hop y (by simp [ho, Op.operands])
  rw [hx] at q1; rw [hy] at q2
  have own := hs.own k
  rw [hi _ (List.mem_singleton.2 rfl)] at own
  obtain ⟨b, cur, e, e1, e2, e3, e4, e5, e6⟩ := own
  generalize eq0 : a.eval x = xv at q1
  generalize eq1 : a.eval y = yv at q2
  cases q1 with
  | ptr hI =>
    rw [e1] at hI
    injection hI with hI
    subst hI hn hl
    obtain ⟨c1, c2, c3⟩ := q2.cells hp
    obtain ⟨_, _, _, _, _, _, _, hsz⟩ := run_typeInfo (P := P) (t := t) w
    have hlen : yv.cells.toList.length = v.cells.length := by simpa using c1
    have hblk : b < w.heap.size := (Array.getElem?_eq_some_iff.1 e2).1
    have hrun : (execOp a.eval o).run P w = .ok .skip (w.setCells b off yv.cells.toList) := by
      have hst := run_storeCells_cells (P := P) b off yv.cells.toList 0 w (fun j hj => by
          rw [cell_of_row w b _ cur e (0, 0) e2]
          have : off + j < cur.size := by rw [hlen] at hj; omega
          simp [this]) (fun j hj => by simp [World.frozen?, e2]) (fun u hu => by
          obtain ⟨i, hi⟩ := List.getElem?_of_mem hu
          exact c2 i u (by simpa using hi))
      have hne : ¬ (yv.cells.size ≠ v.cells.length) := by rw [c1]; simp
      simp only [Nat.add_zero] at hst
      simp [execOp, ho, eq0, eq1, Instr.storeAt, Instr.sureAddr, storeVar, hsz, c1, hst]
    obtain ⟨a1, a2, a3, a4, a5, a6⟩ := heap_setCells w b cur e (0, 0) yv.cells.toList off e2
    have hext : Ext (fun b' => b' = b) I I M M w (w.setCells b off yv.cells.toList) := ⟨a4, a5, a6, fun _ => CI.le_refl _, ⟨by omega, fun _ => Nat.le_refl _, fun b' o' u ho' hu => by
        have hne : b' ≠ b := by rintro rfl; omega
        rw [World.cell?_of_block (a2 b' hne)]; exact hu⟩, fun b' _ hne => ⟨a2 b' hne, rfl⟩⟩
    unfold Oper.wp
    rw [hrun]
    refine hK undef I M _ (.any _) ?_ (hext.wide fun b' _ h => ⟨k, by simp [keys], by rw [e1, hi _ (List.mem_singleton.2 rfl)]; simp [blkOf, h]⟩) (fun _ _ => rfl) (fun i hi' b' hb' => ?_)
    · refine hs.upd [k] hext (fun b' h => ⟨k, by simp, by rw [e1, hi _ (List.mem_singleton.2 rfl)]; simp [blkOf, h]⟩) (fun _ _ => rfl) (fun i hi => updS_other _ _ _ (by simpa [keys] using hi)) (fun i hi' => ?_) (fun i hi' b' hb' => ?_) (fun i hi j hj b hne => ?_) (fun b hb => hs.top b (by omega))
      · obtain rfl : i = k := by simpa using hi'
        simp only [updS, if_true, e1]
        have hcl : cs'.length = cs.length := by rw [← hc]; simp; omega
        refine ⟨b, _, e, rfl, a1, e3, by rw [setArr_size, hcl]; exact e4, fun j u hu => ?_, fun j u c hu hcc => ?_⟩
        · rw [setArr_get _ _ _ (by omega)] at hu
          split at hu
          · exact c2 (j - off) u (by simpa using hu)
          · exact e5 j u hu
        · rw [setArr_get _ _ _ (by omega)] at hu
          rw [← hc] at hcc
          split at hu
          · rename_i hj
            rw [List.getElem?_append_right (by simp; omega), List.length_take, Nat.min_eq_left (by omega), List.getElem?_append_left (by omega)] at hcc
            exact (c3 (j - off) u c (by simpa using hu) hcc).evo hext.le hext.evo
          · rename_i hj
            refine (e6 j u c hu ?_).evo hext.le hext.evo
            rcases Nat.lt_or_ge j off with h1 | h1
            · rw [List.getElem?_append_left (by simp; omega), List.getElem?_take, if_pos h1] at hcc
              exact hcc
            · rw [List.getElem?_append_right (by simp; omega), List.length_take, Nat.min_eq_left (by omega), List.getElem?_append_right (by omega), List.getElem?_drop] at hcc
              rw [← hcc]; congr 1; omega
      · obtain rfl : i = k := by simpa using hi'
        right
        refine ⟨i, by simp, ?_⟩
        simp only [updS, if_true, e1, blkOf] at hb'
        rw [e1, hi _ (List.mem_singleton.2 rfl)]
        exact hb'
      · obtain rfl : i = k := by simpa using hi
        obtain rfl : j = i := by simpa using hj
        exact absurd rfl hne
    · obtain rfl : i = k := by simpa [keys] using hi'
      right
      refine ⟨i, by simp [keys], ?_⟩
      simp only [updS, if_true, e1, blkOf] at hb'
      rw [e1, hi _ (List.mem_singleton.2 rfl)]
      exact hb'
end
end Go.Proofs.Ytbbcokckealagaa
