/-
  New slices and append, over values without addresses. Nothing of the dump is used; no condition.
-/
import Derived.Test.YtbbcokckealagaaAWr
namespace Go.Proofs.Ytbbcokckealagaa
open Go.RowKit
set_option linter.unusedVariables false
set_option linter.unusedSimpArgs false
section
variable {I : Nat → CI} {M : Nat → Nat} {w : World} {σ : Nat → Res}
/-- what lies in a new block, and is never written -/
theorem fresh_ok (hs : Sto I M w σ) {w1 : World} (e1 : w1.heap = w.heap) (e2 : w1.os = w.os) (e3 : w1.tape = w.tape) (e4 : w1.output = w.output) {cur : Array Value} {e : TypeId} {fr : Nat × Nat} {xs : List (List PV)} {sz c : Nat}
    (hz : ∀ ys ∈ xs, ys.length = sz) (hc : xs.length ≤ c) (hl : xs.length * sz ≤ cur.size)
    (hf : ∀ (j : Nat) (p : PV), xs.flatten[j]? = some p → ∃ u : Value, cur[j]? = some u ∧ u.oneCell' = true ∧ RPV M w u p) :
    let M' := fun b => if b = w.heap.size then xs.length * sz else M b
    let w' := w1.alloc (.cells cur e fr)
    Evo M M' w w' ∧ RPV M' w' (.slice (some ⟨w.heap.size, 0, none⟩) xs.length c) (.sl sz xs) ∧ Sto I M' w' σ ∧ Ext (fun _ => False) I I M M' w w' := by
  intro M' w'
  have hw' : w'.heap = w.heap.push (.cells cur e fr) := by show w1.heap.push _ = _; rw [e1]
  have h0 : M w.heap.size = 0 := hs.top _ (Nat.le_refl _)
  have hmask : ∀ b, M b ≤ M' b := by
    intro b
    show M b ≤ if b = w.heap.size then xs.length * sz else M b
    split
    · rename_i h; subst h; omega
    · exact Nat.le_refl _
  have hold : ∀ b, b < w.heap.size → w'.heap[b]? = w.heap[b]? := by
    intro b hb
    rw [hw', Array.getElem?_push, if_neg (by omega)]
  have hevo : Evo M M' w w' := ⟨by rw [hw']; simp, hmask, fun b o v _ hv => by
    rw [World.cell?_of_block (hold b (World.block_lt_of_cell? w _ hv))]; exact hv⟩
  have hext : Ext (fun _ => False) I I M M' w w' := ⟨e2, e3, e4, fun _ => CI.le_refl _, hevo, fun b hb _ => ⟨hold b hb, by show (if b = w.heap.size then _ else M b) = M b; rw [if_neg (by omega)]⟩⟩
  refine ⟨hevo, ?_, hs.stay hext (fun b hb => ?_), hext⟩
  · refine .sl w.heap.size 0 (fun j => cur.getD j undef) rfl hc hz (fun _ => rfl) (fun _ => ?_) (fun j hj => ?_) (fun j hj => ?_) (fun j p hp => ?_)
    · show 0 + xs.length * sz ≤ if w.heap.size = w.heap.size then xs.length * sz else M _
      rw [if_pos rfl]; omega
    · have : w'.heap[w.heap.size]? = some (.cells cur e fr) := by rw [hw']; simp
      rw [cell_of_row w' _ _ cur e fr this]
      simp [show j < cur.size by omega]
    · have hlt : j < xs.flatten.length := by rw [flat_len hz]; exact hj
      obtain ⟨u, hu, h1, _⟩ := hf j _ (List.getElem?_eq_getElem hlt)
      simp [hu, h1]
    · obtain ⟨u, hu, _, hr⟩ := hf j p hp
      have : cur.getD j undef = u := by simp [hu]
      rw [this]
      exact hr.evo hevo
  · have hsz : w'.heap.size = w.heap.size + 1 := by rw [hw']; simp
    show (if b = w.heap.size then _ else M b) = 0
    rw [if_neg (by omega)]
    exact hs.top b (by omega)
end
/-- a cell as a datum -/
inductive ToP (σ : Nat → Res) : AV → PV → Upds → Prop
  | sl {sz : Nat} {xs : List (List PV)} {f : Bool} : ToP σ (.sl sz xs f) (.sl sz xs) []
  | rowf {t sz n : Nat} {xs : List (List PV)} (h : σ t = .row sz xs) (hn : n = xs.length) : ToP σ (.row t n) (.sl sz xs) [(t, .row sz xs)]
  | row {t sz n : Nat} {xs : List (List PV)} (h : σ t = .row sz xs) : ToP σ (.row t n) (.sl sz (xs.take n)) [(t, .row sz xs)]
  | nil {sz : Nat} : ToP σ (.v (.slice none 0 0)) (.sl sz []) []
  | v {x : Value} (h : x.oneCell' = true) : ToP σ (.v x) (.v x) []
inductive ToPs (σ : Nat → Res) : List AV → List PV → Upds → Prop
  | nil : ToPs σ [] [] []
  | cons {a : AV} {p : PV} {l : List AV} {ps : List PV} {u us : Upds} (h : ToP σ a p u) (hs : ToPs σ l ps us) : ToPs σ (a :: l) (p :: ps) (u ++ us)
section
variable {I : Nat → CI} {M : Nat → Nat} {w : World} {σ0 σ : Nat → Res}
theorem ToP.rpv {a : AV} {p : PV} {u : Upds} (d : ToP σ0 a p u) (hi : ∀ q ∈ u, σ q.1 = q.2) (hs : Sto I M w σ) {v : Value} (h : Rp I M w v a) : RPV M w v p ∧ v.oneCell' = true := by
  cases d with
  | sl =>
    obtain ⟨A, c, rfl, r⟩ := Dat.rpv (σ0 := σ0) (.sl) hi hs h
    exact ⟨r, rfl⟩
  | rowf h0 hn =>
    obtain ⟨A, c, rfl, r⟩ := Dat.rpv (.rowf h0 hn) hi hs h
    exact ⟨r, rfl⟩
  | row h0 =>
    obtain ⟨A, c, rfl, r⟩ := Dat.rpv (.row h0) hi hs h
    exact ⟨r, rfl⟩
  | nil => cases h; exact ⟨.nil _ _ _ _ _, rfl⟩
  | v h1 => cases h; exact ⟨.v _, h1⟩
theorem ToPs.len {l : List AV} {ps : List PV} {u : Upds} (d : ToPs σ0 l ps u) : l.length = ps.length := by
  induction d with
  | nil => rfl
  | cons h hs ih => simp [ih]
theorem ToPs.rpv {l : List AV} {ps : List PV} {u : Upds} (d : ToPs σ0 l ps u) (hi : ∀ q ∈ u, σ q.1 = q.2) (hs : Sto I M w σ) {vs : List Value} (hl : vs.length = l.length) (h : ∀ (i : Nat) (v : Value) (c : AV), vs[i]? = some v → l[i]? = some c → Rp I M w v c) :
    ∀ (i : Nat) (p : PV), ps[i]? = some p → ∃ v, vs[i]? = some v ∧ v.oneCell' = true ∧ RPV M w v p := by
  induction d generalizing vs with
  | nil => intro i p hp; simp at hp
  | cons h0 hs0 ih =>
    rename_i a0 p0 l0 ps0 u0 us0
    intro i p hp
    cases vs with
    | nil => simp at hl
    | cons v vs =>
      cases i with
      | zero =>
        obtain rfl : p0 = p := by simpa using hp
        obtain ⟨r1, r2⟩ := h0.rpv (fun q hq => hi q (List.mem_append_left _ hq)) hs (h 0 v a0 (by simp) (by simp))
        exact ⟨v, by simp, r2, r1⟩
      | succ i =>
        obtain ⟨v', h1, h2⟩ := ih (fun q hq => hi q (List.mem_append_right _ hq)) (vs := vs) (by simpa using hl) (fun j v c hv hc => h (j + 1) v c (by simpa using hv) (by simpa using hc)) i p (by simpa using hp)
        exact ⟨v', by simpa using h1, h2⟩
end
theorem foldl_setArr (v : List Value) (off : Nat) : ∀ (k : Nat) (cells : Array Value), (v.zipIdx k).foldl (fun cs (c, j) => cs.setIfInBounds (off + j) c) cells = setArr cells (off + k) v := by
  induction v with
  | nil => intro k cells; rfl
  | cons c r ih => intro k cells; simp only [List.zipIdx_cons, List.foldl_cons, setArr]; rw [ih]; rfl
theorem setArr_toList (cur : Array Value) (o : Nat) (vs : List Value) (h : o + vs.length ≤ cur.size) : (setArr cur o vs).toList = cur.toList.take o ++ (vs ++ cur.toList.drop (o + vs.length)) := by
  have hcl : cur.toList.length = cur.size := by simp
  apply List.ext_getElem?
  intro i
  rw [Array.getElem?_toList, setArr_get _ _ _ h]
  have ht : (cur.toList.take o).length = o := by rw [List.length_take]; omega
  split
  · rename_i hi
    rw [List.getElem?_append_right (by omega), ht, List.getElem?_append_left (by omega)]
  · rename_i hi
    rcases Nat.lt_or_ge i o with h1 | h1
    · rw [List.getElem?_append_left (by omega), List.getElem?_take, if_pos h1, Array.getElem?_toList]
    · rw [List.getElem?_append_right (by omega), ht, List.getElem?_append_right (by omega), List.getElem?_drop, Array.getElem?_toList]
      congr 1; omega
theorem fill_seq (sz : Nat) : ∀ (vs : List Value) (k : Nat) (cur : Array Value), (∀ v ∈ vs, v.cells.size = sz) → cur.size = (k + vs.length) * sz →
    ∃ r, Instr.fill (fun i => some (i * sz, sz)) cur ((vs.zipIdx k).map fun p => (p.2, p.1)) = some r ∧ r.toList = cur.toList.take (k * sz) ++ (vs.map fun v => v.cells.toList).flatten := by
  intro vs
  induction vs with
  | nil => intro k cur _ hs; refine ⟨cur, rfl, ?_⟩; simp only [List.length_nil, Nat.add_zero] at hs; rw [List.take_of_length_le (by simp [hs])]; simp
  | cons v r ih =>
    intro k cur h1 hs
    have hv := h1 v (by simp)
    have hle : k * sz + sz ≤ cur.size := by rw [hs, ← Nat.succ_mul]; exact Nat.mul_le_mul_right _ (by simp only [List.length_cons]; omega)
    have hz : v.cells.zipIdx.foldl (fun cs (c, j) => cs.setIfInBounds (k * sz + j) c) cur = setArr cur (k * sz) v.cells.toList := by
      have := foldl_setArr v.cells.toList (k * sz) 0 cur
      rw [Nat.add_zero] at this
      rw [← this, ← Array.foldl_toList]
      simp [Array.toList_zipIdx]
    obtain ⟨r', e1, e2⟩ := ih (k + 1) (setArr cur (k * sz) v.cells.toList) (fun u hu => h1 u (List.mem_cons_of_mem _ hu)) (by rw [setArr_size, hs]; congr 1; simp only [List.length_cons]; omega)
    refine ⟨r', ?_, ?_⟩
    · simp only [List.zipIdx_cons, List.map_cons, Instr.fill]
      rw [if_neg (by simp [hv]; omega)]
      simp only [hz]
      exact e1
    · rw [e2, setArr_toList _ _ _ (by simp [hv]; exact hle), List.map_cons, List.flatten_cons, ← List.append_assoc, ← List.append_assoc]
      congr 1
      rw [List.take_append_of_le_length (by simp [hv, Nat.add_mul]; omega), List.take_of_length_le (by simp [hv, Nat.add_mul]; omega)]
section
variable {P : Program} {o : Oper} {ρ : Operand → AV} {σ0 : Nat → Res}
/-- the elements of a literal -/
inductive Elems (ρ : Operand → AV) (σ : Nat → Res) (sz : Nat) : Nat → List (Nat × Operand) → List (List PV) → Upds → Prop
  | nil {k : Nat} : Elems ρ σ sz k [] [] []
  | cons {k : Nat} {x : Operand} {v : AV} {l : List (Nat × Operand)} {ps : List PV} {xs : List (List PV)} {u us : Upds} (hx : ρ x = v) (hok : v.okCells = true) (h : ToPs σ v.cells ps u) (hl : ps.length = sz) (hs : Elems ρ σ sz (k + 1) l xs us) : Elems ρ σ sz k ((k, x) :: l) (ps :: xs) (u ++ us)
theorem Elems.spec {I : Nat → CI} {M : Nat → Nat} {w : World} {σ : Nat → Res} {a : Act} {sz k : Nat} {l : List (Nat × Operand)} {xs : List (List PV)} {u : Upds} (d : Elems ρ σ0 sz k l xs u) (hi : ∀ q ∈ u, σ q.1 = q.2) (hs : Sto I M w σ) (hop : ∀ q ∈ l, Rp I M w (a.eval q.2) (ρ q.2)) :
    l.length = xs.length ∧ (∀ ys ∈ xs, ys.length = sz) ∧ (∀ v ∈ l.map (fun q => a.eval q.2), v.cells.size = sz) ∧ l.map (fun q => (q.1, a.eval q.2)) = ((l.map fun q => a.eval q.2).zipIdx k).map (fun p => (p.2, p.1)) ∧
      ∀ (j : Nat) (p : PV), xs.flatten[j]? = some p → ∃ v : Value, ((l.map fun q => a.eval q.2).map fun v => v.cells.toList).flatten[j]? = some v ∧ v.oneCell' = true ∧ RPV M w v p := by
  induction d with
  | nil => simp
  | cons hx hok h hl hs' ih =>
    rename_i k x v l ps xs u us
    obtain ⟨i1, i2, i3, i4, i5⟩ := ih (fun q hq => hi q (List.mem_append_right _ hq)) (fun q hq => hop q (List.mem_cons_of_mem _ hq))
    have hv := hop (k, x) (by simp)
    rw [hx] at hv
    obtain ⟨c1, c2, c3⟩ := hv.cells hok
    have hcl := h.len
    have hp := h.rpv (fun q hq => hi q (List.mem_append_left _ hq)) hs (vs := (a.eval x).cells.toList) (by simpa using c1) (fun i v c hv hc => c3 i v c (by simpa using hv) hc)
    refine ⟨by simp [i1], ?_, ?_, ?_, ?_⟩
    · intro ys hy
      rcases List.mem_cons.1 hy with rfl | hy
      · exact hl
      · exact i2 ys hy
    · intro u hu
      simp only [List.map_cons, List.mem_cons] at hu
      rcases hu with rfl | hu
      · rw [c1, hcl, hl]
      · exact i3 u hu
    · simp only [List.map_cons, List.zipIdx_cons]
      rw [i4]
    · intro j p hj
      have hsz : (a.eval x).cells.toList.length = ps.length := by rw [← hcl]; simpa using c1
      simp only [List.map_cons, List.flatten_cons] at hj ⊢
      rcases Nat.lt_or_ge j ps.length with h1 | h1
      · rw [List.getElem?_append_left h1] at hj
        rw [List.getElem?_append_left (by omega)]
        exact hp j p hj
      · rw [List.getElem?_append_right h1] at hj
        rw [List.getElem?_append_right (by omega), hsz]
        exact i5 _ p hj
theorem OpS.fresh {ins : Upds} {sz : Nat} {xs : List (List PV)} {f : Bool}
    (hrun : ∀ (I : Nat → CI) (M : Nat → Nat) (w : World) (a : Act) (σ : Nat → Res), (∀ x ∈ o.op.operands.toList, Rp I M w (a.eval x) (ρ x)) → Sto I M w σ → (∀ q ∈ ins, σ q.1 = q.2) →
      ∃ (w1 : World) (cur : Array Value) (e : TypeId) (fr : Nat × Nat) (c : Nat), w1.heap = w.heap ∧ w1.os = w.os ∧ w1.tape = w.tape ∧ w1.output = w.output ∧ (∀ ys ∈ xs, ys.length = sz) ∧ xs.length ≤ c ∧ xs.length * sz ≤ cur.size ∧ (f = true → c = xs.length) ∧
        (∀ (j : Nat) (p : PV), xs.flatten[j]? = some p → ∃ u : Value, cur[j]? = some u ∧ u.oneCell' = true ∧ RPV M w u p) ∧ (execOp a.eval o).run P w = .ok (.value (.slice (some ⟨w.heap.size, 0, none⟩) xs.length c)) (w1.alloc (.cells cur e fr))) :
    OpS P o ρ ins (.sl sz xs f) [] := by
  intro I M w a σ K Q hx hs hi _ hK
  obtain ⟨w1, cur, e, fr, c, e1, e2, e3, e4, hz, hc, hl, hf, hfl, hr⟩ := hrun I M w a σ hx hs hi
  obtain ⟨_, r1, r2, r3⟩ := fresh_ok hs e1 e2 e3 e4 (e := e) (fr := fr) hz hc hl hfl
  unfold Oper.wp
  rw [hr]
  exact hK _ _ _ _ (.sl r1 hf) r2 (r3.wide fun _ _ h => h.elim) (fun _ _ => rfl) (fun _ h => by cases h)
theorem OpS.buildSlice {t e : TypeId} {n : Nat} {parts : Array (Nat × Operand)} {z : Value} {sz bytes : Nat} {xs : List (List PV)} {ins : Upds} [Und P t (.slice e)] [TyI P e z sz bytes] (ho : o.op = .buildSlice t n parts) (hn : parts.size = n) (hz : z.cells.size = sz) (hsm : n * sz ≤ 16777216)
    (hx : Elems ρ σ0 sz 0 parts.toList xs ins) : OpS P o ρ ins (.sl sz xs true) [] := by
  refine OpS.fresh fun I M w a σ hop hs hi => ?_
  have hop' : ∀ q ∈ parts.toList, Rp I M w (a.eval q.2) (ρ q.2) := fun q hq => hop q.2 (by rw [ho]; simp only [Op.operands]; exact List.mem_map.2 ⟨q, hq, rfl⟩)
  obtain ⟨i1, i2, i3, i4, i5⟩ := hx.spec hi hs hop'
  have hlen : parts.toList.length = n := by simpa using hn
  obtain ⟨_, _, _, _, _, _, hzv, hsz⟩ := run_typeInfo (P := P) (t := e) w
  let vs := parts.toList.map fun q => a.eval q.2
  obtain ⟨r, r1, r2⟩ := fill_seq sz vs 0 ((Array.range (n * sz)).map fun j => (if n * sz = 0 then (#[] : Array Value) else z.cells)[j % (if n * sz = 0 then (#[] : Array Value) else z.cells).size]!) i3 (by simp [vs, hlen])
  have hrl : r.size = n * sz := by
    rw [← Array.length_toList, r2]
    simp only [Nat.zero_mul, List.take_zero, List.nil_append]
    have : ∀ l : List Value, (∀ v ∈ l, v.cells.size = sz) → ((l.map fun v => v.cells.toList).flatten).length = l.length * sz := by
      intro l
      induction l with
      | nil => simp
      | cons v l ih => intro h; simp [ih (fun u hu => h u (List.mem_cons_of_mem _ hu)), h v (by simp), Nat.add_mul]; omega
    rw [this vs i3]; simp [vs, hlen]
  refine ⟨w, r, e, (0, 0), n, rfl, rfl, rfl, rfl, i2, by omega, by rw [hrl, ← i1, hlen]; exact Nat.le_refl _, fun _ => by omega, fun j p hp => ?_, ?_⟩
  · obtain ⟨v, h1, h2⟩ := i5 j p hp
    refine ⟨v, ?_, h2⟩
    rw [← Array.getElem?_toList, r2]
    simp only [Nat.zero_mul, List.take_zero, List.nil_append]
    exact h1
  · have hparts : (parts.map fun q => (q.1, a.eval q.2)).toList = (vs.zipIdx 0).map (fun p => (p.2, p.1)) := by rw [Array.toList_map]; exact i4
    have hmm : (parts.map fun (i, x) => (i, a.eval x)) = parts.map fun q => (q.1, a.eval q.2) := rfl
    rw [← i1, hlen]
    have h24 : ¬ (n * sz > 2 ^ 24) := by omega
    have hgo : execOp a.eval o = (do pure (.value (← Instr.buildSlice t n (parts.map fun q => (q.1, a.eval q.2))))) := by simp only [execOp, ho]
    rw [hgo]
    unfold Instr.buildSlice
    rw [hparts]
    by_cases h0 : n * sz = 0
    · rw [if_pos h0, h0] at r1
      have r1' : Instr.fill (fun i => some (i * sz, sz)) (Array.map (fun x => default) (Array.range 0)) (List.map (fun p => (p.snd, p.fst)) vs.zipIdx) = some r := by rw [← r1]; simp
      simp [run_und, hsz, h0, newRow]
      rw [r1']
      simp
    · rw [if_neg h0] at r1
      simp [run_und, hsz, h0, hzv, newRow, h24]
      simp [r1]
end
set_option maxHeartbeats 1000000 in
/-- the run of an append -/
theorem run_app_core {P : Program} {t tx e ty : TypeId} {dx : TypeDesc} {z : Value} {sz bytes : Nat} [Und P t (.slice e)] [Und P tx dx] [TyI P e z sz bytes] (hdx : (∃ e', dx = .slice e') ∨ dx = .string) (hzs : z.cells.size = sz)
    {w : World} {A : Option Addr} {n c m : Nat} {x : Value} {news olds : List Value} (hlen : ∀ w : World, (Builtin.lenOf x).run P w = .ok m w) (hnl : news.length = m * sz) (h1 : ∀ v ∈ news, v.oneCell' = true)
    (hfirst : ∀ w1 : World, w1.heap = w.heap → (Builtin.firstCells sz m x).run P w1 = .ok news.toArray w1)
    (hol : olds.length = n * sz) (hA : 0 < n → ∃ b off, A = some ⟨b, off, none⟩ ∧ ∀ (j : Nat) (u : Value), olds[j]? = some u → w.cell? ⟨b, off + j, none⟩ = some u)
    (hin : n + m ≤ c → 0 < m → ∃ g cur e fr, A = some ⟨g, 0, none⟩ ∧ w.heap[g]? = some (.cells cur e fr) ∧ cur.size = c * sz ∧ Unfr fr cur.size)
    (hb : (n + m) * bytes ≤ 140737488355328) (h63 : n + m ≤ maxLen) :
    (n + m ≤ c ∧ m = 0 ∧ (Builtin.append_ #[t, tx] ty #[.slice A n c, x]).run P w = .ok (.slice A n c) w) ∨
    (n + m ≤ c ∧ 0 < m ∧ ∃ g, A = some ⟨g, 0, none⟩ ∧ (Builtin.append_ #[t, tx] ty #[.slice A n c, x]).run P w = .ok (.slice A (n + m) c) (w.setCells g (n * sz) news)) ∨
    (c < n + m ∧ ∃ c1, n + m ≤ c1 ∧ (Builtin.append_ #[t, tx] ty #[.slice A n c, x]).run P w = .ok (.slice (some ⟨w.heap.size, 0, none⟩) (n + m) c1) (w.drew.alloc (.cells (olds.toArray ++ news.toArray ++ Builtin.zeroCells z.cells (c1 - (n + m))) e))) := by
  obtain ⟨i, hi, hz, hs, hby, hti, hzv, hsz⟩ := run_typeInfo (P := P) (t := e) w
  have hxt : ∀ w : World, (underlying tx).run P w = .ok dx w := fun w => run_und w
  have hm : n + m ≤ 9223372036854775807 := by simp only [maxLen] at h63; omega
  by_cases hroom : n + m ≤ c
  · rcases Nat.eq_zero_or_pos m with hm0 | hm0
    · left
      subst hm0
      have : news = [] := List.eq_nil_of_length_eq_zero (by simpa using hnl)
      subst this
      refine ⟨hroom, rfl, ?_⟩
      have hf := hfirst w rfl
      rcases hdx with ⟨e', rfl⟩ | rfl <;> cases A <;> simp [Builtin.append_, run_und, sizeOf, typeInfo, hi, hs, hlen, hf, hxt, storeCells, show n ≤ c from hroom]
    · right; left
      refine ⟨hroom, hm0, ?_⟩
      obtain ⟨g, cur, e', fr, rfl, hg, hcs, hun⟩ := hin hroom hm0
      refine ⟨g, rfl, ?_⟩
      have hf := hfirst w rfl
      have hle : n * sz + news.length ≤ cur.size := by rw [hnl, hcs, ← Nat.add_mul]; exact Nat.mul_le_mul_right _ hroom
      have hst := run_storeCells_cells (P := P) g (n * sz) news 0 w (fun j hj => by
          rw [cell_of_row w g _ cur e' fr hg]
          have : n * sz + j < cur.size := by omega
          simp [this]) (fun j hj => by
          have := hun (n * sz + 0 + j) (by omega)
          simp only [World.frozen?, hg, Bool.and_eq_false_iff, decide_eq_false_iff_not]
          omega) h1
      simp only [Nat.add_zero] at hst
      rcases hdx with ⟨e', rfl⟩ | rfl <;> simp [Builtin.append_, run_und, sizeOf, typeInfo, hi, hs, hlen, hf, hxt, hroom, Addr.add_lit, hst]
  · right; right
    have hc : c < n + m := by omega
    refine ⟨hc, grownCap w (n + m) c e, grownCap_ge w (n + m) c e, ?_⟩
    have h63' : ¬ (9223372036854775807 < ((n : Int) + (m : Int))) := by omega
    have hfit : ¬ (281474976710656 < Builtin.nextslicecap (n + m) c * bytes) := by have := growslice_fits hc hb; omega
    have hf := hfirst w.drew rfl
    have hold : (Builtin.firstCells sz n (.slice A n c)).run P w.drew = .ok olds.toArray w.drew := by
      rcases Nat.eq_zero_or_pos n with h0 | h0
      · subst h0
        have : olds = [] := List.eq_nil_of_length_eq_zero (by simpa using hol)
        subst this
        cases A <;> simp [Builtin.firstCells, loadCells, loadCellsFrom]
      · obtain ⟨b, off, rfl, hcell⟩ := hA h0
        exact run_firstCells_some (P := P) w.drew sz n ⟨b, off, none⟩ n c olds hol (fun j v hv => by rw [Addr.add_lit]; simpa using hcell j v hv)
    rcases hdx with ⟨e', rfl⟩ | rfl <;> simp [Builtin.append_, run_und, sizeOf, typeInfo, zeroValue, hi, hs, hz, hby, hlen, hxt, hroom, h63', hfit, Question.forced, hold, hf, newRow, grownCap] <;> rw [← List.append_toArray, Array.append_assoc]
end Go.Proofs.Ytbbcokckealagaa
