/-
  A region that draws its order, over values without addresses: one walk in the order of the text serves for every order. Nothing of the dump is used; no condition.
-/
import Derived.Test.YtbbcokckealagaaARg
namespace Go.Proofs.Ytbbcokckealagaa
open Go.RowKit
set_option linter.unusedVariables false
set_option linter.unusedSimpArgs false
theorem okRow_spec {lj : List Nat} {dj : Option Nat} {fj : FP} {b : Nat} : ∀ {rows : List (List Nat × Option Nat × FP)} {k : Nat}, okRow lj dj fj b rows k = true → ∀ i x, rows[i]? = some x → clash x.1 lj x.2.1 dj x.2.2 fj = true → Nat.testBit b (k + i) = true := by
  intro rows
  induction rows with
  | nil => intro k _ i x h; simp at h
  | cons y r ih =>
    obtain ⟨l, d, f⟩ := y
    intro k h i x hx hc
    simp only [okRow, Bool.and_eq_true, Bool.or_eq_true, Bool.not_eq_true'] at h
    cases i with
    | zero =>
      obtain rfl : (l, d, f) = x := by simpa using hx
      rcases h.1 with h1 | h1
      · rw [h1] at hc; cases hc
      · exact h1
    | succ i =>
      have := ih h.2 i x (by simpa using hx) hc
      rw [show k + (i + 1) = k + 1 + i by omega]
      exact this
theorem okRows_spec : ∀ {rows : List (List Nat × Option Nat × FP × Nat)} {done : List (List Nat × Option Nat × FP)}, okRows done rows = true → ∀ (j : Nat) (y : List Nat × Option Nat × FP × Nat), rows[j]? = some y → ∀ (i : Nat) (x : List Nat × Option Nat × FP), (done ++ rows.map fun r => (r.1, r.2.1, r.2.2.1))[i]? = some x → i < done.length + j → clash x.1 y.1 x.2.1 y.2.1 x.2.2 y.2.2.1 = true → Nat.testBit y.2.2.2 i = true := by
  intro rows
  induction rows with
  | nil => intro done _ j y h; simp at h
  | cons r rs ih =>
    obtain ⟨l, d, f, b⟩ := r
    intro done h j y hy i x hx hi hc
    simp only [okRows, Bool.and_eq_true] at h
    cases j with
    | zero =>
      obtain rfl : (l, d, f, b) = y := by simpa using hy
      rw [List.getElem?_append_left (by omega)] at hx
      have := okRow_spec h.1 i x hx hc
      rwa [Nat.zero_add] at this
    | succ j =>
      refine ih h.2 j y (by simpa using hy) i x ?_ (by simp; omega) hc
      rw [List.append_assoc]
      simpa using hx
theorem any_beq {l : List Nat} {d : Nat} (h : d ∈ l) : l.any (Nat.beq d) = true := List.any_eq_true.2 ⟨d, h, Nat.beq_refl d⟩
theorem hit_of {a b : List Nat} {k : Nat} (ha : k ∈ a) (hb : k ∈ b) : hit a b = true := List.any_eq_true.2 ⟨k, ha, any_beq hb⟩
theorem rows_get {ops : List Oper} {acc : List FP} (hl : acc.length = ops.length) {j : Nat} {o : Oper} {f : FP} (ho : ops[j]? = some o) (hf : acc[j]? = some f) : (rowsOf ops acc)[j]? = some (looks ops o, o.dst, f, (befs ops []).getD j 0) := by
  obtain ⟨h1, _, _⟩ := befs_spec ops []
  simp only [List.length_nil, Nat.zero_add] at h1
  have hj := (List.getElem?_eq_some_iff.1 ho).1
  have hb : (befs ops [])[j]? = some ((befs ops []).getD j 0) := by simp [List.getD, h1, hj]
  simp only [rowsOf, List.getElem?_map, List.getElem?_zip_eq_some, Option.map_eq_some_iff]
  exact ⟨((o, f), (befs ops []).getD j 0), ⟨⟨ho, hf⟩, hb⟩, rfl⟩
/-- two operations that touch the same thing: the earlier one comes before -/
theorem clash_done {ops : List Oper} {acc : List FP} (hok : okDraw ops acc = true) (hl : acc.length = ops.length) {D : Nat → Bool} (hc : Closed ops D) {i j : Nat} {oi oj : Oper} {fi fj : FP} (hij : i < j) (hi : ops[i]? = some oi) (hj : ops[j]? = some oj)
    (hfi : acc[i]? = some fi) (hfj : acc[j]? = some fj) (hcl : clash (looks ops oi) (looks ops oj) oi.dst oj.dst fi fj = true) (hd : ∀ e ∈ oj.after.toList, Region.binds .any e = true → D e.on = true) : D i = true := by
  simp only [okDraw, Bool.and_eq_true] at hok
  have h1 := okRows_spec hok.2.2.2 j _ (rows_get hl hj hfj) i (looks ops oi, oi.dst, fi) (by
    rw [List.nil_append, List.getElem?_map, rows_get hl hi hfi]; rfl) (by simpa using hij) hcl
  exact before_done hc j oj i hj hd h1
theorem dstNd_spec : ∀ {l : List (Option Nat)}, dstNd l = true → ∀ (i j d : Nat), i < j → l[i]? = some (some d) → l[j]? ≠ some (some d) := by
  intro l
  induction l with
  | nil => intro _ i j d _ h; simp at h
  | cons x r ih =>
    intro h i j d hij hi hj
    simp only [dstNd, Bool.and_eq_true] at h
    cases j with
    | zero => omega
    | succ j =>
      cases i with
      | zero =>
        obtain rfl : x = some d := by simpa using hi
        have h1 := h.1
        simp only [Bool.not_eq_true', List.any_eq_false] at h1
        have := h1 (some d) (List.mem_of_getElem? (by simpa using hj))
        simp at this
      | succ i => exact ih h.2 i j d (by omega) (by simpa using hi) (by simpa using hj)
theorem okDown_spec : ∀ {ops : List Oper} {k : Nat}, okDown ops k = true → ∀ j o, ops[j]? = some o → ∀ e ∈ o.after.toList, Region.binds .any e = true → e.on < k + j := by
  intro ops
  induction ops with
  | nil => intro k _ j o h; simp at h
  | cons q r ih =>
    intro k h j o ho e he hb
    simp only [okDown, Bool.and_eq_true, List.all_eq_true] at h
    cases j with
    | zero =>
      obtain rfl : q = o := by simpa using ho
      have := h.1 e he
      rw [hb] at this
      simpa [Nat.blt_eq] using this
    | succ j =>
      have := ih h.2 j o (by simpa using ho) e he hb
      omega
theorem ready_iff {ops : List Oper} {listed : Array Bool} {j : Nat} : j ∈ Region.ready .any ops.toArray listed ↔ ∃ o, ops[j]? = some o ∧ listed.getD j true = false ∧ ∀ e ∈ o.after.toList, Region.binds .any e = true → listed.getD e.on false = true := by
  unfold Region.ready
  rw [List.mem_filter]
  constructor
  · rintro ⟨hj, h⟩
    have hj : j < ops.length := by simpa using hj
    refine ⟨ops[j], by simp [hj], ?_⟩
    simp only [List.getElem?_toArray, List.getElem?_eq_getElem hj, Option.map_some, Option.getD_some, Bool.and_eq_true, Bool.not_eq_true'] at h
    refine ⟨h.1, fun e he hb => ?_⟩
    have h2 := h.2
    rw [Array.all_eq_true'] at h2
    have := h2 e (by simpa using he)
    simpa [hb] using this
  · rintro ⟨o, ho, hl, hd⟩
    obtain ⟨hj, rfl⟩ := List.getElem?_eq_some_iff.1 ho
    refine ⟨by simpa using hj, ?_⟩
    simp only [List.getElem?_toArray, List.getElem?_eq_getElem hj, Option.map_some, Option.getD_some, hl, Bool.not_false, Bool.true_and]
    rw [Array.all_eq_true']
    intro e he
    by_cases hb : Region.binds .any e = true
    · simp [hb, hd e (by simpa using he) hb]
    · simp [hb]
/-- any order, by what holds of what is done -/
theorem wpAny_all {P : Program} {ops : List Oper} {Q : Exit → Act → World → Prop} (Inv : (Nat → Bool) → Act → World → Prop) (down : okDown ops 0 = true) (cong : ∀ D D' a w, (∀ i, i < ops.length → D i = D' i) → Inv D a w → Inv D' a w)
    (step : ∀ (D : Nat → Bool) a w j o, (∀ i, ops.length ≤ i → D i = false) → Closed ops D → ops[j]? = some o → D j = false → (∀ e ∈ o.after.toList, Region.binds .any e = true → D e.on = true) → Inv D a w →
      ∀ K : Act → World → Prop, (∀ a w, Inv (fun i => D i || Nat.beq i j) a w → K a w) → wpOp P ops.toArray Q j K a w)
    (fin : ∀ a w, Inv (fun i => decide (i < ops.length)) a w → Q .normal a w) :
    ∀ (fuel : Nat) (listed : Array Bool) (a : Act) (w : World), listed.size = ops.length → (∃ todo : List Nat, todo.length ≤ fuel ∧ ∀ j, j < ops.length → listed.getD j true = false → j ∈ todo) → Closed ops (fun i => listed.getD i false) → Inv (fun i => listed.getD i false) a w → wpAny P .any ops.toArray Q fuel listed a w := by
  have flip : ∀ (listed : Array Bool) (i : Nat), listed.size = ops.length → i < ops.length → listed.getD i false = listed.getD i true := by
    intro listed i hs hi
    simp [Array.getD, show i < listed.size by omega]
  have all_of : ∀ listed : Array Bool, listed.size = ops.length → Region.ready .any ops.toArray listed = [] → ∀ j, j < ops.length → listed.getD j true = true := by
    intro listed hs hr j
    induction j using Nat.strongRecOn with
    | _ j ih =>
      intro hj
      cases hl : listed.getD j true with
      | true => rfl
      | false =>
        have : j ∈ Region.ready .any ops.toArray listed := ready_iff.2 ⟨ops[j], by simp [hj], hl, fun e he hb => by
          have h1 := okDown_spec down j _ (by simp [hj]) e he hb
          rw [flip listed e.on hs (by omega)]
          exact ih e.on (by omega) (by omega)⟩
        rw [hr] at this; cases this
  have finish : ∀ (listed : Array Bool) a w, listed.size = ops.length → (∀ j, j < ops.length → listed.getD j true = true) → Inv (fun i => listed.getD i false) a w → Q .normal a w := by
    intro listed a w hs hall hI
    refine fin a w (cong _ _ _ _ (fun i hi => ?_) hI)
    show listed.getD i false = decide (i < ops.length)
    rw [flip listed i hs hi, hall i hi]; simp [hi]
  intro fuel
  induction fuel with
  | zero =>
    intro listed a w hs ⟨todo, ht, htodo⟩ hc hI
    have hall : ∀ j, j < ops.length → listed.getD j true = true := by
      intro j hj
      cases hl : listed.getD j true with
      | true => rfl
      | false =>
        have := htodo j hj hl
        rw [List.eq_nil_of_length_eq_zero (Nat.le_zero.1 ht)] at this
        cases this
    refine ⟨?_, finish listed a w hs hall hI⟩
    rw [List.eq_nil_iff_forall_not_mem]
    intro j hj
    obtain ⟨o, h1, h2, _⟩ := ready_iff.1 hj
    rw [hall j (List.getElem?_eq_some_iff.1 h1).1] at h2
    cases h2
  | succ fuel ih =>
    intro listed a w hs ⟨todo, ht, htodo⟩ hc hI
    refine ⟨fun hr => finish listed a w hs (all_of listed hs hr) hI, fun j hj => ?_⟩
    obtain ⟨o, h1, h2, h3⟩ := ready_iff.1 hj
    have hjl := (List.getElem?_eq_some_iff.1 h1).1
    refine step _ a w j o (fun i hi => by simp [Array.getD, show ¬ i < listed.size by omega]) hc h1 (by rw [flip listed j hs hjl]; exact h2) h3 hI _ fun a' w' hI' => ?_
    have hset : ∀ i d, i < ops.length → (listed.setIfInBounds j true).getD i d = if i = j then true else listed.getD i d := by
      intro i d hi
      simp only [Array.getD_eq_getD_getElem?, Array.getElem?_setIfInBounds]
      by_cases hji : j = i
      · subst hji; simp [show j < listed.size by omega]
      · simp [hji, show ¬ i = j from fun e => hji e.symm]
    have hD : ∀ i, i < ops.length → (listed.setIfInBounds j true).getD i false = (listed.getD i false || Nat.beq i j) := by
      intro i hi
      rw [hset i _ hi]
      by_cases hij : i = j
      · subst hij; simp
      · have : Nat.beq i j = false := by
          cases hb : Nat.beq i j with
          | false => rfl
          | true => exact absurd (Nat.eq_of_beq_eq_true hb) hij
        rw [if_neg hij, this, Bool.or_false]
    refine ih _ a' w' (by simpa using hs) ⟨todo.erase j, by rw [List.length_erase_of_mem (htodo j hjl h2)]; omega, fun i hi hl => ?_⟩ (fun i q hq hi e he hb => ?_) (cong _ _ _ _ (fun i hi => (hD i hi).symm) hI')
    · rw [hset i _ hi] at hl
      split at hl
      · cases hl
      · rename_i hij
        exact (List.mem_erase_of_ne hij).2 (htodo i hi hl)
    · have hil := (List.getElem?_eq_some_iff.1 hq).1
      have hlt := okDown_spec down i q hq e he hb
      have hel : e.on < ops.length := by omega
      simp only at hi ⊢
      rw [hD _ hil, Bool.or_eq_true] at hi
      rw [hD _ hel, Bool.or_eq_true]
      left
      rcases hi with hi | hi
      · exact hc i q hq hi e he hb
      · obtain rfl : i = j := Nat.eq_of_beq_eq_true hi
        rw [h1] at hq
        obtain rfl : o = q := by simpa using hq
        exact h3 e he hb
def dstU (o : Oper) (v : AV) : List (Nat × AV) := match o.dst with | some d => [(d, v)] | none => []
theorem put_get (fr : Fr) (o : Oper) (v : AV) (t : Nat) : (fr.put o.dst v).get t = updS fr.get (dstU o v) t := by
  unfold dstU
  cases o.dst with
  | none => rfl
  | some d => rw [Fr.get_put]; rfl
theorem keys_dstU (o : Oper) (v : AV) (t : Nat) : t ∈ keys (dstU o v) ↔ o.dst = some t := by
  unfold dstU keys
  cases o.dst with
  | none => simp
  | some d => simp [eq_comm]
theorem FrOk.putF {I : Nat → CI} {M : Nat → Nat} {w : World} {n : Nat} {a : Act} {f : Nat → AV} (hs : a.tmps.size = n) (h : ∀ t, Rp I M w (a.tmps.getD t undef) (f t)) {o : Oper} (hd : dstOk n o.dst = true) {cv : Value} {v : AV} (hv : Rp I M w cv v) :
    (a.put o.dst cv).tmps.size = n ∧ ∀ t, Rp I M w ((a.put o.dst cv).tmps.getD t undef) (updS f (dstU o v) t) := by
  unfold dstU
  cases ho : o.dst with
  | none => exact ⟨hs, h⟩
  | some d =>
    rw [ho] at hd
    have hd : d < n := by simpa [dstOk, Nat.blt_eq] using hd
    refine ⟨by simpa [Act.put] using hs, fun t => ?_⟩
    simp only [updS]
    by_cases ht : t = d
    · subst ht
      have : t < a.tmps.size := by rw [hs]; exact hd
      simpa [Act.put, this] using hv
    · have hne : d ≠ t := fun e => ht e.symm
      simpa [Act.put, ht, Array.getElem?_setIfInBounds_ne hne] using h t
section
variable {P : Program} {g : Ent} {s : State}
/-- **A region that draws, by one walk in the order of the text.** -/
theorem Run.drawn {ops : List Oper} {K : State → Prop} {id : Nat} (hm : P.follows .mixedOrders = true) (hrun : Run P g.n ops (okDraw ops) K ops s []) (I0 : Nat → CI) (M0 : Nat → Nat) (w0 : World) (a0 : Act) (hst : St g I0 M0 w0 a0 s) :
    (Code.region id ops.toArray true).wp P (fun e a' w' => ∃ I' M' s', St g I' M' w' a' s' ∧ e = .normal ∧ K s') a0 w0 := by
  obtain ⟨rs, hl, hrec, hchk, sN, hN1, hN2, hK⟩ := hrun.recs (fun h => by have := h (List.replicate (ops.length + 1) ([], [])); simp [okDraw] at this)
  rw [List.nil_append] at hchk
  have hok := hchk
  simp only [okDraw, Bool.and_eq_true] at hok
  obtain ⟨_, hdown, hnd, _⟩ := hok
  have hal : (rs.map fun r => r.f).length = ops.length := by simp [hl]
  have hget : ∀ j, j < ops.length → ∃ o r, ops[j]? = some o ∧ rs[j]? = some r ∧ RecOk P g.n ops o (stT s ops rs j) r ∧ (rs.map fun r => r.f)[j]? = some r.f := by
    intro j hj
    refine ⟨ops[j], rs[j]'(by omega), by simp [hj], by simp [show j < rs.length by omega], hrec j _ _ (by simp [hj]) (by simp [show j < rs.length by omega]), by simp [show j < rs.length by omega]⟩
  -- what each operation writes
  let outs : Nat → Upds := fun j => ((rs[j]?).map (·.outs)).getD []
  let dsts : Nat → List (Nat × AV) := fun j => match ops[j]?, rs[j]? with
    | some o, some r => dstU o r.v
    | _, _ => []
  have houts : ∀ {j r}, rs[j]? = some r → outs j = r.outs := fun h => by simp [outs, h]
  have hdsts : ∀ {j o r}, ops[j]? = some o → rs[j]? = some r → dsts j = dstU o r.v := fun h h' => by simp [dsts, h, h']
  have hbig : ∀ j, ops.length ≤ j → outs j = [] ∧ dsts j = [] := fun j hj => by
    have h1 : ops[j]? = none := List.getElem?_eq_none hj
    have h2 : rs[j]? = none := List.getElem?_eq_none (by omega)
    simp [outs, dsts, h1, h2]
  -- the states in the order of the text
  have text : ∀ j, j ≤ ops.length → (∀ k, sto (stT s ops rs j).σ k = curD (sto s.σ) outs (fun _ => true) j k) ∧ (∀ t, (stT s ops rs j).fr.get t = curD s.fr.get dsts (fun _ => true) j t) ∧
      s.σ.length ≤ (stT s ops rs j).σ.length ∧ ∀ i, i < j → ∀ k ∈ keys (outs i), k < (stT s ops rs j).σ.length := by
    intro j
    induction j with
    | zero => intro _; exact ⟨fun _ => rfl, fun _ => rfl, Nat.le_refl _, fun i hi => by omega⟩
    | succ j ih =>
      intro hj
      obtain ⟨i1, i2, i3, i4⟩ := ih (by omega)
      obtain ⟨o, r, ho, hr, hrk, _⟩ := hget j (by omega)
      obtain ⟨u1, u2⟩ := updL_len r.outs _ hrk.u
      have he : stT s ops rs (j + 1) = ⟨(stT s ops rs j).fr.put o.dst r.v, updL (stT s ops rs j).σ r.outs⟩ := by simp [stT, ho, hr]
      rw [he]
      refine ⟨fun k => ?_, fun t => ?_, by simp only; omega, fun i hi k hk => ?_⟩
      · simp only [curD, if_true]
        rw [sto_updL _ _ hrk.u, houts hr]
        exact updS_congr fun _ => i1 k
      · simp only [curD, if_true]
        rw [put_get, hdsts ho hr]
        exact updS_congr fun _ => i2 t
      · simp only
        rcases Nat.lt_or_ge i j with h | h
        · have := i4 i h k hk; omega
        · obtain rfl : i = j := by omega
          rw [houts hr] at hk
          exact u2 k hk
  let Inv : (Nat → Bool) → Act → World → Prop := fun D a w => ∃ I M, a.tmps.size = g.n ∧ a.defers = [] ∧ (∀ t, Rp I M w (a.tmps.getD t undef) (curD s.fr.get dsts D ops.length t)) ∧ Sto I M w (curD (sto s.σ) outs D ops.length) ∧ Ext g.own g.I I g.M M g.w w ∧
    (∀ k b, blkOf (I k) (curD (sto s.σ) outs D ops.length k) = some b → g.w.heap.size ≤ b ∨ g.own b) ∧ ∀ k, (∀ i, i < ops.length → D i = true → k ∉ keys (outs i)) → I k = I0 k
  have curD_congr : ∀ {α : Type} (f : Nat → α) (u : Nat → List (Nat × α)) (D D' : Nat → Bool) (n : Nat), (∀ i, i < n → D i = D' i) → curD f u D n = curD f u D' n := by
    intro α f u D D' n
    induction n with
    | zero => intro _; rfl
    | succ n ih => intro h; simp only [curD]; rw [ih fun i hi => h i (by omega), h n (by omega)]
  refine wp_region_any hm ?_
  have hsz : ops.toArray.size = ops.length := by simp
  rw [hsz]
  refine wpAny_all Inv hdown ?_ ?_ ?_ ops.length _ a0 _ (by simp) ⟨List.range ops.length, by simp, fun j hj _ => List.mem_range.2 hj⟩ (fun j o ho h => ?_) ?_
  · rintro D D' a w hD ⟨I, M, h1, h2, h3, h4, h5, h6, h7⟩
    have e1 := curD_congr s.fr.get dsts D D' ops.length hD
    have e2 := curD_congr (sto s.σ) outs D D' ops.length hD
    exact ⟨I, M, h1, h2, by rw [← e1]; exact h3, by rw [← e2]; exact h4, h5, by rw [← e2]; exact h6, fun k hk => h7 k fun i hi hDi => hk i hi (by rw [← hD i hi]; exact hDi)⟩
  · rintro D a w j o hDb hcl ho hDj hdep ⟨I, M, h1, h2, h3, h4, h5, h6, h7⟩ K' hK'
    have hj := (List.getElem?_eq_some_iff.1 ho).1
    obtain ⟨o', r, ho', hr, hrk, hfj⟩ := hget j hj
    rw [ho] at ho'
    obtain rfl : o = o' := by simpa using ho'
    obtain ⟨t1, t2, t3, t4⟩ := text j (by omega)
    -- what clashes with j
    have early : ∀ i oi ri, i < j → ops[i]? = some oi → rs[i]? = some ri → clash (looks ops oi) (looks ops o) oi.dst o.dst ri.f r.f = true → D i = true := by
      intro i oi ri hij hi hri hc
      exact clash_done hchk hal hcl hij hi ho (by simp [hri]) hfj hc hdep
    have late : ∀ i oi ri, j < i → ops[i]? = some oi → rs[i]? = some ri → clash (looks ops o) (looks ops oi) o.dst oi.dst r.f ri.f = true → D i = false := by
      intro i oi ri hij hi hri hc
      cases hDi : D i with
      | false => rfl
      | true =>
        have := clash_done hchk hal hcl hij ho hi hfj (by simp [hri]) hc (fun e he hb => hcl i oi hi hDi e he hb)
        rw [hDj] at this; cases this
    -- the slots that it looks at
    have slot : ∀ t, t ∈ looks ops o → curD s.fr.get dsts D ops.length t = (stT s ops rs j).fr.get t := by
      intro t ht
      rw [t2]
      refine curD_eq (fun i hi hk => ?_) ops.length (by omega) fun i hi hil hDi hk => ?_
      · obtain ⟨oi, ri, hoi, hri, hrki, _⟩ := hget i (by omega)
        rw [hdsts hoi hri, keys_dstU] at hk
        refine early i oi ri hi hoi hri ?_
        simp [clash, hk, any_beq ht]
      · obtain ⟨oi, ri, hoi, hri, hrki, _⟩ := hget i hil
        rw [hdsts hoi hri, keys_dstU] at hk
        rcases Nat.lt_or_ge j i with h | h
        · have := late i oi ri h hoi hri (by simp [clash, hk, any_beq ht])
          rw [hDi] at this; cases this
        · obtain rfl : i = j := by omega
          rw [hDj] at hDi; cases hDi
    -- the numbered things that it touches
    have thing : ∀ k, k ∈ keys r.ins ∨ k ∈ keys r.outs → curD (sto s.σ) outs D ops.length k = sto (stT s ops rs j).σ k := by
      intro k hk
      rw [t1]
      refine curD_eq (fun i hi hki => ?_) ops.length (by omega) fun i hi hil hDi hki => ?_
      · obtain ⟨oi, ri, hoi, hri, hrki, _⟩ := hget i (by omega)
        rw [houts hri] at hki
        refine early i oi ri hi hoi hri ?_
        rcases hk with hk | hk
        · simp [clash, hit_of (hrki.f2 k hki) (hrk.f1 k hk)]
        · simp [clash, hit_of (hrki.f2 k hki) (hrk.f2 k hk)]
      · obtain ⟨oi, ri, hoi, hri, hrki, _⟩ := hget i hil
        rw [houts hri] at hki
        rcases Nat.lt_or_ge j i with h | h
        · have := late i oi ri h hoi hri (by
            rcases hk with hk | hk
            · simp [clash, hit_of (hrk.f1 k hk) (hrki.f2 k hki)]
            · simp [clash, hit_of (hrk.f2 k hk) (hrki.f2 k hki)])
          rw [hDi] at this; cases this
        · obtain rfl : i = j := by omega
          rw [hDj] at hDi; cases hDi
    -- what the step makes of what holds
    have frame : curD s.fr.get dsts (fun i => D i || Nat.beq i j) ops.length = updS (curD s.fr.get dsts D ops.length) (dstU o r.v) := by
      rw [curD_ins hDj ops.length, if_pos hj, hdsts ho hr]
      intro i hi hil hDi k hk hk'
      obtain ⟨oi, ri, hoi, hri, hrki, _⟩ := hget i hil
      rw [hdsts ho hr, keys_dstU] at hk
      rw [hdsts hoi hri, keys_dstU] at hk'
      exact dstNd_spec hnd j i k hi (by simp [ho, hk]) (by simp [hoi, hk'])
    have things : curD (sto s.σ) outs (fun i => D i || Nat.beq i j) ops.length = updS (curD (sto s.σ) outs D ops.length) r.outs := by
      rw [curD_ins hDj ops.length, if_pos hj, houts hr]
      intro i hi hil hDi k hk hk'
      obtain ⟨oi, ri, hoi, hri, hrki, _⟩ := hget i hil
      rw [houts hr] at hk
      rw [houts hri] at hk'
      have := late i oi ri hi hoi hri (by simp [clash, hit_of (hrk.f2 k hk) (hrki.f2 k hk')])
      rw [hDi] at this; cases this
    have grow : ∀ (I' : Nat → CI), (∀ k, k ∉ keys r.outs → I' k = I k) → ∀ k, (∀ i, i < ops.length → (D i || Nat.beq i j) = true → k ∉ keys (outs i)) → I' k = I0 k := by
      intro I' hI' k hk
      rw [hI' k (by have := hk j hj (by simp); rwa [houts hr] at this)]
      exact h7 k fun i hi hDi => hk i hi (by simp [hDi])
    unfold wpOp
    simp only [List.getElem?_toArray, ho]
    have hwant : Region.wanted o (yielded ops.toArray a.tmps) = r.run := by
      refine wanted_of (f := fun d => (stT s ops rs j).fr.get d) (I := I) (M := M) (w := w) (fun j' want q d hg hq hd => ?_) hrk.w
      have hlk : d ∈ looks ops o := by
        simp only [looks, hg, hq, hd]
        simp
      have := h3 d
      rw [slot d hlk] at this
      exact this
    rw [hwant]
    cases hrn : r.run with
    | true =>
      rw [if_pos rfl]
      left
      refine hrk.h hrn I M w a (curD (sto s.σ) outs D ops.length) K' _ (fun x hx => ?_) h4 (fun q hq => ?_) (fun k hk => ?_) fun cv I' M' w' g1 g2 g3 g4 g5 => ?_
      · cases x with
        | tmp t =>
          have hlk : t ∈ looks ops o := by
            simp only [looks, List.mem_append, List.mem_filterMap]
            exact .inl ⟨.tmp t, hx, rfl⟩
          have := h3 t
          rw [slot t hlk] at this
          exact this
        | const v => exact .v v
        | func f => exact .fn (by simp) (by intro i v c hv; simp at hv)
        | global gl => exact .any _
      · rw [thing q.1 (.inl (List.mem_map.2 ⟨q, hq, rfl⟩))]
        exact hrk.i q hq
      · rcases hrk.n k hk with h | h
        · exact .inl h
        · right
          refine ⟨?_, ?_⟩
          · rw [thing k (.inr hk)]
            simp [sto, List.getElem?_eq_none h]
          · rw [h7 k fun i hi hDi hki => ?_]
            · exact hst.no k (by omega)
            · obtain ⟨oi, ri, hoi, hri, hrki, _⟩ := hget i hi
              rcases Nat.lt_trichotomy i j with hij | rfl | hij
              · have := t4 i hij k hki; omega
              · rw [hDj] at hDi; cases hDi
              · rw [houts hri] at hki
                have := late i oi ri hij hoi hri (by simp [clash, hit_of (hrk.f2 k hk) (hrki.f2 k hki)])
                rw [hDi] at this; cases this
      · have own : ∀ b, (∃ k ∈ keys r.ins, blkOf (I k) (curD (sto s.σ) outs D ops.length k) = some b) → g.w.heap.size ≤ b ∨ g.own b := fun b ⟨k, _, hb⟩ => h6 k b hb
        obtain ⟨p1, p2⟩ := FrOk.putF h1 (fun t => (h3 t).evo g3.le g3.evo) hrk.d g1
        refine hK' _ _ ⟨I', M', p1, by cases o.dst <;> exact h2, by rw [frame]; exact p2, by rw [things]; exact g2, h5.trans g3 (fun b hb ho => (own b ho).resolve_left (by omega)), fun k b hb => ?_, grow I' g4⟩
        rw [things] at hb
        by_cases hk : k ∈ keys r.outs
        · rcases g5 k hk b hb with q | q
          · have := h5.evo.size; left; omega
          · exact own b q
        · rw [g4 k hk, updS_other _ _ _ hk] at hb
          exact h6 k b hb
    | false =>
      rw [if_neg (by simp)]
      obtain ⟨x1, x2, x3⟩ := hrk.x hrn
      obtain ⟨p1, p2⟩ := FrOk.putF (cv := undef) (v := r.v) h1 h3 hrk.d (by rw [x1]; exact .v _)
      refine hK' _ _ ⟨I, M, p1, by cases o.dst <;> exact h2, by rw [frame]; exact p2, by rw [things, x3]; exact h4, h5, fun k b hb => ?_, grow I (fun _ _ => rfl)⟩
      rw [things, x3] at hb
      exact h6 k b hb
  · rintro a w ⟨I, M, h1, h2, h3, h4, h5, h6, h7⟩
    obtain ⟨t1, t2, t3, t4⟩ := text ops.length (Nat.le_refl _)
    have e1 := curD_congr s.fr.get dsts (fun i => decide (i < ops.length)) (fun _ => true) ops.length (fun i hi => by simp [hi])
    have e2 := curD_congr (sto s.σ) outs (fun i => decide (i < ops.length)) (fun _ => true) ops.length (fun i hi => by simp [hi])
    rw [e1] at h3
    rw [e2] at h4 h6
    have e3 : sto (stT s ops rs ops.length).σ = curD (sto s.σ) outs (fun _ => true) ops.length := funext t1
    rw [← hN2] at e3 t3 t4
    refine ⟨I, M, sN, ⟨⟨h1, fun t => (hN1 t).rp (by rw [t2]; exact h3 t)⟩, h2, by rw [e3]; exact h4, Nat.le_trans hst.len t3, fun k hk => ?_, h5, by rw [e3]; exact h6, hst.gno⟩, rfl, hK⟩
    rw [h7 k fun i hi _ hki => by have := t4 i hi k hki; omega]
    exact hst.no k (by omega)
  · simp only [Array.getD] at h
    split at h <;> simp at h
  · have e0 : ∀ {α : Type} (f : Nat → α) (u : Nat → List (Nat × α)) n, curD f u (fun i => (Array.replicate ops.length false).getD i false) n = f := by
      intro α f u n
      induction n with
      | zero => rfl
      | succ n ih =>
        simp only [curD]
        rw [ih]
        have : (Array.replicate ops.length false).getD n false = false := by simp only [Array.getD]; split <;> simp
        simp [this]
    refine ⟨I0, M0, hst.fr.1, hst.df, ?_, ?_, ?_, ?_, fun _ _ => rfl⟩
    · rw [e0]; exact fun t => Rp.evo (I := I0) (I' := I0) (M := M0) (M' := M0) (w := w0) (w' := { w0 with drawn := w0.drawn + 1 }) (fun _ => CI.le_refl _) ⟨Nat.le_refl _, fun _ => Nat.le_refl _, fun _ _ _ _ h => h⟩ (hst.fr.2 t)
    · rw [e0]
      exact hst.st.stay ⟨rfl, rfl, rfl, fun _ => CI.le_refl _, ⟨Nat.le_refl _, fun _ => Nat.le_refl _, fun _ _ _ _ h => h⟩, fun _ _ _ => ⟨rfl, rfl⟩⟩ hst.st.top
    · exact ⟨hst.ext.os, hst.ext.tape, hst.ext.output, hst.ext.le, ⟨hst.ext.evo.size, hst.ext.evo.mask, hst.ext.evo.keep⟩, hst.ext.oth⟩
    · rw [e0]; exact hst.ini
end
end Go.Proofs.Ytbbcokckealagaa
