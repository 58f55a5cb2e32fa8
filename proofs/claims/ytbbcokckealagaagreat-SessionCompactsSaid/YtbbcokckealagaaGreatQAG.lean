/-
  Regions that draw their order, further: one operation that reads a cell which another one leaves as it is; one operation that ends the region by a panic. Nothing of the dump is used; no condition.
-/
import Derived.Test.YtbbcokckealagaaGreatQAD
namespace Go.Proofs.YtbbcokckealagaaGreat
set_option linter.unusedVariables false
set_option linter.unusedSimpArgs false
open Go.RowKit
structure Carry (g : Ent) (I : Nat → CI) (M : Nat → Nat) (w : World) (a : Act) (σ : Nat → Res) : Prop where
  size : a.tmps.size = g.n
  df : a.defers = g.ds.l
  ext : Ext g.own g.I I g.M M g.w w
  ini : ∀ k b, blkOf (I k) (σ k) = some b → g.w.heap.size ≤ b ∨ g.own b
  gno : ∀ k, g.p ≤ k → g.I k = .no
def OpX (P : Program) (g : Ent) (o : Oper) (ρ : Operand → AV) (ins : Upds) (v : AV) (outs : Upds) (G : (Nat → Res) → Prop) (Al : Prop) (QE : Exit → State → Prop) : Prop :=
  ∀ (I : Nat → CI) (M : Nat → Nat) (w : World) (a : Act) (σ : Nat → Res) (K : Act → World → Prop),
    (∀ x ∈ o.op.operands.toList, Rp I M w (a.eval x) (ρ x)) → Sto I M w σ → (∀ p ∈ ins, σ p.1 = p.2) → (∀ k ∈ keys outs, k ∈ keys ins ∨ (σ k = .no ∧ I k = .no)) → G σ → Carry g I M w a σ →
    (∀ cv I' M' w', Al → Rp I' M' w' cv v → Sto I' M' w' (updS σ outs) → Ext (fun b => ∃ k ∈ keys ins, blkOf (I k) (σ k) = some b) I I' M M' w w' → (∀ k, k ∉ keys outs → I' k = I k) →
      (∀ k ∈ keys outs, ∀ b, blkOf (I' k) (updS σ outs k) = some b → w.heap.size ≤ b ∨ ∃ k0 ∈ keys ins, blkOf (I k0) (σ k0) = some b) → K (a.put o.dst cv) w') → o.wp P a w K (fun e a' w' => ∃ I' M' s', St g I' M' w' a' s' ∧ QE e s')
theorem OpS.x {P : Program} {g : Ent} {o : Oper} {ρ : Operand → AV} {ins : Upds} {v : AV} {outs : Upds} {G : (Nat → Res) → Prop} {Al : Prop} {QE : Exit → State → Prop} (h : OpS P o ρ ins v outs) (al : Al) : OpX P g o ρ ins v outs G Al QE :=
  fun I M w a σ K q1 q2 q3 q4 _ _ hK => h I M w a σ K _ q1 q2 q3 q4 fun cv I' M' w' => hK cv I' M' w' al
structure RecX (P : Program) (n : Nat) (ops : List Oper) (o : Oper) (s : State) (r : Rec) : Prop where
  w : wantA ops s.fr o = some r.run
  d : dstOk n o.dst = true
  x : r.run = false → r.v = .v undef ∧ r.ins = [] ∧ r.outs = []
  i : ∀ q ∈ r.ins, sto s.σ q.1 = q.2
  u : okU s.σ.length r.outs = true
  n : ∀ k ∈ keys r.outs, k ∈ keys r.ins ∨ s.σ.length ≤ k
  f1 : ∀ k ∈ keys r.ins, k ∈ r.f.1
  f2 : ∀ k ∈ keys r.outs, k ∈ r.f.2
theorem RecOk.rx {P : Program} {n : Nat} {ops : List Oper} {o : Oper} {s : State} {r : Rec} (h : RecOk P n ops o s r) : RecX P n ops o s r := ⟨h.w, h.d, h.x, h.i, h.u, h.n, h.f1, h.f2⟩
section
variable {P : Program} {g : Ent} {s : State}
theorem drawnX {ops : List Oper} {id : Nat} (hm : P.follows .mixedOrders = true) {QE : Exit → State → Prop} (rs : List Rec) (hl : rs.length = ops.length) (hchk : okDraw ops (rs.map fun r => r.f) = true) (jx : Nat) (G : (Nat → Res) → Prop) (Al : Prop)
    (hrec : ∀ j o r, ops[j]? = some o → rs[j]? = some r → RecX P g.n ops o (stT s ops rs j) r ∧ (j ≠ jx → r.run = true → OpS P o (evA (stT s ops rs j).fr) r.ins r.v r.outs) ∧ (j = jx → r.run = true → OpX P g o (evA (stT s ops rs j).fr) r.ins r.v r.outs G Al QE))
    (hG0 : G (sto s.σ)) (hGs : ∀ i r, rs[i]? = some r → (∀ σ, G σ → G (updS σ r.outs)) ∨ i = jx ∨ Nat.testBit ((befs ops []).getD i 0) jx = true)
    (sN : State) (halX : ops.length ≤ jx → Al) (hrun : ∀ r, rs[jx]? = some r → r.run = true) (hN1 : sN.fr.le (stT s ops rs ops.length).fr) (hN2 : sN.σ = (stT s ops rs ops.length).σ) (hK : Al → QE .normal sN) (I0 : Nat → CI) (M0 : Nat → Nat) (w0 : World) (a0 : Act) (hst : St g I0 M0 w0 a0 s) :
    (Code.region id ops.toArray true).wp P (fun e a' w' => ∃ I' M' s', St g I' M' w' a' s' ∧ QE e s') a0 w0 := by
  have hok := hchk
  simp only [okDraw, Bool.and_eq_true] at hok
  obtain ⟨_, hdown, hnd, _⟩ := hok
  have hal : (rs.map fun r => r.f).length = ops.length := by simp [hl]
  have hget : ∀ j, j < ops.length → ∃ o r, ops[j]? = some o ∧ rs[j]? = some r ∧ (RecX P g.n ops o (stT s ops rs j) r ∧ (j ≠ jx → r.run = true → OpS P o (evA (stT s ops rs j).fr) r.ins r.v r.outs) ∧ (j = jx → r.run = true → OpX P g o (evA (stT s ops rs j).fr) r.ins r.v r.outs G Al QE)) ∧ (rs.map fun r => r.f)[j]? = some r.f := by
    intro j hj
    refine ⟨ops[j], rs[j]'(by omega), by simp [hj], by simp [show j < rs.length by omega], hrec j _ _ (by simp [hj]) (by simp [show j < rs.length by omega]), by simp [show j < rs.length by omega]⟩
  -- what each operation writes
  let outs : Nat → Upds := fun j => ((rs[j]?).map (·.outs)).getD []
  let dsts : Nat → List (Nat × AV) := fun j => match ops[j]?, rs[j]? with
    | some o, some r => dstU o r.v
    | _, _ => []
  have houts : ∀ {j r}, rs[j]? = some r → outs j = r.outs := fun h => by simp [outs, h]
  have hdsts : ∀ {j o r}, ops[j]? = some o → rs[j]? = some r → dsts j = dstU o r.v := fun h h' => by simp [dsts, h, h']
  have hbig : ∀ j, ops.length ≤ j → outs j = [] ∧ dsts j = [] := fun j hj => by
    have h1 : ops[j]? = none := List.getElem?_eq_none hj
    have h2 : rs[j]? = none := List.getElem?_eq_none (by omega)
    simp [outs, dsts, h1, h2]
  -- the states in the order of the text
  have text : ∀ j, j ≤ ops.length → (∀ k, sto (stT s ops rs j).σ k = curD (sto s.σ) outs (fun _ => true) j k) ∧ (∀ t, (stT s ops rs j).fr.get t = curD s.fr.get dsts (fun _ => true) j t) ∧
      s.σ.length ≤ (stT s ops rs j).σ.length ∧ ∀ i, i < j → ∀ k ∈ keys (outs i), k < (stT s ops rs j).σ.length := by
    intro j
    induction j with
    | zero => intro _; exact ⟨fun _ => rfl, fun _ => rfl, Nat.le_refl _, fun i hi => by omega⟩
    | succ j ih =>
      intro hj
      obtain ⟨i1, i2, i3, i4⟩ := ih (by omega)
      obtain ⟨o, r, ho, hr, ⟨hrk, _⟩, _⟩ := hget j (by omega)
      obtain ⟨u1, u2⟩ := updL_len r.outs _ hrk.u
      have he : stT s ops rs (j + 1) = ⟨(stT s ops rs j).fr.put o.dst r.v, updL (stT s ops rs j).σ r.outs⟩ := by simp [stT, ho, hr]
      rw [he]
      refine ⟨fun k => ?_, fun t => ?_, by simp only; omega, fun i hi k hk => ?_⟩
      · simp only [curD, if_true]
        rw [sto_updL _ _ hrk.u, houts hr]
        exact updS_congr fun _ => i1 k
      · simp only [curD, if_true]
        rw [put_get, hdsts ho hr]
        exact updS_congr fun _ => i2 t
      · simp only
        rcases Nat.lt_or_ge i j with h | h
        · have := i4 i h k hk; omega
        · obtain rfl : i = j := by omega
          rw [houts hr] at hk
          exact u2 k hk
  let Inv : (Nat → Bool) → Act → World → Prop := fun D a w => (D jx = true → jx < ops.length → Al) ∧ ∃ I M, a.tmps.size = g.n ∧ a.defers = g.ds.l ∧ (∀ t, Rp I M w (a.tmps.getD t undef) (curD s.fr.get dsts D ops.length t)) ∧ Sto I M w (curD (sto s.σ) outs D ops.length) ∧ Ext g.own g.I I g.M M g.w w ∧
    (∀ k b, blkOf (I k) (curD (sto s.σ) outs D ops.length k) = some b → g.w.heap.size ≤ b ∨ g.own b) ∧ ∀ k, (∀ i, i < ops.length → D i = true → k ∉ keys (outs i)) → I k = I0 k
  have curD_congr : ∀ {α : Type} (f : Nat → α) (u : Nat → List (Nat × α)) (D D' : Nat → Bool) (n : Nat), (∀ i, i < n → D i = D' i) → curD f u D n = curD f u D' n := by
    intro α f u D D' n
    induction n with
    | zero => intro _; rfl
    | succ n ih => intro h; simp only [curD]; rw [ih fun i hi => h i (by omega), h n (by omega)]
  refine wp_region_any hm ?_
  have hsz : ops.toArray.size = ops.length := by simp
  rw [hsz]
  refine wpAny_all Inv hdown ?_ ?_ ?_ ops.length _ a0 _ (by simp) ⟨List.range ops.length, by simp, fun j hj _ => List.mem_range.2 hj⟩ (fun j o ho h => ?_) ?_
  · rintro D D' a w hD ⟨hAl, I, M, h1, h2, h3, h4, h5, h6, h7⟩
    have e1 := curD_congr s.fr.get dsts D D' ops.length hD
    have e2 := curD_congr (sto s.σ) outs D D' ops.length hD
    exact ⟨fun h hl => hAl (by rw [hD jx hl]; exact h) hl, I, M, h1, h2, by rw [← e1]; exact h3, by rw [← e2]; exact h4, h5, by rw [← e2]; exact h6, fun k hk => h7 k fun i hi hDi => hk i hi (by rw [← hD i hi]; exact hDi)⟩
  · rintro D a w j o hDb hcl ho hDj hdep ⟨hAl, I, M, h1, h2, h3, h4, h5, h6, h7⟩ K' hK'
    have hj := (List.getElem?_eq_some_iff.1 ho).1
    obtain ⟨o', r, ho', hr, ⟨hrk, hrS, hrX⟩, hfj⟩ := hget j hj
    rw [ho] at ho'
    obtain rfl : o = o' := by simpa using ho'
    obtain ⟨t1, t2, t3, t4⟩ := text j (by omega)
    -- what clashes with j
    have early : ∀ i oi ri, i < j → ops[i]? = some oi → rs[i]? = some ri → clash (looks ops oi) (looks ops o) oi.dst o.dst ri.f r.f = true → D i = true := by
      intro i oi ri hij hi hri hc
      exact clash_done hchk hal hcl hij hi ho (by simp [hri]) hfj hc hdep
    have late : ∀ i oi ri, j < i → ops[i]? = some oi → rs[i]? = some ri → clash (looks ops o) (looks ops oi) o.dst oi.dst r.f ri.f = true → D i = false := by
      intro i oi ri hij hi hri hc
      cases hDi : D i with
      | false => rfl
      | true =>
        have := clash_done hchk hal hcl hij ho hi hfj (by simp [hri]) hc (fun e he hb => hcl i oi hi hDi e he hb)
        rw [hDj] at this; cases this
    -- the slots that it looks at
    have slot : ∀ t, t ∈ looks ops o → curD s.fr.get dsts D ops.length t = (stT s ops rs j).fr.get t := by
      intro t ht
      rw [t2]
      refine curD_eq (fun i hi hk => ?_) ops.length (by omega) fun i hi hil hDi hk => ?_
      · obtain ⟨oi, ri, hoi, hri, ⟨hrki, _⟩, _⟩ := hget i (by omega)
        rw [hdsts hoi hri, keys_dstU] at hk
        refine early i oi ri hi hoi hri ?_
        simp [clash, hk, any_beq ht]
      · obtain ⟨oi, ri, hoi, hri, ⟨hrki, _⟩, _⟩ := hget i hil
        rw [hdsts hoi hri, keys_dstU] at hk
        rcases Nat.lt_or_ge j i with h | h
        · have := late i oi ri h hoi hri (by simp [clash, hk, any_beq ht])
          rw [hDi] at this; cases this
        · obtain rfl : i = j := by omega
          rw [hDj] at hDi; cases hDi
    -- the numbered things that it touches
    have thing : ∀ k, k ∈ keys r.ins ∨ k ∈ keys r.outs → curD (sto s.σ) outs D ops.length k = sto (stT s ops rs j).σ k := by
      intro k hk
      rw [t1]
      refine curD_eq (fun i hi hki => ?_) ops.length (by omega) fun i hi hil hDi hki => ?_
      · obtain ⟨oi, ri, hoi, hri, ⟨hrki, _⟩, _⟩ := hget i (by omega)
        rw [houts hri] at hki
        refine early i oi ri hi hoi hri ?_
        rcases hk with hk | hk
        · simp [clash, hit_of (hrki.f2 k hki) (hrk.f1 k hk)]
        · simp [clash, hit_of (hrki.f2 k hki) (hrk.f2 k hk)]
      · obtain ⟨oi, ri, hoi, hri, ⟨hrki, _⟩, _⟩ := hget i hil
        rw [houts hri] at hki
        rcases Nat.lt_or_ge j i with h | h
        · have := late i oi ri h hoi hri (by
            rcases hk with hk | hk
            · simp [clash, hit_of (hrk.f1 k hk) (hrki.f2 k hki)]
            · simp [clash, hit_of (hrk.f2 k hk) (hrki.f2 k hki)])
          rw [hDi] at this; cases this
        · obtain rfl : i = j := by omega
          rw [hDj] at hDi; cases hDi
    -- what the step makes of what holds
    have frame : curD s.fr.get dsts (fun i => D i || Nat.beq i j) ops.length = updS (curD s.fr.get dsts D ops.length) (dstU o r.v) := by
      rw [curD_ins hDj ops.length, if_pos hj, hdsts ho hr]
      intro i hi hil hDi k hk hk'
      obtain ⟨oi, ri, hoi, hri, ⟨hrki, _⟩, _⟩ := hget i hil
      rw [hdsts ho hr, keys_dstU] at hk
      rw [hdsts hoi hri, keys_dstU] at hk'
      exact dstNd_spec hnd j i k hi (by simp [ho, hk]) (by simp [hoi, hk'])
    have things : curD (sto s.σ) outs (fun i => D i || Nat.beq i j) ops.length = updS (curD (sto s.σ) outs D ops.length) r.outs := by
      rw [curD_ins hDj ops.length, if_pos hj, houts hr]
      intro i hi hil hDi k hk hk'
      obtain ⟨oi, ri, hoi, hri, ⟨hrki, _⟩, _⟩ := hget i hil
      rw [houts hr] at hk
      rw [houts hri] at hk'
      have := late i oi ri hi hoi hri (by simp [clash, hit_of (hrk.f2 k hk) (hrki.f2 k hk')])
      rw [hDi] at this; cases this
    have grow : ∀ (I' : Nat → CI), (∀ k, k ∉ keys r.outs → I' k = I k) → ∀ k, (∀ i, i < ops.length → (D i || Nat.beq i j) = true → k ∉ keys (outs i)) → I' k = I0 k := by
      intro I' hI' k hk
      rw [hI' k (by have := hk j hj (by simp); rwa [houts hr] at this)]
      exact h7 k fun i hi hDi => hk i hi (by simp [hDi])
    unfold wpOp
    simp only [List.getElem?_toArray, ho]
    have hwant : Region.wanted o (yielded ops.toArray a.tmps) = r.run := by
      refine wanted_of (f := fun d => (stT s ops rs j).fr.get d) (I := I) (M := M) (w := w) (fun j' want q d hg hq hd => ?_) hrk.w
      have hlk : d ∈ looks ops o := by
        simp only [looks, hg, hq, hd]
        simp
      have := h3 d
      rw [slot d hlk] at this
      exact this
    rw [hwant]
    cases hrn : r.run with
    | true =>
      rw [if_pos O]
      left
      have hX : OpX P g o (evA (stT s ops rs j).fr) r.ins r.v r.outs (fun σ => j = jx → G σ) (j = jx → Al) QE := by
        by_cases hjx : j = jx
        · exact fun I M w a σ K q1 q2 q3 q4 q5 q6 hK => hrX hjx hrn I M w a σ K q1 q2 q3 q4 (q5 hjx) q6 fun cv I' M' w' al => hK cv I' M' w' fun _ => al
        · exact (hrS hjx hrn).x fun e => absurd e hjx
      have hGc : j = jx → G (curD (sto s.σ) outs D ops.length) := by
        intro hjx
        have go : ∀ m, m ≤ ops.length → G (curD (sto s.σ) outs D m) := by
          intro m
          induction m with
          | zero => intro _; exact hG0
          | succ m ih =>
            intro hm'
            simp only [curD]
            split
            · rename_i hDm
              obtain ⟨om, rm, hom, hrm, _, _⟩ := hget m (by omega)
              rw [houts hrm]
              rcases hGs m rm hrm with h | h | h
              · exact h _ (ih (by omega))
              · rw [h, ← hjx, hDj] at hDm; cases hDm
              · have := before_done hcl m om jx hom (fun e he hb => hcl m om hom hDm e he hb) h
                rw [← hjx, hDj] at this; cases this
            · exact ih (by omega)
        exact go _ (Nat.le_refl _)
      refine hX I M w a (curD (sto s.σ) outs D ops.length) K' (fun x hx => ?_) h4 (fun q hq => ?_) (fun k hk => ?_) hGc ⟨h1, h2, h5, h6, hst.gno⟩ fun cv I' M' w' g0 g1 g2 g3 g4 g5 => ?_
      · cases x with
        | tmp t =>
          have hlk : t ∈ looks ops o := by
            simp only [looks, List.mem_append, List.mem_filterMap]
            exact .inl ⟨.tmp t, hx, rfl⟩
          have := h3 t
          rw [slot t hlk] at this
          exact this
        | const v => exact .v v
        | func f => exact .fn (by simp) (by intro i v c hv; simp at hv)
        | global gl => exact .any _
      · rw [thing q.1 (.inl (List.mem_map.2 ⟨q, hq, rfl⟩))]
        exact hrk.i q hq
      · rcases hrk.n k hk with h | h
        · exact .inl h
        · right
          refine ⟨?_, ?_⟩
          · rw [thing k (.inr hk)]
            simp [sto, List.getElem?_eq_none h]
          · rw [h7 k fun i hi hDi hki => ?_]
            · exact hst.no k (by omega)
            · obtain ⟨oi, ri, hoi, hri, ⟨hrki, _⟩, _⟩ := hget i hi
              rcases Nat.lt_trichotomy i j with hij | rfl | hij
              · have := t4 i hij k hki; omega
              · rw [hDj] at hDi; cases hDi
              · rw [houts hri] at hki
                have := late i oi ri hij hoi hri (by simp [clash, hit_of (hrk.f2 k hk) (hrki.f2 k hki)])
                rw [hDi] at this; cases this
      · have own : ∀ b, (∃ k ∈ keys r.ins, blkOf (I k) (curD (sto s.σ) outs D ops.length k) = some b) → g.w.heap.size ≤ b ∨ g.own b := fun b ⟨k, _, hb⟩ => h6 k b hb
        obtain ⟨p1, p2⟩ := FrOk.putF h1 (fun t => (h3 t).evo g3.le g3.evo) hrk.d g1
        refine hK' _ _ ⟨fun h hl => (Bool.or_eq_true _ _ ▸ h).elim (fun h => hAl h hl) (fun h => g0 (Nat.eq_of_beq_eq_true h).symm), I', M', p1, by cases o.dst <;> exact h2, by rw [frame]; exact p2, by rw [things]; exact g2, h5.trans g3 (fun b hb ho => (own b ho).resolve_left (by omega)), fun k b hb => ?_, grow I' g4⟩
        rw [things] at hb
        by_cases hk : k ∈ keys r.outs
        · rcases g5 k hk b hb with q | q
          · have := h5.evo.size; left; omega
          · exact own b q
        · rw [g4 k hk, updS_other _ _ _ hk] at hb
          exact h6 k b hb
    | false =>
      rw [if_neg (by simp)]
      obtain ⟨x1, x2, x3⟩ := hrk.x hrn
      obtain ⟨p1, p2⟩ := FrOk.putF (cv := undef) (v := r.v) h1 h3 hrk.d (by rw [x1]; exact .v _)
      refine hK' _ _ ⟨fun h hl => (Bool.or_eq_true _ _ ▸ h).elim (fun h => hAl h hl) (fun h => by have e := Nat.eq_of_beq_eq_true h; subst e; exact absurd (hrun r hr) (by rw [hrn]; simp)), I, M, p1, by cases o.dst <;> exact h2, by rw [frame]; exact p2, by rw [things, x3]; exact h4, h5, fun k b hb => ?_, grow I (fun _ _ => rfl)⟩
      rw [things, x3] at hb
      exact h6 k b hb
  · rintro a w ⟨hAl, I, M, h1, h2, h3, h4, h5, h6, h7⟩
    obtain ⟨t1, t2, t3, t4⟩ := text ops.length (Nat.le_refl _)
    have e1 := curD_congr s.fr.get dsts (fun i => decide (i < ops.length)) (fun _ => true) ops.length (fun i hi => by simp [hi])
    have e2 := curD_congr (sto s.σ) outs (fun i => decide (i < ops.length)) (fun _ => true) ops.length (fun i hi => by simp [hi])
    rw [e1] at h3
    rw [e2] at h4 h6
    have e3 : sto (stT s ops rs ops.length).σ = curD (sto s.σ) outs (fun _ => true) ops.length := funext t1
    rw [← hN2] at e3 t3 t4
    refine ⟨I, M, sN, ⟨⟨h1, fun t => (hN1 t).rp (by rw [t2]; exact h3 t)⟩, h2, by rw [e3]; exact h4, Nat.le_trans hst.len t3, fun k hk => ?_, h5, by rw [e3]; exact h6, hst.gno⟩, hK ((Nat.lt_or_ge jx ops.length).elim (fun q => hAl (by simp [q]) q) halX)⟩
    rw [h7 k fun i hi _ hki => by have := t4 i hi k hki; omega]
    exact hst.no k (by omega)
  · simp only [Array.getD] at h
    split at h <;> simp at h
  · have e0 : ∀ {α : Type} (f : Nat → α) (u : Nat → List (Nat × α)) n, curD f u (fun i => (Array.replicate ops.length false).getD i false) n = f := by
      intro α f u n
      induction n with
      | zero => rfl
      | succ n ih =>
        simp only [curD]
        rw [ih]
        have : (Array.replicate ops.length false).getD n false = false := by simp only [Array.getD]; split <;> simp
        simp [this]
    refine ⟨fun h hl => by (simp only [Array.getD] at h; split at h <;> simp at h), I0, M0, hst.fr.1, hst.df, ?_, ?_, ?_, ?_, fun _ _ => rfl⟩
    · rw [e0]; exact fun t => Rp.evo (I := I0) (I' := I0) (M := M0) (M' := M0) (w := w0) (w' := { w0 with drawn := w0.drawn + 1 }) (fun _ => CI.le_refl _) ⟨Nat.le_refl _, fun _ => Nat.le_refl _, fun _ _ _ _ h => h, fun _ _ h => h⟩ (hst.fr.2 t)
    · rw [e0]
      exact hst.st.stay ⟨rfl, rfl, rfl, fun _ => CI.le_refl _, ⟨Nat.le_refl _, fun _ => Nat.le_refl _, fun _ _ _ _ h => h, fun _ _ h => h⟩, fun _ _ _ => ⟨rfl, rfl⟩⟩ hst.st.top
    · exact ⟨hst.ext.os, hst.ext.tape, hst.ext.output, hst.ext.le, ⟨hst.ext.evo.size, hst.ext.evo.mask, hst.ext.evo.keep, hst.ext.evo.ty⟩, hst.ext.oth⟩
    · rw [e0]; exact hst.ini
end
end Go.Proofs.YtbbcokckealagaaGreat
namespace Go.Proofs.YtbbcokckealagaaGreat
set_option linter.unusedVariables false
set_option linter.unusedSimpArgs false
open Go.RowKit
abbrev bot : AV := .ep [] 1
theorem bot_no {I : Nat → CI} {M : Nat → Nat} {w : World} {x : Value} (h : Rp I M w x bot) : False := ep_no h
theorem blkno {ci : CI} {b : Nat} (h : blkOf ci .no = some b) : False := by cases ci <;> cases h
theorem Sto.none {I : Nat → CI} {M : Nat → Nat} {w : World} {σ : Nat → Res} (h : Sto I M w σ) : Sto I M w (fun _ => .no) :=
  ⟨fun k => trivial, fun k k' b _ hb => (blkno hb).elim, h.top, h.tab⟩
def ADies (P : Program) (f : FuncId) (args : List AV) (σ : List Res) (ch : List PanicEntry) : Prop :=
  ∀ (I : Nat → CI) (M : Nat → Nat) (w : World) (cargs : Array Value), cargs.size = args.length → (∀ (i : Nat) (v : Value) (c : AV), cargs[i]? = some v → args[i]? = some c → Rp I M w v c) → Sto I M w (sto σ) → (∀ k, σ.length ≤ k → I k = .no) →
    Calls P f cargs w fun e w' => e = .panicked ch ∧ ∃ I' M', Sto I' M' w' (fun _ => .no) ∧ Ext (fun b => ∃ k, blkOf (I k) (sto σ k) = some b) I I' M M' w w'
def DieOk (ch : List PanicEntry) : Exit → State → Prop
  | .panic c, _ => c = ch
  | _, _ => False
theorem ADies.of {P : Program} {f : FuncId} {fn : Func} {c : Code} {args : List AV} {σ : List Res} {ch : List PanicEntry} (hf : P.funcs[f]? = some fn) (hb : fn.body = some c) (hn' : Nat.ble args.length fn.ntmps = true)
    {N : Nat} (hN : fn.ntmps = N) (h : ∀ (I : Nat → CI) (M : Nat → Nat) (w : World) (own : Nat → Prop), AW P ⟨N, σ.length, I, M, w, own⟩ c (DieOk ch) ⟨argFr args 0, σ⟩) : ADies P f args σ ch := by
  have hn := Nat.le_of_ble_eq_true hn'
  intro I M w cargs ha hav hs hno
  refine calls_of_wp hf hb ?_
  let g : Ent := ⟨fn.ntmps, σ.length, I, M, w, fun b => ∃ k, blkOf (I k) (sto σ k) = some b⟩
  subst hN
  refine wp_mono (h I M w g.own I M w _ ⟨⟨by simp [ha, g]; omega, fun t => ?_⟩, rfl, hs, Nat.le_refl _, hno, Ext.refl _ _ _ _, fun k b hb => .inr ⟨k, hb⟩, hno⟩) fun e a' w' ⟨I', M', s', h1, h2⟩ => ?_
  · rw [argFr_get]
    simp only [Nat.zero_le, if_true, Nat.sub_zero]
    cases hc : args[t]? with
    | none => exact .any _
    | some v =>
      have ht : t < cargs.size := by rw [ha]; exact (List.getElem?_eq_some_iff.1 hc).1
      refine hav t _ v ?_ hc
      have h2 : (cargs ++ Array.replicate (fn.ntmps - cargs.size) undef)[t]? = some cargs[t] := by rw [Array.getElem?_append_left ht]; simp [ht]
      have h3 : (cargs ++ Array.replicate (fn.ntmps - cargs.size) undef).getD t undef = cargs[t] := by simp [Array.getD_eq_getD_getElem?, h2]
      rw [h3]; simp [ht]
  · cases e with
    | panic c0 =>
      obtain rfl : c0 = ch := h2
      exact ⟨h1.df, rfl, I', M', h1.st.none, h1.ext⟩
    | _ => exact h2.elim
def OpD (P : Program) (o : Oper) (ρ : Operand → AV) (ins : Upds) (ch : List PanicEntry) : Prop :=
  ∀ (I : Nat → CI) (M : Nat → Nat) (w : World) (a : Act) (σ : Nat → Res) (K : Act → World → Prop) (Q : Exit → Act → World → Prop),
    (∀ x ∈ o.op.operands.toList, Rp I M w (a.eval x) (ρ x)) → Sto I M w σ → (∀ p ∈ ins, σ p.1 = p.2) →
    (∀ M' w', Sto I M' w' (updS σ (ins.map fun q => (q.1, Res.no))) → Ext (fun b => ∃ k ∈ keys ins, blkOf (I k) (σ k) = some b) I I M M' w w' → Q (.panic ch) a w') → o.wp P a w K Q
theorem OpD.panic {P : Program} {o : Oper} {ρ : Operand → AV} {x : Operand} {t : TypeId} {v : Value} (ho : o.op = .panic x) (hx : ρ x = .v (.iface t v)) : OpD P o ρ [] [{ v := .iface t v, recovered := false }] := by
  intro I M w a σ K Q hop hs _ hK
  have h1 := (hop x (by simp [ho, Op.operands])).val' hx
  have hr : (execOp a.eval o).run P w = .halt (.panic (.iface t v)) w := by simp [execOp, ho, h1, Instr.panic, goPanic]
  unfold Oper.wp
  rw [hr, Oper.upon_panic]
  exact hK M w hs (Ext.refl _ _ _ _)
theorem OpD.callG {P : Program} {o : Oper} {ρ : Operand → AV} {f : FuncId} {as args0 : List AV} {σc : List Res} {ch : List PanicEntry} {ins : Upds} (S : List Nat) (nx : Nat) (hc : ADies P f args0 σc ch)
    (hen : Enters P o ρ f as) (hargs : AV.rens (renC S nx) args0 = as) (hnd : nodupB S = true) (hnx : S.all (fun k => Nat.blt k nx) = true) (hl : Nat.beq S.length σc.length = true)
    (hlt0 : σc.all (Res.lt σc.length) = true) (hal : AV.lts σc.length args0 = true) (hins : insOf S (renC S nx) σc = ins) : OpD P o ρ ins ch := by
  intro I M w a σ K Q hop hs hi hK
  subst hins
  have hl := Nat.eq_of_beq_eq_true hl
  have hinj : ∀ a b, renC S nx a = renC S nx b → a = b := by
    intro a b h
    have hS : ∀ i, i < S.length → S.getD i 0 < nx := by
      intro i hi
      have := (List.all_eq_true.1 hnx) (S.getD i 0) (by rw [List.getD_eq_getElem?_getD, List.getElem?_eq_getElem hi]; exact List.getElem_mem _)
      rwa [Nat.blt_eq] at this
    have bl : ∀ i, (i < S.length ∧ renC S nx i = S.getD i 0) ∨ (S.length ≤ i ∧ renC S nx i = nx + (i - S.length)) := by
      intro i
      unfold renC
      cases hb : Nat.blt i S.length with
      | true => left; rw [Nat.blt_eq] at hb; exact ⟨hb, rfl⟩
      | false =>
        right
        have : ¬ i < S.length := by rw [← Nat.blt_eq, hb]; simp
        exact ⟨by omega, rfl⟩
    rcases bl a with ⟨a1, a2⟩ | ⟨a1, a2⟩ <;> rcases bl b with ⟨b1, b2⟩ | ⟨b1, b2⟩
    · rw [a2, b2] at h
      rcases Nat.lt_trichotomy a b with q | q | q
      · exact absurd h (nodupB_spec hnd a b q b1)
      · exact q
      · exact absurd h.symm (nodupB_spec hnd b a q a1)
    · have := hS a a1; rw [a2, b2] at h; omega
    · have := hS b b1; rw [a2, b2] at h; omega
    · rw [a2, b2] at h; omega
  have rlow : ∀ i, i < σc.length → renC S nx i = S.getD i 0 := by
    intro i hi
    have : Nat.blt i S.length = true := by rw [Nat.blt_eq]; omega
    simp [renC, this]
  have hkeys : keys (insOf S (renC S nx) σc) = S := keys_insOf _ _ _ hl
  -- what the callee is given
  let Ic : Nat → CI := fun i => if i < σc.length then I (renC S nx i) else .no
  have hsto : ∀ i r, σc[i]? = some r → σ (renC S nx i) = r.ren (renC S nx) := by
    intro i r hr
    have hlt := (List.getElem?_eq_some_iff.1 hr).1
    have := hi _ (insOf_get (renC S nx) S σc hl i r hr)
    rw [rlow i hlt]; exact this
  have hblk : ∀ i b, blkOf (Ic i) (sto σc i) = some b → i < σc.length ∧ blkOf (I (renC S nx i)) (σ (renC S nx i)) = some b := by
    intro i b hb
    rcases Nat.lt_or_ge i σc.length with h | h
    · have h1 : sto σc i = σc[i] := by simp [sto, List.getD, h]
      rw [h1] at hb
      simp only [Ic, if_pos h] at hb
      rw [hsto i σc[i] (by simp [h]), blk_ren]
      exact ⟨h, hb⟩
    · simp only [Ic, if_neg (show ¬ i < σc.length by omega)] at hb
      cases hq : sto σc i <;> rw [hq] at hb <;> cases hb
  have rpc : ∀ v p, p.lt σc.length = true → Rp I M w v (p.ren (renC S nx)) → Rp Ic M w v p := fun v p hp h =>
    Rp.agree (I := fun i => I (renC S nx i)) (n := σc.length) (fun k hk => by simp [Ic, hk]) (Rp.unname h p O) hp
  have hsc : Sto Ic M w (sto σc) := by
    refine ⟨fun k => ?_, fun k k' b hne hb hb' => ?_, hs.top, hs.tab⟩
    · rcases Nat.lt_or_ge k σc.length with h | h
      · have h1 : sto σc k = σc[k] := by simp [sto, List.getD, h]
        have hI : Ic k = I (renC S nx k) := by simp [Ic, h]
        have ho := hs.own (renC S nx k)
        rw [hsto k σc[k] (by simp [h])] at ho
        rw [h1, hI]
        have hlt1 := (List.all_eq_true.1 hlt0) σc[k] (List.getElem_mem _)
        generalize σc[k] = q at ho hlt1
        cases q with
        | no => trivial
        | row sz xs => exact ho
        | mby l => exact ho
        | box cs =>
          obtain ⟨b, cur, e, e1, e2, e3, e4, e5, e6⟩ := ho
          refine ⟨b, cur, e, e1, e2, e3, by rw [e4, AV.rens_map]; simp, e5, fun i v c hv hc => ?_⟩
          exact rpc v c (AV.lts_get hlt1 hc) (e6 i v _ hv (by rw [AV.rens_map, List.getElem?_map, hc]; rfl))
      · have : sto σc k = .no := by simp [sto, List.getElem?_eq_none h]
        rw [this]; trivial
    · obtain ⟨a1, a2⟩ := hblk k b hb
      obtain ⟨b1, b2⟩ := hblk k' b hb'
      exact hs.dis _ _ b (fun e => hne (hinj _ _ e)) a2 b2
  obtain ⟨cargs, hexec, hcs, hcv⟩ := hen I M w a hop
  have hcall := hc Ic M w cargs (by rw [hcs, ← hargs, AV.rens_map, List.length_map]) (fun i v c hv hc' => by
      refine rpc v c (AV.lts_get hal hc') (hcv i v _ hv ?_)
      rw [← hargs, AV.rens_map, List.getElem?_map, hc']; rfl) hsc (fun k hk => by simp [Ic, show ¬ k < σc.length by omega])
  unfold Oper.wp
  rw [hexec, Oper.upon_enter]
  refine Calls.mono hcall ?_
  rintro e w' ⟨rfl, I', M', g2, g3⟩
  simp only
  have hbk : ∀ b, (∃ k, blkOf (Ic k) (sto σc k) = some b) → ∃ k ∈ S, blkOf (I k) (σ k) = some b := by
    rintro b ⟨k, hk⟩
    obtain ⟨h1, h2⟩ := hblk k b hk
    refine ⟨renC S nx k, ?_, h2⟩
    rw [rlow k h1, List.getD_eq_getElem?_getD, List.getElem?_eq_getElem (by omega)]
    exact List.getElem_mem _
  have hext : Ext (fun b => ∃ k ∈ keys (insOf S (renC S nx) σc), blkOf (I k) (σ k) = some b) I I M M' w w' :=
    ⟨g3.os, g3.tape, g3.output, fun _ => CI.le_refl _, g3.evo, fun b hb hn => g3.oth b hb fun h => hn (by rw [hkeys]; exact hbk b h)⟩
  have hno : ∀ (us : Upds) (k : Nat), k ∈ keys us → updS σ (us.map fun q => (q.1, Res.no)) k = .no := by
    intro us
    induction us with
    | nil => intro k h; simp [keys] at h
    | cons q us ih =>
      intro k h
      simp only [List.map_cons, updS]
      split
      · rfl
      · rename_i hne
        refine ih k ?_
        simp only [keys, List.map_cons, List.mem_cons] at h
        rcases h with h | h
        · exact absurd h hne
        · exact h
  have hyes : ∀ (us : Upds) (k : Nat), k ∉ keys us → updS σ (us.map fun q => (q.1, Res.no)) k = σ k := fun us k h => updS_other _ _ _ (by simpa [keys] using h)
  refine hK M' w' (hs.upd (keys (insOf S (renC S nx) σc)) hext (fun b h => h) (fun _ _ => rfl) (fun k hk => hyes _ k hk) (fun k hk => by rw [hno _ k hk]; trivial) (fun k hk b hb => ?_) (fun k hk k' hk' b _ hb => ?_) g2.top) hext
  · rw [hno _ k hk] at hb; exact (blkno hb).elim
  · rw [hno _ k hk] at hb; exact (blkno hb).elim
theorem Carry.drop {g : Ent} {I : Nat → CI} {M : Nat → Nat} {w : World} {a : Act} {σ : Nat → Res} (c : Carry g I M w a σ) {ks : List Nat} {M' : Nat → Nat} {w' : World} {σ' : Nat → Res} (hs : Sto I M' w' σ') (e : Ext (fun b => ∃ k ∈ ks, blkOf (I k) (σ k) = some b) I I M M' w w') :
    ∃ I', St g I' M' w' a ⟨[], List.replicate g.p .no⟩ := by
  have hsto : sto (List.replicate g.p Res.no) = fun _ => .no := by
    funext k
    simp only [sto, List.getD_eq_getElem?_getD, List.getElem?_replicate]
    split <;> rfl
  have h1 := c.ext.trans e (fun b hb ⟨k, _, hk⟩ => (c.ini k b hk).resolve_left (by omega))
  refine ⟨fun k => if k < g.p then I k else .no, ⟨⟨c.size, fun t => .any _⟩, c.df, ?_, by simp, fun k hk => ?_, ⟨h1.os, h1.tape, h1.output, fun k => ?_, h1.evo, h1.oth⟩, fun k b hb => ?_, c.gno⟩⟩
  · simp only [hsto]
    exact ⟨fun k => trivial, fun k k' b _ hb => (blkno hb).elim, hs.top, hs.tab⟩
  · simp only [List.length_replicate] at hk
    exact if_neg (by omega)
  · by_cases hk : k < g.p
    · simp only [if_pos hk]; exact h1.le k
    · rw [c.gno k (by omega)]; trivial
  · simp only [hsto] at hb
    exact (blkno hb).elim
theorem OpD.x {P : Program} {g : Ent} {o : Oper} {ρ : Operand → AV} {ins : Upds} {ch : List PanicEntry} {G : (Nat → Res) → Prop} {Al : Prop} {QE : Exit → State → Prop} (h : OpD P o ρ ins ch) (hq : QE (.panic ch) ⟨[], List.replicate g.p .no⟩) : OpX P g o ρ ins bot [] G Al QE :=
  fun I M w a σ K q1 q2 q3 _ _ c _ => h I M w a σ K _ q1 q2 q3 fun M' w' hs e => by
    obtain ⟨I', h⟩ := c.drop hs e
    exact ⟨I', M', _, h, hq⟩
end Go.Proofs.YtbbcokckealagaaGreat
namespace Go.Proofs.YtbbcokckealagaaGreat
set_option linter.unusedVariables false
set_option linter.unusedSimpArgs false
open Go.RowKit
def noR (σ : List Res) (ks : List Nat) : List Res := ks.foldl (fun σ k => σ.set k .no) σ
theorem noR_len (ks : List Nat) : ∀ σ : List Res, (noR σ ks).length = σ.length := by
  induction ks with
  | nil => intro σ; rfl
  | cons k ks ih => intro σ; rw [noR, List.foldl_cons, ← noR, ih]; simp
theorem sto_noR (us : Upds) : ∀ (σ : List Res), (∀ q ∈ us, sto σ q.1 = q.2 ∨ sto σ q.1 = .no) → sto (noR σ (keys us)) = updS (sto σ) (us.map fun q => (q.1, Res.no)) := by
  induction us with
  | nil => intro σ _; rfl
  | cons q us ih =>
    intro σ h
    have hset : ∀ i, sto (σ.set q.1 .no) i = if i = q.1 then .no else sto σ i := by
      intro i
      simp only [sto, List.getD_eq_getElem?_getD, List.getElem?_set]
      by_cases hi : q.1 = i
      · subst hi
        simp only [if_true]
        split <;> rfl
      · rw [if_neg hi, if_neg (fun e => hi e.symm)]
    show sto (noR (σ.set q.1 .no) (keys us)) = _
    rw [ih _ (fun p hp => by
      rw [hset]
      split
      · exact .inr O
      · exact h p (List.mem_cons_of_mem _ hp))]
    funext i
    by_cases hi : i ∈ keys (us.map fun q => (q.1, Res.no))
    · simp only [List.map_cons, updS]
      have hno : ∀ (us : Upds) (f : Nat → Res) (k : Nat), k ∈ keys (us.map fun q => (q.1, Res.no)) → updS f (us.map fun q => (q.1, Res.no)) k = .no := by
        intro us
        induction us with
        | nil => intro f k h; simp [keys] at h
        | cons p us ih =>
          intro f k h
          simp only [List.map_cons, updS]
          split
          · rfl
          · rename_i hne
            refine ih f k ?_
            simp only [keys, List.map_cons, List.mem_cons] at h
            rcases h with h | h
            · exact absurd h hne
            · exact h
      rw [hno _ _ _ hi]
      split
      · rfl
      · rw [hno _ _ _ hi]
    · rw [updS_other _ _ _ hi, hset]
      simp only [List.map_cons, updS]
      split
      · rfl
      · rw [updS_other _ _ _ hi]
theorem Run.pre {P : Program} {g : Ent} {s : State} {ops : List Oper} {chk : List FP → Bool} {K : State → Prop} {rest : List Oper} {acc : List FP} {Q : Exit → Act → World → Prop} {post : List Oper} (h : Run P g.n ops chk K rest s acc)
    (hp : ∀ I M w a s', St g I M w a s' → K s' → wpList P ops.toArray Q post a w) : ∀ (I : Nat → CI) (M : Nat → Nat) (w : World) (a : Act), St g I M w a s → wpList P ops.toArray Q (rest ++ post) a w := by
  induction h with
  | nil hc hK => intro I M w a hst; exact hp I M w a _ hst hK
  | op hw hd h hi hu hn hr ih =>
    intro I M w a hst
    refine wpList_step fun K' hK' => ?_
    rw [if_pos (wanted_of (f := fun d => Fr.get _ d) (fun j want q d _ _ _ => hst.fr.2 d) hw)]
    refine h I M w a _ K' _ (fun x _ => hst.fr.eval x) hst.st hi (fun k hk => (hn k hk).imp id fun hl => ⟨?_, hst.no k hl⟩) fun cv I' M' w' h1 h2 h3 h4 h5 => ?_
    · simp [sto, List.getElem?_eq_none hl]
    · exact hK' _ _ (ih I' M' w' _ (hst.step hd hu hi h1 h2 h3 h4 h5))
  | opN hall hw hd h hi hu hn hr ih =>
    intro I M w a hst
    refine wpList_step fun K' hK' => ?_
    rw [if_pos (wanted_of (f := fun d => Fr.get _ d) (fun j want q d _ _ _ => hst.fr.2 d) hw)]
    refine h I M w a _ K' _ (fun x _ => hst.fr.eval x) hst.st hi (fun i k hk => (hn i k hk).imp id fun hl => ⟨?_, hst.no k hl⟩) fun i cv I' M' w' h1 h2 h3 h4 h5 => ?_
    · simp [sto, List.getElem?_eq_none hl]
    · exact hK' _ _ (ih i I' M' w' _ (hst.step hd (hu i) hi h1 h2 h3 h4 h5))
  | conv h hr ih =>
    intro I M w a hst
    exact ih I M w a ⟨⟨hst.fr.1, fun t => (h t).rp (hst.fr.2 t)⟩, hst.df, hst.st, hst.len, hst.no, hst.ext, hst.ini, hst.gno⟩
  | @skip o rest s acc f hw hd hr ih =>
    intro I M w a hst
    refine wpList_step fun K' hK' => ?_
    rw [if_neg (by rw [wanted_of (f := fun d => Fr.get _ d) (fun j want q d _ _ _ => hst.fr.2 d) hw]; simp)]
    refine hK' _ _ (ih I M w _ ?_)
    have := hst.step (ins := []) (outs := []) (cv := undef) (v := .v undef) hd O (fun _ h => by cases h) (.v _) hst.st (Ext.refl _ _ _ _) (fun _ _ => rfl) (fun _ h => by cases h)
    exact this
def DieAt (P : Program) (ops : List Oper) (o : Oper) (Q : Exit → State → Prop) (s : State) : Prop :=
  ∃ ins ch, wantA ops s.fr o = some true ∧ OpD P o (evA s.fr) ins ch ∧ (∀ q ∈ ins, sto s.σ q.1 = q.2) ∧ Q (.panic ch) ⟨s.fr, noR s.σ (keys ins)⟩
theorem AW.die {P : Program} {g : Ent} {s : State} {Q : Exit → State → Prop} {id : Nat} {ops : List Oper} {o : Oper} (i : Nat) (hi : ops[i]? = some o) (h : Run P g.n ops (fun _ => true) (DieAt P ops o Q) (ops.take i) s []) : AW P g (.region id ops.toArray false) Q s := by
  intro I M w a hst
  refine wp_region_lit ?_
  have hil := (List.getElem?_eq_some_iff.1 hi).1
  have hsp : ops = ops.take i ++ (o :: ops.drop (i + 1)) := by
    have := (List.getElem?_eq_some_iff.1 hi).2
    rw [← this, ← List.drop_eq_getElem_cons hil, List.take_append_drop]
  have key := h.pre (Q := fun e a' w' => ∃ I' M' s', St g I' M' w' a' s' ∧ Q e s') (post := o :: ops.drop (i + 1)) (fun I M w a s' hst ⟨ins, ch, q1, q2, q3, q4⟩ => by
    refine wpList_step fun K' hK' => ?_
    rw [if_pos (wanted_of (f := fun d => Fr.get _ d) (fun j want q d _ _ _ => hst.fr.2 d) q1)]
    refine q2 I M w a _ K' _ (fun x _ => hst.fr.eval x) hst.st q3 fun M' w' hs e => ?_
    have hst2 : sto (noR s'.σ (keys ins)) = updS (sto s'.σ) (ins.map fun q => (q.1, Res.no)) := sto_noR ins s'.σ (fun q hq => .inl (q3 q hq))
    refine ⟨I, M', ⟨s'.fr, noR s'.σ (keys ins)⟩, ⟨⟨hst.fr.1, fun t => (hst.fr.2 t).evo (fun _ => CI.le_refl _) e.evo⟩, hst.df, by simp only [hst2]; exact hs, by simp only [noR_len]; exact hst.len, fun k hk => hst.no k (by simpa only [noR_len] using hk), hst.ext.trans e (fun b hb ⟨k, _, hk⟩ => (hst.ini k b hk).resolve_left (by omega)), fun k b hb => ?_, hst.gno⟩, q4⟩
    simp only [hst2] at hb
    by_cases hk : k ∈ keys (ins.map fun q => (q.1, Res.no))
    · have hno : ∀ (us : Upds) (f : Nat → Res) (k : Nat), k ∈ keys (us.map fun q => (q.1, Res.no)) → updS f (us.map fun q => (q.1, Res.no)) k = .no := by
        intro us
        induction us with
        | nil => intro f k h; simp [keys] at h
        | cons p us ih =>
          intro f k h
          simp only [List.map_cons, updS]
          split
          · rfl
          · rename_i hne
            refine ih f k ?_
            simp only [keys, List.map_cons, List.mem_cons] at h
            rcases h with h | h
            · exact absurd h hne
            · exact h
      rw [hno _ _ _ hk] at hb
      exact (blkno hb).elim
    · rw [updS_other _ _ _ hk] at hb
      exact hst.ini k b hb) I M w a hst
  rw [← hsp] at key
  exact key
end Go.Proofs.YtbbcokckealagaaGreat
namespace Go.Proofs.YtbbcokckealagaaGreat
set_option linter.unusedVariables false
set_option linter.unusedSimpArgs false
open Go.RowKit
def eqF : List FP → List FP → Bool
  | [], [] => true
  | (a, b) :: l, (c, d) :: m => listB a c && (listB b d && eqF l m)
  | _, _ => false
where listB : List Nat → List Nat → Bool
  | [], [] => true
  | x :: l, y :: m => Nat.beq x y && listB l m
  | _, _ => false
theorem eqF.listB_spec : ∀ {l m : List Nat}, eqF.listB l m = true → l = m
  | [], [], _ => rfl
  | [], _ :: _, h => by simp [eqF.listB] at h
  | _ :: _, [], h => by simp [eqF.listB] at h
  | x :: l, y :: m, h => by
    simp only [eqF.listB, Bool.and_eq_true] at h
    rw [Nat.eq_of_beq_eq_true h.1, eqF.listB_spec h.2]
theorem eqF_spec : ∀ {l m : List FP}, eqF l m = true → l = m
  | [], [], _ => rfl
  | [], _ :: _, h => by simp [eqF] at h
  | _ :: _, [], h => by simp [eqF] at h
  | (a, b) :: l, (c, d) :: m, h => by
    simp only [eqF, Bool.and_eq_true] at h
    rw [eqF.listB_spec h.1, eqF.listB_spec h.2.1, eqF_spec h.2.2]
section
variable {P : Program} {g : Ent} {all : List Oper} {G : (Nat → Res) → Prop} {Al : Prop} {QE : Exit → State → Prop}
def RecG (P : Program) (g : Ent) (all : List Oper) (G : (Nat → Res) → Prop) (Al : Prop) (QE : Exit → State → Prop) (sp : Bool) (o : Oper) (s : State) (r : Rec) : Prop :=
  RecX P g.n all o s r ∧ (r.run = true → match sp with | false => OpS P o (evA s.fr) r.ins r.v r.outs | true => OpX P g o (evA s.fr) r.ins r.v r.outs G Al QE)
theorem RecG.congr {sp : Bool} {o : Oper} {s s' : State} {r : Rec} (hf : s'.fr.le s.fr) (hσ : s'.σ = s.σ) (h : RecG P g all G Al QE sp o s' r) : RecG P g all G Al QE sp o s r := by
  obtain ⟨h, k⟩ := h
  refine ⟨⟨wantA_le hf h.w, h.d, h.x, by rw [← hσ]; exact h.i, by rw [← hσ]; exact h.u, by rw [← hσ]; exact h.n, h.f1, h.f2⟩, fun hr => ?_⟩
  have k := k hr
  cases sp with
  | false => exact OpS.le hf k
  | true => exact fun I M w a σ K q1 q2 q3 q4 q5 q6 hK => k I M w a σ K (fun x hx => (evA_le hf x).rp (q1 x hx)) q2 q3 q4 q5 q6 hK
structure Part (P : Program) (g : Ent) (all : List Oper) (G : (Nat → Res) → Prop) (Al : Prop) (QE : Exit → State → Prop) (sp : Nat → Bool) (xs : List Oper) (s : State) (rs : List Rec) (s' : State) : Prop where
  len : rs.length = xs.length
  ok : ∀ j o r, xs[j]? = some o → rs[j]? = some r → RecG P g all G Al QE (sp j) o (stT s xs rs j) r
  fr : s'.fr.le (stT s xs rs xs.length).fr
  σ : s'.σ = (stT s xs rs xs.length).σ
theorem stT_app (xs ys : List Oper) (rs rs' : List Rec) (hl : rs.length = xs.length) : ∀ (s : State) (j : Nat), stT s (xs ++ ys) (rs ++ rs') (xs.length + j) = stT (stT s xs rs xs.length) ys rs' j := by
  induction xs generalizing rs with
  | nil => intro s j; obtain rfl := List.eq_nil_of_length_eq_zero hl; simp [stT]
  | cons o xs ih =>
    intro s j
    cases rs with
    | nil => simp at hl
    | cons r rs =>
      rw [List.cons_append, List.cons_append, List.length_cons, show xs.length + 1 + j = (xs.length + j) + 1 by omega, stT_cons, stT_cons, ih rs (by simpa using hl)]
theorem stT_pre (xs ys : List Oper) (rs rs' : List Rec) (hl : rs.length = xs.length) : ∀ (s : State) (j : Nat), j ≤ xs.length → stT s (xs ++ ys) (rs ++ rs') j = stT s xs rs j := by
  induction xs generalizing rs with
  | nil => intro s j hj; obtain rfl : j = 0 := by simpa using hj
           simp [stT]
  | cons o xs ih =>
    intro s j hj
    cases rs with
    | nil => simp at hl
    | cons r rs =>
      cases j with
      | zero => rfl
      | succ j => rw [List.cons_append, List.cons_append, stT_cons, stT_cons]; exact ih rs (by simpa using hl) _ j (by simpa using hj)
theorem Part.app {sp sp' : Nat → Bool} {xs ys : List Oper} {s s' s'' : State} {rs rs' : List Rec} (h : Part P g all G Al QE sp xs s rs s') (k : Part P g all G Al QE sp' ys s' rs' s'') :
    Part P g all G Al QE (fun j => if j < xs.length then sp j else sp' (j - xs.length)) (xs ++ ys) s (rs ++ rs') s'' := by
  have hc := stT_congr (s := stT s xs rs xs.length) (s' := s') h.fr h.σ ys rs'
  refine ⟨by simp [h.len, k.len], fun j o r ho hr => ?_, ?_, ?_⟩
  · rcases Nat.lt_or_ge j xs.length with hj | hj
    · rw [List.getElem?_append_left hj] at ho
      rw [List.getElem?_append_left (by rw [h.len]; exact hj)] at hr
      rw [stT_pre xs ys rs rs' h.len s j (by omega), if_pos hj]
      exact h.ok j o r ho hr
    · rw [List.getElem?_append_right hj] at ho
      rw [List.getElem?_append_right (by rw [h.len]; exact hj), h.len] at hr
      have e := stT_app xs ys rs rs' h.len s (j - xs.length)
      rw [show xs.length + (j - xs.length) = j by omega] at e
      rw [e, if_neg (by omega)]
      exact (k.ok _ o r ho hr).congr (hc _).1 (hc _).2
  · rw [List.length_append, stT_app xs ys rs rs' h.len s]
    exact Fr.le_trans k.fr (hc _).1
  · rw [List.length_append, stT_app xs ys rs rs' h.len s]
    exact k.σ.trans (hc _).2
theorem Run.part {K : State → Prop} {fs : List FP} {xs : List Oper} {s : State} (h : Run P g.n all (eqF fs) K xs s []) :
    ∃ rs s', Part P g all G Al QE (fun _ => false) xs s rs s' ∧ (rs.map fun r => r.f) = fs ∧ K s' := by
  obtain ⟨rs, h1, h2, h3, s', h4, h5, h6⟩ := h.recs (fun hh => by
    have a := hh []
    have b := hh [([], [])]
    cases fs with
    | nil => simp [eqF] at b
    | cons f fs => obtain ⟨x, y⟩ := f; simp [eqF] at a)
  rw [List.nil_append] at h3
  exact ⟨rs, s', ⟨h1, fun j o r ho hr => ⟨(h2 j o r ho hr).rx, (h2 j o r ho hr).h⟩, h4, h5⟩, (eqF_spec h3).symm, h6⟩
theorem Part.one {o : Oper} {s : State} {r : Rec} (h : RecG P g all G Al QE true o s r) : Part P g all G Al QE (fun _ => true) [o] s [r] ⟨s.fr.put o.dst r.v, updL s.σ r.outs⟩ :=
  ⟨rfl, fun j o' r' ho hr => by
    cases j with
    | zero =>
      obtain rfl : o = o' := by simpa using ho
      obtain rfl : r = r' := by simpa using hr
      exact h
    | succ j => simp at ho, fun t => .same, rfl⟩
def okSp (ops : List Oper) (i c k : Nat) (fs : List FP) : Bool :=
  (List.range fs.length).all fun j => !((fs.getD j ([], [])).2.any (Nat.beq k)) || (Nat.beq j i || (Nat.beq j c || Nat.testBit ((befs ops []).getD j 0) i))
theorem AW.drawS {s : State} {id : Nat} {ops : List Oper} {o : Oper} {Q : Exit → State → Prop} (i m k : Nat) (f1 f2 f3 : List FP) (fo : FP) (G : (Nat → Res) → Prop) (Al : Prop) (hm : P.follows .mixedOrders = true) (ho : ops[i]? = some o) (hchk : okDraw ops (f1 ++ (fo :: (f2 ++ f3))) = true) (hsp : okSp ops i (i + m) k (f1 ++ (fo :: (f2 ++ f3))) = true)
    (hG0 : G (sto s.σ)) (hGk : ∀ σ σ' : Nat → Res, σ k = σ' k → G σ → G σ')
    (h : Run P g.n ops (eqF f1) (fun s1 => ∃ r : Rec, r.f = fo ∧ r.run = true ∧ RecG P g ops G Al Q true o s1 r ∧ Run P g.n ops (eqF f2) (fun s2 => (0 < m → G (sto s2.σ)) ∧ Run P g.n ops (eqF f3) (fun s3 => Al → Q .normal s3) (ops.drop (i + 1 + m)) s2 []) ((ops.drop (i + 1)).take m) ⟨s1.fr.put o.dst r.v, updL s1.σ r.outs⟩ []) (ops.take i) s []) :
    AW P g (.region id ops.toArray true) Q s := by
  intro I M w a hst
  have hil := (List.getElem?_eq_some_iff.1 ho).1
  obtain ⟨rs1, s1, p1, e1, r, er, hrr, hr, h2⟩ := Run.part (G := G) (Al := Al) (QE := Q) h
  obtain ⟨rs2, s2, p2, e2, hG2, h3⟩ := Run.part (G := G) (Al := Al) (QE := Q) h2
  obtain ⟨rs3, s3, p3, e3, hK⟩ := Run.part (G := G) (Al := Al) (QE := Q) h3
  have pp := (p1.app ((Part.one hr).app p2)).app p3
  have hsplit : (ops.take i ++ ([o] ++ (ops.drop (i + 1)).take m)) ++ ops.drop (i + 1 + m) = ops := by
    have h1 : o = ops[i] := by have := (List.getElem?_eq_some_iff.1 ho).2; exact this.symm
    have h2 : ops.drop (i + 1 + m) = (ops.drop (i + 1)).drop m := by simp [List.drop_drop]
    rw [h1, List.append_assoc, List.append_assoc, h2, List.take_append_drop, List.singleton_append, ← List.drop_eq_getElem_cons hil, List.take_append_drop]
  rw [hsplit] at pp
  obtain ⟨rs, hrs⟩ : ∃ rs, rs = (rs1 ++ ([r] ++ rs2)) ++ rs3 := ⟨_, rfl⟩
  rw [← hrs] at pp
  have hf : (rs.map fun r => r.f) = f1 ++ (fo :: (f2 ++ f3)) := by rw [hrs]; simp [e1, e2, e3, er]
  have l1 : (ops.take i).length = i := by rw [List.length_take]; omega
  have l2 : ((ops.take i) ++ ([o] ++ (ops.drop (i + 1)).take m)).length = i + 1 + ((ops.drop (i + 1)).take m).length := by simp [l1]; omega
  have hm' : ((ops.drop (i + 1)).take m).length ≤ m := by rw [List.length_take]; omega
  have hsps : ∀ j, (if j < ((ops.take i) ++ ([o] ++ (ops.drop (i + 1)).take m)).length then if j < (ops.take i).length then false else if j - (ops.take i).length < [o].length then true else false else false) = decide (j = i) := by
    intro j
    rw [l1, l2]
    simp only [List.length_singleton]
    by_cases hj : j = i
    · subst hj
      rw [if_pos (by omega), if_neg (by omega), if_pos (by omega)]; simp
    · simp only [hj, decide_false]
      (repeat' split) <;> first | rfl | omega
  refine drawnX (id := id) (QE := Q) hm rs pp.len (by rw [hf]; exact hchk) i G Al (fun j o' r' ho' hr' => ?_) hG0 (fun j r' hr' => ?_) s3 (fun h => absurd hil (by omega)) (fun r' hr' => ?_) pp.fr pp.σ hK I M w a hst
  · have q := pp.ok j o' r' ho' hr'
    rw [hsps j] at q
    refine ⟨q.1, fun hne hrun => ?_, fun he hrun => ?_⟩
    · have q2 := q.2 hrun
      rw [decide_eq_false hne] at q2
      exact q2
    · have q2 := q.2 hrun
      rw [decide_eq_true he] at q2
      exact q2
  · have hjl : j < rs.length := (List.getElem?_eq_some_iff.1 hr').1
    have hfl : (f1 ++ (fo :: (f2 ++ f3))).length = rs.length := by rw [← hf]; simp
    have hfj : (f1 ++ (fo :: (f2 ++ f3))).getD j ([], []) = r'.f := by rw [← hf, List.getD_eq_getElem?_getD, List.getElem?_map, hr']; rfl
    have hc := (List.all_eq_true.1 hsp) j (List.mem_range.2 (by rw [hfl]; exact hjl))
    rw [hfj] at hc
    have keep : k ∉ keys r'.outs → ∀ σ, G σ → G (updS σ r'.outs) := fun hk σ h => hGk σ _ (updS_other _ _ _ hk).symm h
    by_cases hk : k ∈ keys r'.outs
    · have hol : j < ops.length := by rw [← pp.len]; exact hjl
      have hX := (pp.ok j ops[j] r' (by simp [hol]) hr').1
      have hkf := hX.f2 k hk
      have hany : r'.f.2.any (Nat.beq k) = true := List.any_eq_true.2 ⟨k, hkf, by simp⟩
      rw [hany] at hc
      simp only [Bool.not_true, Bool.false_or, Bool.or_eq_true] at hc
      rcases hc with hc | hc | hc
      · exact .inr (.inl (Nat.eq_of_beq_eq_true hc))
      · have hjc := Nat.eq_of_beq_eq_true hc
        rcases Nat.eq_zero_or_pos m with h0 | h0
        · exact .inr (.inl (by omega))
        · left
          intro σ _
          -- the state behind operation j in the order of the text
          have hst1 : stT s ops rs (j + 1) = ⟨(stT s ops rs j).fr.put ops[j].dst r'.v, updL (stT s ops rs j).σ r'.outs⟩ := by simp [stT, hol, hr']
          have hlm : ((ops.drop (i + 1)).take m).length = m := by rw [List.length_take, List.length_drop]; omega
          have hs2 : s2.σ = (stT s ops rs (j + 1)).σ := by
            have pq := p1.app ((Part.one hr).app p2)
            have e := stT_pre ((ops.take i) ++ ([o] ++ (ops.drop (i + 1)).take m)) (ops.drop (i + 1 + m)) (rs1 ++ ([r] ++ rs2)) rs3 pq.len s (j + 1) (by rw [l2]; omega)
            rw [hsplit, ← hrs] at e
            rw [e, pq.σ, l2, hlm, show i + 1 + m = j + 1 by omega]
          have hval : sto s2.σ k = updS σ r'.outs k := by
            rw [hs2, hst1]
            simp only
            rw [sto_updL _ _ hX.u]
            exact updS_congr fun h => absurd hk h
          exact hGk _ _ hval (hG2 h0)
      · exact .inr (.inr hc)
    · exact .inl (keep hk)
  · have hi1 : rs[i]? = some r := by
      rw [hrs, List.getElem?_append_left (by simp only [List.length_append, List.length_singleton, p1.len, l1]; omega), List.getElem?_append_right (by rw [p1.len, l1]; exact Nat.le_refl _), p1.len, l1, Nat.sub_self]
      rfl
    rw [hi1] at hr'
    obtain rfl : r = r' := by simpa using hr'
    exact hrr
end
end Go.Proofs.YtbbcokckealagaaGreat
namespace Go.Proofs.YtbbcokckealagaaGreat
set_option linter.unusedVariables false
set_option linter.unusedSimpArgs false
open Go.RowKit
section
variable {P : Program} {n : Nat} {ops : List Oper} {chk : List FP → Bool} {K : State → Prop} {rest : List Oper} {o : Oper} {fr : Fr} {σ : List Res} {acc : List FP}
theorem Run.callE {d nx : Nat} {f : FuncId} {as args0 : List AV} {σc σc' σ' : List Res} {r0 r : AV} (S : List Nat) (hc : ACalls P f args0 σc r0 σc') (ho : o.dst = some d) (hw : wantA ops fr o = some true) (hd : Nat.blt d n = true)
    (hen : Enters P o (evA fr) f as) (he : Ends σ nx) (hargs : AV.rens (renC S nx) args0 = as) (hS : nodupB S = true) (hSn : S.all (fun k => Nat.blt k nx) = true) (hl : Nat.beq S.length σc.length = true) (hl' : Nat.ble σc.length σc'.length = true) (hlt : σc'.all (Res.lt σc'.length) = true) (hrl : r0.lt σc'.length = true)
    (hlt0 : σc.all (Res.lt σc.length) = true) (hal : AV.lts σc.length args0 = true) (hr0 : r0.ren (renC S nx) = r) (hi : ∀ q ∈ insOf S (renC S nx) σc, sto σ q.1 = q.2) (hok : okU σ.length (outsOf (renC S nx) 0 σc') = true) (hσ : updL σ (outsOf (renC S nx) 0 σc') = σ')
    {k1 k2 : List Nat} (hk1 : keys (insOf S (renC S nx) σc) = k1) (hk2 : keys (outsOf (renC S nx) 0 σc') = k2) (hnew : k2.all (fun k => S.any (Nat.beq k) || Nat.ble nx k) = true)
    (hr : Run P n ops chk K rest ⟨(d, r) :: fr, σ'⟩ (acc ++ [(k1, k2)])) : Run P n ops chk K (o :: rest) ⟨fr, σ⟩ acc := by
  refine .op (v := r) hw (by rw [ho]; exact hd) (OpS.callG S nx hc hen hargs hS hSn hl hl' hlt hrl hlt0 hal hr0 O O) hi hok (fun k hk => ?_) (by rw [ho, hσ, hk1, hk2]; exact hr)
  rw [hk2] at hk
  have h1 := (List.all_eq_true.1 hnew) k hk
  rw [Bool.or_eq_true] at h1
  rcases h1 with h1 | h1
  · left
    rw [keys_insOf _ _ _ (Nat.eq_of_beq_eq_true hl)]
    obtain ⟨k', hk', he'⟩ := List.any_eq_true.1 h1
    rw [Nat.eq_of_beq_eq_true he']; exact hk'
  · right
    rw [← he.spec]; exact Nat.le_of_ble_eq_true h1
theorem Run.cSE {d nx : Nat} {f : FuncId} {as args0 : List AV} {σc σc' σ' : List Res} {r0 r : AV} {outs : Upds} {k2 : List Nat} (S : List Nat) (hc : ACalls P f args0 σc r0 σc') (ho : o.dst = some d) (hw : wantA ops fr o = some true) (hd : Nat.blt d n = true)
    (hen : Enters P o (evA fr) f as) (he : Ends σ nx) (hargs : RenLs (renC S nx) args0 as) (hi : InsI σ (renC S nx) S σc) (hS : nodupB S = true) (hSn : S.all (fun k => Nat.blt k nx) = true) (hl : Nat.beq S.length σc.length = true) (hl' : Nat.ble σc.length σc'.length = true) (hlt : σc'.all (Res.lt σc'.length) = true) (hrl : r0.lt σc'.length = true)
    (hlt0 : σc.all (Res.lt σc.length) = true) (hal : AV.lts σc.length args0 = true) (hr0 : RenR (renC S nx) r0 r) (hou : OutI (renC S nx) 0 σc' outs) (hok : okU σ.length outs = true) (hpu : Puts σ outs σ') (hk2 : keys outs = k2) (hnew : k2.all (fun k => S.any (Nat.beq k) || Nat.ble nx k) = true)
    (hr : Run P n ops chk K rest ⟨(d, r) :: fr, σ'⟩ (acc ++ [(S, k2)])) : Run P n ops chk K (o :: rest) ⟨fr, σ⟩ acc := by
  have e1 := hou.spec
  subst e1
  exact Run.callE S hc ho hw hd hen he hargs.spec hS hSn hl hl' hlt hrl hlt0 hal hr0.spec hi.spec hok hpu.spec (keys_insOf _ _ _ (Nat.eq_of_beq_eq_true hl)) hk2 hnew hr
theorem Run.cE {d nx : Nat} {f : FuncId} {as args0 : List AV} {σc σc' σ' : List Res} {r0 r : AV} {outs : Upds} {k2 : List Nat} (S : List Nat) (hc : ACalls P f args0 σc r0 σc') (ho : o.dst = some d) (hw : wantA ops fr o = some true) (hd : Nat.blt d n = true) (hen : Enters P o (evA fr) f as) (hS : nodupB S = true) (hl : Nat.beq S.length σc.length = true) (hl' : Nat.ble σc.length σc'.length = true) (hlt : σc'.all (Res.lt σc'.length) = true) (hrl : r0.lt σc'.length = true) (hlt0 : σc.all (Res.lt σc.length) = true) (hal : AV.lts σc.length args0 = true) (hr : Run P n ops chk K rest ⟨(d, r) :: fr, σ'⟩ (acc ++ [(S, k2)])) (he : Ends σ nx := by ((repeat constructor); first | done | fail)) (hargs : RenLs (renC S nx) args0 as := by ((repeat (first|exact RenLs.nil|apply RenLs.cons|exact RenR.v|exact RenR.sl|apply RenR.row|apply RenR.ptr|apply RenR.bsl|apply RenR.agg|apply RenR.tup|apply RenR.fn|exact RenR.ep|exact RenR.any|with_reducible rfl|(focus (simp;done))|rfl));first|done|fail)) (hi : InsI σ (renC S nx) S σc := by ((repeat (first|exact InsI.nil|apply InsI.box O|apply InsI.row O|exact RenLs.nil|apply RenLs.cons|exact RenR.v|exact RenR.sl|apply RenR.row|apply RenR.ptr|apply RenR.bsl|apply RenR.agg|apply RenR.tup|apply RenR.fn|exact RenR.ep|exact RenR.any|with_reducible rfl|(focus (simp;done))|rfl));first|done|fail)) (hSn : S.all (fun k=>Nat.blt k nx) = true := by rfl) (hr0 : RenR (renC S nx) r0 r := by ((repeat (first|exact RenLs.nil|apply RenLs.cons|exact RenR.v|exact RenR.sl|apply RenR.row|apply RenR.ptr|apply RenR.bsl|apply RenR.agg|apply RenR.tup|apply RenR.fn|exact RenR.ep|exact RenR.any|((conv=>lhs;whnf)<;>rfl)|rfl));first|done|fail)) (hou : OutI (renC S nx) 0 σc' outs := by ((repeat (first|exact OutI.nil|apply OutI.box|apply OutI.row|apply OutI.no|exact RenLs.nil|apply RenLs.cons|exact RenR.v|exact RenR.sl|apply RenR.row|apply RenR.ptr|apply RenR.bsl|apply RenR.agg|apply RenR.tup|apply RenR.fn|exact RenR.ep|exact RenR.any|((conv=>lhs;whnf)<;>rfl)|rfl));first|done|fail)) (hok : okU σ.length outs = true := by rfl) (hpu : Puts σ outs σ' := by ((repeat (first|exact Puts.nil|apply Puts.cons|exact PutAt.new|exact PutAt.here|apply PutAt.there));first|done|fail)) (hk2 : keys outs = k2 := by rfl) (hnew : k2.all (fun k=>S.any (Nat.beq k) || Nat.ble nx k) = true := by rfl) : Run P n ops chk K (o :: rest) ⟨fr, σ⟩ acc :=
  Run.cSE S hc ho hw hd hen he hargs hi hS hSn hl hl' hlt hrl hlt0 hal hr0 hou hok hpu hk2 hnew hr
theorem OpP.makeFuncB {ρ : Operand → AV} {f : FuncId} {x : Operand} {c : AV} (ho : o.op = .makeFunc (.func f) #[x] #[]) (hx : ρ x = c) : OpP P o ρ (.fn f [.ep [] 1, c]) := by
  intro I M w a h
  refine ⟨.func (.func f) #[a.eval x] #[], by simp [execOp, ho, Instr.makeFunc], .fnb ?_⟩
  rw [← hx]
  exact h x (by simp [ho, Op.operands])
theorem OpP.mkIface0 {ρ : Operand → AV} {t : TypeId} {x : Operand} {D : TypeDesc} [Und P t D] (ho : o.op = .makeInterface t x) (hx : ρ x = .agg []) (hD : (match D with | .interface _ => false | _ => true) = true) : OpP P o ρ (.v (.iface t (.agg #[]))) := by
  intro I M w a h
  have h1 := h x (by simp [ho, Op.operands])
  rw [hx] at h1
  have hv : a.eval x = .agg #[] := by
    generalize a.eval x = v at h1
    cases h1 with
    | @agg vs _ h0 _ _ =>
      have : vs = #[] := Array.eq_empty_of_size_eq_zero (by simpa using h0)
      rw [this]
  have hu := run_und (P := P) (t := t) w
  refine ⟨.iface t (.agg #[]), ?_, .v _⟩
  cases D <;> first | (cases hD; done) | simp [execOp, ho, Instr.makeInterface, hv, hu]
theorem OpS.bt {ρ : Operand → AV} {v : AV} {outs : Upds} (x : Operand) (hx : x ∈ o.op.operands.toList) (hv : ρ x = bot) : OpS P o ρ [] v outs := by
  intro I M w a σ K Q hop _ _ _ _
  have := hop x hx
  rw [hv] at this
  exact (bot_no this).elim
theorem Run.bt {d : Nat} (x : Operand) (ho : o.dst = some d) (hw : wantA ops fr o = some true) (hd : Nat.blt d n = true) (hx : x ∈ o.op.operands.toList) (hv : evA fr x = bot) (hr : Run P n ops chk K rest ⟨(d, bot) :: fr, σ⟩ (acc ++ [([], [])])) : Run P n ops chk K (o :: rest) ⟨fr, σ⟩ acc :=
  .op (ins := []) (outs := []) (v := bot) hw (by rw [ho]; exact hd) (OpS.bt x hx hv) (fun _ h => by cases h) O (fun _ h => by cases h) (by rw [ho]; exact hr)
theorem Run.bt0 (x : Operand) (ho : o.dst = none) (hw : wantA ops fr o = some true) (hx : x ∈ o.op.operands.toList) (hv : evA fr x = bot) (hr : Run P n ops chk K rest ⟨fr, σ⟩ (acc ++ [([], [])])) : Run P n ops chk K (o :: rest) ⟨fr, σ⟩ acc :=
  .op (ins := []) (outs := []) (v := .any) hw (by rw [ho]; rfl) (OpS.bt x hx hv) (fun _ h => by cases h) O (fun _ h => by cases h) (by rw [ho]; exact hr)
end
section
variable {P : Program} {g : Ent} {ops : List Oper} {o : Oper} {Q : Exit → State → Prop} {s : State}
theorem OpD.ofCall {f : FuncId} {as args0 : List AV} {σc : List Res} {ch : List PanicEntry} {fr : Fr} {σ : List Res} {nx : Nat} (S : List Nat) (hc : ADies P f args0 σc ch) (hen : Enters P o (evA fr) f as) (hargs : RenLs (renC S nx) args0 as) (hi : InsI σ (renC S nx) S σc) (hl : Nat.beq S.length σc.length = true) (hS : nodupB S = true)
    (hSn : S.all (fun k => Nat.blt k nx) = true) (hlt0 : σc.all (Res.lt σc.length) = true) (hal : AV.lts σc.length args0 = true) : ∃ ins, OpD P o (evA fr) ins ch ∧ (∀ q ∈ ins, sto σ q.1 = q.2) ∧ keys ins = S :=
  ⟨_, OpD.callG S nx hc hen hargs.spec hS hSn hl hlt0 hal O, hi.spec, keys_insOf _ _ _ (Nat.eq_of_beq_eq_true hl)⟩
theorem DieAt.call {f : FuncId} {as args0 : List AV} {σc : List Res} {ch : List PanicEntry} {fr : Fr} {σ : List Res} {nx : Nat} (S : List Nat) (hc : ADies P f args0 σc ch) (hen : Enters P o (evA fr) f as) (hw : wantA ops fr o = some true) (hl : Nat.beq S.length σc.length = true) (hS : nodupB S = true) (hlt0 : σc.all (Res.lt σc.length) = true) (hal : AV.lts σc.length args0 = true)
    (hq : Q (.panic ch) ⟨fr, noR σ S⟩) (he : Ends σ nx := by ((repeat constructor); first | done | fail)) (hargs : RenLs (renC S nx) args0 as := by ((repeat (first|exact RenLs.nil|apply RenLs.cons|exact RenR.v|exact RenR.sl|apply RenR.row|apply RenR.ptr|apply RenR.bsl|apply RenR.agg|apply RenR.tup|apply RenR.fn|exact RenR.ep|exact RenR.any|with_reducible rfl|(focus (simp;done))|rfl));first|done|fail)) (hi : InsI σ (renC S nx) S σc := by ((repeat (first|exact InsI.nil|apply InsI.box O|apply InsI.row O|exact RenLs.nil|apply RenLs.cons|exact RenR.v|exact RenR.sl|apply RenR.row|apply RenR.ptr|apply RenR.bsl|apply RenR.agg|apply RenR.tup|apply RenR.fn|exact RenR.ep|exact RenR.any|with_reducible rfl|(focus (simp;done))|rfl));first|done|fail)) (hSn : S.all (fun k=>Nat.blt k nx) = true := by rfl) : DieAt P ops o Q ⟨fr, σ⟩ := by
  obtain ⟨ins, h1, h2, h3⟩ := OpD.ofCall S hc hen hargs hi hl hS hSn hlt0 hal
  exact ⟨ins, ch, hw, h1, h2, by rw [h3]; exact hq⟩
theorem DieAt.panic {fr : Fr} {σ : List Res} {x : Operand} {t : TypeId} {v : Value} (hop : o.op = .panic x) (hw : wantA ops fr o = some true) (hx : evA fr x = .v (.iface t v)) (hq : Q (.panic [{ v := .iface t v, recovered := false }]) ⟨fr, σ⟩) : DieAt P ops o Q ⟨fr, σ⟩ :=
  ⟨[], _, hw, OpD.panic hop hx, (fun _ h => by cases h), hq⟩
theorem RecG.ld1 {fr : Fr} {σ : List Res} {d : Nat} {t : TypeId} {x : Operand} {k off : Nat} {v : AV} {D : TypeDesc} {QE : Exit → State → Prop} [Und P t D] (ho : o.dst = some d) (hop : o.op = .load t x) (hw : wantA ops fr o = some true) (hd : Nat.blt d g.n = true) (hx : evA fr x = .ptr k off) (hD : isAggD D = false) :
    RecG P g ops (fun σ => ∃ cs, σ k = .box cs ∧ cs[off]? = some v) True QE true o ⟨fr, σ⟩ ⟨true, v, [], [], ([], [])⟩ := by
  refine ⟨⟨hw, by rw [ho]; exact hd, (fun h => by cases h), (fun _ h => by cases h), rfl, (fun _ h => by cases h), (fun _ h => by cases h), (fun _ h => by cases h)⟩, fun _ => ?_⟩
  rintro I M w a σ K q1 q2 q3 q4 ⟨cs, g1, g2⟩ c hK
  obtain ⟨cv, hr, hv⟩ := OpR.load1 (P := P) (ρ := evA fr) hop hx hD g2 I M w a σ q1 q2 (fun q hq => by obtain rfl := List.mem_singleton.1 hq; exact g1)
  unfold Oper.wp
  rw [hr]
  exact hK cv I M w trivial hv q2 (Ext.refl _ _ _ _) (fun _ _ => rfl) (fun _ h => by cases h)
theorem RecG.die {fr : Fr} {σ : List Res} {d : Nat} {ch : List PanicEntry} {ins : Upds} {S : List Nat} {QE : Exit → State → Prop} (ho : o.dst = some d) (hw : wantA ops fr o = some true) (hd : Nat.blt d g.n = true) (h : OpD P o (evA fr) ins ch) (hi : ∀ q ∈ ins, sto σ q.1 = q.2) (hk : keys ins = S) (hq : QE (.panic ch) ⟨[], List.replicate g.p .no⟩) :
    RecG P g ops (fun _ => True) False QE true o ⟨fr, σ⟩ ⟨true, bot, ins, [], (S, [])⟩ :=
  ⟨⟨hw, by rw [ho]; exact hd, (fun h => by cases h), hi, rfl, (fun _ h => by cases h), (fun k hk' => by rw [← hk]; exact hk'), (fun _ h => by cases h)⟩, fun _ => h.x hq⟩
end
section
variable {P : Program} {g : Ent} {ops : List Oper} {o : Oper} {Q : Exit → State → Prop}
theorem RecG.dieK {f : FuncId} {as args0 : List AV} {σc : List Res} {ch : List PanicEntry} {fr : Fr} {σ : List Res} {nx d : Nat} {chk : List FP → Bool} {K : State → Prop} {rest : List Oper} (S : List Nat) (hc : ADies P f args0 σc ch) (hen : Enters P o (evA fr) f as) (ho : o.dst = some d) (hw : wantA ops fr o = some true) (hd : Nat.blt d g.n = true)
    (hl : Nat.beq S.length σc.length = true) (hS : nodupB S = true) (hlt0 : σc.all (Res.lt σc.length) = true) (hal : AV.lts σc.length args0 = true) (hq : Q (.panic ch) ⟨[], List.replicate g.p .no⟩) (hr : Run P g.n ops chk K rest ⟨(d, bot) :: fr, σ⟩ [])
    (he : Ends σ nx := by ((repeat constructor); first | done | fail)) (hargs : RenLs (renC S nx) args0 as := by ((repeat (first|exact RenLs.nil|apply RenLs.cons|exact RenR.v|exact RenR.sl|apply RenR.row|apply RenR.ptr|apply RenR.bsl|apply RenR.agg|apply RenR.tup|apply RenR.fn|exact RenR.ep|exact RenR.any|with_reducible rfl|(focus (simp;done))|rfl));first|done|fail)) (hi : InsI σ (renC S nx) S σc := by ((repeat (first|exact InsI.nil|apply InsI.box O|apply InsI.row O|exact RenLs.nil|apply RenLs.cons|exact RenR.v|exact RenR.sl|apply RenR.row|apply RenR.ptr|apply RenR.bsl|apply RenR.agg|apply RenR.tup|apply RenR.fn|exact RenR.ep|exact RenR.any|with_reducible rfl|(focus (simp;done))|rfl));first|done|fail)) (hSn : S.all (fun k=>Nat.blt k nx) = true := by rfl) :
    ∃ r : Rec, r.f = (S, []) ∧ r.run = true ∧ RecG P g ops (fun _ => True) False Q true o ⟨fr, σ⟩ r ∧ Run P g.n ops chk K rest ⟨fr.put o.dst r.v, updL σ r.outs⟩ [] := by
  obtain ⟨ins, h1, h2, h3⟩ := OpD.ofCall S hc hen hargs hi hl hS hSn hlt0 hal
  exact ⟨_, rfl, rfl, RecG.die ho hw hd h1 h2 h3 hq, by rw [ho]; exact hr⟩
end
def AEnds (P : Program) (f : FuncId) (args : List AV) (σ : List Res) (ch : List PanicEntry) : Option (AV × List Res) → Prop
  | some (r, σ') => ACalls P f args σ r σ'
  | none => ADies P f args σ ch
@[reducible] def EndOk (P : Program) (fn : Func) (ch : List PanicEntry) (g : Ent) : Option (AV × List Res) → Exit → State → Prop
  | some (r, σ') => RetOk P fn r σ' g
  | none => DieOk ch
theorem AEnds.of {P : Program} {f : FuncId} {fn : Func} {c : Code} {args : List AV} {σ : List Res} {ch : List PanicEntry} {res : Option (AV × List Res)} (hf : P.funcs[f]? = some fn) (hb : fn.body = some c) (hn' : Nat.ble args.length fn.ntmps = true)
    {N : Nat} (hN : fn.ntmps = N) (h : ∀ (I : Nat → CI) (M : Nat → Nat) (w : World) (own : Nat → Prop), AW P ⟨N, σ.length, I, M, w, own⟩ c (EndOk P fn ch ⟨N, σ.length, I, M, w, own⟩ res) ⟨argFr args 0, σ⟩) : AEnds P f args σ ch res := by
  match res, h with
  | some (r, σ'), h => exact ACalls.of hf hb hn' hN h
  | none, h => exact ADies.of hf hb hn' hN h
end Go.Proofs.YtbbcokckealagaaGreat
