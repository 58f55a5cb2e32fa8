/-
  Functions and calls over values without addresses. Nothing of the dump is used; no condition.
-/
import Derived.Test.YtbbcokckealagaaACo
namespace Go.Proofs.Ytbbcokckealagaa
open Go.RowKit
set_option linter.unusedVariables false
set_option linter.unusedSimpArgs false
/-- what a call of f with these arguments gives, out of what the numbered things hold -/
def ACalls (P : Program) (f : FuncId) (args : List AV) (σ : List Res) (r : AV) (σ' : List Res) : Prop :=
  ∀ (I : Nat → CI) (M : Nat → Nat) (w : World) (cargs : Array Value), cargs.size = args.length → (∀ (i : Nat) (v : Value) (c : AV), cargs[i]? = some v → args[i]? = some c → Rp I M w v c) → Sto I M w (sto σ) → (∀ k, σ.length ≤ k → I k = .no) →
    Calls P f cargs w fun e w' => ∃ cv I' M', e = .returned cv ∧ Rp I' M' w' cv r ∧ Sto I' M' w' (sto σ') ∧ (∀ k, σ'.length ≤ k → I' k = .no) ∧ Ext (fun b => ∃ k, blkOf (I k) (sto σ k) = some b) I I' M M' w w' ∧
      ∀ k b, blkOf (I' k) (sto σ' k) = some b → w.heap.size ≤ b ∨ ∃ k', blkOf (I k') (sto σ k') = some b
/-- the results of a function, out of its frame -/
inductive ResA (P : Program) (s : State) : List ResultVar → List AV → Prop
  | nil : ResA P s [] []
  | tmp {t : Tmp} {v : AV} {l : List ResultVar} {vs : List AV} (h : s.fr.get t = v) (hs : ResA P s l vs) : ResA P s (.tmp t :: l) (v :: vs)
  | cell1 {t : Tmp} {ty : TypeId} {d : TypeDesc} {k off : Nat} {cs : List AV} {c : AV} {l : List ResultVar} {vs : List AV} [Und P ty d] (hd : isAggD d = false) (h : s.fr.get t = .ptr k off) (hk : sto s.σ k = .box cs) (hc : cs[off]? = some c) (hs : ResA P s l vs) : ResA P s (.cell t ty :: l) (c :: vs)
  | cellN {t : Tmp} {ty : TypeId} {d : TypeDesc} {z : Value} {sz bytes k off : Nat} {cs m : List AV} {l : List ResultVar} {vs : List AV} [Und P ty d] [TyI P ty z sz bytes] (hd : isAggD d = true) (h : s.fr.get t = .ptr k off) (hk : sto s.σ k = .box cs) (hl : off + sz ≤ cs.length) (hc : (cs.drop off).take sz = m)
      (hs : ResA P s l vs) : ResA P s (.cell t ty :: l) (.agg m :: vs)
def resV : List AV → AV
  | [v] => v
  | vs => .tup vs
section
variable {P : Program} {s : State} {I : Nat → CI} {M : Nat → Nat} {w : World}
theorem load_box1 {ty : TypeId} {d : TypeDesc} [Und P ty d] (hd : isAggD d = false) (hs : Sto I M w (sto s.σ)) {v : Value} {k off : Nat} {cs : List AV} {c : AV} (h : Rp I M w v (.ptr k off)) (hk : sto s.σ k = .box cs) (hc : cs[off]? = some c) :
    ∃ p u, v = .pointer (some p) ∧ (loadVar ty p).run P w = .ok u w ∧ Rp I M w u c := by
  have h2 := hs.own k
  rw [hk] at h2
  obtain ⟨b, cur, e, e1, e2, e3, e4, _, e5⟩ := h2
  cases h with
  | ptr hI =>
    rw [e1] at hI
    injection hI with hI
    subst hI
    have hlt : off < cur.size := by rw [e4]; exact (List.getElem?_eq_some_iff.1 hc).1
    have hcell : w.cell? ⟨b, off, none⟩ = some cur[off] := by rw [cell_of_row w b off cur e (0, 0) e2]; simp [hlt]
    exact ⟨_, cur[off], rfl, run_loadVar1 hd hcell, e5 off _ c (by simp [hlt]) hc⟩
theorem load_boxN {ty : TypeId} {d : TypeDesc} {z : Value} {sz bytes : Nat} [Und P ty d] [TyI P ty z sz bytes] (hd : isAggD d = true) (hs : Sto I M w (sto s.σ)) {v : Value} {k off : Nat} {cs l : List AV} (h : Rp I M w v (.ptr k off)) (hk : sto s.σ k = .box cs) (hl : off + sz ≤ cs.length) (hc : (cs.drop off).take sz = l) :
    ∃ p u, v = .pointer (some p) ∧ (loadVar ty p).run P w = .ok u w ∧ Rp I M w u (.agg l) := by
  have h2 := hs.own k
  rw [hk] at h2
  obtain ⟨b, cur, e, e1, e2, e3, e4, e6, e5⟩ := h2
  cases h with
  | ptr hI =>
    rw [e1] at hI
    injection hI with hI
    subst hI
    have hcell : ∀ j, j < sz → w.cell? ((⟨b, off, none⟩ : Addr).add j) = some (cur.getD (off + j) undef) := by
      intro j hj
      rw [Addr.add_lit, cell_of_row w b (off + j) cur e (0, 0) e2]
      simp [show off + j < cur.size by omega]
    refine ⟨_, _, rfl, run_loadVarN hd _ hcell, ?_⟩
    subst hc
    refine .agg (by simp; omega) (fun i v hv => ?_) fun i v c hv hc => ?_
    · have hi : i < sz := by have := (Array.getElem?_eq_some_iff.1 hv).1; simpa using this
      have : cur.getD (off + i) undef = v := by simpa [hi] using hv
      exact e6 (off + i) v (by rw [← this]; simp [show off + i < cur.size by omega])
    · have hi : i < sz := by have := (Array.getElem?_eq_some_iff.1 hv).1; simpa using this
      have : cur.getD (off + i) undef = v := by simpa [hi] using hv
      exact e5 (off + i) v c (by rw [← this]; simp [show off + i < cur.size by omega]) (by rw [List.getElem?_take, if_pos hi, List.getElem?_drop] at hc; exact hc)
def resOne (tmps : Array Value) : ResultVar → Sem Value
  | .tmp t => pure (tmps.getD t undef)
  | .cell a t => do loadVar t (← asAddr (tmps.getD a undef))
theorem ResA.run {a : Act} {n : Nat} {l : List ResultVar} {vs : List AV} (h : ResA P s l vs) (hf : FrOk I M w n a s.fr) (hs : Sto I M w (sto s.σ)) :
    ∃ us : List Value, (l.mapM (resOne a.tmps)).run P w = .ok us w ∧ us.length = vs.length ∧ ∀ (i : Nat) (v : Value) (c : AV), us[i]? = some v → vs[i]? = some c → Rp I M w v c := by
  have step : ∀ {x : ResultVar} {l : List ResultVar} {us : List Value} {u : Value} {c : AV} {vs : List AV}, (resOne a.tmps x).run P w = .ok u w → Rp I M w u c → (l.mapM (resOne a.tmps)).run P w = .ok us w → us.length = vs.length → (∀ (i : Nat) (v : Value) (c : AV), us[i]? = some v → vs[i]? = some c → Rp I M w v c) →
      ∃ us : List Value, ((x :: l).mapM (resOne a.tmps)).run P w = .ok us w ∧ us.length = (c :: vs).length ∧ ∀ (i : Nat) (v : Value) (c' : AV), us[i]? = some v → (c :: vs)[i]? = some c' → Rp I M w v c' := by
    intro x l us u c vs h1 h2 h3 h4 h5
    refine ⟨u :: us, ?_, by simp [h4], fun i v c' hv hc => ?_⟩
    · simp [List.mapM_cons, h1, h3]
    · cases i with
      | zero =>
        obtain rfl : u = v := by simpa using hv
        obtain rfl : c = c' := by simpa using hc
        exact h2
      | succ i => exact h5 i v c' (by simpa using hv) (by simpa using hc)
  induction h with
  | nil => exact ⟨[], by simp, rfl, fun i v c h => by simp at h⟩
  | tmp h _ ih =>
    obtain ⟨us, i1, i2, i3⟩ := ih
    subst h
    exact step (by simp [resOne]) (hf.2 _) i1 i2 i3
  | @cell1 t ty d k off cs c l vs _ hd h hk hc _ ih =>
    obtain ⟨us, i1, i2, i3⟩ := ih
    have h0 := hf.2 t
    rw [h] at h0
    obtain ⟨p, u, e1, e2, e3⟩ := load_box1 (P := P) (s := s) (ty := ty) hd hs h0 hk hc
    refine step (u := u) ?_ e3 i1 i2 i3
    simp only [resOne, e1]
    simp [asAddr, e2]
  | @cellN t ty d z sz bytes k off cs m l vs _ _ hd h hk hl hc _ ih =>
    obtain ⟨us, i1, i2, i3⟩ := ih
    have h0 := hf.2 t
    rw [h] at h0
    obtain ⟨p, u, e1, e2, e3⟩ := load_boxN (P := P) (s := s) (ty := ty) hd hs h0 hk hl hc
    refine step (u := u) ?_ e3 i1 i2 i3
    simp only [resOne, e1]
    simp [asAddr, e2]
def resVal : List Value → Value
  | [u] => u
  | us => .tuple us.toArray
theorem run_results {fn : Func} {a : Act} {us : List Value} (h : (fn.results.toList.mapM (resOne a.tmps)).run P w = .ok us w) : (results fn a.tmps).run P w = .ok (resVal us) w := by
  have h1 : (results fn a.tmps) = (do let vs ← fn.results.mapM (resOne a.tmps); pure (if h : vs.size = 1 then vs[0] else .tuple vs)) := rfl
  rw [h1, Array.mapM_eq_mapM_toList]
  simp only [map_eq_pure_bind, bind_assoc, pure_bind, Sem.run_bind, h, Result.andThen_ok, Sem.run_pure]
  match us with
  | [] => rfl
  | [u] => rfl
  | u :: v :: r => simp [resVal]
end
def argFr : List AV → Nat → Fr
  | [], _ => []
  | v :: r, i => (i, v) :: argFr r (i + 1)
theorem argFr_get : ∀ (l : List AV) (k t : Nat), (argFr l k).get t = if k ≤ t then (l[t - k]?).getD .any else .any := by
  intro l
  induction l with
  | nil => intro k t; simp [argFr, Fr.get]
  | cons v r ih =>
    intro k t
    simp only [argFr, Fr.get]
    cases hb : Nat.beq t k with
    | true =>
      obtain rfl := Nat.eq_of_beq_eq_true hb
      simp
    | false =>
      have hne : t ≠ k := fun e => by subst e; simp at hb
      simp only [ih]
      by_cases h : k ≤ t
      · rw [if_pos (by omega), if_pos h, show t - k = (t - (k + 1)) + 1 by omega, List.getElem?_cons_succ]
      · rw [if_neg (by omega), if_neg h]
/-- how a function ends -/
def RetOk (P : Program) (fn : Func) (r : AV) (σ' : List Res) (g : Ent) : Exit → State → Prop
  | .ret, s | .normal, s => ∃ vs S, ResA P s fn.results.toList vs ∧ nodupB S = true ∧ fixB g.p S = true ∧ g.p ≤ S.length ∧ Cv (sto s.σ) (resV vs) (r.ren (renL S)) ∧ r.lt σ'.length = true ∧ Crs (sto s.σ) (renL S) σ'.length S σ'
  | _, _ => False
theorem ACalls.of {P : Program} {f : FuncId} {fn : Func} {c : Code} {args : List AV} {σ σ' : List Res} {r : AV} (hf : P.funcs[f]? = some fn) (hb : fn.body = some c) (hn' : Nat.ble args.length fn.ntmps = true)
    {N : Nat} (hN : fn.ntmps = N) (h : ∀ (I : Nat → CI) (M : Nat → Nat) (w : World) (own : Nat → Prop), AW P ⟨N, σ.length, I, M, w, own⟩ c (RetOk P fn r σ' ⟨N, σ.length, I, M, w, own⟩) ⟨argFr args 0, σ⟩) : ACalls P f args σ r σ' := by
  have hn := Nat.le_of_ble_eq_true hn'
  intro I M w cargs ha hav hs hno
  refine calls_of_wp hf hb ?_
  let g : Ent := ⟨fn.ntmps, σ.length, I, M, w, fun b => ∃ k, blkOf (I k) (sto σ k) = some b⟩
  subst hN
  refine wp_mono (h I M w g.own I M w _ ⟨⟨by simp [ha, g]; omega, fun t => ?_⟩, rfl, hs, Nat.le_refl _, hno, Ext.refl _ _ _ _, fun k b hb => .inr ⟨k, hb⟩, hno⟩) fun e a' w' ⟨I', M', s', h1, h2⟩ => ?_
  · rw [argFr_get]
    simp only [Nat.zero_le, if_true, Nat.sub_zero]
    cases hc : args[t]? with
    | none => exact .any _
    | some v =>
      have ht : t < cargs.size := by rw [ha]; exact (List.getElem?_eq_some_iff.1 hc).1
      refine hav t _ v ?_ hc
      have h2 : (cargs ++ Array.replicate (fn.ntmps - cargs.size) undef)[t]? = some cargs[t] := by rw [Array.getElem?_append_left ht]; simp [ht]
      have h3 : (cargs ++ Array.replicate (fn.ntmps - cargs.size) undef).getD t undef = cargs[t] := by simp [Array.getD_eq_getD_getElem?, h2]
      rw [h3]; simp [ht]
  · have fin : RetOk P fn r σ' g .ret s' → a'.defers = [] ∧ ∃ v, (results fn a'.tmps).run P w' = .ok v w' ∧ ∃ cv I' M', Ending.returned v = .returned cv ∧ Rp I' M' w' cv r ∧ Sto I' M' w' (sto σ') ∧ (∀ k, σ'.length ≤ k → I' k = .no) ∧ Ext (fun b => ∃ k, blkOf (I k) (sto σ k) = some b) I I' M M' w w' ∧
        ∀ k b, blkOf (I' k) (sto σ' k) = some b → w.heap.size ≤ b ∨ ∃ k', blkOf (I k') (sto σ k') = some b := by
      rintro ⟨vs, S, q1, q2, q3, q4, q5, q6, q7⟩
      obtain ⟨us, u1, u2, u3⟩ := q1.run h1.fr h1.st
      refine ⟨h1.df, _, run_results u1, ?_⟩
      have hv : Rp I' M' w' (resVal us) (resV vs) := by
        match us, vs, u2, u3 with
        | [], [], _, _ => exact .tup rfl (fun i v c h => by simp at h)
        | [u], [v], _, u3 => exact u3 0 u v rfl rfl
        | u :: u' :: r, v :: v' :: r', u2, u3 => exact .tup (by simpa using u2) (fun i x c hx hc => u3 i x c (by simpa using hx) hc)
      obtain ⟨c1, c2, c3⟩ := h1.st.conv q2 q7
      have hSl := q7.get.1
      refine ⟨_, _, M', rfl, c2 _ _ q6 (q5 I' M' w' _ h1.st hv), c1, fun k hk => by simp [show ¬ k < σ'.length by omega], ⟨h1.ext.os, h1.ext.tape, h1.ext.output, fun k => ?_, h1.ext.evo, h1.ext.oth⟩, fun k b hb => h1.ini _ _ (c3 k b hb).2⟩
      rcases Nat.lt_or_ge k σ.length with hk | hk
      · simp only [fixB, List.all_eq_true] at q3
        have h1' : renL S k = k := Nat.eq_of_beq_eq_true (q3 k (List.mem_range.2 hk))
        have : k < σ'.length := by have : g.p = σ.length := rfl; omega
        simp only [this, if_true, h1']
        exact h1.ext.le k
      · rw [hno k hk]; trivial
    cases e with
    | ret => exact fin h2
    | normal => exact fin h2
    | _ => exact h2.elim
/-- f has a body, and is no function of the machine's own -/
class CallI (P : Program) (f : FuncId) : Prop where
  eq : (P.funcs[f]?).map (fun fn => (fn.name == "runtime.NumGoroutine", fn.body.isNone)) = some (false, false)
def renC (S : List Nat) (nx : Nat) (i : Nat) : Nat := match Nat.blt i S.length with | true => S.getD i 0 | false => nx + (i - S.length)
def insOf (S : List Nat) (ρ : Nat → Nat) : List Res → Upds
  | [] => []
  | r :: rs => match S with
    | [] => []
    | k :: S => (k, match r with | .box cs => .box (AV.rens ρ cs) | r => r) :: insOf S ρ rs
def outsOf (ρ : Nat → Nat) : Nat → List Res → Upds
  | _, [] => []
  | i, r :: rs => (ρ i, match r with | .box cs => .box (AV.rens ρ cs) | r => r) :: outsOf ρ (i + 1) rs
def Res.ren (ρ : Nat → Nat) : Res → Res
  | .box cs => .box (AV.rens ρ cs)
  | r => r
theorem blk_ren (ρ : Nat → Nat) (ci : CI) (r : Res) : blkOf ci (r.ren ρ) = blkOf ci r := by
  cases r <;> cases ci <;> rfl
theorem insOf_get (ρ : Nat → Nat) : ∀ (S : List Nat) (rs : List Res), S.length = rs.length → ∀ (i : Nat) (r : Res), rs[i]? = some r → (S.getD i 0, r.ren ρ) ∈ insOf S ρ rs := by
  intro S
  induction S with
  | nil => intro rs h i r hr; cases rs <;> simp at h; simp at hr
  | cons k S ih =>
    intro rs h i r hr
    cases rs with
    | nil => simp at h
    | cons q rs =>
      cases i with
      | zero =>
        obtain rfl : q = r := by simpa using hr
        simp only [insOf, List.getD_cons_zero]
        cases q <;> exact List.mem_cons_self ..
      | succ i => exact List.mem_cons_of_mem _ (ih rs (by simpa using h) i r (by simpa using hr))
theorem keys_insOf (ρ : Nat → Nat) : ∀ (S : List Nat) (rs : List Res), S.length = rs.length → keys (insOf S ρ rs) = S := by
  intro S
  induction S with
  | nil => intro rs h; cases rs <;> simp at h; rfl
  | cons k S ih =>
    intro rs h
    cases rs with
    | nil => simp at h
    | cons q rs => simp only [insOf, keys, List.map_cons]; rw [← keys, ih rs (by simpa using h)]
theorem outsOf_key (ρ : Nat → Nat) : ∀ (rs : List Res) (i k : Nat), k ∈ keys (outsOf ρ i rs) ↔ ∃ j, j < rs.length ∧ k = ρ (i + j) := by
  intro rs
  induction rs with
  | nil => intro i k; simp [outsOf, keys]
  | cons r rs ih =>
    intro i k
    simp only [outsOf, keys, List.map_cons, List.mem_cons]
    rw [← keys, ih]
    constructor
    · rintro (rfl | ⟨j, hj, rfl⟩)
      · exact ⟨0, by simp, rfl⟩
      · exact ⟨j + 1, by simp; omega, by rw [show i + (j + 1) = i + 1 + j by omega]⟩
    · rintro ⟨j, hj, rfl⟩
      cases j with
      | zero => left; rfl
      | succ j => right; exact ⟨j, by simpa using hj, by rw [show i + (j + 1) = i + 1 + j by omega]⟩
theorem outsOf_get {σ : Nat → Res} (ρ : Nat → Nat) : ∀ (rs : List Res) (i : Nat), (∀ a b, a < i + rs.length → b < i + rs.length → ρ a = ρ b → a = b) → ∀ (j : Nat) (r : Res), rs[j]? = some r → updS σ (outsOf ρ i rs) (ρ (i + j)) = r.ren ρ := by
  intro rs
  induction rs with
  | nil => intro i _ j r h; simp at h
  | cons q rs ih =>
    intro i hinj j r hr
    simp only [outsOf, updS]
    cases j with
    | zero =>
      obtain rfl : q = r := by simpa using hr
      simp only [Nat.add_zero, if_true]
      cases q <;> rfl
    | succ j =>
      have hj : j < rs.length := by have := (List.getElem?_eq_some_iff.1 hr).1; simpa using this
      rw [if_neg (fun e => by have := hinj _ _ (by simp; omega) (by simp) e; omega), show i + (j + 1) = i + 1 + j by omega]
      exact ih (i + 1) (fun a b ha hb => hinj a b (by simp only [List.length_cons]; omega) (by simp only [List.length_cons]; omega)) j r (by simpa using hr)
/-- a call, out of what the callee gives; S: the numbered things that it is given, nx: the first number for new ones -/
theorem OpS.call {P : Program} {o : Oper} {ρ : Operand → AV} {x : Operand} {ops : Array Operand} {ts : Array TypeId} {f : FuncId} {caps args0 : List AV} {σc σc' : List Res} {r0 r : AV} {ins outs : Upds} [CallI P f] (S : List Nat) (nx : Nat) (hc : ACalls P f args0 σc r0 σc')
    (ho : o.op = .call { callee := .value x, args := ops, argTypes := ts }) (hx : ρ x = .fn f caps) (hargs : AV.rens (renC S nx) args0 = ops.toList.map ρ ++ caps) (hnd : nodupB S = true) (hnx : S.all (fun k => Nat.blt k nx) = true) (hl : Nat.beq S.length σc.length = true) (hl' : Nat.ble σc.length σc'.length = true)
    (hlt : σc'.all (Res.lt σc'.length) = true) (hrl : r0.lt σc'.length = true) (hlt0 : σc.all (Res.lt σc.length) = true) (hal : AV.lts σc.length args0 = true) (hr : r0.ren (renC S nx) = r) (hins : insOf S (renC S nx) σc = ins) (houts : outsOf (renC S nx) 0 σc' = outs) : OpS P o ρ ins r outs := by
  intro I M w a σ K Q hop hs hi hnew hK
  subst hr hins houts
  have hl := Nat.eq_of_beq_eq_true hl
  have hl' := Nat.le_of_ble_eq_true hl'
  have hinj : ∀ a b, renC S nx a = renC S nx b → a = b := by
    intro a b h
    have hS : ∀ i, i < S.length → S.getD i 0 < nx := by
      intro i hi
      have := (List.all_eq_true.1 hnx) (S.getD i 0) (by rw [List.getD_eq_getElem?_getD, List.getElem?_eq_getElem hi]; exact List.getElem_mem _)
      rwa [Nat.blt_eq] at this
    have bl : ∀ i, (i < S.length ∧ renC S nx i = S.getD i 0) ∨ (S.length ≤ i ∧ renC S nx i = nx + (i - S.length)) := by
      intro i
      unfold renC
      cases hb : Nat.blt i S.length with
      | true => left; rw [Nat.blt_eq] at hb; exact ⟨hb, rfl⟩
      | false =>
        right
        have : ¬ i < S.length := by rw [← Nat.blt_eq, hb]; simp
        exact ⟨by omega, rfl⟩
    rcases bl a with ⟨a1, a2⟩ | ⟨a1, a2⟩ <;> rcases bl b with ⟨b1, b2⟩ | ⟨b1, b2⟩
    · rw [a2, b2] at h
      rcases Nat.lt_trichotomy a b with q | q | q
      · exact absurd h (nodupB_spec hnd a b q b1)
      · exact q
      · exact absurd h.symm (nodupB_spec hnd b a q a1)
    · have := hS a a1; rw [a2, b2] at h; omega
    · have := hS b b1; rw [a2, b2] at h; omega
    · rw [a2, b2] at h; omega
  have rlow : ∀ i, i < σc.length → renC S nx i = S.getD i 0 := by
    intro i hi
    have : Nat.blt i S.length = true := by rw [Nat.blt_eq]; omega
    simp [renC, this]
  have hkeys : keys (insOf S (renC S nx) σc) = S := keys_insOf _ _ _ hl
  -- what the callee is given
  let Ic : Nat → CI := fun i => if i < σc.length then I (renC S nx i) else .no
  have hsto : ∀ i r, σc[i]? = some r → σ (renC S nx i) = r.ren (renC S nx) := by
    intro i r hr
    have hlt := (List.getElem?_eq_some_iff.1 hr).1
    have := hi _ (insOf_get (renC S nx) S σc hl i r hr)
    rw [rlow i hlt]; exact this
  have hblk : ∀ i b, blkOf (Ic i) (sto σc i) = some b → i < σc.length ∧ blkOf (I (renC S nx i)) (σ (renC S nx i)) = some b := by
    intro i b hb
    rcases Nat.lt_or_ge i σc.length with h | h
    · have h1 : sto σc i = σc[i] := by simp [sto, List.getD, h]
      rw [h1] at hb
      simp only [Ic, if_pos h] at hb
      rw [hsto i σc[i] (by simp [h]), blk_ren]
      exact ⟨h, hb⟩
    · simp only [Ic, if_neg (show ¬ i < σc.length by omega)] at hb
      cases hq : sto σc i <;> rw [hq] at hb <;> cases hb
  have rpc : ∀ v p, p.lt σc.length = true → Rp I M w v (p.ren (renC S nx)) → Rp Ic M w v p := fun v p hp h =>
    Rp.agree (I := fun i => I (renC S nx i)) (n := σc.length) (fun k hk => by simp [Ic, hk]) (Rp.unname h p rfl) hp
  have hsc : Sto Ic M w (sto σc) := by
    refine ⟨fun k => ?_, fun k k' b hne hb hb' => ?_, hs.top, hs.tab⟩
    · rcases Nat.lt_or_ge k σc.length with h | h
      · have h1 : sto σc k = σc[k] := by simp [sto, List.getD, h]
        have hI : Ic k = I (renC S nx k) := by simp [Ic, h]
        have ho := hs.own (renC S nx k)
        rw [hsto k σc[k] (by simp [h])] at ho
        rw [h1, hI]
        have hlt1 := (List.all_eq_true.1 hlt0) σc[k] (List.getElem_mem _)
        generalize σc[k] = q at ho hlt1
        cases q with
        | no => trivial
        | row sz xs => exact ho
        | mby l => exact ho
        | box cs =>
          obtain ⟨b, cur, e, e1, e2, e3, e4, e5, e6⟩ := ho
          refine ⟨b, cur, e, e1, e2, e3, by rw [e4, AV.rens_map]; simp, e5, fun i v c hv hc => ?_⟩
          exact rpc v c (AV.lts_get hlt1 hc) (e6 i v _ hv (by rw [AV.rens_map, List.getElem?_map, hc]; rfl))
      · have : sto σc k = .no := by simp [sto, List.getElem?_eq_none h]
        rw [this]; trivial
    · obtain ⟨a1, a2⟩ := hblk k b hb
      obtain ⟨b1, b2⟩ := hblk k' b hb'
      exact hs.dis _ _ b (fun e => hne (hinj _ _ e)) a2 b2
  have hxv := hop x (by simp [ho, Op.operands, Call.operands])
  rw [hx] at hxv
  generalize hxe : a.eval x = xv at hxv
  cases hxv with
  | @fn _ vs _ hvs hcs =>
  have hcall := hc Ic M w (ops.map a.eval ++ vs) (by
      have := congrArg List.length hargs
      rw [AV.rens_map] at this
      simp at this ⊢; omega) (fun i v c hv hc' => by
      refine rpc v c (AV.lts_get hal hc') ?_
      have h1 : (AV.rens (renC S nx) args0)[i]? = some (c.ren (renC S nx)) := by rw [AV.rens_map, List.getElem?_map, hc']; rfl
      rw [hargs] at h1
      rcases Nat.lt_or_ge i ops.size with h | h
      · rw [Array.getElem?_append_left (by simpa using h), Array.getElem?_map] at hv
        rw [List.getElem?_append_left (by simpa using h), List.getElem?_map] at h1
        obtain ⟨y, hy, rfl⟩ := Option.map_eq_some_iff.1 hv
        obtain ⟨y', hy', h2⟩ := Option.map_eq_some_iff.1 h1
        rw [Array.getElem?_toList, hy] at hy'
        injection hy' with hy'
        subst hy'
        rw [← h2]
        refine hop y ?_
        simp only [ho, Op.operands, Call.operands, Array.toList_append, List.mem_append]
        exact .inr (by simpa using Array.mem_of_getElem? hy)
      · rw [Array.getElem?_append_right (by simpa using h)] at hv
        rw [List.getElem?_append_right (by simpa using h)] at h1
        exact hcs _ v _ (by simpa using hv) (by simpa using h1)) hsc (fun k hk => by simp [Ic, show ¬ k < σc.length by omega])
  have hfn : ∃ fn, P.funcs[f]? = some fn ∧ (fn.name == "runtime.NumGoroutine") = false ∧ fn.body.isNone = false := by
    have := CallI.eq (P := P) (f := f)
    cases hq : P.funcs[f]? with
    | none => rw [hq] at this; cases this
    | some fn =>
      rw [hq] at this
      simp only [Option.map_some, Option.some.injEq, Prod.mk.injEq] at this
      exact ⟨fn, rfl, this⟩
  obtain ⟨fn, hf1, hf2, hf3⟩ := hfn
  have hexec : (execOp a.eval o).run P w = .ok (.enter f (ops.map a.eval ++ vs)) w := by
    have hf3' : ¬ fn.body = none := by intro h; rw [h] at hf3; cases hf3
    have hf2' : ¬ fn.name = "runtime.NumGoroutine" := by intro h; rw [h] at hf2; simp at hf2
    simp [execOp, ho, resolve, hxe, Deferred.ofValue, invoke, callFunc, hf1, hf2', hf3']
  unfold Oper.wp
  rw [hexec, Oper.upon_enter]
  refine Calls.mono hcall ?_
  rintro e w' ⟨cv, I', M', rfl, g1, g2, g3, g4, g5⟩
  simp only
  -- the callee's numbers as ours
  let Iw : Nat → CI := fun k => if h : ∃ i, i < σc'.length ∧ k = renC S nx i then I' (Classical.choose h) else I k
  have hIw : ∀ i, i < σc'.length → Iw (renC S nx i) = I' i := by
    intro i hi
    have hex : ∃ j, j < σc'.length ∧ renC S nx i = renC S nx j := ⟨i, hi, rfl⟩
    simp only [Iw, dif_pos hex]
    rw [← hinj _ _ (Classical.choose_spec hex).2]
  have hIn : ∀ k, k ∉ keys (outsOf (renC S nx) 0 σc') → Iw k = I k := by
    intro k hk
    have hne : ¬ ∃ i, i < σc'.length ∧ k = renC S nx i := fun ⟨i, hi, he⟩ => hk ((outsOf_key _ _ _ _).2 ⟨i, hi, by rw [Nat.zero_add]; exact he⟩)
    simp only [Iw, dif_neg hne]
  have hle : ∀ k, (I k).le (Iw k) := by
    intro k
    by_cases hk : k ∈ keys (outsOf (renC S nx) 0 σc')
    · obtain ⟨i, hi, rfl⟩ := (outsOf_key _ _ _ _).1 hk
      rw [Nat.zero_add, hIw i hi]
      rcases Nat.lt_or_ge i σc.length with h | h
      · have := g4.le i
        simpa only [Ic, if_pos h] using this
      · rcases hnew _ hk with q | ⟨_, q⟩
        · rw [hkeys, Nat.zero_add] at q
          have := (List.all_eq_true.1 hnx) _ q
          rw [Nat.blt_eq] at this
          have : Nat.blt i S.length = false := by
            cases hb : Nat.blt i S.length with
            | false => rfl
            | true => rw [Nat.blt_eq] at hb; omega
          simp only [renC, this] at *
          omega
        · rw [Nat.zero_add] at q; rw [q]; trivial
    · rw [hIn k hk]; exact CI.le_refl _
  have rpw : ∀ v p, p.lt σc'.length = true → Rp I' M' w' v p → Rp Iw M' w' v (p.ren (renC S nx)) := fun v p hp h =>
    Rp.rename (Rp.agree (I' := fun i => Iw (renC S nx i)) (n := σc'.length) (fun k hk => hIw k hk) h hp)
  have own_in : ∀ b, (∃ k, blkOf (Ic k) (sto σc k) = some b) → ∃ k ∈ S, blkOf (I k) (σ k) = some b := by
    rintro b ⟨k, hb⟩
    obtain ⟨h1, h2⟩ := hblk k b hb
    rw [rlow k h1] at h2
    exact ⟨S.getD k 0, by rw [List.getD_eq_getElem?_getD, List.getElem?_eq_getElem (by omega)]; exact List.getElem_mem _, h2⟩
  have hext : Ext (fun b => ∃ k ∈ S, blkOf (I k) (σ k) = some b) I Iw M M' w w' := by
    have := g4.wide (own' := fun b => ∃ k ∈ S, blkOf (I k) (σ k) = some b) (fun b _ h => own_in b h)
    exact ⟨this.os, this.tape, this.output, hle, this.evo, this.oth⟩
  have hupd : ∀ i r, σc'[i]? = some r → updS σ (outsOf (renC S nx) 0 σc') (renC S nx i) = r.ren (renC S nx) := by
    intro i r hr
    have := outsOf_get (σ := σ) (renC S nx) σc' 0 (fun a b _ _ h => hinj a b h) i r hr
    rwa [Nat.zero_add] at this
  have hbw : ∀ i b, i < σc'.length → blkOf (Iw (renC S nx i)) (updS σ (outsOf (renC S nx) 0 σc') (renC S nx i)) = some b → w.heap.size ≤ b ∨ ∃ k ∈ S, blkOf (I k) (σ k) = some b := by
    intro i b hi hb
    rw [hIw i hi, hupd i σc'[i] (by simp [hi]), blk_ren] at hb
    rcases g5 i b (by simpa [sto, List.getD, hi] using hb) with q | q
    · exact .inl q
    · exact .inr (own_in b q)
  refine hK cv Iw M' w' (rpw cv r0 hrl g1) ?_ (by rw [hkeys]; exact hext) hIn fun k hk b hb => ?_
  · refine hs.upd (keys (outsOf (renC S nx) 0 σc')) hext (fun b ⟨k, hk, hb⟩ => ⟨k, (outsOf_key _ _ _ _).2 ?_, hb⟩) hIn (fun k hk => updS_other _ _ _ hk) (fun k hk => ?_) (fun k hk b hb => ?_) (fun k hk k' hk' b hne hb hb' => ?_) g2.top
    · obtain ⟨i, hi, rfl⟩ := List.getElem_of_mem hk
      refine ⟨i, by omega, ?_⟩
      rw [Nat.zero_add, rlow i (by omega)]
      simp [List.getD, hi]
    · obtain ⟨i, hi, rfl⟩ := (outsOf_key _ _ _ _).1 hk
      rw [Nat.zero_add, hIw i hi, hupd i σc'[i] (by simp [hi])]
      have ho := g2.own i
      have h1 : sto σc' i = σc'[i] := by simp [sto, List.getD, hi]
      rw [h1] at ho
      have hlt1 := (List.all_eq_true.1 hlt) σc'[i] (List.getElem_mem _)
      generalize σc'[i] = q at ho hlt1
      cases q with
      | no => trivial
      | row sz xs => exact ho
      | mby l => exact ho
      | box cs =>
        obtain ⟨b, cur, e, e1, e2, e3, e4, e5, e6⟩ := ho
        refine ⟨b, cur, e, e1, e2, e3, by rw [e4, AV.rens_map]; simp, e5, fun j v c hv hc => ?_⟩
        rw [AV.rens_map, List.getElem?_map] at hc
        obtain ⟨c0, hc0, rfl⟩ := Option.map_eq_some_iff.1 hc
        exact rpw v c0 (AV.lts_get hlt1 hc0) (e6 j v c0 hv hc0)
    · obtain ⟨i, hi, rfl⟩ := (outsOf_key _ _ _ _).1 hk
      rw [Nat.zero_add] at hb
      rcases hbw i b hi hb with q | ⟨k, hk, q⟩
      · exact .inl q
      · right
        obtain ⟨j, hj, rfl⟩ := List.getElem_of_mem hk
        refine ⟨_, (outsOf_key _ _ _ _).2 ⟨j, by omega, ?_⟩, q⟩
        rw [Nat.zero_add, rlow j (by omega)]
        simp [List.getD, hj]
    · obtain ⟨i, hi, rfl⟩ := (outsOf_key _ _ _ _).1 hk
      obtain ⟨j, hj, rfl⟩ := (outsOf_key _ _ _ _).1 hk'
      rw [Nat.zero_add] at hb hb' hne
      rw [hIw i hi, hupd i σc'[i] (by simp [hi]), blk_ren] at hb
      rw [hIw j hj, hupd j σc'[j] (by simp [hj]), blk_ren] at hb'
      exact g2.dis i j b (fun e => hne (by rw [e, Nat.zero_add])) (by simpa [sto, List.getD, hi] using hb) (by simpa [sto, List.getD, hj] using hb')
  · obtain ⟨i, hi, rfl⟩ := (outsOf_key _ _ _ _).1 hk
    rw [Nat.zero_add] at hb
    rw [hkeys]
    exact hbw i b hi hb
end Go.Proofs.Ytbbcokckealagaa
