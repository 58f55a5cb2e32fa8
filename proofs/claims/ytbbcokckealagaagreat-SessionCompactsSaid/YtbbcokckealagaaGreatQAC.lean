/-
  Functions and calls over values without addresses. Nothing of the dump is used; no condition.
-/
import Derived.Test.YtbbcokckealagaaGreatQAB
import Derived.IntWalk
import Derived.Laws.IdiomStrings
import Derived.WalkSpells
namespace Go.Proofs.YtbbcokckealagaaGreat
set_option linter.unusedVariables false
set_option linter.unusedSimpArgs false
open Go.RowKit
def ACalls (P : Program) (f : FuncId) (args : List AV) (σ : List Res) (r : AV) (σ' : List Res) : Prop :=
  ∀ (I : Nat → CI) (M : Nat → Nat) (w : World) (cargs : Array Value), cargs.size = args.length → (∀ (i : Nat) (v : Value) (c : AV), cargs[i]? = some v → args[i]? = some c → Rp I M w v c) → Sto I M w (sto σ) → (∀ k, σ.length ≤ k → I k = .no) →
    Calls P f cargs w fun e w' => ∃ cv I' M', e = .returned cv ∧ Rp I' M' w' cv r ∧ Sto I' M' w' (sto σ') ∧ (∀ k, σ'.length ≤ k → I' k = .no) ∧ Ext (fun b => ∃ k, blkOf (I k) (sto σ k) = some b) I I' M M' w w' ∧
      ∀ k b, blkOf (I' k) (sto σ' k) = some b → w.heap.size ≤ b ∨ ∃ k', blkOf (I k') (sto σ k') = some b
inductive ResA (P : Program) (s : State) : List ResultVar → List AV → Prop
  | nil : ResA P s [] []
  | tmp {t : Tmp} {v : AV} {l : List ResultVar} {vs : List AV} (h : s.fr.get t = v) (hs : ResA P s l vs) : ResA P s (.tmp t :: l) (v :: vs)
  | cell1 {t : Tmp} {ty : TypeId} {d : TypeDesc} {k off : Nat} {cs : List AV} {c : AV} {l : List ResultVar} {vs : List AV} [Und P ty d] (hd : isAggD d = false) (h : s.fr.get t = .ptr k off) (hk : sto s.σ k = .box cs) (hc : cs[off]? = some c) (hs : ResA P s l vs) : ResA P s (.cell t ty :: l) (c :: vs)
  | cellN {t : Tmp} {ty : TypeId} {d : TypeDesc} {z : Value} {sz bytes k off : Nat} {cs m : List AV} {l : List ResultVar} {vs : List AV} [Und P ty d] [TyI P ty z sz bytes] (hd : isAggD d = true) (h : s.fr.get t = .ptr k off) (hk : sto s.σ k = .box cs) (hl : off + sz ≤ cs.length) (hc : (cs.drop off).take sz = m)
      (hs : ResA P s l vs) : ResA P s (.cell t ty :: l) (.agg m :: vs)
def resV : List AV → AV
  | [v] => v
  | vs => .tup vs
section
variable {P : Program} {s : State} {I : Nat → CI} {M : Nat → Nat} {w : World}
theorem load_box1 {ty : TypeId} {d : TypeDesc} [Und P ty d] (hd : isAggD d = false) (hs : Sto I M w (sto s.σ)) {v : Value} {k off : Nat} {cs : List AV} {c : AV} (h : Rp I M w v (.ptr k off)) (hk : sto s.σ k = .box cs) (hc : cs[off]? = some c) :
    ∃ p u, v = .pointer (some p) ∧ (loadVar ty p).run P w = .ok u w ∧ Rp I M w u c := by
  have h2 := hs.own k
  rw [hk] at h2
  obtain ⟨b, cur, e, e1, e2, e3, e4, _, e5⟩ := h2
  cases h with
  | ptr hI =>
    rw [e1] at hI
    injection hI with hI
    subst hI
    have hlt : off < cur.size := by rw [e4]; exact (List.getElem?_eq_some_iff.1 hc).1
    have hcell : w.cell? ⟨b, off, none⟩ = some cur[off] := by rw [cell_of_row w b off cur e (0, 0) e2]; simp [hlt]
    exact ⟨_, cur[off], rfl, run_loadVar1 hd hcell, e5 off _ c (by simp [hlt]) hc⟩
theorem load_boxN {ty : TypeId} {d : TypeDesc} {z : Value} {sz bytes : Nat} [Und P ty d] [TyI P ty z sz bytes] (hd : isAggD d = true) (hs : Sto I M w (sto s.σ)) {v : Value} {k off : Nat} {cs l : List AV} (h : Rp I M w v (.ptr k off)) (hk : sto s.σ k = .box cs) (hl : off + sz ≤ cs.length) (hc : (cs.drop off).take sz = l) :
    ∃ p u, v = .pointer (some p) ∧ (loadVar ty p).run P w = .ok u w ∧ Rp I M w u (.agg l) := by
  have h2 := hs.own k
  rw [hk] at h2
  obtain ⟨b, cur, e, e1, e2, e3, e4, e6, e5⟩ := h2
  cases h with
  | ptr hI =>
    rw [e1] at hI
    injection hI with hI
    subst hI
    have hcell : ∀ j, j < sz → w.cell? ((⟨b, off, none⟩ : Addr).add j) = some (cur.getD (off + j) undef) := by
      intro j hj
      rw [Addr.add_lit, cell_of_row w b (off + j) cur e (0, 0) e2]
      simp [show off + j < cur.size by omega]
    refine ⟨_, _, rfl, run_loadVarN hd _ hcell, ?_⟩
    subst hc
    refine .agg (by simp; omega) (fun i v hv => ?_) fun i v c hv hc => ?_
    · have hi : i < sz := by have := (Array.getElem?_eq_some_iff.1 hv).1; simpa using this
      have : cur.getD (off + i) undef = v := by simpa [hi] using hv
      exact e6 (off + i) v (by rw [← this]; simp [show off + i < cur.size by omega])
    · have hi : i < sz := by have := (Array.getElem?_eq_some_iff.1 hv).1; simpa using this
      have : cur.getD (off + i) undef = v := by simpa [hi] using hv
      exact e5 (off + i) v c (by rw [← this]; simp [show off + i < cur.size by omega]) (by rw [List.getElem?_take, if_pos hi, List.getElem?_drop] at hc; exact hc)
def resOne (tmps : Array Value) : ResultVar → Sem Value
  | .tmp t => pure (tmps.getD t undef)
  | .cell a t => do loadVar t (← asAddr (tmps.getD a undef))
theorem ResA.run {a : Act} {n : Nat} {l : List ResultVar} {vs : List AV} (h : ResA P s l vs) (hf : FrOk I M w n a s.fr) (hs : Sto I M w (sto s.σ)) :
    ∃ us : List Value, (l.mapM (resOne a.tmps)).run P w = .ok us w ∧ us.length = vs.length ∧ ∀ (i : Nat) (v : Value) (c : AV), us[i]? = some v → vs[i]? = some c → Rp I M w v c := by
  have step : ∀ {x : ResultVar} {l : List ResultVar} {us : List Value} {u : Value} {c : AV} {vs : List AV}, (resOne a.tmps x).run P w = .ok u w → Rp I M w u c → (l.mapM (resOne a.tmps)).run P w = .ok us w → us.length = vs.length → (∀ (i : Nat) (v : Value) (c : AV), us[i]? = some v → vs[i]? = some c → Rp I M w v c) →
      ∃ us : List Value, ((x :: l).mapM (resOne a.tmps)).run P w = .ok us w ∧ us.length = (c :: vs).length ∧ ∀ (i : Nat) (v : Value) (c' : AV), us[i]? = some v → (c :: vs)[i]? = some c' → Rp I M w v c' := by
    intro x l us u c vs h1 h2 h3 h4 h5
    refine ⟨u :: us, ?_, by simp [h4], fun i v c' hv hc => ?_⟩
    · simp [List.mapM_cons, h1, h3]
    · cases i with
      | zero =>
        obtain rfl : u = v := by simpa using hv
        obtain rfl : c = c' := by simpa using hc
        exact h2
      | succ i => exact h5 i v c' (by simpa using hv) (by simpa using hc)
  induction h with
  | nil => exact ⟨[], by simp, rfl, fun i v c h => by simp at h⟩
  | tmp h _ ih =>
    obtain ⟨us, i1, i2, i3⟩ := ih
    subst h
    exact step (by simp [resOne]) (hf.2 _) i1 i2 i3
  | @cell1 t ty d k off cs c l vs _ hd h hk hc _ ih =>
    obtain ⟨us, i1, i2, i3⟩ := ih
    have h0 := hf.2 t
    rw [h] at h0
    obtain ⟨p, u, e1, e2, e3⟩ := load_box1 (P := P) (s := s) (ty := ty) hd hs h0 hk hc
    refine step (u := u) ?_ e3 i1 i2 i3
    simp only [resOne, e1]
    simp [asAddr, e2]
  | @cellN t ty d z sz bytes k off cs m l vs _ _ hd h hk hl hc _ ih =>
    obtain ⟨us, i1, i2, i3⟩ := ih
    have h0 := hf.2 t
    rw [h] at h0
    obtain ⟨p, u, e1, e2, e3⟩ := load_boxN (P := P) (s := s) (ty := ty) hd hs h0 hk hl hc
    refine step (u := u) ?_ e3 i1 i2 i3
    simp only [resOne, e1]
    simp [asAddr, e2]
def resVal : List Value → Value
  | [u] => u
  | us => .tuple us.toArray
theorem run_results {fn : Func} {a : Act} {us : List Value} (h : (fn.results.toList.mapM (resOne a.tmps)).run P w = .ok us w) : (results fn a.tmps).run P w = .ok (resVal us) w := by
  have h1 : (results fn a.tmps) = (do let vs ← fn.results.mapM (resOne a.tmps); pure (if h : vs.size = 1 then vs[0] else .tuple vs)) := rfl
  rw [h1, Array.mapM_eq_mapM_toList]
  simp only [map_eq_pure_bind, bind_assoc, pure_bind, Sem.run_bind, h, Result.andThen_ok, Sem.run_pure]
  match us with
  | [] => rfl
  | [u] => rfl
  | u :: v :: r => simp [resVal]
end
def argFr : List AV → Nat → Fr
  | [], _ => []
  | v :: r, i => (i, v) :: argFr r (i + 1)
theorem argFr_get : ∀ (l : List AV) (k t : Nat), (argFr l k).get t = if k ≤ t then (l[t - k]?).getD .any else .any := by
  intro l
  induction l with
  | nil => intro k t; simp [argFr, Fr.get]
  | cons v r ih =>
    intro k t
    simp only [argFr, Fr.get]
    cases hb : Nat.beq t k with
    | true =>
      obtain rfl := Nat.eq_of_beq_eq_true hb
      simp
    | false =>
      have hne : t ≠ k := fun e => by subst e; simp at hb
      simp only [ih]
      by_cases h : k ≤ t
      · rw [if_pos (by omega), if_pos h, show t - k = (t - (k + 1)) + 1 by omega, List.getElem?_cons_succ]
      · rw [if_neg (by omega), if_neg h]
def RetOk (P : Program) (fn : Func) (r : AV) (σ' : List Res) (g : Ent) : Exit → State → Prop
  | .ret, s | .normal, s => ∃ vs S, ResA P s fn.results.toList vs ∧ nodupB S = true ∧ fixB g.p S = true ∧ g.p ≤ S.length ∧ Cv (sto s.σ) (resV vs) (r.ren (renL S)) ∧ r.lt σ'.length = true ∧ Crs (sto s.σ) (renL S) σ'.length S σ'
  | _, _ => False
theorem ACalls.of {P : Program} {f : FuncId} {fn : Func} {c : Code} {args : List AV} {σ σ' : List Res} {r : AV} (hf : P.funcs[f]? = some fn) (hb : fn.body = some c) (hn' : Nat.ble args.length fn.ntmps = true)
    {N : Nat} (hN : fn.ntmps = N) (h : ∀ (I : Nat → CI) (M : Nat → Nat) (w : World) (own : Nat → Prop), AW P ⟨N, σ.length, I, M, w, own⟩ c (RetOk P fn r σ' ⟨N, σ.length, I, M, w, own⟩) ⟨argFr args 0, σ⟩) : ACalls P f args σ r σ' := by
  have hn := Nat.le_of_ble_eq_true hn'
  intro I M w cargs ha hav hs hno
  refine calls_of_wp hf hb ?_
  let g : Ent := ⟨fn.ntmps, σ.length, I, M, w, fun b => ∃ k, blkOf (I k) (sto σ k) = some b⟩
  subst hN
  refine wp_mono (h I M w g.own I M w _ ⟨⟨by simp [ha, g]; omega, fun t => ?_⟩, rfl, hs, Nat.le_refl _, hno, Ext.refl _ _ _ _, fun k b hb => .inr ⟨k, hb⟩, hno⟩) fun e a' w' ⟨I', M', s', h1, h2⟩ => ?_
  · rw [argFr_get]
    simp only [Nat.zero_le, if_true, Nat.sub_zero]
    cases hc : args[t]? with
    | none => exact .any _
    | some v =>
      have ht : t < cargs.size := by rw [ha]; exact (List.getElem?_eq_some_iff.1 hc).1
      refine hav t _ v ?_ hc
      have h2 : (cargs ++ Array.replicate (fn.ntmps - cargs.size) undef)[t]? = some cargs[t] := by rw [Array.getElem?_append_left ht]; simp [ht]
      have h3 : (cargs ++ Array.replicate (fn.ntmps - cargs.size) undef).getD t undef = cargs[t] := by simp [Array.getD_eq_getD_getElem?, h2]
      rw [h3]; simp [ht]
  · have fin : RetOk P fn r σ' g .ret s' → a'.defers = [] ∧ ∃ v, (results fn a'.tmps).run P w' = .ok v w' ∧ ∃ cv I' M', Ending.returned v = .returned cv ∧ Rp I' M' w' cv r ∧ Sto I' M' w' (sto σ') ∧ (∀ k, σ'.length ≤ k → I' k = .no) ∧ Ext (fun b => ∃ k, blkOf (I k) (sto σ k) = some b) I I' M M' w w' ∧
        ∀ k b, blkOf (I' k) (sto σ' k) = some b → w.heap.size ≤ b ∨ ∃ k', blkOf (I k') (sto σ k') = some b := by
      rintro ⟨vs, S, q1, q2, q3, q4, q5, q6, q7⟩
      obtain ⟨us, u1, u2, u3⟩ := q1.run h1.fr h1.st
      refine ⟨h1.df, _, run_results u1, ?_⟩
      have hv : Rp I' M' w' (resVal us) (resV vs) := by
        match us, vs, u2, u3 with
        | [], [], _, _ => exact .tup O (fun i v c h => by simp at h)
        | [u], [v], _, u3 => exact u3 0 u v O O
        | u :: u' :: r, v :: v' :: r', u2, u3 => exact .tup (by simpa using u2) (fun i x c hx hc => u3 i x c (by simpa using hx) hc)
      obtain ⟨c1, c2, c3⟩ := h1.st.conv q2 q7
      have hSl := q7.get.1
      refine ⟨_, _, M', rfl, c2 _ _ q6 (q5 I' M' w' _ h1.st hv), c1, fun k hk => by simp [show ¬ k < σ'.length by omega], ⟨h1.ext.os, h1.ext.tape, h1.ext.output, fun k => ?_, h1.ext.evo, h1.ext.oth⟩, fun k b hb => h1.ini _ _ (c3 k b hb).2⟩
      rcases Nat.lt_or_ge k σ.length with hk | hk
      · simp only [fixB, List.all_eq_true] at q3
        have h1' : renL S k = k := Nat.eq_of_beq_eq_true (q3 k (List.mem_range.2 hk))
        have : k < σ'.length := by have : g.p = σ.length := rfl; omega
        simp only [this, if_true, h1']
        exact h1.ext.le k
      · rw [hno k hk]; trivial
    cases e with
    | ret => exact fin h2
    | normal => exact fin h2
    | _ => exact h2.elim
class CallI (P : Program) (f : FuncId) : Prop where
  eq : (P.funcs[f]?).map (fun fn => (fn.name == "runtime.NumGoroutine", fn.body.isNone)) = some (false, false)
def renC (S : List Nat) (nx : Nat) (i : Nat) : Nat := match Nat.blt i S.length with | true => S.getD i 0 | false => nx + (i - S.length)
def insOf (S : List Nat) (ρ : Nat → Nat) : List Res → Upds
  | [] => []
  | r :: rs => match S with
    | [] => []
    | k :: S => (k, match r with | .box cs => .box (AV.rens ρ cs) | r => r) :: insOf S ρ rs
def outsOf (ρ : Nat → Nat) : Nat → List Res → Upds
  | _, [] => []
  | i, r :: rs => (ρ i, match r with | .box cs => .box (AV.rens ρ cs) | r => r) :: outsOf ρ (i + 1) rs
def Res.ren (ρ : Nat → Nat) : Res → Res
  | .box cs => .box (AV.rens ρ cs)
  | r => r
theorem blk_ren (ρ : Nat → Nat) (ci : CI) (r : Res) : blkOf ci (r.ren ρ) = blkOf ci r := by
  cases r <;> cases ci <;> rfl
theorem insOf_get (ρ : Nat → Nat) : ∀ (S : List Nat) (rs : List Res), S.length = rs.length → ∀ (i : Nat) (r : Res), rs[i]? = some r → (S.getD i 0, r.ren ρ) ∈ insOf S ρ rs := by
  intro S
  induction S with
  | nil => intro rs h i r hr; cases rs <;> simp at h; simp at hr
  | cons k S ih =>
    intro rs h i r hr
    cases rs with
    | nil => simp at h
    | cons q rs =>
      cases i with
      | zero =>
        obtain rfl : q = r := by simpa using hr
        simp only [insOf, List.getD_cons_zero]
        cases q <;> exact List.mem_cons_self ..
      | succ i => exact List.mem_cons_of_mem _ (ih rs (by simpa using h) i r (by simpa using hr))
theorem keys_insOf (ρ : Nat → Nat) : ∀ (S : List Nat) (rs : List Res), S.length = rs.length → keys (insOf S ρ rs) = S := by
  intro S
  induction S with
  | nil => intro rs h; cases rs <;> simp at h; rfl
  | cons k S ih =>
    intro rs h
    cases rs with
    | nil => simp at h
    | cons q rs => simp only [insOf, keys, List.map_cons]; rw [← keys, ih rs (by simpa using h)]
theorem outsOf_key (ρ : Nat → Nat) : ∀ (rs : List Res) (i k : Nat), k ∈ keys (outsOf ρ i rs) ↔ ∃ j, j < rs.length ∧ k = ρ (i + j) := by
  intro rs
  induction rs with
  | nil => intro i k; simp [outsOf, keys]
  | cons r rs ih =>
    intro i k
    simp only [outsOf, keys, List.map_cons, List.mem_cons]
    rw [← keys, ih]
    constructor
    · rintro (rfl | ⟨j, hj, rfl⟩)
      · exact ⟨0, by simp, rfl⟩
      · exact ⟨j + 1, by simp; omega, by rw [show i + (j + 1) = i + 1 + j by omega]⟩
    · rintro ⟨j, hj, rfl⟩
      cases j with
      | zero => left; rfl
      | succ j => right; exact ⟨j, by simpa using hj, by rw [show i + (j + 1) = i + 1 + j by omega]⟩
theorem outsOf_get {σ : Nat → Res} (ρ : Nat → Nat) : ∀ (rs : List Res) (i : Nat), (∀ a b, a < i + rs.length → b < i + rs.length → ρ a = ρ b → a = b) → ∀ (j : Nat) (r : Res), rs[j]? = some r → updS σ (outsOf ρ i rs) (ρ (i + j)) = r.ren ρ := by
  intro rs
  induction rs with
  | nil => intro i _ j r h; simp at h
  | cons q rs ih =>
    intro i hinj j r hr
    simp only [outsOf, updS]
    cases j with
    | zero =>
      obtain rfl : q = r := by simpa using hr
      simp only [Nat.add_zero, if_true]
      cases q <;> rfl
    | succ j =>
      have hj : j < rs.length := by have := (List.getElem?_eq_some_iff.1 hr).1; simpa using this
      rw [if_neg (fun e => by have := hinj _ _ (by simp; omega) (by simp) e; omega), show i + (j + 1) = i + 1 + j by omega]
      exact ih (i + 1) (fun a b ha hb => hinj a b (by simp only [List.length_cons]; omega) (by simp only [List.length_cons]; omega)) j r (by simpa using hr)
def Enters (P : Program) (o : Oper) (ρ : Operand → AV) (f : FuncId) (as : List AV) : Prop :=
  ∀ (I : Nat → CI) (M : Nat → Nat) (w : World) (a : Act), (∀ x ∈ o.op.operands.toList, Rp I M w (a.eval x) (ρ x)) → ∃ cargs : Array Value, (execOp a.eval o).run P w = .ok (.enter f cargs) w ∧ cargs.size = as.length ∧ ∀ (i : Nat) (v : Value) (c : AV), cargs[i]? = some v → as[i]? = some c → Rp I M w v c
def noB : List AV → Bool
  | .ep [] 1 :: _ => false
  | _ => true
theorem ep_no {I : Nat → CI} {M : Nat → Nat} {w : World} {x : Value} (h : Rp I M w x (.ep [] 1)) : False := by
  cases h with
  | ep u hj => simp at hj
theorem Enters.fn {P : Program} {o : Oper} {ρ : Operand → AV} {x : Operand} {ops : Array Operand} {ts : Array TypeId} {f : FuncId} {caps : List AV} [CallI P f] (ho : o.op = .call { callee := .value x, args := ops, argTypes := ts }) (hx : ρ x = .fn f caps) (hn : noB caps = true) :
    Enters P o ρ f (ops.toList.map ρ ++ caps) := by
  intro I M w a hop
  have hxv := hop x (by simp [ho, Op.operands, Call.operands])
  rw [hx] at hxv
  generalize hxe : a.eval x = xv at hxv
  cases hxv with
  | fnb h => simp [noB] at hn
  | @fn _ vs _ hvs hcs =>
  have hfn : ∃ fn, P.funcs[f]? = some fn ∧ (fn.name == "runtime.NumGoroutine") = false ∧ fn.body.isNone = false := by
    have := CallI.eq (P := P) (f := f)
    cases hq : P.funcs[f]? with
    | none => rw [hq] at this; cases this
    | some fn =>
      rw [hq] at this
      simp only [Option.map_some, Option.some.injEq, Prod.mk.injEq] at this
      exact ⟨fn, rfl, this⟩
  obtain ⟨fn, hf1, hf2, hf3⟩ := hfn
  have hf3' : ¬ fn.body = none := by intro h; rw [h] at hf3; cases hf3
  have hf2' : ¬ fn.name = "runtime.NumGoroutine" := by intro h; rw [h] at hf2; simp at hf2
  refine ⟨ops.map a.eval ++ vs, by simp [execOp, ho, resolve, hxe, Deferred.ofValue, invoke, callFunc, hf1, hf2', hf3'], by simp [hvs], fun i v c hv h1 => ?_⟩
  rcases Nat.lt_or_ge i ops.size with h | h
  · rw [Array.getElem?_append_left (by simpa using h), Array.getElem?_map] at hv
    rw [List.getElem?_append_left (by simpa using h), List.getElem?_map] at h1
    obtain ⟨y, hy, rfl⟩ := Option.map_eq_some_iff.1 hv
    obtain ⟨y', hy', h2⟩ := Option.map_eq_some_iff.1 h1
    rw [Array.getElem?_toList, hy] at hy'
    injection hy' with hy'
    subst hy'
    rw [← h2]
    refine hop y ?_
    simp only [ho, Op.operands, Call.operands, Array.toList_append, List.mem_append]
    exact .inr (by simpa using Array.mem_of_getElem? hy)
  · rw [Array.getElem?_append_right (by simpa using h)] at hv
    rw [List.getElem?_append_right (by simpa using h)] at h1
    exact hcs _ v _ (by simpa using hv) (by simpa using h1)
theorem Enters.fnb {P : Program} {o : Oper} {ρ : Operand → AV} {x : Operand} {ops : Array Operand} {ts : Array TypeId} {f : FuncId} {c : AV} [CallI P f] (ho : o.op = .call { callee := .value x, args := ops, argTypes := ts }) (hx : ρ x = .fn f [.ep [] 1, c]) :
    Enters P o ρ f (c :: ops.toList.map ρ) := by
  intro I M w a hop
  have hxv := hop x (by simp [ho, Op.operands, Call.operands])
  rw [hx] at hxv
  generalize hxe : a.eval x = xv at hxv
  cases hxv with
  | @fn _ vs _ hvs hcs =>
    have hl : 0 < vs.size := by rw [hvs]; simp
    exact (ep_no (hcs 0 vs[0] _ (by simp [hl]) O)).elim
  | @fnb _ v _ h =>
  have hfn : ∃ fn, P.funcs[f]? = some fn ∧ (fn.name == "runtime.NumGoroutine") = false ∧ fn.body.isNone = false := by
    have := CallI.eq (P := P) (f := f)
    cases hq : P.funcs[f]? with
    | none => rw [hq] at this; cases this
    | some fn =>
      rw [hq] at this
      simp only [Option.map_some, Option.some.injEq, Prod.mk.injEq] at this
      exact ⟨fn, rfl, this⟩
  obtain ⟨fn, hf1, hf2, hf3⟩ := hfn
  have hf3' : ¬ fn.body = none := by intro h; rw [h] at hf3; cases hf3
  have hf2' : ¬ fn.name = "runtime.NumGoroutine" := by intro h; rw [h] at hf2; simp at hf2
  refine ⟨#[v] ++ ops.map a.eval, by simp [execOp, ho, resolve, hxe, Deferred.ofValue, invoke, callFunc, hf1, hf2', hf3'], by simp; omega, fun i u d hv h1 => ?_⟩
  cases i with
  | zero =>
    rw [Array.getElem?_append_left (by simp)] at hv
    obtain rfl : v = u := by simpa using hv
    obtain rfl : c = d := by simpa using h1
    exact h
  | succ i =>
    rw [Array.getElem?_append_right (by simp)] at hv
    rw [List.getElem?_cons_succ, List.getElem?_map] at h1
    simp only [List.size_toArray, List.length_cons, List.length_nil, Nat.add_sub_cancel, Array.getElem?_map] at hv
    obtain ⟨y, hy, rfl⟩ := Option.map_eq_some_iff.1 hv
    obtain ⟨y', hy', h2⟩ := Option.map_eq_some_iff.1 h1
    rw [Array.getElem?_toList, hy] at hy'
    injection hy' with hy'
    subst hy'
    rw [← h2]
    refine hop y ?_
    simp only [ho, Op.operands, Call.operands, Array.toList_append, List.mem_append]
    exact .inr (by simpa using Array.mem_of_getElem? hy)
theorem OpS.callG {P : Program} {o : Oper} {ρ : Operand → AV} {f : FuncId} {as args0 : List AV} {σc σc' : List Res} {r0 r : AV} {ins outs : Upds} (S : List Nat) (nx : Nat) (hc : ACalls P f args0 σc r0 σc')
    (hen : Enters P o ρ f as) (hargs : AV.rens (renC S nx) args0 = as) (hnd : nodupB S = true) (hnx : S.all (fun k => Nat.blt k nx) = true) (hl : Nat.beq S.length σc.length = true) (hl' : Nat.ble σc.length σc'.length = true)
    (hlt : σc'.all (Res.lt σc'.length) = true) (hrl : r0.lt σc'.length = true) (hlt0 : σc.all (Res.lt σc.length) = true) (hal : AV.lts σc.length args0 = true) (hr : r0.ren (renC S nx) = r) (hins : insOf S (renC S nx) σc = ins) (houts : outsOf (renC S nx) 0 σc' = outs) : OpS P o ρ ins r outs := by
  intro I M w a σ K Q hop hs hi hnew hK
  subst hr hins houts
  have hl := Nat.eq_of_beq_eq_true hl
  have hl' := Nat.le_of_ble_eq_true hl'
  have hinj : ∀ a b, renC S nx a = renC S nx b → a = b := by
    intro a b h
    have hS : ∀ i, i < S.length → S.getD i 0 < nx := by
      intro i hi
      have := (List.all_eq_true.1 hnx) (S.getD i 0) (by rw [List.getD_eq_getElem?_getD, List.getElem?_eq_getElem hi]; exact List.getElem_mem _)
      rwa [Nat.blt_eq] at this
    have bl : ∀ i, (i < S.length ∧ renC S nx i = S.getD i 0) ∨ (S.length ≤ i ∧ renC S nx i = nx + (i - S.length)) := by
      intro i
      unfold renC
      cases hb : Nat.blt i S.length with
      | true => left; rw [Nat.blt_eq] at hb; exact ⟨hb, rfl⟩
      | false =>
        right
        have : ¬ i < S.length := by rw [← Nat.blt_eq, hb]; simp
        exact ⟨by omega, rfl⟩
    rcases bl a with ⟨a1, a2⟩ | ⟨a1, a2⟩ <;> rcases bl b with ⟨b1, b2⟩ | ⟨b1, b2⟩
    · rw [a2, b2] at h
      rcases Nat.lt_trichotomy a b with q | q | q
      · exact absurd h (nodupB_spec hnd a b q b1)
      · exact q
      · exact absurd h.symm (nodupB_spec hnd b a q a1)
    · have := hS a a1; rw [a2, b2] at h; omega
    · have := hS b b1; rw [a2, b2] at h; omega
    · rw [a2, b2] at h; omega
  have rlow : ∀ i, i < σc.length → renC S nx i = S.getD i 0 := by
    intro i hi
    have : Nat.blt i S.length = true := by rw [Nat.blt_eq]; omega
    simp [renC, this]
  have hkeys : keys (insOf S (renC S nx) σc) = S := keys_insOf _ _ _ hl
  -- what the callee is given
  let Ic : Nat → CI := fun i => if i < σc.length then I (renC S nx i) else .no
  have hsto : ∀ i r, σc[i]? = some r → σ (renC S nx i) = r.ren (renC S nx) := by
    intro i r hr
    have hlt := (List.getElem?_eq_some_iff.1 hr).1
    have := hi _ (insOf_get (renC S nx) S σc hl i r hr)
    rw [rlow i hlt]; exact this
  have hblk : ∀ i b, blkOf (Ic i) (sto σc i) = some b → i < σc.length ∧ blkOf (I (renC S nx i)) (σ (renC S nx i)) = some b := by
    intro i b hb
    rcases Nat.lt_or_ge i σc.length with h | h
    · have h1 : sto σc i = σc[i] := by simp [sto, List.getD, h]
      rw [h1] at hb
      simp only [Ic, if_pos h] at hb
      rw [hsto i σc[i] (by simp [h]), blk_ren]
      exact ⟨h, hb⟩
    · simp only [Ic, if_neg (show ¬ i < σc.length by omega)] at hb
      cases hq : sto σc i <;> rw [hq] at hb <;> cases hb
  have rpc : ∀ v p, p.lt σc.length = true → Rp I M w v (p.ren (renC S nx)) → Rp Ic M w v p := fun v p hp h =>
    Rp.agree (I := fun i => I (renC S nx i)) (n := σc.length) (fun k hk => by simp [Ic, hk]) (Rp.unname h p O) hp
  have hsc : Sto Ic M w (sto σc) := by
    refine ⟨fun k => ?_, fun k k' b hne hb hb' => ?_, hs.top, hs.tab⟩
    · rcases Nat.lt_or_ge k σc.length with h | h
      · have h1 : sto σc k = σc[k] := by simp [sto, List.getD, h]
        have hI : Ic k = I (renC S nx k) := by simp [Ic, h]
        have ho := hs.own (renC S nx k)
        rw [hsto k σc[k] (by simp [h])] at ho
        rw [h1, hI]
        have hlt1 := (List.all_eq_true.1 hlt0) σc[k] (List.getElem_mem _)
        generalize σc[k] = q at ho hlt1
        cases q with
        | no => trivial
        | row sz xs => exact ho
        | mby l => exact ho
        | box cs =>
          obtain ⟨b, cur, e, e1, e2, e3, e4, e5, e6⟩ := ho
          refine ⟨b, cur, e, e1, e2, e3, by rw [e4, AV.rens_map]; simp, e5, fun i v c hv hc => ?_⟩
          exact rpc v c (AV.lts_get hlt1 hc) (e6 i v _ hv (by rw [AV.rens_map, List.getElem?_map, hc]; rfl))
      · have : sto σc k = .no := by simp [sto, List.getElem?_eq_none h]
        rw [this]; trivial
    · obtain ⟨a1, a2⟩ := hblk k b hb
      obtain ⟨b1, b2⟩ := hblk k' b hb'
      exact hs.dis _ _ b (fun e => hne (hinj _ _ e)) a2 b2
  obtain ⟨cargs, hexec, hcs, hcv⟩ := hen I M w a hop
  have hcall := hc Ic M w cargs (by rw [hcs, ← hargs, AV.rens_map, List.length_map]) (fun i v c hv hc' => by
      refine rpc v c (AV.lts_get hal hc') (hcv i v _ hv ?_)
      rw [← hargs, AV.rens_map, List.getElem?_map, hc']; rfl) hsc (fun k hk => by simp [Ic, show ¬ k < σc.length by omega])
  unfold Oper.wp
  rw [hexec, Oper.upon_enter]
  refine Calls.mono hcall ?_
  rintro e w' ⟨cv, I', M', rfl, g1, g2, g3, g4, g5⟩
  simp only
  -- the callee's numbers as ours
  let Iw : Nat → CI := fun k => if h : ∃ i, i < σc'.length ∧ k = renC S nx i then I' (Classical.choose h) else I k
  have hIw : ∀ i, i < σc'.length → Iw (renC S nx i) = I' i := by
    intro i hi
    have hex : ∃ j, j < σc'.length ∧ renC S nx i = renC S nx j := ⟨i, hi, rfl⟩
    simp only [Iw, dif_pos hex]
    rw [← hinj _ _ (Classical.choose_spec hex).2]
  have hIn : ∀ k, k ∉ keys (outsOf (renC S nx) 0 σc') → Iw k = I k := by
    intro k hk
    have hne : ¬ ∃ i, i < σc'.length ∧ k = renC S nx i := fun ⟨i, hi, he⟩ => hk ((outsOf_key _ _ _ _).2 ⟨i, hi, by rw [Nat.zero_add]; exact he⟩)
    simp only [Iw, dif_neg hne]
  have hle : ∀ k, (I k).le (Iw k) := by
    intro k
    by_cases hk : k ∈ keys (outsOf (renC S nx) 0 σc')
    · obtain ⟨i, hi, rfl⟩ := (outsOf_key _ _ _ _).1 hk
      rw [Nat.zero_add, hIw i hi]
      rcases Nat.lt_or_ge i σc.length with h | h
      · have := g4.le i
        simpa only [Ic, if_pos h] using this
      · rcases hnew _ hk with q | ⟨_, q⟩
        · rw [hkeys, Nat.zero_add] at q
          have := (List.all_eq_true.1 hnx) _ q
          rw [Nat.blt_eq] at this
          have : Nat.blt i S.length = false := by
            cases hb : Nat.blt i S.length with
            | false => rfl
            | true => rw [Nat.blt_eq] at hb; omega
          simp only [renC, this] at *
          omega
        · rw [Nat.zero_add] at q; rw [q]; trivial
    · rw [hIn k hk]; exact CI.le_refl _
  have rpw : ∀ v p, p.lt σc'.length = true → Rp I' M' w' v p → Rp Iw M' w' v (p.ren (renC S nx)) := fun v p hp h =>
    Rp.rename (Rp.agree (I' := fun i => Iw (renC S nx i)) (n := σc'.length) (fun k hk => hIw k hk) h hp)
  have own_in : ∀ b, (∃ k, blkOf (Ic k) (sto σc k) = some b) → ∃ k ∈ S, blkOf (I k) (σ k) = some b := by
    rintro b ⟨k, hb⟩
    obtain ⟨h1, h2⟩ := hblk k b hb
    rw [rlow k h1] at h2
    exact ⟨S.getD k 0, by rw [List.getD_eq_getElem?_getD, List.getElem?_eq_getElem (by omega)]; exact List.getElem_mem _, h2⟩
  have hext : Ext (fun b => ∃ k ∈ S, blkOf (I k) (σ k) = some b) I Iw M M' w w' := by
    have := g4.wide (own' := fun b => ∃ k ∈ S, blkOf (I k) (σ k) = some b) (fun b _ h => own_in b h)
    exact ⟨this.os, this.tape, this.output, hle, this.evo, this.oth⟩
  have hupd : ∀ i r, σc'[i]? = some r → updS σ (outsOf (renC S nx) 0 σc') (renC S nx i) = r.ren (renC S nx) := by
    intro i r hr
    have := outsOf_get (σ := σ) (renC S nx) σc' 0 (fun a b _ _ h => hinj a b h) i r hr
    rwa [Nat.zero_add] at this
  have hbw : ∀ i b, i < σc'.length → blkOf (Iw (renC S nx i)) (updS σ (outsOf (renC S nx) 0 σc') (renC S nx i)) = some b → w.heap.size ≤ b ∨ ∃ k ∈ S, blkOf (I k) (σ k) = some b := by
    intro i b hi hb
    rw [hIw i hi, hupd i σc'[i] (by simp [hi]), blk_ren] at hb
    rcases g5 i b (by simpa [sto, List.getD, hi] using hb) with q | q
    · exact .inl q
    · exact .inr (own_in b q)
  refine hK cv Iw M' w' (rpw cv r0 hrl g1) ?_ (by rw [hkeys]; exact hext) hIn fun k hk b hb => ?_
  · refine hs.upd (keys (outsOf (renC S nx) 0 σc')) hext (fun b ⟨k, hk, hb⟩ => ⟨k, (outsOf_key _ _ _ _).2 ?_, hb⟩) hIn (fun k hk => updS_other _ _ _ hk) (fun k hk => ?_) (fun k hk b hb => ?_) (fun k hk k' hk' b hne hb hb' => ?_) g2.top
    · obtain ⟨i, hi, rfl⟩ := List.getElem_of_mem hk
      refine ⟨i, by omega, ?_⟩
      rw [Nat.zero_add, rlow i (by omega)]
      simp [List.getD, hi]
    · obtain ⟨i, hi, rfl⟩ := (outsOf_key _ _ _ _).1 hk
      rw [Nat.zero_add, hIw i hi, hupd i σc'[i] (by simp [hi])]
      have ho := g2.own i
      have h1 : sto σc' i = σc'[i] := by simp [sto, List.getD, hi]
      rw [h1] at ho
      have hlt1 := (List.all_eq_true.1 hlt) σc'[i] (List.getElem_mem _)
      generalize σc'[i] = q at ho hlt1
      cases q with
      | no => trivial
      | row sz xs => exact ho
      | mby l => exact ho
      | box cs =>
        obtain ⟨b, cur, e, e1, e2, e3, e4, e5, e6⟩ := ho
        refine ⟨b, cur, e, e1, e2, e3, by rw [e4, AV.rens_map]; simp, e5, fun j v c hv hc => ?_⟩
        rw [AV.rens_map, List.getElem?_map] at hc
        obtain ⟨c0, hc0, rfl⟩ := Option.map_eq_some_iff.1 hc
        exact rpw v c0 (AV.lts_get hlt1 hc0) (e6 j v c0 hv hc0)
    · obtain ⟨i, hi, rfl⟩ := (outsOf_key _ _ _ _).1 hk
      rw [Nat.zero_add] at hb
      rcases hbw i b hi hb with q | ⟨k, hk, q⟩
      · exact .inl q
      · right
        obtain ⟨j, hj, rfl⟩ := List.getElem_of_mem hk
        refine ⟨_, (outsOf_key _ _ _ _).2 ⟨j, by omega, ?_⟩, q⟩
        rw [Nat.zero_add, rlow j (by omega)]
        simp [List.getD, hj]
    · obtain ⟨i, hi, rfl⟩ := (outsOf_key _ _ _ _).1 hk
      obtain ⟨j, hj, rfl⟩ := (outsOf_key _ _ _ _).1 hk'
      rw [Nat.zero_add] at hb hb' hne
      rw [hIw i hi, hupd i σc'[i] (by simp [hi]), blk_ren] at hb
      rw [hIw j hj, hupd j σc'[j] (by simp [hj]), blk_ren] at hb'
      exact g2.dis i j b (fun e => hne (by rw [e, Nat.zero_add])) (by simpa [sto, List.getD, hi] using hb) (by simpa [sto, List.getD, hj] using hb')
  · obtain ⟨i, hi, rfl⟩ := (outsOf_key _ _ _ _).1 hk
    rw [Nat.zero_add] at hb
    rw [hkeys]
    exact hbw i b hi hb
theorem OpS.call {P : Program} {o : Oper} {ρ : Operand → AV} {x : Operand} {ops : Array Operand} {ts : Array TypeId} {f : FuncId} {caps args0 : List AV} {σc σc' : List Res} {r0 r : AV} {ins outs : Upds} [CallI P f] (S : List Nat) (nx : Nat) (hc : ACalls P f args0 σc r0 σc')
    (ho : o.op = .call { callee := .value x, args := ops, argTypes := ts }) (hx : ρ x = .fn f caps) (hargs : AV.rens (renC S nx) args0 = ops.toList.map ρ ++ caps) (hnd : nodupB S = true) (hnx : S.all (fun k => Nat.blt k nx) = true) (hl : Nat.beq S.length σc.length = true) (hl' : Nat.ble σc.length σc'.length = true)
    (hlt : σc'.all (Res.lt σc'.length) = true) (hrl : r0.lt σc'.length = true) (hlt0 : σc.all (Res.lt σc.length) = true) (hal : AV.lts σc.length args0 = true) (hr : r0.ren (renC S nx) = r) (hins : insOf S (renC S nx) σc = ins) (houts : outsOf (renC S nx) 0 σc' = outs) (hnt : noB caps = true := by rfl) : OpS P o ρ ins r outs :=
  OpS.callG S nx hc (Enters.fn ho hx hnt) hargs hnd hnx hl hl' hlt hrl hlt0 hal hr hins houts
end Go.Proofs.YtbbcokckealagaaGreat
namespace Go.Proofs.YtbbcokckealagaaGreat
set_option linter.unusedVariables false
set_option linter.unusedSimpArgs false
open Go.RowKit
inductive Cells : AV → List AV → Prop
  | agg {cs : List AV} : Cells (.agg cs) cs
  | one {v : AV} (h : v.one1 = true) : Cells v [v]
theorem Cells.ok {v : AV} {cs : List AV} (h : Cells v cs) : v.okCells = true ∧ v.cells = cs := by
  cases h with
  | agg => exact ⟨rfl, rfl⟩
  | one h => cases v <;> first | exact ⟨h, rfl⟩ | cases h
inductive Over0 : List AV → List AV → List AV → Prop
  | nil {l : List AV} : Over0 l [] l
  | cons {a b : AV} {l new l' : List AV} (h : Over0 l new l') : Over0 (a :: l) (b :: new) (b :: l')
inductive Over : List AV → Nat → List AV → List AV → Prop
  | at_ {l new l' : List AV} (h : Over0 l new l') : Over l 0 new l'
  | skip {a : AV} {l new l' : List AV} {k : Nat} (h : Over l k new l') : Over (a :: l) (k + 1) new (a :: l')
theorem Over0.spec {l new l' : List AV} (h : Over0 l new l') : new.length ≤ l.length ∧ new ++ l.drop new.length = l' := by
  induction h with
  | nil => exact ⟨by simp, by simp⟩
  | cons h ih => exact ⟨by simp only [List.length_cons]; omega, by simp [ih.2]⟩
theorem Over.spec {l new l' : List AV} {k : Nat} (h : Over l k new l') : k + new.length ≤ l.length ∧ l.take k ++ (new ++ l.drop (k + new.length)) = l' := by
  induction h with
  | at_ h => obtain ⟨h1, h2⟩ := h.spec; exact ⟨by omega, by simpa using h2⟩
  | skip h ih => exact ⟨by simp only [List.length_cons]; omega, by rw [← ih.2, Nat.add_right_comm]; simp⟩
inductive Sub : List AV → Nat → Nat → List AV → Prop
  | zero {l : List AV} : Sub l 0 0 []
  | take {a : AV} {l m : List AV} {n : Nat} (h : Sub l 0 n m) : Sub (a :: l) 0 (n + 1) (a :: m)
  | skip {a : AV} {l m : List AV} {k n : Nat} (h : Sub l k n m) : Sub (a :: l) (k + 1) n m
theorem Sub.spec {l m : List AV} {k n : Nat} (h : Sub l k n m) : k + n ≤ l.length ∧ (l.drop k).take n = m := by
  induction h with
  | zero => exact ⟨by simp, by simp⟩
  | take h ih => exact ⟨by simp only [List.length_cons]; omega, by simpa using ih.2⟩
  | skip h ih => exact ⟨by simp only [List.length_cons]; omega, by simpa using ih.2⟩
inductive PavR : PV → AV → Prop
  | v {x : Value} : PavR (.v x) (.v x)
  | sl {sz : Nat} {xs : List (List PV)} : PavR (.sl sz xs) (.sl sz xs false)
theorem PavR.spec {p : PV} {a : AV} (h : PavR p a) : p.av = a := by cases h <;> rfl
inductive SubP : List PV → Nat → Nat → List AV → Prop
  | zero {l : List PV} : SubP l 0 0 []
  | take {a : PV} {b : AV} {l : List PV} {m : List AV} {n : Nat} (hb : PavR a b) (h : SubP l 0 n m) : SubP (a :: l) 0 (n + 1) (b :: m)
  | skip {a : PV} {l : List PV} {m : List AV} {k n : Nat} (h : SubP l k n m) : SubP (a :: l) (k + 1) n m
theorem SubP.spec {l : List PV} {m : List AV} {k n : Nat} (h : SubP l k n m) : k + n ≤ l.length ∧ ((l.drop k).take n).map PV.av = m := by
  induction h with
  | zero => exact ⟨by simp, by simp⟩
  | take hb h ih => exact ⟨by simp only [List.length_cons]; omega, by simpa [hb.spec] using ih.2⟩
  | skip h ih => exact ⟨by simp only [List.length_cons]; omega, by simpa using ih.2⟩
mutual
theorem ren_lt0 {ρ : Nat → Nat} : ∀ {p : AV}, p.lt 0 = true → p.ren ρ = p
  | .any, _ | .v _, _ | .sl _ _ _, _ | .ep _ _, _ => rfl
  | .agg cs, h => by simp only [AV.ren]; rw [rens_lt0 cs (by simpa [AV.lt] using h)]
  | .tup cs, h => by simp only [AV.ren]; rw [rens_lt0 cs (by simpa [AV.lt] using h)]
  | .fn f cs, h => by simp only [AV.ren]; rw [rens_lt0 cs (by simpa [AV.lt] using h)]
  | .ifb b v, h => by simp only [AV.ren]; rw [ren_lt0 (p := v) (by simpa [AV.lt] using h)]
  | .row t n, h => by simp [AV.lt] at h
  | .ptr k off, h => by simp [AV.lt] at h
  | .bsl k _ _ _ _, h => by simp [AV.lt] at h
  | .mb k _ _, h => by simp [AV.lt] at h
  | .tp k _ _, h => by simp [AV.lt] at h
theorem rens_lt0 {ρ : Nat → Nat} : ∀ (l : List AV), AV.lts 0 l = true → AV.rens ρ l = l
  | [], _ => rfl
  | c :: cs, h => by
    simp only [AV.lts, Bool.and_eq_true] at h
    simp only [AV.rens]
    rw [ren_lt0 h.1, rens_lt0 cs h.2]
end
inductive PutAt : List Res → Nat → Res → List Res → Prop
  | new {r : Res} : PutAt [] 0 r [r]
  | here {a r : Res} {l : List Res} : PutAt (a :: l) 0 r (r :: l)
  | there {a r : Res} {l l' : List Res} {k : Nat} (h : PutAt l k r l') : PutAt (a :: l) (k + 1) r (a :: l')
theorem PutAt.spec {l l' : List Res} {k : Nat} {r : Res} (h : PutAt l k r l') : k ≤ l.length ∧ putR l k r = l' := by
  induction h with
  | new => exact ⟨Nat.le_refl _, rfl⟩
  | here => exact ⟨Nat.zero_le _, rfl⟩
  | @there a r l l' k h ih =>
    refine ⟨by simp only [List.length_cons]; omega, ?_⟩
    rw [← ih.2]
    unfold putR
    have : Nat.blt (k + 1) (a :: l).length = Nat.blt k l.length := by
      simp only [List.length_cons, Nat.blt, Nat.ble]
    rw [this]
    cases Nat.blt k l.length <;> simp
inductive Ends : List Res → Nat → Prop
  | nil : Ends [] 0
  | cons {a : Res} {l : List Res} {k : Nat} (h : Ends l k) : Ends (a :: l) (k + 1)
theorem Ends.spec {l : List Res} {k : Nat} (h : Ends l k) : k = l.length := by
  induction h with
  | nil => rfl
  | cons h ih => simp [ih]
class AllocI (P : Program) (t : TypeId) (cs : outParam (List AV)) : Prop where
  eq : ∃ z sz bytes, TyI P t z sz bytes ∧ z.cells.toList.all (·.oneCell') = true ∧ (zav z).cells = cs
section
variable {P : Program} {n : Nat} {ops : List Oper} {chk : List FP → Bool} {K : State → Prop} {rest : List Oper} {o : Oper} {fr : Fr} {σ : List Res} {acc : List FP}
theorem okU_one {σ σ' : List Res} {k : Nat} {r : Res} (h : PutAt σ k r σ') : okU σ.length [(k, r)] = true ∧ updL σ [(k, r)] = σ' := by
  obtain ⟨h1, h2⟩ := h.spec
  exact ⟨by simp [okU, h1], by simpa [updL] using h2⟩
theorem Run.p {d : Nat} {v : AV} (ho : o.dst = some d) (hw : wantA ops fr o = some true) (hd : Nat.blt d n = true) (h : OpP P o (evA fr) v) (hr : Run P n ops chk K rest ⟨(d, v) :: fr, σ⟩ (acc ++ [([], [])])) : Run P n ops chk K (o :: rest) ⟨fr, σ⟩ acc :=
  .op (ins := []) (outs := []) (v := v) hw (by rw [ho]; exact hd) h.s (fun _ h => by cases h) O (fun _ h => by cases h) (by rw [ho]; exact hr)
theorem Run.r {d : Nat} {v : AV} {ins : Upds} {ks : List Nat} (ho : o.dst = some d) (hw : wantA ops fr o = some true) (hd : Nat.blt d n = true) (h : OpR P o (evA fr) ins v) (hi : ∀ q ∈ ins, sto σ q.1 = q.2) (hk : keys ins = ks) (hr : Run P n ops chk K rest ⟨(d, v) :: fr, σ⟩ (acc ++ [(ks, [])])) : Run P n ops chk K (o :: rest) ⟨fr, σ⟩ acc :=
  .op (ins := ins) (outs := []) (v := v) hw (by rw [ho]; exact hd) h.s hi O (fun _ h => by cases h) (by rw [ho, hk]; exact hr)
theorem one_in {σ : List Res} {k : Nat} {r : Res} (h : sto σ k = r) : ∀ q ∈ [(k, r)], sto σ q.1 = q.2 := fun q hq => by
  obtain rfl := List.mem_singleton.1 hq; exact h
theorem Run.ld1 {d t x k off : _} {D : TypeDesc} {cs : List AV} {c : AV} [Und P t D] (ho : o.dst = some d) (hop : o.op = .load t x) (hw : wantA ops fr o = some true) (hd : Nat.blt d n = true) (hx : evA fr x = .ptr k off) (hD : isAggD D = false) (hk : sto σ k = .box cs) (hc : cs[off]? = some c)
    (hr : Run P n ops chk K rest ⟨(d, c) :: fr, σ⟩ (acc ++ [([k], [])])) : Run P n ops chk K (o :: rest) ⟨fr, σ⟩ acc :=
  Run.r ho hw hd (OpR.load1 hop hx hD hc) (one_in hk) O hr
theorem Run.ldN {d t x k off : _} {D : TypeDesc} {z : Value} {sz bytes : Nat} {cs l : List AV} [Und P t D] [TyI P t z sz bytes] (ho : o.dst = some d) (hop : o.op = .load t x) (hw : wantA ops fr o = some true) (hd : Nat.blt d n = true) (hx : evA fr x = .ptr k off) (hD : isAggD D = true) (hk : sto σ k = .box cs) (hc : Sub cs off sz l)
    (hr : Run P n ops chk K rest ⟨(d, .agg l) :: fr, σ⟩ (acc ++ [([k], [])])) : Run P n ops chk K (o :: rest) ⟨fr, σ⟩ acc :=
  Run.r ho hw hd (OpR.loadN hop hx hD hc.spec.1 hc.spec.2) (one_in hk) O hr
theorem Run.bx {d t x k : _} {v : AV} {cs : List AV} {σ' : List Res} (ho : o.dst = some d) (hop : o.op = .box t x) (hw : wantA ops fr o = some true) (hd : Nat.blt d n = true) (he : Ends σ k) (hx : evA fr x = v) (hc : Cells v cs) (hσ : PutAt σ k (.box cs) σ')
    (hr : Run P n ops chk K rest ⟨(d, .ptr k 0) :: fr, σ'⟩ (acc ++ [([], [k])])) : Run P n ops chk K (o :: rest) ⟨fr, σ⟩ acc :=
  .op (ins := []) (outs := [(k, .box cs)]) (v := .ptr k 0) hw (by rw [ho]; exact hd) (OpS.boxed k hop hx hc.ok.1 hc.ok.2) (fun _ h => by cases h) (okU_one hσ).1 (fun k' hk => by
    obtain rfl : k' = k := by simpa [keys] using hk
    exact .inr (Nat.le_of_eq he.spec.symm)) (by rw [ho, (okU_one hσ).2]; exact hr)
theorem Run.al {d t k : _} {cs : List AV} {σ' : List Res} [A : AllocI P t cs] (ho : o.dst = some d) (hop : o.op = .alloc t) (hw : wantA ops fr o = some true) (hd : Nat.blt d n = true) (he : Ends σ k) (hσ : PutAt σ k (.box cs) σ')
    (hr : Run P n ops chk K rest ⟨(d, .ptr k 0) :: fr, σ'⟩ (acc ++ [([], [k])])) : Run P n ops chk K (o :: rest) ⟨fr, σ⟩ acc := by
  obtain ⟨z, sz, bytes, T, h1, h2⟩ := A.eq
  exact .op (ins := []) (outs := [(k, .box cs)]) (v := .ptr k 0) hw (by rw [ho]; exact hd) (OpS.alloc k hop h1 h2) (fun _ h => by cases h) (okU_one hσ).1 (fun k' hk => by
    obtain rfl : k' = k := by simpa [keys] using hk
    exact .inr (Nat.le_of_eq he.spec.symm)) (by rw [ho, (okU_one hσ).2]; exact hr)
theorem Run.st {t x y k off : _} {v : AV} {z : Value} {sz bytes : Nat} {cs new cs' : List AV} {σ' : List Res} [TyI P t z sz bytes] (ho : o.dst = none) (hop : o.op = .store t x y) (hw : wantA ops fr o = some true) (hx : evA fr x = .ptr k off) (hy : evA fr y = v) (hc : Cells v new) (hl : Nat.beq new.length sz = true) (hk : sto σ k = .box cs) (hcs : Over cs off new cs') (hσ : PutAt σ k (.box cs') σ')
    (hr : Run P n ops chk K rest ⟨fr, σ'⟩ (acc ++ [([k], [k])])) : Run P n ops chk K (o :: rest) ⟨fr, σ⟩ acc := by
  have hl := Nat.eq_of_beq_eq_true hl
  refine .op (ins := [(k, .box cs)]) (outs := [(k, .box cs')]) (v := .any) hw (by rw [ho]; rfl) (OpS.store hop hx hy hc.ok.1 hc.ok.2 hl (by have := hcs.spec.1; omega) (by rw [← hl]; exact hcs.spec.2)) (one_in hk) (okU_one hσ).1 (fun k' hk => ?_) (by rw [ho, (okU_one hσ).2]; exact hr)
  obtain rfl : k' = k := by simpa [keys] using hk
  exact .inl (by simp [keys])
theorem Run.fin (hc : chk acc = true) (hK : K ⟨fr, σ⟩) : Run P n ops chk K [] ⟨fr, σ⟩ acc := .nil hc hK
def bopk : BinOp → Nat
  | .add => 30
  | .sub => 31
  | .mul => 32
  | .quo => 33
  | .rem => 34
  | .and => 35
  | .or => 36
  | .xor => 37
  | .shl => 38
  | .shr => 39
  | .andNot => 40
  | .eql => 41
  | .neq => 42
  | .lss => 43
  | .leq => 44
  | .gtr => 45
  | .geq => 46
def opk : Op → Nat
  | .move .. => 0
  | .assign .. => 1
  | .pick .. => 2
  | .alloc .. => 3
  | .box .. => 4
  | .build .. => 5
  | .buildSlice .. => 6
  | .insert .. => 7
  | .load .. => 8
  | .store .. => 9
  | .nilCheck .. => 10
  | .convert .. => 11
  | .makeInterface .. => 12
  | .makeFunc .. => 13
  | .makeSlice .. => 14
  | .slice .. => 15
  | .fieldAddr .. => 16
  | .field .. => 17
  | .indexAddr .. => 18
  | .index .. => 19
  | .extract .. => 20
  | .typeAssert .. => 21
  | .unOp .. => 22
  | .binOp b _ _ _ _ => bopk b
  | .call c => (match c.callee with | .value _ => 51 | _ => 50)
  | _ => 99
theorem Run.gt (k : Nat) (ho : opk o.op = k) (h : Run P n ops chk K (o :: rest) ⟨fr, σ⟩ acc) : Run P n ops chk K (o :: rest) ⟨fr, σ⟩ acc := h
theorem Run.g {j : Nat} {want : Bool} {q : Oper} {d : Nat} {b : Bool} (hg : o.guard = some (j, want)) (hq : ops[j]? = some q) (hd : q.dst = some d) (hb : fr.get d = .v (.bool b)) (h1 : b = true → Run P n ops chk K (o :: rest) ⟨(d, .v (.bool true)) :: fr, σ⟩ acc)
    (h2 : b = false → Run P n ops chk K (o :: rest) ⟨(d, .v (.bool false)) :: fr, σ⟩ acc) : Run P n ops chk K (o :: rest) ⟨fr, σ⟩ acc := by
  have key : ∀ c, b = c → Fr.le ((d, .v (.bool c)) :: fr) fr := by
    rintro c rfl t
    simp only [Fr.get]
    cases hb' : Nat.beq t d with
    | true => obtain rfl := Nat.eq_of_beq_eq_true hb'; simp only; rw [hb]; exact .same
    | false => exact .same
  cases hbb : b with
  | true => exact .conv (key true hbb) (h1 hbb)
  | false => exact .conv (key false hbb) (h2 hbb)
inductive ExtF (fr : Fr) : Fr → Prop
  | refl : ExtF fr fr
  | cons {d : Nat} {v : AV} {fr' : Fr} (h : ExtF fr fr') (hd : fr.get d = .any) : ExtF fr ((d, v) :: fr')
theorem Run.sk {d : Nat} (ho : o.dst = some d) (hw : wantA ops fr o = some false) (hd : Nat.blt d n = true) (hr : Run P n ops chk K rest ⟨(d, .v undef) :: fr, σ⟩ (acc ++ [([], [])])) : Run P n ops chk K (o :: rest) ⟨fr, σ⟩ acc :=
  .skip ([], []) hw (by rw [ho]; exact hd) (by rw [ho]; exact hr)
def strip : AV → AV
  | .ifb _ v => v
  | v => v
def okIf : AV → Prop
  | .ifb b _ => b = true
  | _ => True
def okIfs (fr : Fr) : List Operand → Prop
  | [] => True
  | x :: r => okIf (evA fr x) ∧ okIfs fr r
def evO (fr : Fr) (x : Operand) : AV := strip (evA fr x)
theorem okIfs.get {fr : Fr} : ∀ {l : List Operand}, okIfs fr l → ∀ x ∈ l, okIf (evA fr x)
  | [], _, x, hx => by cases hx
  | y :: r, h, x, hx => by
    rcases List.mem_cons.1 hx with rfl | hx
    · exact h.1
    · exact okIfs.get h.2 x hx
theorem OpS.open_ {P : Program} {o : Oper} {fr : Fr} {ins outs : Upds} {v : AV} (hs : OpS P o (evO fr) ins v outs) (hk : okIfs fr o.op.operands.toList) : OpS P o (evA fr) ins v outs := by
  intro I M w a σ K Q hop hst hi hn hK
  refine hs I M w a σ K Q (fun x hx => ?_) hst hi hn hK
  have h1 := hop x hx
  have h2 := hk.get x hx
  unfold evO
  generalize evA fr x = u at h1 h2
  generalize a.eval x = xv at h1 ⊢
  cases u with
  | ifb b v =>
    cases h1 with
    | ifb h _ => exact h h2
  | _ => exact h1
theorem Run.gp {d' : Nat} {c : Bool} {v : AV} {ins : Upds} {ks : List Nat} (hw : wantA ops fr o = some c) (ho : o.dst = some d') (hd' : Nat.blt d' n = true)
    (h : c = true → OpS P o (evA fr) ins v []) (hi : ∀ q ∈ ins, sto σ q.1 = q.2) (hk : keys ins = ks) (hr : Run P n ops chk K rest ⟨(d', .ifb c v) :: fr, σ⟩ (acc ++ [(ks, [])])) : Run P n ops chk K (o :: rest) ⟨fr, σ⟩ acc := by
  cases hcc : c with
  | true =>
    have h1 := h hcc
    refine .op (ins := ins) (outs := []) (v := v) (by rw [hw, hcc]) (by rw [ho]; exact hd') h1 hi O (fun _ h => by cases h) ?_
    rw [ho]
    refine .conv (fr' := (d', .ifb c v) :: fr) (fun t => ?_) (by rw [hk]; exact hr)
    simp only [Fr.put, Fr.get]
    cases Nat.beq t d' with
    | true => exact .ifb hcc .same
    | false => exact .same
  | false =>
    refine .skip (ks, []) (by rw [hw, hcc]) (by rw [ho]; exact hd') ?_
    rw [ho]
    refine .conv (fr' := (d', .ifb c v) :: fr) (fun t => ?_) hr
    simp only [Fr.put, Fr.get]
    cases Nat.beq t d' with
    | true => exact .ifF hcc
    | false => exact .same
inductive Gd (ops : List Oper) (fr : Fr) (o : Oper) : Bool → Prop
  | t {j d : Nat} {q : Oper} {b : Bool} (hg : o.guard = some (j, true)) (hq : ops[j]? = some q) (hd : q.dst = some d) (hb : fr.get d = .v (.bool b)) : Gd ops fr o b
  | f {j d : Nat} {q : Oper} {b : Bool} (hg : o.guard = some (j, false)) (hq : ops[j]? = some q) (hd : q.dst = some d) (hb : fr.get d = .v (.bool b)) : Gd ops fr o (!b)
  | t2 {j d : Nat} {q : Oper} {b c : Bool} (hg : o.guard = some (j, true)) (hq : ops[j]? = some q) (hd : q.dst = some d) (hb : fr.get d = .ifb c (.v (.bool b))) : Gd ops fr o (c && b)
  | f2 {j d : Nat} {q : Oper} {b c : Bool} (hg : o.guard = some (j, false)) (hq : ops[j]? = some q) (hd : q.dst = some d) (hb : fr.get d = .ifb c (.v (.bool b))) : Gd ops fr o (c && !b)
theorem Gd.want {ops : List Oper} {fr : Fr} {o : Oper} {c : Bool} (h : Gd ops fr o c) : wantA ops fr o = some c := by
  cases h with
  | t hg hq hd hb => simp [wantA, hg, hq, hd, hb, wantV]
  | f hg hq hd hb => simp [wantA, hg, hq, hd, hb, wantV]
  | t2 hg hq hd hb => simp [wantA, hg, hq, hd, hb, wantV]
  | f2 hg hq hd hb => simp [wantA, hg, hq, hd, hb, wantV]
theorem Run.gpc {d' : Nat} {c : Bool} {v : AV} (hG : Gd ops fr o c) (ho : o.dst = some d') (hd' : Nat.blt d' n = true) (h : c = true → OpP P o (evO fr) v ∧ okIfs fr o.op.operands.toList) (hr : Run P n ops chk K rest ⟨(d', .ifb c v) :: fr, σ⟩ (acc ++ [([], [])])) : Run P n ops chk K (o :: rest) ⟨fr, σ⟩ acc :=
  Run.gp (ins := []) (ks := []) hG.want ho hd' (fun hc => OpS.open_ (h hc).1.s (h hc).2) (fun _ h => by cases h) O hr
theorem Run.grc {d' : Nat} {c : Bool} {v : AV} {ins : Upds} (hG : Gd ops fr o c) (ho : o.dst = some d') (hd' : Nat.blt d' n = true) (h : OpR P o (evO fr) ins v) (hi : ∀ q ∈ ins, sto σ q.1 = q.2) (hok : c = true → okIfs fr o.op.operands.toList) (hr : Run P n ops chk K rest ⟨(d', .ifb c v) :: fr, σ⟩ (acc ++ [(keys ins, [])])) : Run P n ops chk K (o :: rest) ⟨fr, σ⟩ acc :=
  Run.gp (ins := ins) hG.want ho hd' (fun hc => OpS.open_ h.s (hok hc)) hi O hr
theorem Run.glc {d' t x k off : _} {c : Bool} {D : TypeDesc} {cs : List AV} {v : AV} [Und P t D] (hG : Gd ops fr o c) (ho : o.dst = some d') (hd' : Nat.blt d' n = true)
    (hop : o.op = .load t x) (hx : evO fr x = .ptr k off) (hD : isAggD D = false) (hk : sto σ k = .box cs) (hc : cs[off]? = some v) (hok : c = true → okIfs fr o.op.operands.toList) (hr : Run P n ops chk K rest ⟨(d', .ifb c v) :: fr, σ⟩ (acc ++ [([k], [])])) : Run P n ops chk K (o :: rest) ⟨fr, σ⟩ acc :=
  Run.grc hG ho hd' (OpR.load1 hop hx hD hc) (one_in hk) hok hr
theorem Run.gpick {d' : Nat} {g b p : Bool} {x u v : Operand} (hG : Gd ops fr o g) (ho : o.dst = some d') (hd' : Nat.blt d' n = true) (hop : o.op = .pick x u v) (hx : evA fr x = .ifb g (.v (.bool b))) (hu : evA fr u = .ifb (g && b) (.v (.bool p))) (hv : evA fr v = .v (.bool false))
    (hr : Run P n ops chk K rest ⟨(d', .ifb g (.v (.bool (b && p)))) :: fr, σ⟩ (acc ++ [([], [])])) : Run P n ops chk K (o :: rest) ⟨fr, σ⟩ acc := by
  refine Run.gp (ins := []) (ks := []) hG.want ho hd' (fun hc => OpP.s fun I M w a h => ?_) (fun _ h => by cases h) O hr
  have h1 := h x (by simp [hop, Op.operands])
  have h2 := h u (by simp [hop, Op.operands])
  have h3 := h v (by simp [hop, Op.operands])
  rw [hx] at h1; rw [hu] at h2; rw [hv] at h3
  have e3 := h3.val
  subst hc
  generalize ex : a.eval x = xv at h1
  generalize eu : a.eval u = uv at h2
  refine ⟨.bool (b && p), ?_, .v _⟩
  cases h1 with
  | ifb h1 _ =>
    have e1 := (h1 O).val
    cases b with
    | true =>
      cases h2 with
      | ifb h2 _ => simp [execOp, hop, ex, e1, asBool, eu, (h2 O).val]
    | false => simp [execOp, hop, ex, e1, asBool, e3]
theorem Run.gpickO {d' : Nat} {g b p : Bool} {x u v : Operand} (hG : Gd ops fr o g) (ho : o.dst = some d') (hd' : Nat.blt d' n = true) (hop : o.op = .pick x u v) (hx : evA fr x = .ifb g (.v (.bool b))) (hu : evA fr u = .v (.bool true)) (hv : evA fr v = .ifb (g && !b) (.v (.bool p)))
    (hr : Run P n ops chk K rest ⟨(d', .ifb g (.v (.bool (b || p)))) :: fr, σ⟩ (acc ++ [([], [])])) : Run P n ops chk K (o :: rest) ⟨fr, σ⟩ acc := by
  refine Run.gp (ins := []) (ks := []) hG.want ho hd' (fun hc => OpP.s fun I M w a h => ?_) (fun _ h => by cases h) O hr
  have h1 := h x (by simp [hop, Op.operands])
  have h2 := h u (by simp [hop, Op.operands])
  have h3 := h v (by simp [hop, Op.operands])
  rw [hx] at h1; rw [hu] at h2; rw [hv] at h3
  have e2 := h2.val
  subst hc
  generalize ex : a.eval x = xv at h1
  generalize ev : a.eval v = vv at h3
  refine ⟨.bool (b || p), ?_, .v _⟩
  cases h1 with
  | ifb h1 _ =>
    have e1 := (h1 O).val
    cases b with
    | false =>
      cases h3 with
      | ifb h3 _ => simp [execOp, hop, ex, e1, asBool, ev, (h3 O).val]
    | true => simp [execOp, hop, ex, e1, asBool, e2]
theorem OpP.pickAnd {c u v : Operand} {b p : Bool} {ρ : Operand → AV} (ho : o.op = .pick c u v) (hc : ρ c = .v (.bool b)) (hu : ρ u = .ifb b (.v (.bool p))) (hv : ρ v = .v (.bool false)) : OpP P o ρ (.v (.bool (b && p))) := by
  intro I M w a h
  have h1 := h c (by simp [ho, Op.operands])
  have h2 := h u (by simp [ho, Op.operands])
  have h3 := h v (by simp [ho, Op.operands])
  rw [hc] at h1; rw [hu] at h2; rw [hv] at h3
  have e1 := h1.val
  have e3 := h3.val
  refine ⟨.bool (b && p), ?_, .v _⟩
  cases b with
  | true =>
    generalize eu : a.eval u = uv at h2
    cases h2 with
    | ifb h _ => simp [execOp, ho, e1, asBool, eu, (h O).val]
  | false => simp [execOp, ho, e1, asBool, e3]
theorem OpP.pickOr {c u v : Operand} {b p : Bool} {ρ : Operand → AV} (ho : o.op = .pick c u v) (hc : ρ c = .v (.bool b)) (hu : ρ u = .v (.bool true)) (hv : ρ v = .ifb (!b) (.v (.bool p))) : OpP P o ρ (.v (.bool (b || p))) := by
  intro I M w a h
  have h1 := h c (by simp [ho, Op.operands])
  have h2 := h u (by simp [ho, Op.operands])
  have h3 := h v (by simp [ho, Op.operands])
  rw [hc] at h1; rw [hu] at h2; rw [hv] at h3
  have e1 := h1.val
  have e2 := h2.val
  refine ⟨.bool (b || p), ?_, .v _⟩
  cases b with
  | false =>
    generalize ev : a.eval v = vv at h3
    cases h3 with
    | ifb h _ => simp [execOp, ho, e1, asBool, ev, (h O).val]
  | true => simp [execOp, ho, e1, asBool, e2]
theorem Run.call {d nx : Nat} {x : Operand} {os : Array Operand} {ts : Array TypeId} {f : FuncId} {caps args0 as_ : List AV} {σc σc' σ' : List Res} {r0 r : AV} (S : List Nat) (hc : ACalls P f args0 σc r0 σc') (ho : o.dst = some d) (hop : o.op = .call { callee := .value x, args := os, argTypes := ts }) (hw : wantA ops fr o = some true) (hd : Nat.blt d n = true)
    [CallI P f] (hx : evA fr x = .fn f caps) (he : Ends σ nx) (hargs : AV.rens (renC S nx) args0 = os.toList.map (evA fr) ++ caps) (hS : nodupB S = true) (hSn : S.all (fun k => Nat.blt k nx) = true) (hl : Nat.beq S.length σc.length = true) (hl' : Nat.ble σc.length σc'.length = true) (hlt : σc'.all (Res.lt σc'.length) = true) (hrl : r0.lt σc'.length = true)
    (hlt0 : σc.all (Res.lt σc.length) = true) (hal : AV.lts σc.length args0 = true) (hr0 : r0.ren (renC S nx) = r) (hi : ∀ q ∈ insOf S (renC S nx) σc, sto σ q.1 = q.2) (hok : okU σ.length (outsOf (renC S nx) 0 σc') = true) (hσ : updL σ (outsOf (renC S nx) 0 σc') = σ')
    {k1 k2 : List Nat} (hk1 : keys (insOf S (renC S nx) σc) = k1) (hk2 : keys (outsOf (renC S nx) 0 σc') = k2) (hnew : k2.all (fun k => S.any (Nat.beq k) || Nat.ble nx k) = true)
    (hr : Run P n ops chk K rest ⟨(d, r) :: fr, σ'⟩ (acc ++ [(k1, k2)])) (hnt : noB caps = true := by rfl) : Run P n ops chk K (o :: rest) ⟨fr, σ⟩ acc := by
  refine .op (v := r) hw (by rw [ho]; exact hd) (OpS.call S nx hc hop hx hargs hS hSn hl hl' hlt hrl hlt0 hal hr0 O O hnt) hi hok (fun k hk => ?_) (by rw [ho, hσ, hk1, hk2]; exact hr)
  rw [hk2] at hk
  have h1 := (List.all_eq_true.1 hnew) k hk
  rw [Bool.or_eq_true] at h1
  rcases h1 with h1 | h1
  · left
    rw [keys_insOf _ _ _ (Nat.eq_of_beq_eq_true hl)]
    obtain ⟨k', hk', he'⟩ := List.any_eq_true.1 h1
    rw [Nat.eq_of_beq_eq_true he']; exact hk'
  · right
    rw [← he.spec]; exact Nat.le_of_ble_eq_true h1
theorem Run.c0 {d : Nat} {x : Operand} {os : Array Operand} {ts : Array TypeId} {f : FuncId} {caps args0 : List AV} {r0 : AV} (hc : ACalls P f args0 [] r0 []) (ho : o.dst = some d) (hop : o.op = .call { callee := .value x, args := os, argTypes := ts }) (hw : wantA ops fr o = some true) (hd : Nat.blt d n = true)
    [CallI P f] (hx : evA fr x = .fn f caps) (hargs : os.toList.map (evA fr) ++ caps = args0) (hal : AV.lts 0 args0 = true) (hrl : r0.lt 0 = true) (hr : Run P n ops chk K rest ⟨(d, r0) :: fr, σ⟩ (acc ++ [([], [])])) (hnt : noB caps = true := by rfl) : Run P n ops chk K (o :: rest) ⟨fr, σ⟩ acc := by
  refine .op (ins := []) (outs := []) (v := r0) hw (by rw [ho]; exact hd) (OpS.call [] 0 hc hop hx (by rw [hargs]; exact (rens_lt0 _ hal)) O O O O O hrl O hal (ren_lt0 hrl) O O hnt) (fun _ h => by cases h) O (fun _ h => by cases h) (by rw [ho]; exact hr)
theorem OpS.c0 {x : Operand} {os : Array Operand} {ts : Array TypeId} {f : FuncId} {caps args0 : List AV} {r0 : AV} {ρ : Operand → AV} (hc : ACalls P f args0 [] r0 []) (hop : o.op = .call { callee := .value x, args := os, argTypes := ts }) [CallI P f] (hx : ρ x = .fn f caps) (hargs : os.toList.map ρ ++ caps = args0) (hal : AV.lts 0 args0 = true) (hrl : r0.lt 0 = true) (hnt : noB caps = true := by rfl) : OpS P o ρ [] r0 [] :=
  OpS.call [] 0 hc hop hx (by rw [hargs]; exact (rens_lt0 _ hal)) O O O O O hrl O hal (ren_lt0 hrl) O O hnt
theorem Run.gcc {d' : Nat} {c : Bool} {x : Operand} {os : Array Operand} {ts : Array TypeId} {f : FuncId} {caps args0 : List AV} {r0 : AV} (hc : c = true → ACalls P f args0 [] r0 []) (hG : Gd ops fr o c) (ho : o.dst = some d') (hd' : Nat.blt d' n = true) (hop : o.op = .call { callee := .value x, args := os, argTypes := ts })
    [CallI P f] (hx : evO fr x = .fn f caps) (hargs : os.toList.map (evO fr) ++ caps = args0) (hal : AV.lts 0 args0 = true) (hrl : r0.lt 0 = true) (hok : c = true → okIfs fr o.op.operands.toList) (hr : Run P n ops chk K rest ⟨(d', .ifb c r0) :: fr, σ⟩ (acc ++ [([], [])]))  (hnt : noB caps = true := by rfl) : Run P n ops chk K (o :: rest) ⟨fr, σ⟩ acc :=
  Run.gp (ins := []) (ks := []) hG.want ho hd' (fun h => OpS.open_ (OpS.c0 (hc h) hop hx hargs hal hrl hnt) (hok h)) (fun _ h => by cases h) O hr
end
inductive RetC (P : Program) (s : State) (ρ : Nat → Nat) : List ResultVar → List AV → Prop
  | nil : RetC P s ρ [] []
  | tmp {t : Tmp} {u v : AV} {l : List ResultVar} {vs : List AV} (h : s.fr.get t = u) (hc : Cv (sto s.σ) u (v.ren ρ)) (hs : RetC P s ρ l vs) : RetC P s ρ (.tmp t :: l) (v :: vs)
  | cell1 {t : Tmp} {ty : TypeId} {d : TypeDesc} {k off : Nat} {cs : List AV} {u v : AV} {l : List ResultVar} {vs : List AV} [Und P ty d] (hd : isAggD d = false) (h : s.fr.get t = .ptr k off) (hk : sto s.σ k = .box cs) (hu : cs[off]? = some u) (hc : Cv (sto s.σ) u (v.ren ρ)) (hs : RetC P s ρ l vs) : RetC P s ρ (.cell t ty :: l) (v :: vs)
  | cellN {t : Tmp} {ty : TypeId} {d : TypeDesc} {z : Value} {sz bytes k off : Nat} {cs m m' : List AV} {l : List ResultVar} {vs : List AV} [Und P ty d] [TyI P ty z sz bytes] (hd : isAggD d = true) (h : s.fr.get t = .ptr k off) (hk : sto s.σ k = .box cs) (hm : Sub cs off sz m) (hc : CvL (sto s.σ) m (AV.rens ρ m')) (hs : RetC P s ρ l vs) : RetC P s ρ (.cell t ty :: l) (.agg m' :: vs)
theorem RetC.res {P : Program} {s : State} {ρ : Nat → Nat} {l : List ResultVar} {vs : List AV} (h : RetC P s ρ l vs) : ∃ us, ResA P s l us ∧ CvL (sto s.σ) us (AV.rens ρ vs) := by
  induction h with
  | nil => exact ⟨[], .nil, .nil⟩
  | tmp h hc _ ih =>
    obtain ⟨us, h1, h2⟩ := ih
    exact ⟨_, .tmp h h1, .cons hc h2⟩
  | @cell1 t ty d k off cs u v l vs _ hd h hk hu hc _ ih =>
    obtain ⟨us, h1, h2⟩ := ih
    exact ⟨_, .cell1 hd h hk hu h1, .cons hc h2⟩
  | @cellN t ty d z sz bytes k off cs m m' l vs _ _ hd h hk hm hc _ ih =>
    obtain ⟨us, h1, h2⟩ := ih
    exact ⟨_, .cellN (ty := ty) hd h hk hm.spec.1 hm.spec.2 h1, .cons (.agg hc) h2⟩
theorem RetOk.one {P : Program} {fn : Func} {r : AV} {s : State} {n : Nat} {I : Nat → CI} {M : Nat → Nat} {w : World} {own : Nat → Prop} (hlt : r.lt 0 = true) (hr : RetC P s (renL []) fn.results.toList [r]) : RetOk P fn r [] ⟨n, 0, I, M, w, own⟩ .ret s := by
  obtain ⟨us, h1, h2⟩ := hr.res
  cases h2 with
  | cons h hs =>
    cases hs with
    | nil => exact ⟨_, [], h1, rfl, rfl, Nat.le_refl _, h, hlt, .nil⟩
theorem cv_resV {σ : Nat → Res} {us vs : List AV} (h : CvL σ us vs) (hl : Nat.beq vs.length 1 = false) : Cv σ (resV us) (.tup vs) := by
  cases h with
  | nil => exact Cv.tup .nil
  | cons h1 h2 =>
    cases h2 with
    | nil => simp at hl
    | cons h2 h3 => exact Cv.tup (.cons h1 (.cons h2 h3))
theorem AV.rens_len (ρ : Nat → Nat) (l : List AV) : (AV.rens ρ l).length = l.length := by rw [AV.rens_map]; simp
theorem RetOk.tup {P : Program} {fn : Func} {vs : List AV} {s : State} {n : Nat} {I : Nat → CI} {M : Nat → Nat} {w : World} {own : Nat → Prop} (hl : Nat.beq vs.length 1 = false) (hlt : AV.lts 0 vs = true) (hr : RetC P s (renL []) fn.results.toList vs) : RetOk P fn (.tup vs) [] ⟨n, 0, I, M, w, own⟩ .ret s := by
  obtain ⟨us, h1, h2⟩ := hr.res
  exact ⟨_, [], h1, rfl, rfl, Nat.le_refl _, cv_resV h2 (by rw [AV.rens_len]; exact hl), by simpa [AV.lt] using hlt, .nil⟩
inductive VL : List AV → List Value → Prop
  | nil : VL [] []
  | cons {x : Value} {l : List AV} {xs : List Value} (h : VL l xs) : VL (.v x :: l) (x :: xs)
theorem VL.map {l : List AV} {xs : List Value} (h : VL l xs) : l = xs.map .v := by
  induction h with
  | nil => rfl
  | cons h ih => simp [ih]
theorem VL.rp {I : Nat → CI} {M : Nat → Nat} {w : World} {v : Value} {l : List AV} {xs : List Value} (h : VL l xs) (hv : Rp I M w v (.agg l)) : v = .agg xs.toArray := by
  rw [h.map] at hv
  cases hv with
  | @agg vs _ hs h1 hc =>
    congr 1
    apply Array.ext'
    apply List.ext_getElem?
    intro i
    simp only [List.length_map] at hs
    rcases Nat.lt_or_ge i xs.length with hi | hi
    · have := hc i vs[i] (.v xs[i]) (by simp [show i < vs.size by omega]) (by simp [hi])
      simp [show i < vs.size by omega, hi, this.val]
    · rw [List.getElem?_eq_none (by simp; omega), List.getElem?_eq_none (by simpa using hi)]
class NoIf (P : Program) (t : TypeId) : Prop where
  eq : P.eqGuardType P.depth t = false
theorem OpP.binA {P : Program} {o : Oper} {ρ : Operand → AV} {op : BinOp} {t t' : TypeId} {x y : Operand} {l m : List AV} {xs ys : List Value} {r : Value} [N : NoIf P t] (ho : o.op = .binOp op t x y t') (hx : ρ x = .agg l) (hy : ρ y = .agg m) (hl : VL l xs) (hm : VL m ys)
    (hr : ∀ w : World, (binOp op t (.agg xs.toArray) (.agg ys.toArray)).run P w = .ok r w) : OpP P o ρ (.v r) := by
  intro I M w a h
  have h1 := h x (by simp [ho, Op.operands])
  have h2 := h y (by simp [ho, Op.operands])
  rw [hx] at h1; rw [hy] at h2
  have e1 := hl.rp h1
  have e2 := hm.rp h2
  have hg : (eqGuard op t x y (.agg xs.toArray) (.agg ys.toArray)).run P w = .ok () w := by
    have := N.eq
    cases op <;> simp [eqGuard, this]
  exact ⟨r, by simp [execOp, ho, e1, e2, hr, hg], .v r⟩
class StrI (P : Program) (t : TypeId) (pl : outParam (List (Nat × Nat))) (zs : outParam (List AV)) : Prop where
  eq : ∃ (it : TypeInfo) (fs : Array Field) (z : Value), P.info? t = some it ∧ P.underlying t = some (.struct fs) ∧ it.zero = some z ∧ fs.toList.mapM (fun f => (P.info? f.type).map fun i => (f.offset, i.size)) = some pl ∧ z.cells.toList.all (·.oneCell') = true ∧ z.cells.toList.map .v = zs
theorem StrI.mk' {P : Program} {t : TypeId} {pl : List (Nat × Nat)} {zs : List AV} {d : TypeDesc} {z : Value} {sz bytes : Nat} [U : Und P t d] [T : TyI P t z sz bytes] (hd : (match d with | .struct fs => fs.toList.mapM (fun f => (P.info? f.type).map fun i => (f.offset, i.size)) | _ => none) = some pl)
    (h1 : z.cells.toList.all (·.oneCell') = true) (h2 : z.cells.toList.map .v = zs) : StrI P t pl zs := by
  obtain ⟨i, hi, hz, _, _⟩ := info_parts T.info
  cases d <;> simp only at hd <;> first | (cases hd; done) | skip
  exact ⟨i, _, z, hi, U.und, hz, hd, h1, h2⟩
inductive Built (ρ : Operand → AV) (pl : List (Nat × Nat)) : List AV → List (Nat × Operand) → List AV → Prop
  | nil {zs : List AV} : Built ρ pl zs [] zs
  | cons {zs zs' new out : List AV} {i off size : Nat} {x : Operand} {v : AV} {r : List (Nat × Operand)} (hp : pl[i]? = some (off, size)) (hx : ρ x = v) (hc : Cells v new) (hl : Nat.beq new.length size = true) (ho : Over zs off new zs') (hr : Built ρ pl zs' r out) : Built ρ pl zs ((i, x) :: r) out
theorem Built.run {ρ : Operand → AV} {pl : List (Nat × Nat)} {I : Nat → CI} {M : Nat → Nat} {w : World} {a : Act} {zs out : List AV} {parts : List (Nat × Operand)} (h : Built ρ pl zs parts out) (hop : ∀ q ∈ parts, Rp I M w (a.eval q.2) (ρ q.2)) :
    ∀ cur : Array Value, cur.size = zs.length → (∀ (i : Nat) (v : Value), cur[i]? = some v → v.oneCell' = true) → (∀ (i : Nat) (v : Value) (c : AV), cur[i]? = some v → zs[i]? = some c → Rp I M w v c) →
      ∃ r : Array Value, Instr.fill (pl.toArray[·]?) cur (parts.map fun q => (q.1, a.eval q.2)) = some r ∧ r.size = out.length ∧ (∀ (i : Nat) (v : Value), r[i]? = some v → v.oneCell' = true) ∧ ∀ (i : Nat) (v : Value) (c : AV), r[i]? = some v → out[i]? = some c → Rp I M w v c := by
  induction h with
  | nil => intro cur h1 h2 h3; exact ⟨cur, rfl, h1, h2, h3⟩
  | @cons zs zs' new out i off size x v r hp hx hc hl ho hr ih =>
    intro cur h1 h2 h3
    have hl := Nat.eq_of_beq_eq_true hl
    obtain ⟨o1, o2⟩ := ho.spec
    have hv := hop (i, x) (by simp)
    simp only at hv
    rw [hx] at hv
    obtain ⟨c1, c2, c3⟩ := hv.cells hc.ok.1
    rw [hc.ok.2] at c1 c3
    have hz : (a.eval x).cells.zipIdx.foldl (fun cs (c, j) => cs.setIfInBounds (off + j) c) cur = setArr cur off (a.eval x).cells.toList := by
      have := foldl_setArr (a.eval x).cells.toList off 0 cur
      rw [Nat.add_zero] at this
      rw [← this, ← Array.foldl_toList]
      simp [Array.toList_zipIdx]
    have hvl : (a.eval x).cells.toList.length = new.length := by simpa using c1
    obtain ⟨r', e1, e2⟩ := ih (fun q hq => hop q (List.mem_cons_of_mem _ hq)) (setArr cur off (a.eval x).cells.toList) (by
        have e := congrArg List.length o2
        simp only [List.length_append, List.length_take, List.length_drop] at e
        rw [setArr_size, h1]; omega) (fun j u hu => by
        rw [setArr_get _ _ _ (by omega)] at hu
        split at hu
        · exact c2 _ u (by simpa using hu)
        · exact h2 j u hu) (fun j u c hu hc' => by
        rw [setArr_get _ _ _ (by omega)] at hu
        rw [← o2] at hc'
        split at hu
        · rw [List.getElem?_append_right (by simp; omega), List.length_take, Nat.min_eq_left (by omega), List.getElem?_append_left (by omega)] at hc'
          exact c3 (j - off) u c (by simpa using hu) hc'
        · refine h3 j u c hu ?_
          rcases Nat.lt_or_ge j off with q | q
          · rw [List.getElem?_append_left (by simp; omega), List.getElem?_take, if_pos q] at hc'
            exact hc'
          · rw [List.getElem?_append_right (by simp; omega), List.length_take, Nat.min_eq_left (by omega), List.getElem?_append_right (by omega), List.getElem?_drop] at hc'
            rw [← hc']; congr 1; omega)
    refine ⟨r', ?_, e2⟩
    simp only [List.map_cons, Instr.fill]
    have hpl : pl.toArray[i]? = some (off, size) := by simpa using hp
    rw [hpl]
    simp only
    rw [if_neg (by simp; omega)]
    simp only [hz]
    exact e1
theorem OpP.buildS {P : Program} {o : Oper} {ρ : Operand → AV} {t : TypeId} {parts : Array (Nat × Operand)} {pl : List (Nat × Nat)} {zs out : List AV} [S : StrI P t pl zs] (ho : o.op = .build t parts) (h : Built ρ pl zs parts.toList out) : OpP P o ρ (.agg out) := by
  intro I M w a hop
  obtain ⟨it, fs, z, e1, e2, e3, e4, e5, e6⟩ := S.eq
  have hop' : ∀ q ∈ parts.toList, Rp I M w (a.eval q.2) (ρ q.2) := fun q hq => hop q.2 (by rw [ho]; simp only [Op.operands]; exact List.mem_map.2 ⟨q, hq, rfl⟩)
  subst e6
  obtain ⟨r, r1, r2, r3, r4⟩ := h.run hop' z.cells (by simp) (fun i v hv => (List.all_eq_true.1 e5) v (by simpa using Array.mem_of_getElem? hv)) (fun i v c hv hc => by
    rw [List.getElem?_map, Array.getElem?_toList, hv] at hc
    injection hc with hc; subst hc; exact .v _)
  refine ⟨.agg r, ?_, .agg r2 r3 r4⟩
  have hb : P.built t (parts.map fun q => (q.1, a.eval q.2)).toList = some r := by
    rw [Array.toList_map]
    simp only [Program.built, e1, e2, e3, e4]
    exact r1
  have hgo : execOp a.eval o = (do pure (.value (← Instr.build t (parts.map fun q => (q.1, a.eval q.2))))) := by simp only [execOp, ho]
  rw [hgo]
  simp [run_build w t _ r hb]
end Go.Proofs.YtbbcokckealagaaGreat
namespace Go.Proofs.YtbbcokckealagaaGreat
set_option linter.unusedVariables false
set_option linter.unusedSimpArgs false
open Go.RowKit
def Conv (g : Ent) (s s' : State) : Prop := ∀ (I : Nat → CI) (M : Nat → Nat) (w : World) (a : Act), St g I M w a s → ∃ I' M', St g I' M' w a s'
theorem Conv.refl {g : Ent} {s : State} : Conv g s s := fun I M w a h => ⟨I, M, h⟩
theorem Conv.mk {g : Ent} {s s' : State} (S : List Nat) (hnd : nodupB S = true) (hp : fixB g.p S = true) (hl : Nat.ble g.p S.length = true) (hf : Cf (sto s.σ) s.fr (renL S) s'.fr) (hfl : s'.fr.lt s'.σ.length = true) (hc : Crs (sto s.σ) (renL S) s'.σ.length S s'.σ) : Conv g s s' :=
  fun I M w a hst => hst.conv S hnd hp (Nat.le_of_ble_eq_true hl) hf hfl hc
theorem AW.conv {P : Program} {g : Ent} {c : Code} {Q : Exit → State → Prop} {s s' : State} (h : Conv g s s') (k : AW P g c Q s') : AW P g c Q s := fun I M w a hst => by
  obtain ⟨I', M', h1⟩ := h I M w a hst
  exact k I' M' w a h1
theorem AW.loopF {P : Program} {g : Ent} {c : Code} {Q : Exit → State → Prop} {s : State} {X : Type} (F : X → State) (C : X → Prop) (m : X → Nat) (x0 : X) (hs : Conv g s (F x0)) (h0 : C x0)
    (round : ∀ x, C x → AW P g c (thenA (fun s' => ∃ x', C x' ∧ m x' < m x ∧ Conv g s' (F x')) Q) (F x)) : AW P g (.loop c) Q s := AW.loop F C m x0 hs h0 round
section
variable {g : Ent} {I : Nat → CI} {M : Nat → Nat} {w : World} {a : Act} {fr : Fr} {σ : List Res}
theorem own_ok (h : St g I M w a ⟨fr, σ⟩) {A : Option Addr} {sz : Nat} {xs : List (List PV)} (hr : RPV M w (.slice A xs.length xs.length) (.sl sz xs)) :
    let I' := fun i => if i = σ.length then CI.row xs sz A xs.length else I i
    Rp I' M w (.slice A xs.length xs.length) (.row σ.length xs.length) ∧ St g I' M w a ⟨fr, σ ++ [.row sz xs]⟩ := by
  intro I'
  have hno := h.no σ.length (Nat.le_refl _)
  have hIk : I' σ.length = .row xs sz A xs.length := by simp [I']
  have hle : ∀ i, (I i).le (I' i) := by
    intro i
    by_cases hi : i = σ.length
    · rw [hi, hno]; trivial
    · simp only [I', if_neg hi]; exact CI.le_refl _
  have hext : Ext (fun _ => False) I I' M M w w := ⟨rfl, rfl, rfl, hle, Evo.refl _ _, fun _ _ _ => ⟨rfl, rfl⟩⟩
  have hsto : sto (σ ++ [.row sz xs]) = updS (sto σ) [(σ.length, .row sz xs)] := by
    funext k
    have := sto_putR σ σ.length (.row sz xs) (Nat.le_refl _) k
    have h2 : putR σ σ.length (.row sz xs) = σ ++ [.row sz xs] := by
      unfold putR
      have : Nat.blt σ.length σ.length = false := by
        cases hb : Nat.blt σ.length σ.length with
        | false => rfl
        | true => rw [Nat.blt_eq] at hb; omega
      rw [this]
    rw [h2] at this
    rw [this]; rfl
  have hblk : blkOf (I' σ.length) (.row sz xs) = none := by rw [hIk]; simp [blkOf]
  have hst : Sto I' M w (sto (σ ++ [.row sz xs])) := by
    rw [hsto]
    refine h.st.upd [σ.length] hext (fun _ h => h.elim) (fun i hi => ?_) (fun i hi => updS_other _ _ _ (by simpa [keys] using hi)) (fun i hi => ?_) (fun i hi b hb => ?_) (fun i hi j hj b hne => ?_) h.st.top
    · have : i ≠ σ.length := by simpa using hi
      simp [I', this]
    · obtain rfl : i = σ.length := by simpa using hi
      simp only [updS, if_true, hIk]
      exact ⟨A, xs.length, rfl, hr, fun hne => absurd O hne⟩
    · obtain rfl : i = σ.length := by simpa using hi
      simp only [updS, if_true, hblk] at hb
      cases hb
    · obtain rfl : i = σ.length := by simpa using hi
      obtain rfl : j = σ.length := by simpa using hj
      exact absurd O hne
  refine ⟨.row hIk (Nat.le_refl _) (by rw [List.take_length]; exact hr) fun _ => ⟨rfl, rfl⟩, ⟨h.fr.evo hle (Evo.refl _ _), h.df, hst, by have := h.len; simp at this ⊢; omega, fun k hk => ?_, h.ext.trans hext (fun _ _ h => h.elim), fun k b hb => ?_, h.gno⟩⟩
  · simp only [List.length_append, List.length_cons, List.length_nil] at hk
    simp only [I', if_neg (show k ≠ σ.length by omega)]
    exact h.no k (by simp only; omega)
  · simp only at hb
    rw [hsto] at hb
    by_cases hk : k = σ.length
    · subst hk
      simp only [updS, if_true, hblk] at hb
      cases hb
    · simp only [updS, if_neg hk, I', if_neg hk] at hb
      exact h.ini k b hb
theorem full_of (h : St g I M w a ⟨fr, σ⟩) {v : Value} {p : AV} {sz : Nat} {xs : List (List PV)} (hv : Rp I M w v p) (hp : p = .sl sz xs true ∨ p = .v (.slice none 0 0) ∧ xs = []) : ∃ A, v = .slice A xs.length xs.length ∧ RPV M w v (.sl sz xs) := by
  rcases hp with rfl | ⟨rfl, rfl⟩
  · cases hv with
    | sl h hf =>
      have := hf O
      subst this
      have := h.len.1
      subst this
      exact ⟨_, rfl, h⟩
  · exact ⟨none, hv.val, by rw [hv.val]; exact .nil _ _ _ _ _⟩
end
theorem Conv.own {g : Ent} {fr : Fr} {σ : List Res} {s' : State} (t : Nat) (sz : Nat) (xs : List (List PV)) (hp : fr.get t = .sl sz xs true ∨ fr.get t = .v (.slice none 0 0) ∧ xs = []) (h : Conv g ⟨(t, .row σ.length xs.length) :: fr, σ ++ [.row sz xs]⟩ s') : Conv g ⟨fr, σ⟩ s' := fun I M w a hst => by
  obtain ⟨A, hv, hr⟩ := full_of hst (hst.fr.2 t) hp
  rw [hv] at hr
  obtain ⟨r1, r2⟩ := own_ok hst hr
  refine h _ M w a ⟨⟨r2.fr.1, fun t' => ?_⟩, r2.df, r2.st, r2.len, r2.no, r2.ext, r2.ini, r2.gno⟩
  simp only [Fr.get]
  cases hb : Nat.beq t' t with
  | true => obtain rfl := Nat.eq_of_beq_eq_true hb; simp only; rw [hv]; exact r1
  | false => exact r2.fr.2 t'
theorem Conv.ownB {g : Ent} {fr : Fr} {σ : List Res} {s' : State} (k i : Nat) (sz : Nat) (xs : List (List PV)) {cs cs' : List AV} {c : AV} {σ' : List Res} (hk : sto σ k = .box cs) (hc : cs[i]? = some c) (hp : c = .sl sz xs true ∨ c = .v (.slice none 0 0) ∧ xs = []) (ho : Over cs i [.row σ.length xs.length] cs') (hσ : PutAt σ k (.box cs') σ')
    (h : Conv g ⟨fr, σ' ++ [.row sz xs]⟩ s') : Conv g ⟨fr, σ⟩ s' := fun I M w a hst => by
  have own := hst.st.own k
  simp only at own
  rw [hk] at own
  obtain ⟨b, cur, e, e1, e2, e3, e4, e5, e6⟩ := own
  have hil : i < cs.length := (List.getElem?_eq_some_iff.1 hc).1
  have hcur : cur[i]? = some cur[i] := by simp [show i < cur.size by omega]
  obtain ⟨A, hv, hr⟩ := full_of hst (e6 i _ c hcur hc) hp
  rw [hv] at hr
  obtain ⟨r1, r2⟩ := own_ok hst hr
  obtain ⟨p1, p2⟩ := hσ.spec
  obtain ⟨o1, o2⟩ := ho.spec
  have hkl : k < σ.length := by
    rcases Nat.lt_or_ge k σ.length with h | h
    · exact h
    · have : sto σ k = .no := by simp [sto, List.getElem?_eq_none h]
      rw [this] at hk; cases hk
  have hlen : σ'.length = σ.length := by rw [← p2, putR_len _ _ _ p1, if_neg (by omega)]
  have hcs : cs'.length = cs.length := by rw [← o2]; simp at o1 ⊢; omega
  have hget : ∀ j c', cs'[j]? = some c' → (j = i ∧ c' = .row σ.length xs.length) ∨ (j ≠ i ∧ cs[j]? = some c') := by
    intro j c' hj
    rw [← o2] at hj
    simp only [List.length_cons, List.length_nil] at o1 hj
    rcases Nat.lt_trichotomy j i with q | q | q
    · rw [List.getElem?_append_left (by simp; omega), List.getElem?_take, if_pos q] at hj
      exact .inr ⟨by omega, hj⟩
    · subst q
      rw [List.getElem?_append_right (by rw [List.length_take]; omega), List.length_take, Nat.min_eq_left (by omega), Nat.sub_self] at hj
      simp at hj
      exact .inl ⟨rfl, hj.symm⟩
    · rw [List.getElem?_append_right (by simp; omega), List.length_take, Nat.min_eq_left (by omega), List.getElem?_append_right (by simp; omega), List.getElem?_drop] at hj
      refine .inr ⟨by omega, ?_⟩
      rw [← hj]; congr 1; simp; omega
  have hs1 : ∀ j, sto (σ' ++ [.row sz xs]) j = if j = k then .box cs' else sto (σ ++ [.row sz xs]) j := by
    intro j
    have q := sto_putR σ k (.box cs') p1 j
    rw [p2] at q
    by_cases hjl : j < σ.length
    · have a1 : sto (σ' ++ [.row sz xs]) j = sto σ' j := by simp only [sto, List.getD_eq_getElem?_getD]; rw [List.getElem?_append_left (by omega)]
      have a2 : sto (σ ++ [.row sz xs]) j = sto σ j := by simp only [sto, List.getD_eq_getElem?_getD]; rw [List.getElem?_append_left hjl]
      rw [a1, a2, q]
    · rw [if_neg (by omega)]
      simp only [sto, List.getD_eq_getElem?_getD]
      rw [List.getElem?_append_right (by omega), List.getElem?_append_right (by omega), hlen]
  have hIk : (if k = σ.length then CI.row xs sz A xs.length else I k) = I k := if_neg (by omega)
  have hsk : sto (σ ++ [.row sz xs]) k = .box cs := by
    simp only [sto, List.getD_eq_getElem?_getD] at hk ⊢
    rw [List.getElem?_append_left hkl]; exact hk
  have blk : ∀ j ci, blkOf ci (sto (σ' ++ [.row sz xs]) j) = blkOf ci (sto (σ ++ [.row sz xs]) j) := by
    intro j ci
    rw [hs1]
    by_cases hj : j = k
    · rw [if_pos hj]; subst hj; rw [hsk]; cases ci <;> rfl
    · rw [if_neg hj]
  refine h _ M w a ⟨r2.fr, r2.df, ⟨fun j => ?_, fun j j' b hne hb => ?_, r2.st.top, r2.st.tab⟩, by have := r2.len; simp at this ⊢; omega, fun j hj => r2.no j (by simp at hj ⊢; omega), r2.ext, fun j b hb => ?_, r2.gno⟩
  · have o := r2.st.own j
    simp only at o ⊢
    rw [hs1]
    by_cases hj : j = k
    · rw [if_pos hj]
      subst hj
      rw [hsk] at o
      obtain ⟨b', cur', e', f1, f2, f3, f4, f5, f6⟩ := o
      refine ⟨b', cur', e', f1, f2, f3, by omega, f5, fun i' v' c' hv' hc' => ?_⟩
      rcases hget i' c' hc' with ⟨rfl, rfl⟩ | ⟨_, hc'⟩
      · have hbb : b' = b := by
          rw [hIk, e1] at f1
          injection f1 with f1; exact f1.symm
        subst hbb
        rw [e2] at f2
        injection f2 with f2
        injection f2 with f2
        subst f2
        rw [hcur] at hv'
        injection hv' with hv'
        rw [← hv', hv]; exact r1
      · exact f6 i' v' c' hv' hc'
    · rw [if_neg hj]; exact o
  · simp only at hb ⊢
    rw [blk] at hb ⊢
    exact r2.st.dis j j' b hne hb
  · simp only at hb
    rw [blk] at hb
    exact r2.ini j b hb
end Go.Proofs.YtbbcokckealagaaGreat
namespace Go.Proofs.YtbbcokckealagaaGreat
set_option linter.unusedVariables false
set_option linter.unusedSimpArgs false
open Go.RowKit
section
variable {P : Program} {n : Nat} {ops : List Oper} {chk : List FP → Bool} {K : State → Prop} {rest : List Oper} {o : Oper} {fr : Fr} {σ : List Res} {acc : List FP} {ρ : Operand → AV} {σ0 : Nat → Res}
theorem OpR.sliceL {t e : TypeId} {x y : Operand} {k : IntKind} {sz bytes l : Nat} {z : Value} {xs r : List (List PV)} {ins : Upds} [Und P t (.slice e)] [TyI P e z sz bytes] (ho : o.op = .slice t x (some y) none none) (hx : Dat σ0 (ρ x) sz xs ins) (hy : ρ y = .v (.int k (l : Int))) (hl : l ≤ xs.length) (hr : xs.drop l = r) : OpR P o ρ ins (.sl sz r false) := by
  subst hr
  have := OpR.slice (P := P) (o := o) (ρ := ρ) (σ0 := σ0) (t := t) (e := e) (z := z) (bytes := bytes) (h := none) (m := none) (f := false) (L := l) (H := xs.length) ho hx (OpI.so hy O) OpI.no OpI.no (by simp) O O hl (Nat.le_refl _) (by simp) (by simp) (by simp)
  rwa [List.take_length] at this
theorem OpR.sliceH {t e : TypeId} {x y : Operand} {k : IntKind} {sz bytes h : Nat} {z : Value} {xs r : List (List PV)} {ins : Upds} [Und P t (.slice e)] [TyI P e z sz bytes] (ho : o.op = .slice t x none (some y) none) (hx : Dat σ0 (ρ x) sz xs ins) (hy : ρ y = .v (.int k (h : Int))) (hl : h ≤ xs.length) (hr : xs.take h = r) : OpR P o ρ ins (.sl sz r false) := by
  subst hr
  exact OpR.slice (l := none) (m := none) (f := false) (L := 0) (H := h) ho hx OpI.no (OpI.so hy O) OpI.no (by simp) O O (Nat.zero_le _) hl (by simp) (by simpa using hl) (by simp)
theorem OpR.sliceLH {t e : TypeId} {x y1 y2 : Operand} {k k' : IntKind} {sz bytes l h : Nat} {z : Value} {xs r : List (List PV)} {ins : Upds} [Und P t (.slice e)] [TyI P e z sz bytes] (ho : o.op = .slice t x (some y1) (some y2) none) (hx : Dat σ0 (ρ x) sz xs ins) (hy1 : ρ y1 = .v (.int k (l : Int))) (hy2 : ρ y2 = .v (.int k' (h : Int))) (h1 : l ≤ h) (h2 : h ≤ xs.length) (hr : (xs.take h).drop l = r) : OpR P o ρ ins (.sl sz r false) := by
  subst hr
  exact OpR.slice (m := none) (f := false) (L := l) (H := h) ho hx (OpI.so hy1 O) (OpI.so hy2 O) OpI.no (by simp) O O h1 h2 (by simp) (by simpa using h2) (by simp)
theorem OpR.slice3h {t e : TypeId} {x y2 y3 : Operand} {k' k'' : IntKind} {sz bytes h : Nat} {z : Value} {xs r : List (List PV)} {ins : Upds} [Und P t (.slice e)] [TyI P e z sz bytes] (ho : o.op = .slice t x none (some y2) (some y3)) (hx : Dat σ0 (ρ x) sz xs ins) (hy2 : ρ y2 = .v (.int k' (h : Int))) (hy3 : ρ y3 = .v (.int k'' (h : Int))) (h2 : h ≤ xs.length) (hr : xs.take h = r) : OpR P o ρ ins (.sl sz r true) := by
  subst hr
  exact OpR.slice (l := none) (f := true) (L := 0) (H := h) ho hx OpI.no (OpI.so hy2 O) (OpI.so hy3 O) (by simp) O O (Nat.zero_le _) h2 (by simp) (by simpa using h2) (fun _ => .inl O)
theorem OpP.sliceStrL {t : TypeId} {x y : Operand} {k : IntKind} {l : Int} {s r : List UInt8} [Und P t .string] (ho : o.op = .slice t x (some y) none none) (hx : ρ x = .v (.string (bs s))) (hy : ρ y = .v (.int k l)) (h0 : 0 ≤ l) (hl : l ≤ s.length) (hr : s.drop l.toNat = r) : OpP P o ρ (.v (.string (bs r))) := by
  obtain ⟨l, rfl⟩ := Int.eq_ofNat_of_zero_le h0
  exact OpP.sliceStr (h := none) (L := l) (H := s.length) ho hx (OpI.so hy O) OpI.no O O (by omega) (Nat.le_refl _) (by rw [List.take_length]; exact hr)
theorem OpP.sliceStrH {t : TypeId} {x y : Operand} {k : IntKind} {h : Int} {s r : List UInt8} [Und P t .string] (ho : o.op = .slice t x none (some y) none) (hx : ρ x = .v (.string (bs s))) (hy : ρ y = .v (.int k h)) (h0 : 0 ≤ h) (hl : h ≤ s.length) (hr : s.take h.toNat = r) : OpP P o ρ (.v (.string (bs r))) := by
  obtain ⟨h, rfl⟩ := Int.eq_ofNat_of_zero_le h0
  exact OpP.sliceStr (l := none) (L := 0) (H := h) ho hx OpI.no (OpI.so hy O) O O (Nat.zero_le _) (by omega) hr
theorem OpP.sliceStrLH {t : TypeId} {x y1 y2 : Operand} {k k' : IntKind} {l h : Int} {s r : List UInt8} [Und P t .string] (ho : o.op = .slice t x (some y1) (some y2) none) (hx : ρ x = .v (.string (bs s))) (hy1 : ρ y1 = .v (.int k l)) (hy2 : ρ y2 = .v (.int k' h)) (h0 : 0 ≤ l) (h1 : l ≤ h) (h2 : h ≤ s.length) (hr : (s.take h.toNat).drop l.toNat = r) : OpP P o ρ (.v (.string (bs r))) := by
  obtain ⟨l, rfl⟩ := Int.eq_ofNat_of_zero_le h0
  obtain ⟨h, rfl⟩ := Int.eq_ofNat_of_zero_le (show 0 ≤ h by omega)
  exact OpP.sliceStr (L := l) (H := h) ho hx (OpI.so hy1 O) (OpI.so hy2 O) O O (by omega) (by omega) hr
theorem OpP.neg {t : TypeId} {x : Operand} {k : IntKind} {a r : Int} (ho : o.op = .unOp .neg t x) (hx : ρ x = .v (.int k a)) (hr : k.wrap (-a) = r) : OpP P o ρ (.v (.int k r)) :=
  OpP.un ho hx fun w => by simp [Op.unary, Op.intArith, Int.zero_sub, hr]
theorem OpP.decT {p : Prop} [Decidable p] (h : OpP P o ρ (.v (.bool (decide p)))) (hp : p) : OpP P o ρ (.v (.bool true)) := by rw [decide_eq_true hp] at h; exact h
theorem OpP.decF {p : Prop} [Decidable p] (h : OpP P o ρ (.v (.bool (decide p)))) (hp : ¬ p) : OpP P o ρ (.v (.bool false)) := by rw [decide_eq_false hp] at h; exact h
theorem ins_nil {f : Nat → Res} : ∀ q ∈ ([] : Upds), f q.1 = q.2 := fun _ h => by cases h
theorem ins_cons {f : Nat → Res} {k : Nat} {r : Res} {l : Upds} (h : f k = r) (hl : ∀ q ∈ l, f q.1 = q.2) : ∀ q ∈ (k, r) :: l, f q.1 = q.2 := fun q hq => by
  rcases List.mem_cons.1 hq with rfl | hq
  · exact h
  · exact hl q hq
theorem OpP.loadES {t : TypeId} {x : Operand} {j sz bytes : Nat} {z : Value} {ys : List PV} {l : List AV} {d : TypeDesc} [Und P t d] [TyI P t z sz bytes] (ho : o.op = .load t x) (hx : ρ x = .ep ys j) (hd : isAggD d = true) (h : SubP ys j sz l) : OpP P o ρ (.agg l) := OpP.loadEN ho hx hd h.spec.1 h.spec.2
theorem Run.s0 {d : Nat} {v : AV} {ins : Upds} {ks : List Nat} (ho : o.dst = some d) (hw : wantA ops fr o = some true) (hd : Nat.blt d n = true) (h : OpS P o (evA fr) ins v []) (hi : ∀ q ∈ ins, sto σ q.1 = q.2) (hk : keys ins = ks) (hr : Run P n ops chk K rest ⟨(d, v) :: fr, σ⟩ (acc ++ [(ks, [])])) : Run P n ops chk K (o :: rest) ⟨fr, σ⟩ acc :=
  .op (ins := ins) (outs := []) (v := v) hw (by rw [ho]; exact hd) h hi O (fun _ h => by cases h) (by rw [ho, hk]; exact hr)
theorem Dat.ins {f : Nat → Res} {av : AV} {sz : Nat} {xs : List (List PV)} {ins : Upds} (h : Dat f av sz xs ins) : ∀ q ∈ ins, f q.1 = q.2 := by
  cases h with
  | sl => exact ins_nil
  | nil => exact ins_nil
  | rowf h hn => exact ins_cons h ins_nil
  | row h => exact ins_cons h ins_nil
def OpRI (P : Program) (o : Oper) (ρ : Operand → AV) (σ : List Res) (ins : Upds) (v : AV) : Prop := OpR P o ρ ins v ∧ ∀ q ∈ ins, sto σ q.1 = q.2
theorem OpRI.toStr {x : Operand} {s d e : TypeId} {l : List UInt8} {xs : List (List PV)} {ins : Upds} [Und P s (.slice e)] [Und P e (.int .u8)] [Und P d .string] (ho : o.op = .convert s d x) (hx : Dat (sto σ) (ρ x) 1 xs ins) (hb : xs = bsP l) : OpRI P o ρ σ ins (.v (.string (bs l))) := ⟨OpR.toStr ho hx hb, hx.ins⟩
theorem OpRI.len {x : Operand} {t : TypeId} {sz : Nat} {xs : List (List PV)} {ins : Upds} {e : TypeId} [Und P t (.slice e)] (ho : o.op = .call { callee := .builtin .len, args := #[x], argTypes := #[t] }) (hx : Dat (sto σ) (ρ x) sz xs ins) {n : Nat} (hn : xs.length = n) : OpRI P o ρ σ ins (.v (.int .i64 n)) := ⟨OpR.len (ty := t) (d := .string) ho hx hn, hx.ins⟩
theorem OpRI.indexAddr {t e : TypeId} {x y : Operand} {k : IntKind} {i : Int} {sz : Nat} {xs : List (List PV)} {ys : List PV} {ins : Upds} {z : Value} {by_ : Nat} [Und P t (.slice e)] [TyI P e z sz by_]
    (ho : o.op = .indexAddr t x y) (hx : Dat (sto σ) (ρ x) sz xs ins) (hy : ρ y = .v (.int k i)) (hat : At xs i ys) : OpRI P o ρ σ ins (.ep ys 0) := ⟨OpR.indexAddr ho hx hy hat, hx.ins⟩
theorem OpRI.sliceL {t e : TypeId} {x y : Operand} {k : IntKind} {l : Int} {sz bytes : Nat} {z : Value} {xs r : List (List PV)} {ins : Upds} [Und P t (.slice e)] [TyI P e z sz bytes] (ho : o.op = .slice t x (some y) none none) (hx : Dat (sto σ) (ρ x) sz xs ins) (hy : ρ y = .v (.int k l)) (h0 : 0 ≤ l) (hl : l ≤ xs.length) (hr : xs.drop l.toNat = r) : OpRI P o ρ σ ins (.sl sz r false) := by
  obtain ⟨l, rfl⟩ := Int.eq_ofNat_of_zero_le h0
  exact ⟨OpR.sliceL ho hx hy (by omega) hr, hx.ins⟩
theorem OpRI.sliceH {t e : TypeId} {x y : Operand} {k : IntKind} {h : Int} {sz bytes : Nat} {z : Value} {xs r : List (List PV)} {ins : Upds} [Und P t (.slice e)] [TyI P e z sz bytes] (ho : o.op = .slice t x none (some y) none) (hx : Dat (sto σ) (ρ x) sz xs ins) (hy : ρ y = .v (.int k h)) (h0 : 0 ≤ h) (hl : h ≤ xs.length) (hr : xs.take h.toNat = r) : OpRI P o ρ σ ins (.sl sz r false) := by
  obtain ⟨h, rfl⟩ := Int.eq_ofNat_of_zero_le h0
  exact ⟨OpR.sliceH ho hx hy (by omega) hr, hx.ins⟩
theorem OpRI.sliceLH {t e : TypeId} {x y1 y2 : Operand} {k k' : IntKind} {l h : Int} {sz bytes : Nat} {z : Value} {xs r : List (List PV)} {ins : Upds} [Und P t (.slice e)] [TyI P e z sz bytes] (ho : o.op = .slice t x (some y1) (some y2) none) (hx : Dat (sto σ) (ρ x) sz xs ins) (hy1 : ρ y1 = .v (.int k l)) (hy2 : ρ y2 = .v (.int k' h)) (h0 : 0 ≤ l) (h1 : l ≤ h) (h2 : h ≤ xs.length) (hr : (xs.take h.toNat).drop l.toNat = r) : OpRI P o ρ σ ins (.sl sz r false) := by
  obtain ⟨l, rfl⟩ := Int.eq_ofNat_of_zero_le h0
  obtain ⟨h, rfl⟩ := Int.eq_ofNat_of_zero_le (show 0 ≤ h by omega)
  exact ⟨OpR.sliceLH ho hx hy1 hy2 (by omega) (by omega) hr, hx.ins⟩
theorem OpRI.slice3h {t e : TypeId} {x y2 y3 : Operand} {k' k'' : IntKind} {h : Int} {sz bytes : Nat} {z : Value} {xs r : List (List PV)} {ins : Upds} [Und P t (.slice e)] [TyI P e z sz bytes] (ho : o.op = .slice t x none (some y2) (some y3)) (hx : Dat (sto σ) (ρ x) sz xs ins) (hy2 : ρ y2 = .v (.int k' h)) (hy3 : ρ y3 = .v (.int k'' h)) (h0 : 0 ≤ h) (h2 : h ≤ xs.length) (hr : xs.take h.toNat = r) : OpRI P o ρ σ ins (.sl sz r true) := by
  obtain ⟨h, rfl⟩ := Int.eq_ofNat_of_zero_le h0
  exact ⟨OpR.slice3h ho hx hy2 hy3 (by omega) hr, hx.ins⟩
theorem Run.ri {d : Nat} {v : AV} {ins : Upds} {ks : List Nat} (ho : o.dst = some d) (hw : wantA ops fr o = some true) (hd : Nat.blt d n = true) (h : OpRI P o (evA fr) σ ins v) (hk : keys ins = ks) (hr : Run P n ops chk K rest ⟨(d, v) :: fr, σ⟩ (acc ++ [(ks, [])])) : Run P n ops chk K (o :: rest) ⟨fr, σ⟩ acc := Run.r ho hw hd h.1 h.2 hk hr
theorem Run.gri {d' : Nat} {c : Bool} {v : AV} {ins : Upds} {ks : List Nat} (hG : Gd ops fr o c) (ho : o.dst = some d') (hd' : Nat.blt d' n = true) (hi : ∀ q ∈ ins, sto σ q.1 = q.2) (h : c = true → OpRI P o (evO fr) σ ins v ∧ okIfs fr o.op.operands.toList) (hk : keys ins = ks) (hr : Run P n ops chk K rest ⟨(d', .ifb c v) :: fr, σ⟩ (acc ++ [(ks, [])])) : Run P n ops chk K (o :: rest) ⟨fr, σ⟩ acc :=
  Run.gp (ins := ins) hG.want ho hd' (fun hc => OpS.open_ (h hc).1.1.s (h hc).2) hi hk hr
def SrcI (P : Program) (av : AV) (σ : List Res) (sz : Nat) (ys : List (List PV)) (ins : Upds) : Prop := Src P av sz ys ins ∧ ∀ q ∈ ins, sto σ q.1 = q.2
theorem SrcI.dat {av : AV} {sz : Nat} {ys : List (List PV)} {ins : Upds} (d : Dat (sto σ) av sz ys ins) : SrcI P av σ sz ys ins := ⟨Src.dat d, d.ins⟩
theorem SrcI.str {l : List UInt8} {av : AV} (h : av = .v (.string (bs l))) : SrcI P av σ 1 (bsP l) [] := ⟨Src.str h, ins_nil⟩
theorem OpSN.eqNil {o : Oper} {ρ : Operand → AV} {σ0 : Nat → Res} {t t' e : TypeId} {x y : Operand} {sz : Nat} {xs : List (List PV)} {ins : Upds} [U : Und P t (.slice e)] (neg : Bool) (ho : o.op = .binOp (match neg with | true => .neq | false => .eql) t x y t') (hx : Dat σ0 (ρ x) sz xs ins) (hy : ρ y = .v (.slice none 0 0)) :
    OpSN P o ρ ins (fun b : { b : Bool // b = true → xs = [] } => .v (.bool (match neg with | true => !b.1 | false => b.1))) (fun _ => []) := by
  intro I M w a σ K Q hop hs hi _ hK
  have h1 := hop x (by simp [ho, Op.operands])
  have h2 := hop y (by simp [ho, Op.operands])
  rw [hy] at h2
  obtain ⟨A, c, e1, h3⟩ := hx.rpv hi hs h1
  have e2 := h2.val
  unfold Oper.wp
  have hb : A.isNone = true → xs = [] := by
    intro hA
    cases h3 with
    | sl b off u hn hc hz hA' hM hcell ho1 hu =>
      rcases Nat.eq_zero_or_pos xs.length with h | h
      · exact List.eq_nil_of_length_eq_zero h
      · rw [hA' h] at hA; cases hA
  cases neg with
  | true =>
    have h4 := run_neq_slice_nil_any (P := P) w t e A xs.length c 0 0 U.und
    simp only at ho
    have hr : (execOp a.eval o).run P w = .ok (.value (.bool (!A.isNone))) w := by simp [execOp, ho, e1, e2, h4, eqGuard]
    rw [hr]
    exact hK ⟨A.isNone, hb⟩ _ I M w (.v _) hs (Ext.refl _ _ _ _) (fun _ _ => rfl) (fun _ h => by cases h)
  | false =>
    have h4 := Lib.run_eql_slice_nil (P := P) w t e A xs.length c 0 0 U.und
    simp only at ho
    have hr : (execOp a.eval o).run P w = .ok (.value (.bool A.isNone)) w := by simp [execOp, ho, e1, e2, h4, eqGuard]
    rw [hr]
    exact hK ⟨A.isNone, hb⟩ _ I M w (.v _) hs (Ext.refl _ _ _ _) (fun _ _ => rfl) (fun _ h => by cases h)
theorem Run.eqN {d : Nat} {t t' e : TypeId} {x y : Operand} {sz : Nat} {xs : List (List PV)} {ins : Upds} [U : Und P t (.slice e)] (ho : o.dst = some d) (hop : o.op = .binOp .eql t x y t') (hall : ∀ acc, chk acc = true) (hw : wantA ops fr o = some true) (hd : Nat.blt d n = true)
    (hx : Dat (sto σ) (evA fr x) sz xs ins) (hy : evA fr y = .v (.slice none 0 0)) (hr : ∀ b : Bool, (b = true → xs = []) → Run P n ops chk K rest ⟨(d, .v (.bool b)) :: fr, σ⟩ acc) : Run P n ops chk K (o :: rest) ⟨fr, σ⟩ acc :=
  .opN hall hw (by rw [ho]; exact hd) (OpSN.eqNil false hop hx hy) hx.ins (fun _ => rfl) (fun _ _ h => by cases h) (fun b => by rw [ho]; exact hr b.1 b.2)
theorem Run.bs {d t e nn : _} {parts : Array (Nat × Operand)} {z : Value} {sz bytes : Nat} {xs : List (List PV)} {ins : Upds} {ks : List Nat} [Und P t (.slice e)] [TyI P e z sz bytes] (ho : o.dst = some d) (hop : o.op = .buildSlice t nn parts) (hw : wantA ops fr o = some true) (hd : Nat.blt d n = true) (hn : parts.size = nn) (hz : z.cells.size = sz) (hsm : nn * sz ≤ 16777216)
    (hx : Elems (evA fr) (sto σ) sz 0 parts.toList xs ins) (hi : ∀ q ∈ ins, sto σ q.1 = q.2) (hk : keys ins = ks) (hr : Run P n ops chk K rest ⟨(d, .sl sz xs true) :: fr, σ⟩ (acc ++ [(ks, [])])) : Run P n ops chk K (o :: rest) ⟨fr, σ⟩ acc :=
  Run.s0 ho hw hd (OpS.buildSlice hop hn hz hsm hx) hi hk hr
theorem Run.apR {d k nn sz bytes : Nat} {s x : Operand} {t tx e : TypeId} {dx : TypeDesc} {z : Value} {ys xs zs : List (List PV)} {insx : Upds} {ks : List Nat} {σ' : List Res} [Und P t (.slice e)] [Und P tx dx] [TyI P e z sz bytes] (ho : o.dst = some d) (hop : o.op = .call { callee := .builtin .append, args := #[s, x], argTypes := #[t, tx] })
    (hw : wantA ops fr o = some true) (hd : Nat.blt d n = true) (hdx : (∃ e', dx = .slice e') ∨ dx = .string) (hzs : z.cells.size = sz) (hsv : evA fr s = .row k nn) (hk : sto σ k = .row sz xs) (hn : nn = xs.length) (hxi : SrcI P (evA fr x) σ sz ys insx) (hz : xs ++ ys = zs) (hb : zs.length * bytes ≤ 140737488355328) (h63 : zs.length ≤ maxLen)
    (hσ : PutAt σ k (.row sz zs) σ') (hks : k :: keys insx = ks) (hr : Run P n ops chk K rest ⟨(d, .row k zs.length) :: fr, σ'⟩ (acc ++ [(ks, [k])])) : Run P n ops chk K (o :: rest) ⟨fr, σ⟩ acc := by
  subst hz
  obtain ⟨hx, hi⟩ := hxi
  exact .op (ins := (k, .row sz xs) :: insx) (outs := [(k, .row sz (xs ++ ys))]) (v := .row k (xs ++ ys).length) hw (by rw [ho]; exact hd) (OpS.appRow hop hdx hzs hsv hn hx (by rw [hn, List.length_append]) hb h63) (fun q hq => by
    rcases List.mem_cons.1 hq with rfl | hq
    · exact hk
    · exact hi q hq) (okU_one hσ).1 (fun k' hk' => .inl (by
      obtain rfl : k' = k := by simpa [keys] using hk'
      simp [keys])) (by
      have : keys ((k, Res.row sz xs) :: insx) = ks := by rw [← hks]; rfl
      rw [ho, (okU_one hσ).2, this]; exact hr)
theorem Run.apF {d k sz bytes : Nat} {s x : Operand} {t tx e : TypeId} {dx : TypeDesc} {z : Value} {ys xs zs : List (List PV)} {insx : Upds} {ks : List Nat} {σ' : List Res} [Und P t (.slice e)] [Und P tx dx] [TyI P e z sz bytes] (ho : o.dst = some d) (hop : o.op = .call { callee := .builtin .append, args := #[s, x], argTypes := #[t, tx] })
    (hw : wantA ops fr o = some true) (hd : Nat.blt d n = true) (hdx : (∃ e', dx = .slice e') ∨ dx = .string) (hzs : z.cells.size = sz) (he : Ends σ k) (hsv : evA fr s = .sl sz xs true ∨ evA fr s = .v (.slice none 0 0) ∧ xs = []) (hxi : SrcI P (evA fr x) σ sz ys insx) (hz : xs ++ ys = zs) (hb : zs.length * bytes ≤ 140737488355328) (h63 : zs.length ≤ maxLen)
    (hki : (keys insx).all (fun j => Nat.blt j k) = true) (hσ : PutAt σ k (.row sz zs) σ') (hks : keys insx = ks) (hr : Run P n ops chk K rest ⟨(d, .row k zs.length) :: fr, σ'⟩ (acc ++ [(ks, [k])])) : Run P n ops chk K (o :: rest) ⟨fr, σ⟩ acc := by
  subst hz
  obtain ⟨hx, hi⟩ := hxi
  exact .op (ins := insx) (outs := [(k, .row sz (xs ++ ys))]) (v := .row k (xs ++ ys).length) hw (by rw [ho]; exact hd) (OpS.appFull k hop hdx hzs hsv hx (by rw [List.length_append]) (fun hk => by
      have := (List.all_eq_true.1 hki) k hk
      rw [Nat.blt_eq] at this; omega) hb h63) hi (okU_one hσ).1 (fun k' hk' => .inr (by
      obtain rfl : k' = k := by simpa [keys] using hk'
      exact Nat.le_of_eq he.spec.symm)) (by rw [ho, (okU_one hσ).2, hks]; exact hr)
end
theorem RetOk.tupS {P : Program} {fn : Func} {vs : List AV} {s : State} {n p : Nat} {I : Nat → CI} {M : Nat → Nat} {w : World} {own : Nat → Prop} {σ' : List Res} (S : List Nat) (hnd : nodupB S = true) (hp : fixB p S = true) (hpl : Nat.ble p S.length = true) (hl : Nat.beq vs.length 1 = false) (hlt : AV.lts σ'.length vs = true)
    (hc : Crs (sto s.σ) (renL S) σ'.length S σ') (hr : RetC P s (renL S) fn.results.toList vs) : RetOk P fn (.tup vs) σ' ⟨n, p, I, M, w, own⟩ .ret s := by
  obtain ⟨us, h1, h2⟩ := hr.res
  exact ⟨us, S, h1, hnd, hp, Nat.le_of_ble_eq_true hpl, cv_resV h2 (by rw [AV.rens_len]; exact hl), by simpa [AV.lt] using hlt, hc⟩
theorem RetOk.oneS {P : Program} {fn : Func} {r : AV} {s : State} {n p : Nat} {I : Nat → CI} {M : Nat → Nat} {w : World} {own : Nat → Prop} {σ' : List Res} (S : List Nat) (hnd : nodupB S = true) (hp : fixB p S = true) (hpl : Nat.ble p S.length = true) (hlt : r.lt σ'.length = true)
    (hc : Crs (sto s.σ) (renL S) σ'.length S σ') (hr : RetC P s (renL S) fn.results.toList [r]) : RetOk P fn r σ' ⟨n, p, I, M, w, own⟩ .ret s := by
  obtain ⟨us, h1, h2⟩ := hr.res
  cases h2 with
  | cons h hs =>
    cases hs with
    | nil => exact ⟨_, S, h1, hnd, hp, Nat.le_of_ble_eq_true hpl, h, hlt, hc⟩
end Go.Proofs.YtbbcokckealagaaGreat
