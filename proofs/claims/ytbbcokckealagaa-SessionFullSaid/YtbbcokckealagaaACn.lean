/-
  Calls of which only a choice of results is known. Nothing of the dump is used; no condition.
-/
import Derived.Test.YtbbcokckealagaaAAv
namespace Go.Proofs.Ytbbcokckealagaa
open Go.RowKit
set_option linter.unusedVariables false
set_option linter.unusedSimpArgs false
/-- what a call of f with these arguments gives: one of these -/
def ACallsN (P : Program) (f : FuncId) (args : List AV) (σ : List Res) {ι : Type} (r : ι → AV) (σ' : ι → List Res) : Prop :=
  ∀ (I : Nat → CI) (M : Nat → Nat) (w : World) (cargs : Array Value), cargs.size = args.length → (∀ (i : Nat) (v : Value) (c : AV), cargs[i]? = some v → args[i]? = some c → Rp I M w v c) → Sto I M w (sto σ) → (∀ k, σ.length ≤ k → I k = .no) →
    Calls P f cargs w fun e w' => ∃ q cv I' M', e = .returned cv ∧ Rp I' M' w' cv (r q) ∧ Sto I' M' w' (sto (σ' q)) ∧ (∀ k, (σ' q).length ≤ k → I' k = .no) ∧ Ext (fun b => ∃ k, blkOf (I k) (sto σ k) = some b) I I' M M' w w' ∧
      ∀ k b, blkOf (I' k) (sto (σ' q) k) = some b → w.heap.size ≤ b ∨ ∃ k', blkOf (I k') (sto σ k') = some b
/-- how a function ends, in one of some ways -/
def RetOkN (P : Program) (fn : Func) {ι : Type} (r : ι → AV) (σ' : ι → List Res) (g : Ent) (e : Exit) (s : State) : Prop := ∃ q, RetOk P fn (r q) (σ' q) g e s
theorem RetOkN.mk {P : Program} {fn : Func} {ι : Type} {r : ι → AV} {σ' : ι → List Res} {g : Ent} {e : Exit} {s : State} (q : ι) (h : RetOk P fn (r q) (σ' q) g e s) : RetOkN P fn r σ' g e s := ⟨q, h⟩
theorem ACallsN.of {P : Program} {f : FuncId} {fn : Func} {c : Code} {args : List AV} {σ : List Res} {ι : Type} {r : ι → AV} {σ' : ι → List Res} (hf : P.funcs[f]? = some fn) (hb : fn.body = some c) (hn' : Nat.ble args.length fn.ntmps = true)
    {N : Nat} (hN : fn.ntmps = N) (h : ∀ (I : Nat → CI) (M : Nat → Nat) (w : World) (own : Nat → Prop), AW P ⟨N, σ.length, I, M, w, own⟩ c (RetOkN P fn r σ' ⟨N, σ.length, I, M, w, own⟩) ⟨argFr args 0, σ⟩) : ACallsN P f args σ r σ' := by
  have hn := Nat.le_of_ble_eq_true hn'
  intro I M w cargs ha hav hs hno
  refine calls_of_wp hf hb ?_
  let g : Ent := ⟨fn.ntmps, σ.length, I, M, w, fun b => ∃ k, blkOf (I k) (sto σ k) = some b⟩
  subst hN
  refine wp_mono (h I M w g.own I M w _ ⟨⟨by simp [ha, g]; omega, fun t => ?_⟩, rfl, hs, Nat.le_refl _, hno, Ext.refl _ _ _ _, fun k b hb => .inr ⟨k, hb⟩, hno⟩) fun e a' w' ⟨I', M', s', h1, h2⟩ => ?_
  · rw [argFr_get]
    simp only [Nat.zero_le, if_true, Nat.sub_zero]
    cases hc : args[t]? with
    | none => exact .any _
    | some v =>
      have ht : t < cargs.size := by rw [ha]; exact (List.getElem?_eq_some_iff.1 hc).1
      refine hav t _ v ?_ hc
      have h2 : (cargs ++ Array.replicate (fn.ntmps - cargs.size) undef)[t]? = some cargs[t] := by rw [Array.getElem?_append_left ht]; simp [ht]
      have h3 : (cargs ++ Array.replicate (fn.ntmps - cargs.size) undef).getD t undef = cargs[t] := by simp [Array.getD_eq_getD_getElem?, h2]
      rw [h3]; simp [ht]
  · have fin : RetOkN P fn r σ' g .ret s' → a'.defers = [] ∧ ∃ v, (results fn a'.tmps).run P w' = .ok v w' ∧ ∃ q cv I' M', Ending.returned v = .returned cv ∧ Rp I' M' w' cv (r q) ∧ Sto I' M' w' (sto (σ' q)) ∧ (∀ k, (σ' q).length ≤ k → I' k = .no) ∧ Ext (fun b => ∃ k, blkOf (I k) (sto σ k) = some b) I I' M M' w w' ∧
        ∀ k b, blkOf (I' k) (sto (σ' q) k) = some b → w.heap.size ≤ b ∨ ∃ k', blkOf (I k') (sto σ k') = some b := by
      rintro ⟨q, vs, S, q1, q2, q3, q4, q5, q6, q7⟩
      obtain ⟨us, u1, u2, u3⟩ := q1.run h1.fr h1.st
      refine ⟨h1.df, _, run_results u1, ?_⟩
      have hv : Rp I' M' w' (resVal us) (resV vs) := by
        match us, vs, u2, u3 with
        | [], [], _, _ => exact .tup rfl (fun i v c h => by simp at h)
        | [u], [v], _, u3 => exact u3 0 u v rfl rfl
        | u :: u' :: r, v :: v' :: r', u2, u3 => exact .tup (by simpa using u2) (fun i x c hx hc => u3 i x c (by simpa using hx) hc)
      obtain ⟨c1, c2, c3⟩ := h1.st.conv q2 q7
      have hSl := q7.get.1
      refine ⟨q, _, _, M', rfl, c2 _ _ q6 (q5 I' M' w' _ h1.st hv), c1, fun k hk => by simp [show ¬ k < (σ' q).length by omega], ⟨h1.ext.os, h1.ext.tape, h1.ext.output, fun k => ?_, h1.ext.evo, h1.ext.oth⟩, fun k b hb => h1.ini _ _ (c3 k b hb).2⟩
      rcases Nat.lt_or_ge k σ.length with hk | hk
      · simp only [fixB, List.all_eq_true] at q3
        have h1' : renL S k = k := Nat.eq_of_beq_eq_true (q3 k (List.mem_range.2 hk))
        have : k < (σ' q).length := by have : g.p = σ.length := rfl; omega
        simp only [this, if_true, h1']
        exact h1.ext.le k
      · rw [hno k hk]; trivial
    cases e with
    | ret => exact fin h2
    | normal => exact fin h2
    | _ => exact h2.elim fun _ h => h.elim
theorem OpSN.call {P : Program} {o : Oper} {ρ : Operand → AV} {x : Operand} {ops : Array Operand} {ts : Array TypeId} {f : FuncId} {caps args0 : List AV} {σc : List Res} {ι : Type} {σc' : ι → List Res} {r0 : ι → AV} {ins : Upds} [CallI P f] (S : List Nat) (nx : Nat) (hc : ACallsN P f args0 σc r0 σc')
    (ho : o.op = .call { callee := .value x, args := ops, argTypes := ts }) (hx : ρ x = .fn f caps) (hargs : AV.rens (renC S nx) args0 = ops.toList.map ρ ++ caps) (hnd : nodupB S = true) (hnx : S.all (fun k => Nat.blt k nx) = true) (hl : Nat.beq S.length σc.length = true) (hl' : ∀ q, Nat.ble σc.length (σc' q).length = true)
    (hlt : ∀ q, (σc' q).all (Res.lt (σc' q).length) = true) (hrl : ∀ q, (r0 q).lt (σc' q).length = true) (hlt0 : σc.all (Res.lt σc.length) = true) (hal : AV.lts σc.length args0 = true) (hins : insOf S (renC S nx) σc = ins) : OpSN P o ρ ins (fun q => (r0 q).ren (renC S nx)) (fun q => outsOf (renC S nx) 0 (σc' q)) := by
  intro I M w a σ K Q hop hs hi hnew hK
  subst hins
  have hl := Nat.eq_of_beq_eq_true hl
  have hinj : ∀ a b, renC S nx a = renC S nx b → a = b := by
    intro a b h
    have hS : ∀ i, i < S.length → S.getD i 0 < nx := by
      intro i hi
      have := (List.all_eq_true.1 hnx) (S.getD i 0) (by rw [List.getD_eq_getElem?_getD, List.getElem?_eq_getElem hi]; exact List.getElem_mem _)
      rwa [Nat.blt_eq] at this
    have bl : ∀ i, (i < S.length ∧ renC S nx i = S.getD i 0) ∨ (S.length ≤ i ∧ renC S nx i = nx + (i - S.length)) := by
      intro i
      unfold renC
      cases hb : Nat.blt i S.length with
      | true => left; rw [Nat.blt_eq] at hb; exact ⟨hb, rfl⟩
      | false =>
        right
        have : ¬ i < S.length := by rw [← Nat.blt_eq, hb]; simp
        exact ⟨by omega, rfl⟩
    rcases bl a with ⟨a1, a2⟩ | ⟨a1, a2⟩ <;> rcases bl b with ⟨b1, b2⟩ | ⟨b1, b2⟩
    · rw [a2, b2] at h
      rcases Nat.lt_trichotomy a b with q | q | q
      · exact absurd h (nodupB_spec hnd a b q b1)
      · exact q
      · exact absurd h.symm (nodupB_spec hnd b a q a1)
    · have := hS a a1; rw [a2, b2] at h; omega
    · have := hS b b1; rw [a2, b2] at h; omega
    · rw [a2, b2] at h; omega
  have rlow : ∀ i, i < σc.length → renC S nx i = S.getD i 0 := by
    intro i hi
    have : Nat.blt i S.length = true := by rw [Nat.blt_eq]; omega
    simp [renC, this]
  have hkeys : keys (insOf S (renC S nx) σc) = S := keys_insOf _ _ _ hl
  -- what the callee is given
  let Ic : Nat → CI := fun i => if i < σc.length then I (renC S nx i) else .no
  have hsto : ∀ i r, σc[i]? = some r → σ (renC S nx i) = r.ren (renC S nx) := by
    intro i r hr
    have hlt := (List.getElem?_eq_some_iff.1 hr).1
    have := hi _ (insOf_get (renC S nx) S σc hl i r hr)
    rw [rlow i hlt]; exact this
  have hblk : ∀ i b, blkOf (Ic i) (sto σc i) = some b → i < σc.length ∧ blkOf (I (renC S nx i)) (σ (renC S nx i)) = some b := by
    intro i b hb
    rcases Nat.lt_or_ge i σc.length with h | h
    · have h1 : sto σc i = σc[i] := by simp [sto, List.getD, h]
      rw [h1] at hb
      simp only [Ic, if_pos h] at hb
      rw [hsto i σc[i] (by simp [h]), blk_ren]
      exact ⟨h, hb⟩
    · simp only [Ic, if_neg (show ¬ i < σc.length by omega)] at hb
      cases hq : sto σc i <;> rw [hq] at hb <;> cases hb
  have rpc : ∀ v p, p.lt σc.length = true → Rp I M w v (p.ren (renC S nx)) → Rp Ic M w v p := fun v p hp h =>
    Rp.agree (I := fun i => I (renC S nx i)) (n := σc.length) (fun k hk => by simp [Ic, hk]) (Rp.unname h p rfl) hp
  have hsc : Sto Ic M w (sto σc) := by
    refine ⟨fun k => ?_, fun k k' b hne hb hb' => ?_, hs.top, hs.tab⟩
    · rcases Nat.lt_or_ge k σc.length with h | h
      · have h1 : sto σc k = σc[k] := by simp [sto, List.getD, h]
        have hI : Ic k = I (renC S nx k) := by simp [Ic, h]
        have ho := hs.own (renC S nx k)
        rw [hsto k σc[k] (by simp [h])] at ho
        rw [h1, hI]
        have hlt1 := (List.all_eq_true.1 hlt0) σc[k] (List.getElem_mem _)
        generalize σc[k] = q at ho hlt1
        cases q with
        | no => trivial
        | row sz xs => exact ho
        | mby l => exact ho
        | box cs =>
          obtain ⟨b, cur, e, e1, e2, e3, e4, e5, e6⟩ := ho
          refine ⟨b, cur, e, e1, e2, e3, by rw [e4, AV.rens_map]; simp, e5, fun i v c hv hc => ?_⟩
          exact rpc v c (AV.lts_get hlt1 hc) (e6 i v _ hv (by rw [AV.rens_map, List.getElem?_map, hc]; rfl))
      · have : sto σc k = .no := by simp [sto, List.getElem?_eq_none h]
        rw [this]; trivial
    · obtain ⟨a1, a2⟩ := hblk k b hb
      obtain ⟨b1, b2⟩ := hblk k' b hb'
      exact hs.dis _ _ b (fun e => hne (hinj _ _ e)) a2 b2
  have hxv := hop x (by simp [ho, Op.operands, Call.operands])
  rw [hx] at hxv
  generalize hxe : a.eval x = xv at hxv
  cases hxv with
  | @fn _ vs _ hvs hcs =>
  have hcall := hc Ic M w (ops.map a.eval ++ vs) (by
      have := congrArg List.length hargs
      rw [AV.rens_map] at this
      simp at this ⊢; omega) (fun i v c hv hc' => by
      refine rpc v c (AV.lts_get hal hc') ?_
      have h1 : (AV.rens (renC S nx) args0)[i]? = some (c.ren (renC S nx)) := by rw [AV.rens_map, List.getElem?_map, hc']; rfl
      rw [hargs] at h1
      rcases Nat.lt_or_ge i ops.size with h | h
      · rw [Array.getElem?_append_left (by simpa using h), Array.getElem?_map] at hv
        rw [List.getElem?_append_left (by simpa using h), List.getElem?_map] at h1
        obtain ⟨y, hy, rfl⟩ := Option.map_eq_some_iff.1 hv
        obtain ⟨y', hy', h2⟩ := Option.map_eq_some_iff.1 h1
        rw [Array.getElem?_toList, hy] at hy'
        injection hy' with hy'
        subst hy'
        rw [← h2]
        refine hop y ?_
        simp only [ho, Op.operands, Call.operands, Array.toList_append, List.mem_append]
        exact .inr (by simpa using Array.mem_of_getElem? hy)
      · rw [Array.getElem?_append_right (by simpa using h)] at hv
        rw [List.getElem?_append_right (by simpa using h)] at h1
        exact hcs _ v _ (by simpa using hv) (by simpa using h1)) hsc (fun k hk => by simp [Ic, show ¬ k < σc.length by omega])
  have hfn : ∃ fn, P.funcs[f]? = some fn ∧ (fn.name == "runtime.NumGoroutine") = false ∧ fn.body.isNone = false := by
    have := CallI.eq (P := P) (f := f)
    cases hq : P.funcs[f]? with
    | none => rw [hq] at this; cases this
    | some fn =>
      rw [hq] at this
      simp only [Option.map_some, Option.some.injEq, Prod.mk.injEq] at this
      exact ⟨fn, rfl, this⟩
  obtain ⟨fn, hf1, hf2, hf3⟩ := hfn
  have hexec : (execOp a.eval o).run P w = .ok (.enter f (ops.map a.eval ++ vs)) w := by
    have hf3' : ¬ fn.body = none := by intro h; rw [h] at hf3; cases hf3
    have hf2' : ¬ fn.name = "runtime.NumGoroutine" := by intro h; rw [h] at hf2; simp at hf2
    simp [execOp, ho, resolve, hxe, Deferred.ofValue, invoke, callFunc, hf1, hf2', hf3']
  unfold Oper.wp
  rw [hexec, Oper.upon_enter]
  refine Calls.mono hcall ?_
  rintro e w' ⟨q, cv, I', M', rfl, g1, g2, g3, g4, g5⟩
  have hl' := Nat.le_of_ble_eq_true (hl' q)
  have hlt := hlt q
  have hrl := hrl q
  have hK := hK q
  have hnew := hnew q
  simp only
  -- the callee's numbers as ours
  let Iw : Nat → CI := fun k => if h : ∃ i, i < (σc' q).length ∧ k = renC S nx i then I' (Classical.choose h) else I k
  have hIw : ∀ i, i < (σc' q).length → Iw (renC S nx i) = I' i := by
    intro i hi
    have hex : ∃ j, j < (σc' q).length ∧ renC S nx i = renC S nx j := ⟨i, hi, rfl⟩
    simp only [Iw, dif_pos hex]
    rw [← hinj _ _ (Classical.choose_spec hex).2]
  have hIn : ∀ k, k ∉ keys (outsOf (renC S nx) 0 (σc' q)) → Iw k = I k := by
    intro k hk
    have hne : ¬ ∃ i, i < (σc' q).length ∧ k = renC S nx i := fun ⟨i, hi, he⟩ => hk ((outsOf_key _ _ _ _).2 ⟨i, hi, by rw [Nat.zero_add]; exact he⟩)
    simp only [Iw, dif_neg hne]
  have hle : ∀ k, (I k).le (Iw k) := by
    intro k
    by_cases hk : k ∈ keys (outsOf (renC S nx) 0 (σc' q))
    · obtain ⟨i, hi, rfl⟩ := (outsOf_key _ _ _ _).1 hk
      rw [Nat.zero_add, hIw i hi]
      rcases Nat.lt_or_ge i σc.length with h | h
      · have := g4.le i
        simpa only [Ic, if_pos h] using this
      · rcases hnew _ hk with p | ⟨_, p⟩
        · rw [hkeys, Nat.zero_add] at p
          have := (List.all_eq_true.1 hnx) _ p
          rw [Nat.blt_eq] at this
          have : Nat.blt i S.length = false := by
            cases hb : Nat.blt i S.length with
            | false => rfl
            | true => rw [Nat.blt_eq] at hb; omega
          simp only [renC, this] at *
          omega
        · rw [Nat.zero_add] at p; rw [p]; trivial
    · rw [hIn k hk]; exact CI.le_refl _
  have rpw : ∀ v p, p.lt (σc' q).length = true → Rp I' M' w' v p → Rp Iw M' w' v (p.ren (renC S nx)) := fun v p hp h =>
    Rp.rename (Rp.agree (I' := fun i => Iw (renC S nx i)) (n := (σc' q).length) (fun k hk => hIw k hk) h hp)
  have own_in : ∀ b, (∃ k, blkOf (Ic k) (sto σc k) = some b) → ∃ k ∈ S, blkOf (I k) (σ k) = some b := by
    rintro b ⟨k, hb⟩
    obtain ⟨h1, h2⟩ := hblk k b hb
    rw [rlow k h1] at h2
    exact ⟨S.getD k 0, by rw [List.getD_eq_getElem?_getD, List.getElem?_eq_getElem (by omega)]; exact List.getElem_mem _, h2⟩
  have hext : Ext (fun b => ∃ k ∈ S, blkOf (I k) (σ k) = some b) I Iw M M' w w' := by
    have := g4.wide (own' := fun b => ∃ k ∈ S, blkOf (I k) (σ k) = some b) (fun b _ h => own_in b h)
    exact ⟨this.os, this.tape, this.output, hle, this.evo, this.oth⟩
  have hupd : ∀ i r, (σc' q)[i]? = some r → updS σ (outsOf (renC S nx) 0 (σc' q)) (renC S nx i) = r.ren (renC S nx) := by
    intro i r hr
    have := outsOf_get (σ := σ) (renC S nx) (σc' q) 0 (fun a b _ _ h => hinj a b h) i r hr
    rwa [Nat.zero_add] at this
  have hbw : ∀ i b, i < (σc' q).length → blkOf (Iw (renC S nx i)) (updS σ (outsOf (renC S nx) 0 (σc' q)) (renC S nx i)) = some b → w.heap.size ≤ b ∨ ∃ k ∈ S, blkOf (I k) (σ k) = some b := by
    intro i b hi hb
    rw [hIw i hi, hupd i (σc' q)[i] (by simp [hi]), blk_ren] at hb
    rcases g5 i b (by simpa [sto, List.getD, hi] using hb) with p | p
    · exact .inl p
    · exact .inr (own_in b p)
  refine hK cv Iw M' w' (rpw cv (r0 q) hrl g1) ?_ (by rw [hkeys]; exact hext) hIn fun k hk b hb => ?_
  · refine hs.upd (keys (outsOf (renC S nx) 0 (σc' q))) hext (fun b ⟨k, hk, hb⟩ => ⟨k, (outsOf_key _ _ _ _).2 ?_, hb⟩) hIn (fun k hk => updS_other _ _ _ hk) (fun k hk => ?_) (fun k hk b hb => ?_) (fun k hk k' hk' b hne hb hb' => ?_) g2.top
    · obtain ⟨i, hi, rfl⟩ := List.getElem_of_mem hk
      refine ⟨i, by omega, ?_⟩
      rw [Nat.zero_add, rlow i (by omega)]
      simp [List.getD, hi]
    · obtain ⟨i, hi, rfl⟩ := (outsOf_key _ _ _ _).1 hk
      rw [Nat.zero_add, hIw i hi, hupd i (σc' q)[i] (by simp [hi])]
      have ho := g2.own i
      have h1 : sto (σc' q) i = (σc' q)[i] := by simp [sto, List.getD, hi]
      rw [h1] at ho
      have hlt1 := (List.all_eq_true.1 hlt) (σc' q)[i] (List.getElem_mem _)
      generalize (σc' q)[i] = p at ho hlt1
      cases p with
      | no => trivial
      | row sz xs => exact ho
      | mby l => exact ho
      | box cs =>
        obtain ⟨b, cur, e, e1, e2, e3, e4, e5, e6⟩ := ho
        refine ⟨b, cur, e, e1, e2, e3, by rw [e4, AV.rens_map]; simp, e5, fun j v c hv hc => ?_⟩
        rw [AV.rens_map, List.getElem?_map] at hc
        obtain ⟨c0, hc0, rfl⟩ := Option.map_eq_some_iff.1 hc
        exact rpw v c0 (AV.lts_get hlt1 hc0) (e6 j v c0 hv hc0)
    · obtain ⟨i, hi, rfl⟩ := (outsOf_key _ _ _ _).1 hk
      rw [Nat.zero_add] at hb
      rcases hbw i b hi hb with p | ⟨k, hk, p⟩
      · exact .inl p
      · right
        obtain ⟨j, hj, rfl⟩ := List.getElem_of_mem hk
        refine ⟨_, (outsOf_key _ _ _ _).2 ⟨j, by omega, ?_⟩, p⟩
        rw [Nat.zero_add, rlow j (by omega)]
        simp [List.getD, hj]
    · obtain ⟨i, hi, rfl⟩ := (outsOf_key _ _ _ _).1 hk
      obtain ⟨j, hj, rfl⟩ := (outsOf_key _ _ _ _).1 hk'
      rw [Nat.zero_add] at hb hb' hne
      rw [hIw i hi, hupd i (σc' q)[i] (by simp [hi]), blk_ren] at hb
      rw [hIw j hj, hupd j (σc' q)[j] (by simp [hj]), blk_ren] at hb'
      exact g2.dis i j b (fun e => hne (by rw [e, Nat.zero_add])) (by simpa [sto, List.getD, hi] using hb) (by simpa [sto, List.getD, hj] using hb')
  · obtain ⟨i, hi, rfl⟩ := (outsOf_key _ _ _ _).1 hk
    rw [Nat.zero_add] at hb
    rw [hkeys]
    exact hbw i b hi hb
section
variable {P : Program} {n : Nat} {ops : List Oper} {chk : List FP → Bool} {K : State → Prop} {rest : List Oper} {o : Oper} {fr : Fr} {σ : List Res} {acc : List FP}
theorem Run.cN {d nx : Nat} {x : Operand} {os : Array Operand} {ts : Array TypeId} {f : FuncId} {caps args0 : List AV} {σc : List Res} {ι : Type} {σc' σ' : ι → List Res} {r0 r : ι → AV} {outs : ι → Upds} {k2 : List Nat} (S : List Nat) (hc : ACallsN P f args0 σc r0 σc') (hall : ∀ acc, chk acc = true) (ho : o.dst = some d) (hop : o.op = .call { callee := .value x, args := os, argTypes := ts }) (hw : wantA ops fr o = some true) (hd : Nat.blt d n = true)
    [CallI P f] (hx : evA fr x = .fn f caps) (hS : nodupB S = true) (hl : Nat.beq S.length σc.length = true) (hl' : ∀ q, Nat.ble σc.length (σc' q).length = true) (hlt : ∀ q, (σc' q).all (Res.lt (σc' q).length) = true) (hrl : ∀ q, (r0 q).lt (σc' q).length = true)
    (hlt0 : σc.all (Res.lt σc.length) = true) (hal : AV.lts σc.length args0 = true) (he : Ends σ nx) (hargs : RenLs (renC S nx) args0 (os.toList.map (evA fr) ++ caps)) (hi : InsI σ (renC S nx) S σc) (hSn : S.all (fun k => Nat.blt k nx) = true)
    (hr0 : ∀ q, RenR (renC S nx) (r0 q) (r q)) (hou : ∀ q, OutI (renC S nx) 0 (σc' q) (outs q)) (hok : ∀ q, okU σ.length (outs q) = true) (hpu : ∀ q, Puts σ (outs q) (σ' q)) (hk2 : ∀ q, keys (outs q) = k2) (hnew : k2.all (fun k => S.any (Nat.beq k) || Nat.ble nx k) = true)
    (hr : ∀ q, Run P n ops chk K rest ⟨(d, r q) :: fr, σ' q⟩ acc) : Run P n ops chk K (o :: rest) ⟨fr, σ⟩ acc := by
  refine .opN hall hw (by rw [ho]; exact hd) (OpSN.call S nx hc hop hx hargs.spec hS hSn hl hl' hlt hrl hlt0 hal rfl) hi.spec (fun q => by rw [(hou q).spec]; exact hok q) (fun q k hk => ?_) (fun q => by rw [ho, (hou q).spec, (hpu q).spec, (hr0 q).spec]; exact hr q)
  rw [(hou q).spec, hk2 q] at hk
  have h1 := (List.all_eq_true.1 hnew) k hk
  rw [Bool.or_eq_true] at h1
  rcases h1 with h1 | h1
  · left
    rw [keys_insOf _ _ _ (Nat.eq_of_beq_eq_true hl)]
    obtain ⟨k', hk', he'⟩ := List.any_eq_true.1 h1
    rw [Nat.eq_of_beq_eq_true he']; exact hk'
  · right
    rw [← he.spec]; exact Nat.le_of_ble_eq_true h1
end
end Go.Proofs.Ytbbcokckealagaa
