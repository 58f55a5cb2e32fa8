/-
  Functions that defer a closure, and deferred closures that recover, over values without addresses. Nothing of the dump is used; no condition.
-/
import Derived.Recover
import Derived.WideLaws
import Derived.Test.YtbbcokckealagaaGreatQAG
namespace Go.Proofs.YtbbcokckealagaaGreat
set_option linter.unusedVariables false
set_option linter.unusedSimpArgs false
open Go.RowKit
def isIface : Value → Option Bool
  | .iface _ _ => some true
  | .nilIface => some false
  | _ => none
theorem OpP.neqNil {P : Program} {o : Oper} {ρ : Operand → AV} {t z : TypeId} {x : Operand} {v : Value} {b : Bool} (ho : o.op = .binOp .neq t x (.const .nilIface) z) (hx : ρ x = .v v) (h : P.underlying t = some (.interface (P.methodsAt t))) (hb : isIface v = some b) : OpP P o ρ (.v (.bool b)) := by
  intro I M w a hop
  have h1 := (hop x (by simp [ho, Op.operands])).val' hx
  have h2 : a.eval (.const .nilIface) = .nilIface := rfl
  refine ⟨_, ?_, .v _⟩
  cases v <;> simp only [isIface, Option.some.injEq] at hb <;> first | (cases hb; done) | skip
  all_goals subst hb
  · simp [execOp, ho, h1, h2, eqGuard, run_neq_held_nil w t _ _ h]
  · simp [execOp, ho, h1, h2, eqGuard, run_neq_nil_nil w t h]
theorem OpP.typeAssert0 {P : Program} {o : Oper} {ρ : Operand → AV} {x : Operand} {s t : TypeId} {D : TypeDesc} [Und P t D] (ho : o.op = .typeAssert x s t true) (hx : ρ x = .v (.iface t (.agg #[]))) (hD : (match D with | .interface _ => false | _ => true) = true) : OpP P o ρ (.tup [.agg [], .v (.bool true)]) := by
  intro I M w a hop
  have h1 := (hop x (by simp [ho, Op.operands])).val' hx
  have hu := run_und (P := P) (t := t) w
  refine ⟨.tuple #[.agg #[], .bool true], ?_, .tup O fun i v c hv hc => ?_⟩
  · cases D <;> first | (cases hD; done) | simp [execOp, ho, Instr.typeAssert, h1, hu]
  · match i with
    | 0 =>
      obtain rfl := Option.some.inj hv
      obtain rfl := Option.some.inj hc
      exact .agg (vs := #[]) O (fun i v h => by simp at h) (fun i v c h => by simp at h)
    | 1 =>
      obtain rfl := Option.some.inj hv
      obtain rfl := Option.some.inj hc
      exact .v _
    | i + 2 => simp at hc
theorem argFr_ok {I : Nat → CI} {M : Nat → Nat} {w : World} {cargs : Array Value} {args : List AV} {n : Nat} (hn : args.length ≤ n) (ha : cargs.size = args.length) (hav : ∀ (i : Nat) (v : Value) (c : AV), cargs[i]? = some v → args[i]? = some c → Rp I M w v c) :
    FrOk I M w n { tmps := cargs ++ Array.replicate (n - cargs.size) undef, defers := [] } (argFr args 0) := by
  refine ⟨by simp [ha]; omega, fun t => ?_⟩
  rw [argFr_get]
  simp only [Nat.zero_le, if_true, Nat.sub_zero]
  cases hc : args[t]? with
  | none => exact .any _
  | some v =>
    have ht : t < cargs.size := by rw [ha]; exact (List.getElem?_eq_some_iff.1 hc).1
    refine hav t _ v ?_ hc
    have h2 : (cargs ++ Array.replicate (n - cargs.size) undef)[t]? = some cargs[t] := by rw [Array.getElem?_append_left ht]; simp [ht]
    have h3 : (cargs ++ Array.replicate (n - cargs.size) undef).getD t undef = cargs[t] := by simp [Array.getD_eq_getD_getElem?, h2]
    rw [h3]; simp [ht]
theorem RetOk.fin {P : Program} {fn : Func} {r : AV} {σ σ' : List Res} {N : Nat} {I I' : Nat → CI} {M M' : Nat → Nat} {w w' : World} {a' : Act} {s' : State} {ds : Dfs}
    (hno : ∀ k, σ.length ≤ k → I k = .no) (h1 : St (@Ent.mk N σ.length I M w (fun b => ∃ k, blkOf (I k) (sto σ k) = some b) ds) I' M' w' a' s') (h2 : RetOk P fn r σ' (@Ent.mk N σ.length I M w (fun b => ∃ k, blkOf (I k) (sto σ k) = some b) ds) .ret s') :
    ∃ cv, (results fn a'.tmps).run P w' = .ok cv w' ∧ ∃ I' M', Rp I' M' w' cv r ∧ Sto I' M' w' (sto σ') ∧ (∀ k, σ'.length ≤ k → I' k = .no) ∧ Ext (fun b => ∃ k, blkOf (I k) (sto σ k) = some b) I I' M M' w w' ∧
        ∀ k b, blkOf (I' k) (sto σ' k) = some b → w.heap.size ≤ b ∨ ∃ k', blkOf (I k') (sto σ k') = some b := by
  obtain ⟨vs, S, q1, q2, q3, q4, q5, q6, q7⟩ := h2
  obtain ⟨us, u1, u2, u3⟩ := q1.run h1.fr h1.st
  refine ⟨_, run_results u1, ?_⟩
  have hv : Rp I' M' w' (resVal us) (resV vs) := by
    match us, vs, u2, u3 with
    | [], [], _, _ => exact .tup O (fun i v c h => by simp at h)
    | [u], [v], _, u3 => exact u3 0 u v O O
    | u :: u' :: r, v :: v' :: r', u2, u3 => exact .tup (by simpa using u2) (fun i x c hx hc => u3 i x c (by simpa using hx) hc)
  obtain ⟨c1, c2, c3⟩ := h1.st.conv q2 q7
  have hSl := q7.get.1
  refine ⟨_, M', c2 _ _ q6 (q5 I' M' w' _ h1.st hv), c1, fun k hk => by simp [show ¬ k < σ'.length by omega], ⟨h1.ext.os, h1.ext.tape, h1.ext.output, fun k => ?_, h1.ext.evo, h1.ext.oth⟩, fun k b hb => h1.ini _ _ (c3 k b hb).2⟩
  rcases Nat.lt_or_ge k σ.length with hk | hk
  · simp only [fixB, List.all_eq_true] at q3
    have h1' : renL S k = k := Nat.eq_of_beq_eq_true (q3 k (List.mem_range.2 hk))
    have : k < σ'.length := by have : (@Ent.mk N σ.length I M w (fun b => ∃ k, blkOf (I k) (sto σ k) = some b) ds).p = σ.length := rfl; omega
    simp only [this, if_true, h1']
    exact h1.ext.le k
  · rw [hno k hk]; trivial
def ADef (P : Program) (f : FuncId) (args : List AV) (σ σ' : List Res) (u u' : FrameMode) : Prop :=
  ∀ (I : Nat → CI) (M : Nat → Nat) (w : World) (cargs : Array Value), cargs.size = args.length → (∀ (i : Nat) (v : Value) (c : AV), cargs[i]? = some v → args[i]? = some c → Rp I M w v c) → Sto I M w (sto σ) → (∀ k, σ.length ≤ k → I k = .no) →
    CallsD P f cargs u w fun e v w' => (∃ x, e = .returned x) ∧ v = u' ∧ ∃ I' M', Sto I' M' w' (sto σ') ∧ (∀ k, σ'.length ≤ k → I' k = .no) ∧ Ext (fun b => ∃ k, blkOf (I k) (sto σ k) = some b) I I' M M' w w' ∧
      ∀ k b, blkOf (I' k) (sto σ' k) = some b → w.heap.size ≤ b ∨ ∃ k', blkOf (I k') (sto σ k') = some b
inductive Recovers : FrameMode → FrameMode → Value → Prop
  | no : Recovers .returning .returning .nilIface
  | yes {v : Value} : Recovers (.panicking [{ v := v, recovered := false }]) (.panicking [{ v := v, recovered := true }]) v
theorem ADef.of {P : Program} {f : FuncId} {fn : Func} {id : Nat} {o1 o2 : Oper} {c : Code} {args : List AV} {σ σ' : List Res} {u u' : FrameMode} {v : Value} {t0 t1 : Nat} (hf : P.funcs[f]? = some fn) (hb : fn.body = some (.seq (.region id #[o1, o2] false) c)) (hn' : Nat.ble args.length fn.ntmps = true)
    {N : Nat} (hN : fn.ntmps = N) (hu : Recovers u u' v) (h1 : o1.op = .call { callee := .builtin .recover, args := #[], argTypes := #[] }) (h2 : o2.op = .assign (.tmp t0)) (d1 : o1.dst = some t0) (d2 : o2.dst = some t1) (w1 : ∀ y, Region.wanted o1 y = true) (w2 : ∀ y, Region.wanted o2 y = true)
    (l0 : Nat.blt t0 N = true) (l1 : Nat.blt t1 N = true)
    (h : ∀ (I : Nat → CI) (M : Nat → Nat) (w : World) (own : Nat → Prop), AW P ⟨N, σ.length, I, M, w, own⟩ c (RetOk P fn (.tup []) σ' ⟨N, σ.length, I, M, w, own⟩) ⟨(t1, .v v) :: (t0, .v v) :: argFr args 0, σ⟩) : ADef P f args σ σ' u u' := by
  have hn := Nat.le_of_ble_eq_true hn'
  rw [Nat.blt_eq] at l0 l1
  intro I M w cargs ha hav hs hno
  refine callsD_of_wpS hf hb fun c₀ cs hc => ?_
  subst hN
  refine wpS_seq (wpS_region ?_)
  have hF := (argFr_ok hn ha hav).put (d := some t0) (cv := v) (v := .v v) (by simpa [dstOk] using l0) (.v _)
  have hF2 := hF.put (d := some t1) (cv := v) (v := .v v) (by simpa [dstOk] using l1) (.v _)
  have hev : ({ tmps := cargs ++ Array.replicate (fn.ntmps - cargs.size) undef, defers := [] : Act }.put (some t0) v).eval (.tmp t0) = v := by
    have := hF.2 t0
    have h3 : Fr.get (Fr.put (argFr args 0) (some t0) (.v v)) t0 = .v v := by simp [Fr.put, Fr.get]
    rw [h3] at this
    exact this.val
  have hfin : ∀ (cs' : List Frame), cs' = { c₀ with mode := u' } :: cs → Code.wpS P c (bodyPostS P fn c₀ cs fun e v w' => (∃ x, e = .returned x) ∧ v = u' ∧ ∃ I' M', Sto I' M' w' (sto σ') ∧ (∀ k, σ'.length ≤ k → I' k = .no) ∧ Ext (fun b => ∃ k, blkOf (I k) (sto σ k) = some b) I I' M M' w w' ∧
      ∀ k b, blkOf (I' k) (sto σ' k) = some b → w.heap.size ≤ b ∨ ∃ k', blkOf (I k') (sto σ k') = some b) (({ tmps := cargs ++ Array.replicate (fn.ntmps - cargs.size) undef, defers := [] : Act }.put (some t0) v).put (some t1) v) cs' w := by
    intro cs' hcs
    refine wpS_of_wp (wp_mono (h I M w (fun b => ∃ k, blkOf (I k) (sto σ k) = some b) I M w _ ⟨hF2, rfl, hs, Nat.le_refl _, hno, Ext.refl _ _ _ _, fun k b hb => .inr ⟨k, hb⟩, hno⟩) fun e a' w' ⟨I', M', s', q1, q2⟩ => ?_)
    have fin : RetOk P fn (.tup []) σ' ⟨fn.ntmps, σ.length, I, M, w, fun b => ∃ k, blkOf (I k) (sto σ k) = some b⟩ .ret s' → bodyPostS P fn c₀ cs (fun e v w' => (∃ x, e = .returned x) ∧ v = u' ∧ ∃ I' M', Sto I' M' w' (sto σ') ∧ (∀ k, σ'.length ≤ k → I' k = .no) ∧ Ext (fun b => ∃ k, blkOf (I k) (sto σ k) = some b) I I' M M' w w' ∧
      ∀ k b, blkOf (I' k) (sto σ' k) = some b → w.heap.size ≤ b ∨ ∃ k', blkOf (I k') (sto σ k') = some b) .ret a' cs' w' := by
      intro hr
      obtain ⟨cv, r1, I3, M3, r2, r3, r4, r5, r6⟩ := hr.fin hno q1
      exact ⟨q1.df, u', hcs, cv, r1, ⟨cv, rfl⟩, rfl, I3, M3, r3, r4, r5, r6⟩
    cases e with
    | ret => exact fin q2
    | normal => exact fin q2
    | _ => exact q2.elim
  have e1 : ∀ a : Act, (execOp a.eval o1).run P w = .ok .recover w := fun a => by simp [execOp, h1, resolve, invoke, builtin]
  have e2 : ∀ a : Act, (execOp a.eval o2).run P w = .ok (.value (a.eval (.tmp t0))) w := fun a => by simp [execOp, h2]
  have hrng : List.range (#[o1, o2] : Array Oper).size = [0, 1] := rfl
  rw [hrng]
  simp only [wpOpsS, w1, if_true, e1, List.getElem?_toArray, List.getElem?_cons_zero, List.getElem?_cons_succ]
  cases hu with
  | no =>
    have hr : recoverD (c₀ :: cs) = none := by simp [recoverD, hc]
    rw [hr]
    simp only [w2, if_true, e2, Oper.upon_value, d1, d2, hev]
    exact hfin _ (by cases c₀; simp at hc; simp [hc])
  | yes =>
    have hr : recoverD (c₀ :: cs) = some (v, { c₀ with mode := .panicking [{ v := v, recovered := true }] } :: cs) := by simp [recoverD, hc]
    rw [hr]
    simp only [w2, if_true, e2, Oper.upon_value, d1, d2, hev]
    exact hfin _ O
def modeOf : Exit → Option FrameMode
  | .normal => some .returning
  | .ret => some .returning
  | .panic ch => some (.panicking ch)
  | _ => none
def DefQ (P : Program) (fn : Func) (f : FuncId) (caps : List AV) (r : AV) (g : Ent) (e : Exit) (s : State) : Prop :=
  ∃ u u' fr σc σd vs, modeOf e = some u ∧ Conv g s ⟨fr, σc⟩ ∧ ADef P f caps σc σd u u' ∧ settle u' = .returning ∧ σc.length = g.p ∧ σd.length = g.p ∧ ResA P ⟨fr, σd⟩ fn.results.toList vs ∧ Cv (sto σd) (resV vs) r ∧ AV.lts g.p caps = true
theorem ACalls.ofDefer {P : Program} {f : FuncId} {fn : Func} {id : Nat} {o1 o2 : Oper} {c1 c2 : Code} {args caps : List AV} {r : AV} {k : FuncId} {xs : Array Operand} {t0 : Nat} {fr1 : Fr} {σ1 : List Res} [CallI P k]
    (hf : P.funcs[f]? = some fn) (hb : fn.body = some (.seq c1 (.seq (.region id #[o1, o2] false) c2))) (hn' : Nat.ble args.length fn.ntmps = true)
    {N : Nat} (hN : fn.ntmps = N) (h1 : o1.op = .makeFunc (.func k) #[] xs) (h2 : o2.op = .defer { callee := .value (.tmp t0), args := #[], argTypes := #[] }) (d1 : o1.dst = some t0) (d2 : o2.dst = none) (w1 : ∀ y, Region.wanted o1 y = true) (w2 : ∀ y, Region.wanted o2 y = true)
    (l0 : Nat.blt t0 N = true) (hx : xs.toList.map (evA fr1) = caps) (hr : r.lt 0 = true)
    (hh : ∀ (I : Nat → CI) (M : Nat → Nat) (w : World) (own : Nat → Prop), AW P ⟨N, 0, I, M, w, own⟩ c1 (fun e s => e = .normal ∧ s = ⟨fr1, σ1⟩) ⟨argFr args 0, []⟩)
    (h : ∀ (I : Nat → CI) (M : Nat → Nat) (w : World) (own : Nat → Prop) (ds : Dfs), AW P (@Ent.mk N σ1.length I M w own ds) c2 (DefQ P fn k caps r (@Ent.mk N σ1.length I M w own ds)) ⟨(t0, .any) :: fr1, σ1⟩) : ACalls P f args [] r [] := by
  have hn := Nat.le_of_ble_eq_true hn'
  rw [Nat.blt_eq] at l0
  intro I M w cargs ha hav hs hno
  refine calls_of_wp_defers hf hb ?_
  subst hN
  refine wp_seq (wp_mono (hh I M w (fun b => ∃ k, blkOf (I k) (sto [] k) = some b) I M w _ ⟨argFr_ok hn ha hav, rfl, hs, Nat.le_refl _, hno, Ext.refl _ _ _ _, fun k b hb => .inr ⟨k, hb⟩, hno⟩) ?_)
  rintro e a1 w1' ⟨I1, M1, s1, st1, rfl, rfl⟩
  simp only [Exit.then]
  refine wp_seq (wp_region ?_)
  generalize hvs : xs.map a1.eval = vs
  have hvl : vs.size = caps.length := by rw [← hvs, ← hx]; simp
  have hvr : ∀ (i : Nat) (v : Value) (c : AV), vs[i]? = some v → caps[i]? = some c → Rp I1 M1 w1' v c := by
    intro i v c hv hc
    rw [← hvs, Array.getElem?_map] at hv
    rw [← hx, List.getElem?_map] at hc
    cases hi : xs[i]? with
    | none => rw [hi] at hv; cases hv
    | some x =>
      rw [hi] at hv
      have hi' : xs.toList[i]? = some x := by simpa using hi
      rw [hi'] at hc
      simp only [Option.map_some, Option.some.injEq] at hv hc
      rw [← hv, ← hc]
      exact st1.fr.eval x
  have e1 : (execOp a1.eval o1).run P w1' = .ok (.value (.func (.func k) #[] vs)) w1' := by simp [execOp, h1, Instr.makeFunc, hvs]
  have hF := st1.fr.put (d := some t0) (cv := .func (.func k) #[] vs) (v := .any) (by simpa [dstOk] using l0) (.any _)
  have hev : (a1.put (some t0) (.func (.func k) #[] vs)).eval (.tmp t0) = .func (.func k) #[] vs := by
    have hF' := st1.fr.put (d := some t0) (cv := .func (.func k) #[] vs) (v := .v (.func (.func k) #[] vs)) (by simpa [dstOk] using l0) (.v _)
    have := hF'.2 t0
    have h3 : Fr.get (Fr.put fr1 (some t0) (.v (.func (.func k) #[] vs))) t0 = .v (.func (.func k) #[] vs) := by simp [Fr.put, Fr.get]
    rw [h3] at this
    exact this.val
  have hinv : ∀ w : World, (invoke (.fn (.func k) vs) #[]).run P w = .ok (.enter k vs) w := by
    intro w
    have hfn : ∃ fn, P.funcs[k]? = some fn ∧ (fn.name == "runtime.NumGoroutine") = false ∧ fn.body.isNone = false := by
      have := CallI.eq (P := P) (f := k)
      cases hq : P.funcs[k]? with
      | none => rw [hq] at this; cases this
      | some fn =>
        rw [hq] at this
        simp only [Option.map_some, Option.some.injEq, Prod.mk.injEq] at this
        exact ⟨fn, rfl, this⟩
    obtain ⟨fn, hf1, hf2, hf3⟩ := hfn
    have hf3' : ¬ fn.body = none := by intro h; rw [h] at hf3; cases hf3
    have hf2' : ¬ fn.name = "runtime.NumGoroutine" := by intro h; rw [h] at hf2; simp at hf2
    simp [invoke, callFunc, hf1, hf2', hf3']
  have e2 : (execOp (a1.put (some t0) (.func (.func k) #[] vs)).eval o2).run P w1' = .ok (.defer { target := .fn (.func k) vs, args := #[] }) w1' := by simp [execOp, h2, resolve, hev, Deferred.ofValue]
  have hrng : List.range (#[o1, o2] : Array Oper).size = [0, 1] := rfl
  rw [hrng]
  simp only [wpOps, w1, if_true, List.getElem?_toArray, List.getElem?_cons_zero, List.getElem?_cons_succ, Oper.wp]
  refine .inl ?_
  rw [e1, Oper.upon_value, d1]
  simp only [w2, if_true]
  refine .inl ?_
  rw [e2, Oper.upon_defer, d2]
  simp only [Exit.then]
  generalize ha2 : (Act.put _ none undef : Act) = a2
  have hd2 : a2.defers = [{ target := .fn (.func k) vs, args := #[] }] := by
    rw [← ha2]
    have : a1.defers = [] := st1.df
    simp [Act.put, this]
  have hF2 : FrOk I1 M1 w1' fn.ntmps a2 ((t0, .any) :: fr1) := by
    rw [← ha2]
    exact ⟨by simpa [Act.put] using hF.1, fun t => by simpa [Act.put, Fr.put] using hF.2 t⟩
  let ds : Dfs := ⟨[{ target := .fn (.func k) vs, args := #[] }]⟩
  let g2 : Ent := @Ent.mk fn.ntmps σ1.length I1 M1 w1' (fun b => ∃ k, blkOf (I1 k) (sto σ1 k) = some b) ds
  refine wp_mono (h I1 M1 w1' (fun b => ∃ k, blkOf (I1 k) (sto σ1 k) = some b) ds I1 M1 w1' a2 ⟨hF2, hd2, st1.st, Nat.le_refl _, st1.no, Ext.refl _ _ _ _, fun k b hb => .inr ⟨k, hb⟩, st1.no⟩) ?_
  rintro e a3 w3 ⟨I3, M3, s3, st3, u, u', fr, σc, σd, rs, hmo, hcv, hdef, hset, hlc, hld, hra, hcr, hlt⟩
  obtain ⟨I4, M4, st4⟩ := hcv _ _ _ _ st3
  have hcap : ∀ (i : Nat) (v : Value) (c : AV), vs[i]? = some v → caps[i]? = some c → Rp I4 M4 w3 v c := fun i v c hv hc => (hvr i v c hv hc).evo st4.ext.le st4.ext.evo
  have hno4 : ∀ k, σc.length ≤ k → I4 k = .no := st4.no
  have hcall := hdef I4 M4 w3 vs hvl hcap st4.st hno4
  have key : Leaves P fn a3.tmps (fun e w' => ∃ cv I' M', e = .returned cv ∧ Rp I' M' w' cv r ∧ Sto I' M' w' (sto []) ∧ (∀ k, ([] : List Res).length ≤ k → I' k = .no) ∧ Ext (fun b => ∃ k, blkOf (I k) (sto [] k) = some b) I I' M M' w w' ∧
      ∀ k b, blkOf (I' k) (sto [] k) = some b → w.heap.size ≤ b ∨ ∃ k', blkOf (I k') (sto [] k') = some b) a3.defers u w3 := by
    have hd3 : a3.defers = [{ target := .fn (.func k) vs, args := #[] }] := st4.df
    rw [hd3]
    refine leaves_cons (by rintro rfl; cases e <;> simp [modeOf] at hmo) (hinv _) (hcall.mono ?_)
    rintro e5 u5 w5 ⟨⟨x, rfl⟩, rfl, I5, M5, k1, k2, k3, k4⟩
    simp only
    rw [hset]
    have hfr5 := st4.fr.evo k3.le k3.evo
    obtain ⟨us, q1, q2, q3⟩ := hra.run (s := ⟨fr, σd⟩) hfr5 k1
    refine ⟨_, run_results q1, ?_⟩
    have hv : Rp I5 M5 w5 (resVal us) (resV rs) := by
      match us, rs, q2, q3 with
      | [], [], _, _ => exact .tup O (fun i v c h => by simp at h)
      | [u], [v], _, u3 => exact u3 0 u v O O
      | u :: u' :: r, v :: v' :: r', u2, u3 => exact .tup (by simpa using u2) (fun i x c hx hc => u3 i x c (by simpa using hx) hc)
    have hs0 : (sto [] : Nat → Res) = fun _ => .no := by funext k; simp [sto]
    have x1 : Ext _ I1 I5 M1 M5 w1' w5 := st4.ext.trans k3 fun b hb ⟨j, hj⟩ => (st4.ini j b hj).resolve_left (by have : g2.w.heap.size = w1'.heap.size := rfl; omega)
    have x2 := st1.ext.trans x1 fun b hb ⟨j, hj⟩ => (st1.ini j b hj).resolve_left (fun h => by have h' : w.heap.size ≤ b := h; omega)
    refine ⟨_, fun _ => .no, M5, rfl, (hcr I5 M5 w5 _ k1 hv).agree (n := 0) (fun k h => absurd h (Nat.not_lt_zero k)) hr, ?_, fun _ _ => rfl, ⟨x2.os, x2.tape, x2.output, fun k => ?_, x2.evo, x2.oth⟩, fun k b hb => ?_⟩
    · rw [hs0]
      exact ⟨fun k => trivial, fun k k' b _ hb => (blkno hb).elim, k1.top, k1.tab⟩
    · rw [hno k (Nat.zero_le k)]; trivial
    · rw [hs0] at hb; exact (blkno hb).elim
  cases e with
  | ret => obtain rfl := Option.some.inj hmo; exact key
  | normal => obtain rfl := Option.some.inj hmo; exact key
  | panic ch => obtain rfl := Option.some.inj hmo; exact key
  | _ => cases hmo
end Go.Proofs.YtbbcokckealagaaGreat
