/-
  Rounds of a range over a function, over values without addresses. Nothing of the dump is used; no condition.
-/
import Derived.RangeFuncIn
import Derived.RangeFuncRecord
import Derived.RangeFuncLeaves
import Derived.RangeFuncCalls
import Derived.TacticsIn
import Derived.Test.YtbbcokckealagaaGreatAdf
namespace Go.Proofs.YtbbcokckealagaaGreat
set_option linter.unusedVariables false
set_option linter.unusedSimpArgs false
open Go.RowKit
def noDefer (o : Oper) : Bool := match o.op with
  | .defer _ => false
  | _ => true
theorem Oper.wpIn_round {P : Program} {o : Oper} {l : Nat} {a : Act} {w : World} {K : Act → World → Prop} {Q : Exit → Act → World → Prop} (hd : noDefer o = true) (h : o.wp P a w K Q) : o.wpIn (Fence.wide.inRound l) 0 P a w K Q := by
  refine ⟨fun _ _ => trivial, ?_⟩
  have hs : Oper.semAt (Fence.wide.inRound l).round a.eval o = execOp a.eval o := Oper.semAt_some l _ _ fun c hc => by simp [noDefer, hc] at hd
  rw [hs]
  unfold Oper.wp at h
  generalize (execOp a.eval o).run P w = r at h ⊢
  have h0 : (Fence.wide.inRound l).depth.isSome = true → 1 ≤ 0 := fun h => by simp [Fence.wide] at h
  match r, h with
  | .ok (.value v) w', h => exact h
  | .ok .skip w', h => exact h
  | .ok (.defer d) w', h => exact h
  | .ok (.enter f args) w', h => exact ⟨h0, CallsIn.inRound l (callsIn_wide.2 h)⟩
  | .ok (.row row args) w', h =>
    refine ⟨h0, fun c cs _ => ?_⟩
    obtain ⟨v, w', q, s⟩ := h c cs
    exact ⟨v, w', q, stepsIn_wide.2 s⟩
  | .halt (.panic v) w', h => exact h
section
variable {P : Program} {l : Nat} {g : Ent} {I : Nat → CI} {M : Nat → Nat} {w : World} {a : Act} {s : State}
theorem Run.round {ops : List Oper} {chk : List FP → Bool} {K : State → Prop} {rest : List Oper} {acc : List FP} (h : Run P g.n ops chk K rest s acc) : (∀ o ∈ rest, noDefer o = true) → ∀ (I : Nat → CI) (M : Nat → Nat) (w : World) (a : Act), St g I M w a s →
    wpListIn (Fence.wide.inRound l) 0 P ops.toArray (fun e a' w' => ∃ I' M' s', St g I' M' w' a' s' ∧ e = .normal ∧ K s') rest a w := by
  induction h with
  | nil hc hK => intro hnd I M w a hst; exact ⟨I, M, _, hst, rfl, hK⟩
  | op hw hd h hi hu hn hr ih =>
    intro hnd I M w a hst
    refine wpListIn_step fun K' hK' => ?_
    rw [if_pos (wanted_of (f := fun d => Fr.get _ d) (fun j want q d _ _ _ => hst.fr.2 d) hw)]
    refine Oper.wpIn_round (hnd _ (List.mem_cons_self ..)) ?_
    refine h I M w a _ K' _ (fun x _ => hst.fr.eval x) hst.st hi (fun k hk => (hn k hk).imp id fun hl => ⟨?_, hst.no k hl⟩) fun cv I' M' w' h1 h2 h3 h4 h5 => ?_
    · simp [sto, List.getElem?_eq_none hl]
    · exact hK' _ _ (ih (fun o ho => hnd o (List.mem_cons_of_mem _ ho)) I' M' w' _ (hst.step hd hu hi h1 h2 h3 h4 h5))
  | opN hall hw hd h hi hu hn hr ih =>
    intro hnd I M w a hst
    refine wpListIn_step fun K' hK' => ?_
    rw [if_pos (wanted_of (f := fun d => Fr.get _ d) (fun j want q d _ _ _ => hst.fr.2 d) hw)]
    refine Oper.wpIn_round (hnd _ (List.mem_cons_self ..)) ?_
    refine h I M w a _ K' _ (fun x _ => hst.fr.eval x) hst.st hi (fun i k hk => (hn i k hk).imp id fun hl => ⟨?_, hst.no k hl⟩) fun i cv I' M' w' h1 h2 h3 h4 h5 => ?_
    · simp [sto, List.getElem?_eq_none hl]
    · exact hK' _ _ (ih i (fun o ho => hnd o (List.mem_cons_of_mem _ ho)) I' M' w' _ (hst.step hd (hu i) hi h1 h2 h3 h4 h5))
  | conv h hr ih =>
    intro hnd I M w a hst
    exact ih hnd I M w a ⟨⟨hst.fr.1, fun t => (h t).rp (hst.fr.2 t)⟩, hst.df, hst.st, hst.len, hst.no, hst.ext, hst.ini, hst.gno⟩
  | @skip o rest s acc f hw hd hr ih =>
    intro hnd I M w a hst
    refine wpListIn_step fun K' hK' => ?_
    rw [if_neg (by rw [wanted_of (f := fun d => Fr.get _ d) (fun j want q d _ _ _ => hst.fr.2 d) hw]; simp)]
    refine ⟨fun _ _ => trivial, hK' _ _ (ih (fun o ho => hnd o (List.mem_cons_of_mem _ ho)) I M w _ ?_)⟩
    have := hst.step (ins := []) (outs := []) (cv := undef) (v := .v undef) hd O (fun _ h => by cases h) (.v _) hst.st (Ext.refl _ _ _ _) (fun _ _ => rfl) (fun _ h => by cases h)
    exact this
end
def AWR (P : Program) (l : Nat) (g : Ent) (c : Code) (Q : Exit → State → Prop) (s : State) : Prop :=
  ∀ (I : Nat → CI) (M : Nat → Nat) (w : World) (a : Act), St g I M w a s → c.wpIn (Fence.wide.inRound l) 0 P (fun e a' w' => ∃ I' M' s', St g I' M' w' a' s' ∧ Q e s') a w
section
variable {P : Program} {l : Nat} {g : Ent} {Q : Exit → State → Prop} {s : State}
theorem AWR.seq_k {x y : Code} (h : ∀ K : State → Prop, (∀ s, AWR P l g y Q s → K s) → AWR P l g x (thenA K Q) s) : AWR P l g (.seq x y) Q s := by
  intro I M w a hst
  refine wpIn_seq (wpIn_mono (h _ (fun _ h => h) I M w a hst) fun e a' w' ⟨I', M', s', h1, h2⟩ => ?_)
  cases e with
  | normal => exact h2 I' M' w' a' h1
  | _ => exact ⟨I', M', s', h1, h2⟩
theorem AWR.cond {c : Operand} {x y : Code} {b : Bool} (hc : evA s.fr c = .v (.bool b)) (ht : b = true → AWR P l g x Q s) (hf : b = false → AWR P l g y Q s) : AWR P l g (.cond c x y) Q s := by
  intro I M w a hst
  have h := hst.fr.eval c
  rw [hc] at h
  exact wpIn_cond_split h.val (fun e => ht e I M w a hst) (fun e => hf e I M w a hst)
theorem AWR.condD {c : Operand} {x y : Code} {p : Prop} [Decidable p] (hc : evA s.fr c = .v (.bool (decide p))) (ht : p → AWR P l g x Q s) (hf : ¬ p → AWR P l g y Q s) : AWR P l g (.cond c x y) Q s :=
  AWR.cond hc (fun h => ht (of_decide_eq_true h)) (fun h => hf (of_decide_eq_false h))
theorem AWR.block {id : Nat} {c : Code} (h : AWR P l g c (inBlockA id Q) s) : AWR P l g (.block id c) Q s := by
  intro I M w a hst
  refine wpIn_block (wpIn_mono (h I M w a hst) fun e a' w' ⟨I', M', s', h1, h2⟩ => ?_)
  cases e with
  | exit id' =>
    simp only [inBlockA] at h2
    simp only [Exit.inBlock]
    split
    · rename_i hid; rw [if_pos hid] at h2; exact ⟨I', M', s', h1, h2⟩
    · rename_i hid; rw [if_neg hid] at h2; exact ⟨I', M', s', h1, h2⟩
  | _ => exact ⟨I', M', s', h1, h2⟩
theorem AWR.exit {id : Nat} (h : Q (.exit id) s) : AWR P l g (.exit id) Q s := fun I M w a hst => wpIn_exit ⟨I, M, s, hst, h⟩
theorem AWR.ret (h : Q .ret s) : AWR P l g .ret Q s := fun I M w a hst => wpIn_ret ⟨I, M, s, hst, h⟩
theorem AWR.skip (h : Q .normal s) : AWR P l g .skip Q s := fun I M w a hst => wpIn_skip ⟨I, M, s, hst, h⟩
theorem AWR.region {id : Nat} {ops : List Oper} (h : Run P g.n ops (fun _ => true) (fun s => Q .normal s) ops s []) (hnd : ops.all noDefer = true := by rfl) : AWR P l g (.region id ops.toArray false) Q s := by
  intro I M w a hst
  exact wpIn_mono (wpIn_region_lit (h.round (fun o ho => List.all_eq_true.1 hnd o ho) I M w a hst)) fun e a' w' ⟨I', M', s', h1, h2, h3⟩ => ⟨I', M', s', h1, h2 ▸ h3⟩
theorem rH (id : Nat) {ops : List Oper} (h : Run P g.n ops (fun _ => true) (fun s => Q .normal s) ops s []) (hnd : ops.all noDefer = true := by rfl) : AWR P l g (.region id ops.toArray false) Q s := AWR.region h hnd
theorem AWR.rI {id : Nat} {ops : List Oper} (ls : List Nat) (_ : ls.any (Nat.beq id) = true) (h : Run P g.n ops (fun _ => true) (fun s => Q .normal s) ops s []) (hnd : ops.all noDefer = true := by rfl) : AWR P l g (.region id ops.toArray false) Q s := AWR.region h hnd
end
end Go.Proofs.YtbbcokckealagaaGreat
namespace Go.Proofs.YtbbcokckealagaaGreat
set_option linter.unusedVariables false
set_option linter.unusedSimpArgs false
open Go.RowKit
section
variable {I I' : Nat → CI} {M M' : Nat → Nat} {w w' : World} {σ : Nat → Res} {l : Nat} {r : Loop} {o : Obj}
theorem poke_ext (h : w.heap[l]? = some (.loop r)) : Ext (fun b => b = l) I I M M w (w.putObj l o) := by
  refine ⟨rfl, rfl, rfl, fun _ => CI.le_refl _, ⟨by simp, fun _ => Nat.le_refl _, fun b off v ho hv => ?_, fun b T hT => ?_⟩, fun b hb hn => ⟨World.putObj_heap_other hn, rfl⟩⟩
  · by_cases hb : b = l
    · subst hb
      simp [World.cell?, h] at hv
    · simp only [World.cell?, World.putObj_heap_other hb] at hv ⊢
      exact hv
  · by_cases hb : b = l
    · subst hb
      rw [ety, h] at hT
      cases hT
    · rw [ety, World.putObj_heap_other hb]
      exact hT
theorem Own1.notLoop {ci : CI} {x : Res} (h : Own1 I M w ci x) (hl : w.heap[l]? = some (.loop r)) : blkOf ci x ≠ some l := fun hb => by
  obtain ⟨cur, e, fr, h1⟩ := h.blk hb
  rw [hl] at h1
  cases h1
theorem Sto.poke (hs : Sto I M w σ) (h : w.heap[l]? = some (.loop r)) : Sto I M (w.putObj l o) σ := by
  have e := poke_ext (I := I) (M := M) (o := o) h
  refine ⟨fun k => (hs.own k).stay e fun b hb hbl => (hs.own k).notLoop h (hbl ▸ hb), hs.dis, fun b hb => hs.top b (by simpa using hb), fun t ht => (hs.tab t ht).stay e fun hbl => ?_⟩
  obtain ⟨e', fr, t1, _⟩ := hs.tab t ht
  have hbl' : t.1 = l := hbl
  rw [hbl', h] at t1
  cases t1
theorem alloc_ext (o : Obj) : Ext (fun _ => False) I I M M w (w.alloc o) := by
  have hh : (w.alloc o).heap = w.heap.push o := rfl
  have h0 : ∀ b, b < w.heap.size → (w.alloc o).heap[b]? = w.heap[b]? := fun b hb => by rw [hh, Array.getElem?_push]; simp [Nat.ne_of_lt hb]
  refine ⟨rfl, rfl, rfl, fun _ => CI.le_refl _, ⟨by rw [hh]; simp, fun _ => Nat.le_refl _, fun b off v ho hv => ?_, ety_of h0⟩, fun b hb hn => ⟨h0 b hb, rfl⟩⟩
  have hb : b < w.heap.size := by
    refine Nat.lt_of_not_le fun hle => ?_
    simp [World.cell?, Array.getElem?_eq_none hle] at hv
  simp only [World.cell?, h0 b hb] at hv ⊢
  exact hv
theorem Sto.alloc (hs : Sto I M w σ) : Sto I M (w.alloc o) σ := hs.stay (alloc_ext o) fun b hb => hs.top b (by have hh : (w.alloc o).heap = w.heap.push o := rfl; rw [hh] at hb; simp at hb; omega)
end
def RoundR (l : Nat) (r : Loop) (Qc Qs : List Res → Prop) (I : Nat → CI) (M : Nat → Nat) (w : World) (σ : List Res) (e : Ending) (w' : World) : Prop :=
  (∃ σ' I' M', Qc σ' ∧ e = .returned (.bool true) ∧ Sto I' M' w' (sto σ') ∧ (∀ k, σ'.length ≤ k → I' k = .no) ∧ Ext (fun b => ∃ k, blkOf (I k) (sto σ k) = some b) I I' M M' w w' ∧ (∀ k b, blkOf (I' k) (sto σ' k) = some b → w.heap.size ≤ b ∨ ∃ k', blkOf (I k') (sto σ k') = some b) ∧ w'.heap[l]? = some (.loop r) ∧ σ.length ≤ σ'.length) ∨
  (∃ σ' I' M', Qs σ' ∧ e = .returned (.bool false) ∧ Sto I' M' w' (sto σ') ∧ (∀ k, σ'.length ≤ k → I' k = .no) ∧ Ext (fun b => (∃ k, blkOf (I k) (sto σ k) = some b) ∨ b = l) I I' M M' w w' ∧ (∀ k b, blkOf (I' k) (sto σ' k) = some b → w.heap.size ≤ b ∨ ∃ k', blkOf (I k') (sto σ k') = some b) ∧ w'.heap[l]? = some (.loop { r with state := .done, pending := some .ret }) ∧ σ.length ≤ σ'.length)
def BodyQ (Qc Qs : List Res → Prop) (g : Ent) : Exit → State → Prop
  | .normal, s => ∃ σ', Qc σ' ∧ Conv g s ⟨[], σ'⟩
  | .ret, s => ∃ σ', Qs σ' ∧ Conv g s ⟨[], σ'⟩
  | _, _ => False
theorem round_of {P : Program} {l N : Nat} {r : Loop} {Qc Qs : List Res → Prop} {fr1 fr2 : Fr} {σ : List Res} (hr : r.state = .ready) (hp : r.pending = none)
    (hA : ∀ (I : Nat → CI) (M : Nat → Nat) (w : World) (own : Nat → Prop), AWR P l ⟨N, σ.length, I, M, w, own⟩ r.assign (fun e s => e = .normal ∧ s = ⟨fr2, σ⟩) ⟨fr1, σ⟩)
    (hB : ∀ (I : Nat → CI) (M : Nat → Nat) (w : World) (own : Nat → Prop), AWR P l ⟨N, σ.length, I, M, w, own⟩ r.body (BodyQ Qc Qs ⟨N, σ.length, I, M, w, own⟩) ⟨fr2, σ⟩)
    {I : Nat → CI} {M : Nat → Nat} {w : World} {tmps : Array Value} (hfr : FrOk I M w N { tmps := tmps, defers := [] } fr1) (hs : Sto I M w (sto σ)) (hno : ∀ k, σ.length ≤ k → I k = .no) (hl : w.heap[l]? = some (.loop r)) :
    RoundIn Fence.wide 0 P l r.fn tmps r.assign r.body w (RoundR l r Qc Qs I M w σ) := by
  have hll := (Array.getElem?_eq_some_iff.1 hl).1
  refine roundIn_of_wpIn trivial ?_
  let own : Nat → Prop := fun b => ∃ k, blkOf (I k) (sto σ k) = some b
  have hol : ¬ own l := fun ⟨k, hk⟩ => (hs.own k).notLoop hl hk
  refine wpIn_mono (hA I M w own I M w _ ⟨hfr, rfl, hs, Nat.le_refl _, hno, Ext.refl _ _ _ _, fun k b hb => .inr ⟨k, hb⟩, hno⟩) ?_
  rintro e a1 w1 ⟨I1, M1, s1, st1, rfl, rfl⟩
  have hl1 : w1.heap[l]? = some (.loop r) := (st1.ext.oth l hll hol).1.trans hl
  refine ⟨_, run_beginRound hl1 hr, ?_⟩
  generalize hw2 : w1.putObj l (.loop { r with state := .busy }) = w2
  have hx2 : Ext (fun b => b = l) I1 I1 M1 M1 w1 w2 := hw2 ▸ poke_ext hl1
  have hs2 : Sto I1 M1 w2 (sto σ) := hw2 ▸ st1.st.poke hl1
  have hl1l := (Array.getElem?_eq_some_iff.1 hl1).1
  have hl2 : w2.heap[l]? = some (.loop { r with state := .busy }) := hw2 ▸ World.putObj_heap_same hl1l
  have hl2l := (Array.getElem?_eq_some_iff.1 hl2).1
  let own2 : Nat → Prop := fun b => ∃ k, blkOf (I1 k) (sto σ k) = some b
  have hol2 : ¬ own2 l := fun ⟨k, hk⟩ => (hs2.own k).notLoop hl2 hk
  refine wpIn_mono (hB I1 M1 w2 own2 I1 M1 w2 a1 ⟨st1.fr.evo hx2.le hx2.evo, st1.df, hs2, Nat.le_refl _, st1.no, Ext.refl _ _ _ _, fun k b hb => .inr ⟨k, hb⟩, st1.no⟩) ?_
  rintro e a3 w3 ⟨I3, M3, s3, st3, hq⟩
  have key : ∀ σ', Conv (Ent.mk N σ.length I1 M1 w2 own2) s3 ⟨[], σ'⟩ → ∀ r' : Loop, ∃ I4 M4, Sto I4 M4 (w3.putObj l (.loop r')) (sto σ') ∧ (∀ k, σ'.length ≤ k → I4 k = .no) ∧ σ.length ≤ σ'.length ∧ (w3.putObj l (.loop r')).heap[l]? = some (.loop r') ∧
      Ext (fun b => own b ∨ b = l) I I4 M M4 w (w3.putObj l (.loop r')) ∧ M4 l = M l ∧ (∀ k b, blkOf (I4 k) (sto σ' k) = some b → w.heap.size ≤ b ∨ ∃ k', blkOf (I k') (sto σ k') = some b) ∧ w3.heap[l]? = some (.loop { r with state := .busy }) := by
    intro σ' hcv r'
    obtain ⟨I4, M4, st4⟩ := hcv _ _ _ _ st3
    have hl3 : w3.heap[l]? = some (.loop { r with state := .busy }) := (st4.ext.oth l hl2l hol2).1.trans hl2
    have hl3l := (Array.getElem?_eq_some_iff.1 hl3).1
    have x4 : Ext (fun b => b = l) I4 I4 M4 M4 w3 (w3.putObj l (.loop r')) := poke_ext hl3
    have x34 : Ext (fun b => own2 b ∨ b = l) I1 I4 M1 M4 w2 (w3.putObj l (.loop r')) := (st4.ext.wide fun b _ h => .inl h).trans x4 fun b _ h => .inr h
    have x234 : Ext (fun b => own2 b ∨ b = l) I1 I4 M1 M4 w1 (w3.putObj l (.loop r')) := (hx2.wide fun b _ h => .inr h).trans x34 fun b _ h => h
    have x : Ext (fun b => own b ∨ b = l) I I4 M M4 w (w3.putObj l (.loop r')) := (st1.ext.wide fun b _ h => .inl h).trans x234 fun b hb h => by
      rcases h with ⟨k, hk⟩ | h
      · rcases st1.ini k b hk with q | q
        · have q' : w.heap.size ≤ b := q
          omega
        · exact .inl q
      · exact .inr h
    refine ⟨I4, M4, st4.st.poke hl3, st4.no, st4.len, World.putObj_heap_same hl3l, x, ?_, fun k b hb => ?_, hl3⟩
    · have m1 : M1 l = M l := (st1.ext.oth l hll hol).2
      have m2 : M4 l = M1 l := (st4.ext.oth l hl2l hol2).2
      rw [m2, m1]
    · rcases st4.ini k b hb with q | ⟨k1, hk1⟩
      · left
        have q' : w2.heap.size ≤ b := q
        have := st1.ext.evo.size
        have := hx2.evo.size
        exact Nat.le_trans (by assumption) (Nat.le_trans (by assumption) q')
      · exact st1.ini k1 b hk1
  cases e with
  | normal =>
    obtain ⟨σ', hc, hcv⟩ := hq
    obtain ⟨I4, M4, k1, k2, k3, k4, k5, k6, k7, k8⟩ := key σ' hcv r
    have hrr : ({ ({ r with state := .busy } : Loop) with state := if (none : Option Code).isNone then .ready else .done, pending := none } : Loop) = r := by
      cases r; simp only at hr hp; subst hr hp; rfl
    refine ⟨_, _, run_endRound none k8, ?_⟩
    rw [hrr]
    refine .inl ⟨σ', I4, M4, hc, rfl, k1, k2, ⟨k5.os, k5.tape, k5.output, k5.le, k5.evo, fun b hb ho => ?_⟩, k7, k4, k3⟩
    by_cases hbl : b = l
    · subst hbl
      exact ⟨k4.trans hl.symm, k6⟩
    · exact k5.oth b hb fun h => h.elim ho hbl
  | ret =>
    obtain ⟨σ', hc, hcv⟩ := hq
    obtain ⟨I4, M4, k1, k2, k3, k4, k5, k6, k7, k8⟩ := key σ' hcv { r with state := .done, pending := some .ret }
    refine ⟨_, _, run_endRound (some .ret) k8, ?_⟩
    exact .inr ⟨σ', I4, M4, hc, rfl, k1, k2, k5, k7, k4, k3⟩
  | _ => exact hq.elim
end Go.Proofs.YtbbcokckealagaaGreat
