/-
  An iterator that calls yield, over values without addresses. Nothing of the dump is used; no condition.
-/
import Derived.Test.YtbbcokckealagaaGreatQAS
import Derived.Test.YtbbcokckealagaaGreatQAA
import Derived.Test.YtbbcokckealagaaGreatQAK
namespace Go.Proofs.YtbbcokckealagaaGreat
set_option linter.unusedVariables false
set_option linter.unusedSimpArgs false
open Go.RowKit
def AWE (P : Program) (g : Ent) (c : Code) (Q : Exit → State → Prop) (E : World → Prop) (s : State) : Prop :=
  ∀ (I : Nat → CI) (M : Nat → Nat) (w : World) (a : Act), St g I M w a s → c.wp P (fun e a' w' => (∃ I' M' s', St g I' M' w' a' s' ∧ Q e s') ∨ (e = .ret ∧ a'.defers = g.ds.l ∧ E w')) a w
section
variable {P : Program} {g : Ent} {Q : Exit → State → Prop} {E : World → Prop} {s : State}
theorem AWE.of {c : Code} (h : AW P g c Q s) : AWE P g c Q E s := fun I M w a hst => wp_mono (h I M w a hst) fun e a' w' q => .inl q
theorem AWE.conv {c : Code} {s' : State} (h : Conv g s s') (k : AWE P g c Q E s') : AWE P g c Q E s := fun I M w a hst => by
  obtain ⟨I', M', h1⟩ := h I M w a hst
  exact k I' M' w a h1
theorem AWE.seqA {x y : Code} (h : ∀ K : State → Prop, (∀ s, AWE P g y Q E s → K s) → AW P g x (thenA K (fun _ _ => False)) s) : AWE P g (.seq x y) Q E s := by
  intro I M w a hst
  refine wp_seq (wp_mono (h _ (fun _ h => h) I M w a hst) fun e a' w' ⟨I', M', s', h1, h2⟩ => ?_)
  cases e with
  | normal => exact h2 I' M' w' a' h1
  | _ => exact h2.elim
theorem AWE.seqE {x y : Code} (h : ∀ K : State → Prop, (∀ s, AWE P g y Q E s → K s) → AWE P g x (thenA K Q) E s) : AWE P g (.seq x y) Q E s := by
  intro I M w a hst
  refine wp_seq (wp_mono (h _ (fun _ h => h) I M w a hst) ?_)
  rintro e a' w' (⟨I', M', s', h1, h2⟩ | ⟨rfl, h2⟩)
  · cases e with
    | normal => exact h2 I' M' w' a' h1
    | _ => exact .inl ⟨I', M', s', h1, h2⟩
  · exact .inr ⟨rfl, h2⟩
theorem AWE.block {id : Nat} {c : Code} (h : AWE P g c (inBlockA id Q) E s) : AWE P g (.block id c) Q E s := by
  intro I M w a hst
  refine wp_block (wp_mono (h I M w a hst) ?_)
  rintro e a' w' (⟨I', M', s', h1, h2⟩ | ⟨rfl, h2⟩)
  · cases e with
    | exit id' =>
      simp only [inBlockA] at h2
      simp only [Exit.inBlock]
      split
      · rename_i hid; rw [if_pos hid] at h2; exact .inl ⟨I', M', s', h1, h2⟩
      · rename_i hid; rw [if_neg hid] at h2; exact .inl ⟨I', M', s', h1, h2⟩
    | _ => exact .inl ⟨I', M', s', h1, h2⟩
  · exact .inr ⟨rfl, h2⟩
theorem AWE.loop {c : Code} {X : Type} (F : X → State) (C : X → Prop) (m : X → Nat) (x0 : X) (hs : Conv g s (F x0)) (h0 : C x0)
    (round : ∀ x, C x → AWE P g c (thenA (fun s' => ∃ x', C x' ∧ m x' < m x ∧ Conv g s' (F x')) Q) E (F x)) : AWE P g (.loop c) Q E s := by
  classical
  intro I M w a hst
  let rep : Nat → Act → World → Prop := fun n a w => ∃ x, C x ∧ m x = n ∧ ∃ I M, St g I M w a (F x)
  let μ : Act → World → Nat := fun a w => if h : ∃ n, rep n a w then Classical.choose (least_of h) else 0
  have mu_le : ∀ n a w, rep n a w → μ a w ≤ n := by
    intro n a w h
    have hex : ∃ n, rep n a w := ⟨n, h⟩
    simp only [μ, dif_pos hex]
    exact (Classical.choose_spec (least_of hex)).2 n h
  have mu_rep : ∀ a w, (∃ n, rep n a w) → rep (μ a w) a w := by
    intro a w hex
    simp only [μ, dif_pos hex]
    exact (Classical.choose_spec (least_of hex)).1
  refine wp_loop (fun a w => ∃ n, rep n a w) μ ?_ ?_
  · obtain ⟨I', M', h⟩ := hs I M w a hst
    exact ⟨_, x0, h0, rfl, I', M', h⟩
  · intro a w hI
    obtain ⟨x, hx, hm, I1, M1, h1⟩ := mu_rep a w hI
    refine wp_mono (round x hx I1 M1 w a h1) ?_
    rintro e a' w' (⟨I', M', s', h2, h3⟩ | ⟨rfl, h2⟩)
    · cases e with
      | normal =>
        obtain ⟨x', hx', hlt, hcv⟩ := h3
        obtain ⟨I2, M2, h4⟩ := hcv I' M' w' a' h2
        have hr : rep (m x') a' w' := ⟨x', hx', rfl, I2, M2, h4⟩
        refine ⟨⟨_, hr⟩, ?_⟩
        have := mu_le _ _ _ hr
        omega
      | _ => exact .inl ⟨I', M', s', h2, h3⟩
    · exact .inr ⟨rfl, h2⟩
theorem AWE.yield {id : Nat} {o1 o2 o3 o4 : Oper} {ta tb d1 d2 d3 d4 l : Nat} {z : TypeId} {ts : Array TypeId} {r : Loop} {v : Value} {fr : Fr} {σ : List Res} {Qc Qs : List Res → Prop}
    (p1 : o1.op = .move (.tmp ta)) (p2 : o2.op = .move (.tmp tb)) (p3 : o3.op = .call { callee := .value (.tmp d1), args := #[.tmp d2], argTypes := ts }) (p4 : o4.op = .unOp .not z (.tmp d3))
    (q1 : o1.dst = some d1) (q2 : o2.dst = some d2) (q3 : o3.dst = some d3) (q4 : o4.dst = some d4) (u1 : o1.guard = none) (u2 : o2.guard = none) (u3 : o3.guard = none) (u4 : o4.guard = none)
    (b1 : Nat.blt d1 g.n = true) (b2 : Nat.blt d2 g.n = true) (b3 : Nat.blt d3 g.n = true) (b4 : Nat.blt d4 g.n = true) (hne : Nat.beq d1 d2 = false) (ne2 : Nat.beq tb d1 = false)
    (h1 : fr.get ta = .v (.func (.yield l) #[] #[])) (h2 : fr.get tb = .v v) (hl : g.w.heap[l]? = some (.loop r)) (hol : ¬ g.own l) (hps : r.params.size = 1)
    (hR : ∀ (I : Nat → CI) (M : Nat → Nat) (w : World), Sto I M w (sto σ) → (∀ k, σ.length ≤ k → I k = .no) → (∀ k, (g.I k).le (I k)) → Evo g.M M g.w w → w.heap[l]? = some (.loop r) →
      RoundIn Fence.wide 0 P l r.fn ((r.params.zip #[v]).foldl (fun tmps (t, a) => tmps.setIfInBounds t a) r.tmps) r.assign r.body w (RoundR l r Qc Qs I M w σ))
    (hc : ∀ σ', Qc σ' → Q .normal ⟨(d4, .any) :: (d3, .any) :: (d2, .v v) :: (d1, .v (.func (.yield l) #[] #[])) :: fr, σ'⟩)
    (hs : ∀ σ' w' I' M', Qs σ' → Sto I' M' w' (sto σ') → (∀ k, σ'.length ≤ k → I' k = .no) → Ext (fun b => g.own b ∨ b = l) g.I I' g.M M' g.w w' → (∀ k b, blkOf (I' k) (sto σ' k) = some b → g.w.heap.size ≤ b ∨ g.own b) → w'.heap[l]? = some (.loop { r with state := .done, pending := some .ret }) → g.p ≤ σ'.length → E w') :
    AWE P g (.seq (.region id #[o1, o2, o3, o4] false) (.cond (.tmp d4) .ret .skip)) Q E ⟨fr, σ⟩ := by
  intro I M w a hst
  have hll := (Array.getElem?_eq_some_iff.1 hl).1
  have hlw : w.heap[l]? = some (.loop r) := (hst.ext.oth l hll hol).1.trans hl
  have f1 : a.eval (.tmp ta) = .func (.yield l) #[] #[] := by
    have := hst.fr.2 ta; rw [h1] at this; exact this.val
  have f2 : a.eval (.tmp tb) = v := by
    have := hst.fr.2 tb; rw [h2] at this; exact this.val
  refine wp_seq (wpIn_wide.1 (wpIn_region_lit (n := 0) ?_))
  refine wpListIn_plain u1 fun K1 hK1 => ?_
  refine ⟨fun _ _ => trivial, ?_⟩
  have e1 : (o1.semAt Fence.wide.round a.eval).run P w = .ok (.value (.func (.yield l) #[] #[])) w := by
    rw [show o1.semAt Fence.wide.round a.eval = execOp a.eval o1 from rfl]; simp [execOp, p1, f1]
  rw [e1, Oper.uponIn_value, q1]
  refine hK1 _ _ ?_
  clear hK1
  have F1 := hst.fr.put (d := some d1) (cv := .func (.yield l) #[] #[]) (v := .v (.func (.yield l) #[] #[])) (by simpa [dstOk] using b1) (.v _)
  refine wpListIn_plain u2 fun K2 hK2 => ?_
  refine ⟨fun _ _ => trivial, ?_⟩
  have f2' : (a.put (some d1) (.func (.yield l) #[] #[])).eval (.tmp tb) = v := by
    have := F1.2 tb
    simp only [Fr.put, Fr.get, ne2, h2] at this
    exact this.val
  have e2 : (o2.semAt Fence.wide.round (a.put (some d1) (.func (.yield l) #[] #[])).eval).run P w = .ok (.value v) w := by
    rw [show o2.semAt Fence.wide.round (a.put (some d1) (.func (.yield l) #[] #[])).eval = execOp (a.put (some d1) (.func (.yield l) #[] #[])).eval o2 from rfl]; simp [execOp, p2, f2']
  rw [e2, Oper.uponIn_value, q2]
  refine hK2 _ _ ?_
  clear hK2
  have F2 := F1.put (d := some d2) (cv := v) (v := .v v) (by simpa [dstOk] using b2) (.v _)
  generalize ha2 : (a.put (some d1) (Value.func (.yield l) #[] #[])).put (some d2) v = a2 at F2 ⊢
  have g1 : a2.eval (.tmp d1) = .func (.yield l) #[] #[] := by
    have := F2.2 d1
    simp only [Fr.put, Fr.get, hne, Nat.beq_refl] at this
    exact this.val
  have g2 : a2.eval (.tmp d2) = v := by
    have := F2.2 d2
    simp only [Fr.put, Fr.get, Nat.beq_refl] at this
    exact this.val
  have hd2 : a2.defers = g.ds.l := by rw [← ha2]; exact hst.df
  refine wpListIn_plain u3 fun K3 hK3 => ?_
  refine ⟨fun _ _ => trivial, ?_⟩
  have e3 : (o3.semAt Fence.wide.round a2.eval).run P w = .ok (.round l r.fn ((r.params.zip #[v]).foldl (fun tmps (t, a) => tmps.setIfInBounds t a) r.tmps) r.assign r.body) w := by
    rw [show o3.semAt Fence.wide.round a2.eval = execOp a2.eval o3 from rfl]
    have hy := run_yield (P := P) (args := #[v]) hlw (by simpa using hps.symm)
    simp [execOp, p3, resolve, g1, g2, Deferred.ofValue, invoke, hy]
  rw [e3, Oper.uponIn_round]
  refine ⟨fun h => by simp [Fence.wide] at h, ?_⟩
  refine (hR I M w hst.st hst.no hst.ext.le hst.ext.evo hlw).mono ?_
  have e4 : ∀ (b : Bool) (w' : World), (o4.semAt Fence.wide.round (a2.put (some d3) (.bool b)).eval).run P w' = .ok (.value (.bool !b)) w' := by
    intro b w'
    rw [show o4.semAt Fence.wide.round (a2.put (some d3) (.bool b)).eval = execOp (a2.put (some d3) (.bool b)).eval o4 from rfl]
    have F3 := F2.put (d := some d3) (cv := .bool b) (v := .v (.bool b)) (by simpa [dstOk] using b3) (.v _)
    have := F3.2 d3
    simp only [Fr.put, Fr.get, Nat.beq_refl] at this
    have h3 : (a2.put (some d3) (.bool b)).eval (.tmp d3) = .bool b := this.val
    simp [execOp, p4, h3, Op.unary]
  have e5 : ∀ (b : Bool), ((a2.put (some d3) (.bool b)).put (some d4) (.bool !b)).eval (.tmp d4) = .bool !b := by
    intro b
    have F3 := (F2.put (d := some d3) (cv := .bool b) (v := .v (.bool b)) (by simpa [dstOk] using b3) (.v _)).put (d := some d4) (cv := .bool !b) (v := .v (.bool !b)) (by simpa [dstOk] using b4) (.v _)
    have := F3.2 d4
    simp only [Fr.put, Fr.get, Nat.beq_refl] at this
    exact this.val
  rintro e w' (⟨σ', I', M', hq, rfl, k1, k2, k3, k4, k5, k6⟩ | ⟨σ', I', M', hq, rfl, k1, k2, k3, k4, k5, k6⟩)
  · simp only
    rw [q3]
    refine hK3 _ _ ?_
    refine wpListIn_plain u4 fun K4 hK4 => ?_
    refine ⟨fun _ _ => trivial, ?_⟩
    rw [e4, Oper.uponIn_value, q4]
    refine hK4 _ _ (wpListIn_nil ?_)
    simp only [Exit.then]
    refine wp_cond_split (e5 true) (fun h => by cases h) fun _ => wp_skip (.inl ⟨I', M', _, ?_, hc σ' hq⟩)
    have F4 := ((F2.evo k3.le k3.evo).put (d := some d3) (cv := .bool true) (v := .any) (by simpa [dstOk] using b3) (.any _)).put (d := some d4) (cv := .bool !true) (v := .any) (by simpa [dstOk] using b4) (.any _)
    refine ⟨F4, hd2, k1, Nat.le_trans hst.len k6, k2, hst.ext.trans k3 fun b hb ⟨k, hk⟩ => (hst.ini k b hk).resolve_left (by omega), fun k b hb => ?_, hst.gno⟩
    rcases k4 k b hb with q | ⟨k', hk'⟩
    · exact .inl (Nat.le_trans hst.ext.evo.size q)
    · exact hst.ini k' b hk'
  · simp only
    rw [q3]
    refine hK3 _ _ ?_
    refine wpListIn_plain u4 fun K4 hK4 => ?_
    refine ⟨fun _ _ => trivial, ?_⟩
    rw [e4, Oper.uponIn_value, q4]
    refine hK4 _ _ (wpListIn_nil ?_)
    simp only [Exit.then]
    refine wp_cond_split (e5 false) (fun _ => wp_ret (.inr ⟨rfl, hd2, hs σ' w' I' M' hq k1 k2 ?_ (fun k b hb => ?_) k5 (Nat.le_trans hst.len k6)⟩)) (fun h => by cases h)
    · exact (hst.ext.wide fun b _ h => .inl h).trans k3 fun b hb h => by
        rcases h with ⟨k, hk⟩ | h
        · exact .inl ((hst.ini k b hk).resolve_left (by omega))
        · exact .inr h
    · rcases k4 k b hb with q | ⟨k', hk'⟩
      · exact .inl (Nat.le_trans hst.ext.evo.size q)
      · exact hst.ini k' b hk'
end
end Go.Proofs.YtbbcokckealagaaGreat
namespace Go.Proofs.YtbbcokckealagaaGreat
set_option linter.unusedVariables false
set_option linter.unusedSimpArgs false
theorem indexByte_lt (c : UInt8) : ∀ l : List UInt8, Lib.indexByte l c < (l.length : Int)
  | [] => by simp [Lib.indexByte]
  | b :: l => by
    have := indexByte_lt c l
    unfold Lib.indexByte
    split
    · simp only [List.length_cons]; omega
    · split
      · simp only [List.length_cons]; omega
      · simp only [List.length_cons]; omega
theorem Conv.frame {g : Ent} {fr fr' : Fr} {σ : List Res} (h : Fr.le fr' fr) : Conv g ⟨fr, σ⟩ ⟨fr', σ⟩ :=
  fun I M w a hst => ⟨I, M, ⟨hst.fr.1, fun t => (h t).rp (hst.fr.2 t)⟩, hst.df, hst.st, hst.len, hst.no, hst.ext, hst.ini, hst.gno⟩
theorem Fr.le_nil (fr : Fr) : Fr.le [] fr := fun t => .any
theorem Fr.le_cons {fr' fr : Fr} {t : Nat} {v : AV} (h : Fr.le fr' fr) (hv : fr.get t = v) : Fr.le ((t, v) :: fr') fr := fun t' => by
  simp only [Fr.get]
  cases hb : Nat.beq t' t with
  | true => obtain rfl := Nat.eq_of_beq_eq_true hb; simp only; rw [hv]; exact .same
  | false => exact h t'
def lineAt (s : List UInt8) : Nat := if 0 ≤ Lib.indexByte s 10 then (Lib.indexByte s 10 + 1).toNat else s.length
def linesG : Nat → List UInt8 → List (List UInt8)
  | 0, _ => []
  | f + 1, s => if s = [] then [] else s.take (lineAt s) :: linesG f (s.drop (lineAt s))
def foldS {X Y : Type} (stepF : X → List UInt8 → X ⊕ Y) : X → List (List UInt8) → X ⊕ Y
  | x, [] => .inl x
  | x, y :: r => match stepF x y with
    | .inl x' => foldS stepF x' r
    | .inr y => .inr y
theorem lineAt_pos {s : List UInt8} (h : s ≠ []) : 0 < lineAt s := by
  rw [lineAt]
  split
  · omega
  · cases s with
    | nil => exact absurd O h
    | cons _ _ => simp
theorem AWE.run {P : Program} {g : Ent} {c : Code} {Q : Exit → State → Prop} {E : World → Prop} {s : State} {R : Exit → Act → World → Prop} {I : Nat → CI} {M : Nat → Nat} {w : World} {a : Act} (h : AWE P g c Q E s) (hst : St g I M w a s)
    (hk : ∀ e a' w', (∃ I' M' s', St g I' M' w' a' s' ∧ Q e s') ∨ (e = .ret ∧ a'.defers = g.ds.l ∧ E w') → R e a' w') : c.wp P R a w := wp_mono (h I M w a hst) hk
theorem AWE.join {P : Program} {g : Ent} {x y : Code} {Q : Exit → State → Prop} {E : World → Prop} {s : State} (s' : State) (h : AW P g x (thenA (fun s => Conv g s s') (fun _ _ => False)) s) (k : AWE P g y Q E s') : AWE P g (.seq x y) Q E s :=
  AWE.seqA fun K hK => h.mono fun e s hq => by
    cases e with
    | normal => exact hK _ (AWE.conv hq k)
    | _ => exact hq
def LinesE {X Y : Type} (σX : X → List Res) (σY : Y → List Res) (res : X ⊕ Y) (l : Nat) (r : Loop) (I : Nat → CI) (M : Nat → Nat) (w : World) (own : Nat → Prop) (w' : World) : Prop :=
  match res with
  | .inl x => ∃ rest I' M', Sto I' M' w' (sto (.box [.v (.string (bs rest))] :: σX x)) ∧ (∀ k, (Res.box [.v (.string (bs rest))] :: σX x).length ≤ k → I' k = .no) ∧ Ext own I I' M M' w w' ∧ (∀ k b, blkOf (I' k) (sto (.box [.v (.string (bs rest))] :: σX x) k) = some b → w.heap.size ≤ b ∨ own b) ∧ w'.heap[l]? = some (.loop r)
  | .inr y => ∃ rest I' M', Sto I' M' w' (sto (.box [.v (.string (bs rest))] :: σY y)) ∧ (∀ k, (Res.box [.v (.string (bs rest))] :: σY y).length ≤ k → I' k = .no) ∧ Ext (fun b => own b ∨ b = l) I I' M M' w w' ∧ (∀ k b, blkOf (I' k) (sto (.box [.v (.string (bs rest))] :: σY y) k) = some b → w.heap.size ≤ b ∨ own b) ∧ w'.heap[l]? = some (.loop { r with state := .done, pending := some .ret })
set_option maxHeartbeats 4000000 in
theorem lines_it {X Y : Type} (stepF : X → List UInt8 → X ⊕ Y) (σX : X → List Res) (σY : Y → List Res) (C : X → Nat → Prop) (m : Nat) (hlX : ∀ x, (σX x).length = m) (hC : ∀ x line x' n k, C x n → stepF x line = .inl x' → k < n → C x' k) {l : Nat} {r : Loop} (hps : r.params.size = 1)
    (s : List UInt8) (hsl : s.length ≤ 1099511627776) (x0 : X) (h0 : C x0 s.length) {I : Nat → CI} {M : Nat → Nat} {w : World} {pv : Value} (hs : Sto I M w (sto (.box [.v (.string (bs s))] :: σX x0))) (hno : ∀ k, m + 1 ≤ k → I k = .no) (hl : w.heap[l]? = some (.loop r)) (hp : Rp I M w pv (.ptr 0 0))
    (hR : ∀ rest x line n I' M' w', C x n → 0 < n → line.length ≤ s.length → Sto I' M' w' (sto (.box [.v (.string (bs rest))] :: σX x)) → (∀ k, m + 1 ≤ k → I' k = .no) → (∀ k, (I k).le (I' k)) → Evo M M' w w' → w'.heap[l]? = some (.loop r) →
      RoundIn Fence.wide 0 Tryz.prog l r.fn ((r.params.zip #[.string (bs line)]).foldl (fun tmps (t, a) => tmps.setIfInBounds t a) r.tmps) r.assign r.body w' (RoundR l r (fun σ' => ∃ x', stepF x line = .inl x' ∧ σ' = .box [.v (.string (bs rest))] :: σX x') (fun σ' => ∃ y, stepF x line = .inr y ∧ σ' = .box [.v (.string (bs rest))] :: σY y) I' M' w' (.box [.v (.string (bs rest))] :: σX x))) :
    Calls Tryz.prog 121 #[.func (.yield l) #[] #[], pv] w fun e w' => (∃ v, e = .returned v) ∧ LinesE σX σY (foldS stepF x0 (linesG s.length s)) l r I M w (fun b => ∃ k, blkOf (I k) (sto (.box [.v (.string (bs s))] :: σX x0) k) = some b) w' := by
  refine calls_of_wp (fn := Tryz.f121) Tryz.func121 O ?_
  obtain ⟨own, hown⟩ : ∃ own : Nat → Prop, own = fun b => ∃ k, blkOf (I k) (sto (.box [.v (.string (bs s))] :: σX x0) k) = some b := ⟨_, rfl⟩
  rw [← hown]
  have hol : ¬ own l := by rw [hown]; exact fun ⟨k, hk⟩ => (hs.own k).notLoop hl hk
  have hlen : (Res.box [.v (.string (bs s))] :: σX x0).length = m + 1 := by simp [hlX]
  have hll := (Array.getElem?_eq_some_iff.1 hl).1
  refine AWE.run (I := I) (M := M) (g := ⟨25, m + 1, I, M, w, own⟩) (Q := fun e s' => (e = .normal ∨ e = .ret) ∧ ∃ x rest, foldS stepF x0 (linesG s.length s) = .inl x ∧ Conv ⟨25, m + 1, I, M, w, own⟩ s' ⟨[], .box [.v (.string (bs rest))] :: σX x⟩) (E := fun w' => LinesE σX σY (foldS stepF x0 (linesG s.length s)) l r I M w own w') (s := ⟨[(0, .v (.func (.yield l) #[] #[])), (1, .ptr 0 0)], .box [.v (.string (bs s))] :: σX x0⟩) ?_ ?_ ?_
  · refine AWE.block ?_
    refine AWE.loop (X := List UInt8 × X) (fun y => ⟨[(0, .v (.func (.yield l) #[] #[])), (1, .ptr 0 0)], .box [.v (.string (bs y.1))] :: σX y.2⟩) (fun y => C y.2 y.1.length ∧ y.1.length ≤ s.length ∧ ∃ f, y.1.length ≤ f ∧ foldS stepF x0 (linesG s.length s) = foldS stepF y.2 (linesG f y.1)) (fun y => y.1.length) (s, x0) Conv.refl ⟨h0, Nat.le_refl _, _, Nat.le_refl _, rfl⟩ ?_
    rintro ⟨rest, x⟩ ⟨hcx, hle, f, hf, hfold⟩
    simp only at hcx hle hf hfold ⊢
    cases hrest : rest with
    | nil =>
      subst hrest
      refine AWE.seqE (fun K hK => ?_)
      refine AWE.of ?_
      have hz : ¬ ((0 : Int) < (([] : List UInt8).length : Int)) := by simp
      (repeat' (first|refine AW.seq_k (fun K hK=>?_)|(refine hK _ ?_;clear hK)|refine AW.uC (fun hc=>?_) (fun hc=>?_)|refine AW.exit ?_|exact trivial|refine rG 0 ?_|refine Ud ?_|fail))
      refine ⟨.inl O, x, [], ?_, ?_⟩
      · rw [hfold]
        cases f <;> rfl
      · exact Conv.frame (Fr.le_nil _)
    | cons b0 b1 =>
      rw [← hrest]
      have hne : rest ≠ [] := by rw [hrest]; simp
      have hpos : 0 < rest.length := by rw [hrest]; simp
      clear hrest
      refine AWE.seqE (fun K hK => ?_)
      refine AWE.of ?_
      (repeat' (first|refine AW.seq_k (fun K hK=>?_)|(refine hK _ ?_;clear hK)|refine AW.uC (fun hc=>?_) (fun hc=>?_)|refine AW.skip ?_|exact trivial|refine rG 0 ?_|refine Ud ?_|fail))
      refine AWE.block ?_
      refine AWE.seqA (fun K hK => ?_)
      (repeat' (first|(refine hK _ ?_;clear hK)|refine rG 1 ?_|refine UA ?_|fail))
      obtain ⟨ix, hix⟩ : ∃ ix, Lib.indexByte rest 10 = ix := ⟨_, rfl⟩
      have hib : ACalls Tryz.prog 122 [.v (.string (bs rest)), .v (.int .u8 10)] [] (.v (.int .i64 ix)) [] := by rw [← hix]; exact IndexByte_c rest 10
      have htk : (rest.take (lineAt rest)).length ≤ s.length := by rw [List.length_take]; omega
      have hge := Lib.indexByte_ge rest 10
      have hlt := indexByte_lt 10 rest
      rw [hix] at hge hlt
      have hlp := lineAt_pos hne
      obtain ⟨f', rfl⟩ : ∃ f', f = f' + 1 := ⟨f - 1, by omega⟩
      rw [linesG, if_neg hne, foldS] at hfold
      refine AWE.join ⟨[(0, .v (.func (.yield l) #[] #[])), (1, .ptr 0 0), (3, .v (.string (bs (rest.take (lineAt rest)))))], .box [.v (.string (bs (rest.drop (lineAt rest))))] :: σX x⟩ ?_ ?_
      · by_cases hi : 0 ≤ ix
        · have hla : lineAt rest = (ix + 1).toNat := by rw [lineAt, hix, if_pos hi]
          rw [hla]
          (repeat' (first|refine AW.seq_k (fun K hK=>?_)|(refine hK _ ?_;clear hK)|refine AW.uC (fun hc=>?_) (fun hc=>?_)|exact trivial|refine AW.draw (id := 4) (by kernel_rfl) ?_|refine AW.rI [2, 3] O ?_|refine Run.c0 hib O O O O O O O O ?_|refine Ud ?_|fail))
          exact Conv.frame (Fr.le_cons (Fr.le_cons (Fr.le_cons (Fr.le_nil _) O) O) O)
        · have hla : lineAt rest = rest.length := by rw [lineAt, hix, if_neg hi]
          have e1 : rest.take (lineAt rest) = rest := by rw [hla, List.take_length]
          have e2 : rest.drop (lineAt rest) = [] := by rw [hla, List.drop_length]
          rw [e1, e2]
          (repeat' (first|refine AW.seq_k (fun K hK=>?_)|(refine hK _ ?_;clear hK)|refine AW.uC (fun hc=>?_) (fun hc=>?_)|exact trivial|refine AW.rI [2, 3, 5] O ?_|refine Run.c0 hib O O O O O O O O ?_|refine Ud ?_|fail))
          exact Conv.frame (Fr.le_cons (Fr.le_cons (Fr.le_cons (Fr.le_nil _) O) O) O)
      · refine AWE.yield (ta := 0) (tb := 3) (d1 := 21) (d2 := 22) (d3 := 23) (d4 := 24) (v := .string (bs (rest.take (lineAt rest)))) O O O O O O O O O O O O O O O O O O O O hl hol hps
          (fun I' M' w' k1 k2 k3 k4 k5 => hR (rest.drop (lineAt rest)) x (rest.take (lineAt rest)) _ I' M' w' hcx hpos htk k1 (fun k hk => k2 k (by simp [hlX]; omega)) k3 k4 k5) ?_ ?_
        · rintro σ' ⟨x', hst, rfl⟩
          rw [hst] at hfold
          refine ⟨(rest.drop (lineAt rest), x'), ⟨hC _ _ _ _ _ hcx hst (by simp only [List.length_drop]; omega), ?_, f', ?_, hfold⟩, ?_, Conv.frame (Fr.le_cons (Fr.le_cons (Fr.le_nil _) O) O)⟩
          · simp only [List.length_drop]; omega
          · simp only [List.length_drop]; omega
          · simp only [List.length_drop]; omega
        · rintro σ' w' I' M' ⟨y, hst, rfl⟩ k1 k2 k3 k4 k5 k6
          rw [hst] at hfold
          rw [hfold]
          exact ⟨_, I', M', k1, k2, k3, k4, k5⟩
  · refine ⟨argFr_ok (args := [.v (.func (.yield l) #[] #[]), .ptr 0 0]) (cargs := #[.func (.yield l) #[] #[], pv]) (Nat.le_of_ble_eq_true O) O ?_, rfl, hs, by rw [hlen]; exact Nat.le_refl _, fun k hk => hno k (by rw [← hlen]; exact hk), Ext.refl _ _ _ _, fun k b hb => .inr (by rw [hown]; exact ⟨k, hb⟩), hno⟩
    intro i v c hv hc
    match i with
    | 0 =>
      obtain rfl := Option.some.inj hv
      obtain rfl := Option.some.inj hc
      exact .v _
    | 1 =>
      obtain rfl := Option.some.inj hv
      obtain rfl := Option.some.inj hc
      exact hp
    | i + 2 => simp at hc
  · rintro e a' w' (⟨I', M', s', st, he, x, rest, hfx, hcv⟩ | ⟨rfl, hd, hE⟩)
    · obtain ⟨I4, M4, st4⟩ := hcv _ _ _ _ st
      have fin : a'.defers = [] ∧ ∃ v, (results Tryz.f121 a'.tmps).run Tryz.prog w' = .ok v w' ∧ (∃ v', Ending.returned v = .returned v') ∧ LinesE σX σY (foldS stepF x0 (linesG s.length s)) l r I M w own w' := by
        refine ⟨st4.df, _, run_results (us := []) (by rfl), ⟨_, rfl⟩, ?_⟩
        rw [hfx]
        exact ⟨rest, I4, M4, st4.st, st4.no, st4.ext, st4.ini, (st4.ext.oth l hll hol).1.trans hl⟩
      rcases he with rfl | rfl
      · exact fin
      · exact fin
    · exact ⟨hd, _, run_results (us := []) (by rfl), ⟨_, rfl⟩, hE⟩
end Go.Proofs.YtbbcokckealagaaGreat
namespace Go.Proofs.YtbbcokckealagaaGreat
set_option linter.unusedVariables false
set_option linter.unusedSimpArgs false
abbrev Ent.at (g : Ent) (ds : List Deferred) : Ent := @Ent.mk g.n g.p g.I g.M g.w g.own ⟨ds⟩
abbrev markD (D : Nat) : List Deferred := [{ target := .collected D, args := #[] }]
theorem Rp.fn1 {I : Nat → CI} {M : Nat → Nat} {w : World} {v : Value} {f : FuncId} {c : AV} (hb : c ≠ .ep [] 1) (h : Rp I M w v (.fn f [c])) : ∃ pv, v = .func (.func f) #[] #[pv] ∧ Rp I M w pv c := by
  cases h with
  | @fn _ vs _ h0 h1 =>
    obtain ⟨x, hx⟩ : ∃ x, vs = #[x] := Array.size_eq_one_iff.1 (by simpa using h0)
    subst hx
    exact ⟨x, rfl, h1 0 x c O O⟩
theorem invoke_fn {P : Program} {k : FuncId} [CallI P k] (vs args : Array Value) (w : World) : (invoke (.fn (.func k) vs) args).run P w = .ok (.enter k (args ++ vs)) w := by
  have hfn : ∃ fn, P.funcs[k]? = some fn ∧ (fn.name == "runtime.NumGoroutine") = false ∧ fn.body.isNone = false := by
    have := CallI.eq (P := P) (f := k)
    cases hq : P.funcs[k]? with
    | none => rw [hq] at this; cases this
    | some fn =>
      rw [hq] at this
      simp only [Option.map_some, Option.some.injEq, Prod.mk.injEq] at this
      exact ⟨fn, rfl, this⟩
  obtain ⟨fn, hf1, hf2, hf3⟩ := hfn
  have hf3' : ¬ fn.body = none := by intro h; rw [h] at hf3; cases hf3
  have hf2' : ¬ fn.name = "runtime.NumGoroutine" := by intro h; rw [h] at hf2; simp at hf2
  simp [invoke, callFunc, hf1, hf2', hf3']
theorem Own1.cells {I : Nat → CI} {M : Nat → Nat} {w : World} {ci : CI} {x : Res} {b : Nat} {o : Obj} (h : Own1 I M w ci x) (hb : blkOf ci x = some b) (ho : w.heap[b]? = some o) (hn : ∀ cs e fz, o ≠ .cells cs e fz) : False := by
  obtain ⟨cur, e, fz, h1⟩ := h.blk hb
  rw [ho] at h1
  exact hn _ _ _ (Option.some.inj h1)
theorem range_wp {X Y : Type} (stepF : X → List UInt8 → X ⊕ Y) (σX : X → List Res) (σY : Y → List Res) (C : X → Nat → Prop) (m : Nat) (hlX : ∀ x, (σX x).length = m) (hlY : ∀ y, (σY y).length = m) (hC : ∀ x line x' n k, C x n → stepF x line = .inl x' → k < n → C x' k) {t pt id : Nat} {asg body : Code} {fr : Fr} (F2 : List UInt8 → Fr) {g : Ent} (hds : g.ds.l = [])
    (s : List UInt8) (hsl : s.length ≤ 1099511627776) (x0 : X) (h0 : C x0 s.length) {I : Nat → CI} {M : Nat → Nat} {w : World} {a : Act} {Post : Exit → Act → World → Prop} (hst : St g I M w a ⟨fr, .box [.v (.string (bs s))] :: σX x0⟩) (hft : fr.get t = .fn 121 [.ptr 0 0]) (hpt : Nat.blt pt g.n = true)
    (hA : ∀ (line : List UInt8) (σ : List Res) (l : Nat) (I : Nat → CI) (M : Nat → Nat) (w : World) (own : Nat → Prop), AWR Tryz.prog l ⟨g.n, σ.length, I, M, w, own⟩ asg (fun e s => e = .normal ∧ s = ⟨F2 line, σ⟩) ⟨(pt, .v (.string (bs line))) :: fr, σ⟩)
    (hB : ∀ (x : X) (line rest : List UInt8) (l : Nat) (I : Nat → CI) (M : Nat → Nat) (w : World) (own : Nat → Prop) (n : Nat), C x n → 0 < n → line.length ≤ s.length → AWR Tryz.prog l ⟨g.n, (Res.box [.v (.string (bs rest))] :: σX x).length, I, M, w, own⟩ body
      (BodyQ (fun σ' => ∃ x', stepF x line = .inl x' ∧ σ' = .box [.v (.string (bs rest))] :: σX x') (fun σ' => ∃ y, stepF x line = .inr y ∧ σ' = .box [.v (.string (bs rest))] :: σY y) ⟨g.n, (Res.box [.v (.string (bs rest))] :: σX x).length, I, M, w, own⟩) ⟨F2 line, .box [.v (.string (bs rest))] :: σX x⟩)
    (hN : ∀ x rest D I' M' a' w', foldS stepF x0 (linesG s.length s) = .inl x → w'.heap[D]? = some (.deferred (some [])) → g.w.heap.size ≤ D → St (g.at (markD D)) I' M' w' a' ⟨fr, .box [.v (.string (bs rest))] :: σX x⟩ → Post .normal a' w')
    (hR : ∀ y rest D I' M' a' w', foldS stepF x0 (linesG s.length s) = .inr y → w'.heap[D]? = some (.deferred (some [])) → g.w.heap.size ≤ D → St (g.at (markD D)) I' M' w' a' ⟨fr, .box [.v (.string (bs rest))] :: σY y⟩ → Post .ret a' w') :
    (Code.block id (.rangeFunc (.tmp t) #[pt] asg body)).wp Tryz.prog Post a w := by
  refine wp_block (wpIn_wide.1 (wpIn_rangeFunc (n := 0) fun fn _ => ?_))
  obtain ⟨pv, hv, hp⟩ := Rp.fn1 (by intro h; cases h) (hft ▸ hst.fr.2 t)
  generalize hr : ({ state := .ready, pending := none, fn := fn, tmps := a.tmps, params := #[pt], assign := asg, body := body, defers := w.heap.size } : Loop) = r
  generalize hw1 : (w.alloc (.deferred (some []))).alloc (.loop r) = w1
  have hev : a.eval (.tmp t) = .func (.func 121) #[] #[pv] := hv
  have hev2 : a.eval (.const (.func (.yield (w.heap.size + 1)) #[] #[])) = .func (.yield (w.heap.size + 1)) #[] #[] := rfl
  refine ⟨w.heap.size + 1, markD w.heap.size, w1, { target := .fn (.func 121) #[pv], args := #[.func (.yield (w.heap.size + 1)) #[] #[]] }, w1, 121, #[.func (.yield (w.heap.size + 1)) #[] #[], pv], w1, ?_, ?_, fun _ _ => trivial, ?_, fun h => by simp [Fence.wide] at h, ?_⟩
  · rw [← hw1, ← hr]
    exact run_enterLoop_outer fn a.tmps #[pt] asg body
  · simp [resolve, hev, hev2, Deferred.ofValue, rangeCall]
  · exact invoke_fn (P := Tryz.prog) (k := 121) #[pv] #[.func (.yield (w.heap.size + 1)) #[] #[]] w1
  · have hh1 : (w.alloc (.deferred (some []))).heap = w.heap.push (.deferred (some [])) := rfl
    have hh2 : w1.heap = (w.heap.push (.deferred (some []))).push (.loop r) := by rw [← hw1]; rfl
    have hl : w1.heap[w.heap.size + 1]? = some (.loop r) := by rw [hh2, Array.getElem?_push]; simp
    have hD : w1.heap[w.heap.size]? = some (.deferred (some [])) := by rw [hh2, Array.getElem?_push, Array.getElem?_push]; simp
    have hDl := (Array.getElem?_eq_some_iff.1 hD).1
    have x1 : Ext (fun _ => False) I I M M w w1 := by rw [← hw1]; exact (alloc_ext _).trans (alloc_ext _) (fun _ _ h => h)
    have s1 : Sto I M w1 (sto (.box [.v (.string (bs s))] :: σX x0)) := by rw [← hw1]; exact hst.st.alloc.alloc
    have hno : ∀ k, m + 1 ≤ k → I k = .no := fun k hk => hst.no k (by simp [hlX]; omega)
    have hgs := hst.ext.evo.size
    have hrp : r.pending = none := by rw [← hr]
    have hrs : r.state = .ready := by rw [← hr]
    have hlen : g.p ≤ m + 1 := by have := hst.len; simpa [hlX] using this
    refine callsIn_wide.2 (Calls.mono (lines_it stepF σX σY C m hlX hC (l := w.heap.size + 1) (r := r) (by rw [← hr]; rfl) s hsl x0 h0 s1 hno hl (hp.evo x1.le x1.evo) ?_) ?_)
    · intro rest x line n I' M' w' hcx hn hln k1 k2 k3 k4 k5
      have hF : FrOk I' M' w' g.n { tmps := a.tmps.setIfInBounds pt (.string (bs line)), defers := [] } ((pt, .v (.string (bs line))) :: fr) := by
        have := (hst.fr.evo k3 (x1.evo.trans k4)).put (d := some pt) (cv := .string (bs line)) (v := .v (.string (bs line))) (by simpa [dstOk] using hpt) (.v _)
        exact ⟨this.1, this.2⟩
      have ht : (r.params.zip #[Value.string (bs line)]).foldl (fun tmps (x : Tmp × Value) => tmps.setIfInBounds x.1 x.2) r.tmps = a.tmps.setIfInBounds pt (.string (bs line)) := by rw [← hr]; simp
      have hro := round_of (P := Tryz.prog) (l := w.heap.size + 1) (N := g.n) (r := r) (Qc := fun σ' => ∃ x', stepF x line = .inl x' ∧ σ' = .box [.v (.string (bs rest))] :: σX x') (Qs := fun σ' => ∃ y, stepF x line = .inr y ∧ σ' = .box [.v (.string (bs rest))] :: σY y) (fr1 := (pt, .v (.string (bs line))) :: fr) (fr2 := F2 line) (σ := .box [.v (.string (bs rest))] :: σX x) hrs hrp
        (by rw [← hr]; exact hA line _ _) (by rw [← hr]; exact fun I M w own => hB x line rest _ I M w own n hcx hn hln) hF k1 (fun k hk => k2 k (by simpa [hlX] using hk)) k5
      exact ht ▸ hro
    · rintro e w3 ⟨⟨v, rfl⟩, hE⟩
      have hdf : a.defers = [] := hst.df.trans hds
      have fin : ∀ (σ' : List Res) (I3 : Nat → CI) (M3 : Nat → Nat) (r' r'' : Loop), σ'.length = m + 1 → Sto I3 M3 w3 (sto σ') → (∀ k, σ'.length ≤ k → I3 k = .no) → Ext (fun b => (∃ k, blkOf (I k) (sto (.box [.v (.string (bs s))] :: σX x0) k) = some b) ∨ b = w.heap.size + 1) I I3 M M3 w1 w3 →
          (∀ k b, blkOf (I3 k) (sto σ' k) = some b → w1.heap.size ≤ b ∨ ∃ k, blkOf (I k) (sto (.box [.v (.string (bs s))] :: σX x0) k) = some b) → w3.heap[w.heap.size + 1]? = some (.loop r') →
          (w3.putObj (w.heap.size + 1) (.loop r'')).heap[w.heap.size]? = some (.deferred (some [])) ∧ St (g.at (markD w.heap.size)) I3 M3 (w3.putObj (w.heap.size + 1) (.loop r'')) { a with defers := markD w.heap.size ++ a.defers } ⟨fr, σ'⟩ := by
        intro σ' I3 M3 r' r'' hl' e1 e2 e3 e4 e5
        have x2 : Ext (fun b => b = w.heap.size + 1) I3 I3 M3 M3 w3 (w3.putObj (w.heap.size + 1) (.loop r'')) := poke_ext e5
        have x123 := ((x1.wide fun b _ h => h.elim).trans e3 fun b _ h => h).trans (x2.wide fun b _ h => .inr h) fun b _ h => h
        refine ⟨?_, ⟨⟨hst.fr.1, (hst.fr.evo x123.le x123.evo).2⟩, by rw [hdf]; rfl, e1.poke e5, by rw [hl']; exact hlen, e2, hst.ext.trans x123 fun b hb h => ?_, fun k b hb => ?_, hst.gno⟩⟩
        · rw [World.putObj_heap_other (by omega)]
          refine (e3.oth _ hDl ?_).1.trans hD
          rintro (⟨k, hk⟩ | h)
          · exact (s1.own k).cells hk hD (fun _ _ _ h => by cases h)
          · omega
        · rcases h with ⟨k, hk⟩ | h
          · exact (hst.ini k b hk).resolve_left (by omega)
          · omega
        · rcases e4 k b hb with q | ⟨k', hk'⟩
          · left
            have := x1.evo.size
            exact Nat.le_trans hgs (Nat.le_trans this q)
          · exact hst.ini k' b hk'
      cases hf : foldS stepF x0 (linesG s.length s) with
      | inl x =>
        rw [hf] at hE
        obtain ⟨rest, I3, M3, e1, e2, e3, e4, e5⟩ := hE
        refine ⟨_, _, run_endLoop e5 (by rw [hrs]; decide), ?_⟩
        rw [hrp]
        obtain ⟨q1, q2⟩ := fin _ I3 M3 r { r with state := .exhausted, pending := none } (by simp [hlX]) e1 e2 (e3.wide fun b _ h => .inl h) e4 e5
        exact hN x rest _ I3 M3 _ _ hf q1 hgs q2
      | inr y =>
        rw [hf] at hE
        obtain ⟨rest, I3, M3, e1, e2, e3, e4, e5⟩ := hE
        refine ⟨_, _, run_endLoop e5 (fun h => by cases h), ?_⟩
        obtain ⟨q1, q2⟩ := fin _ I3 M3 _ { ({ r with state := .done, pending := some .ret } : Loop) with state := .exhausted } (by simp [hlY]) e1 e2 e3 e4 e5
        exact wpIn_ret (hR y rest _ I3 M3 _ _ hf q1 hgs q2)
end Go.Proofs.YtbbcokckealagaaGreat
namespace Go.Proofs.YtbbcokckealagaaGreat
set_option linter.unusedVariables false
set_option linter.unusedSimpArgs false
open Go.RowKit
section
variable {I I' : Nat → CI} {M M' : Nat → Nat} {w w' : World} {σ : Nat → Res} {l : Nat} {d : Option (List Deferred)} {o : Obj}
theorem pokeD_ext (h : w.heap[l]? = some (.deferred d)) : Ext (fun b => b = l) I I M M w (w.putObj l o) := by
  refine ⟨rfl, rfl, rfl, fun _ => CI.le_refl _, ⟨by simp, fun _ => Nat.le_refl _, fun b off v ho hv => ?_, fun b T hT => ?_⟩, fun b hb hn => ⟨World.putObj_heap_other hn, rfl⟩⟩
  · by_cases hb : b = l
    · subst hb
      simp [World.cell?, h] at hv
    · simp only [World.cell?, World.putObj_heap_other hb] at hv ⊢
      exact hv
  · by_cases hb : b = l
    · subst hb
      rw [ety, h] at hT
      cases hT
    · rw [ety, World.putObj_heap_other hb]
      exact hT
theorem Own1.notDef {ci : CI} {x : Res} (h : Own1 I M w ci x) (hl : w.heap[l]? = some (.deferred d)) : blkOf ci x ≠ some l := fun hb => by
  obtain ⟨cur, e, fr, h1⟩ := h.blk hb
  rw [hl] at h1
  cases h1
theorem Sto.pokeD (hs : Sto I M w σ) (h : w.heap[l]? = some (.deferred d)) : Sto I M (w.putObj l o) σ := by
  have e := pokeD_ext (I := I) (M := M) (o := o) h
  refine ⟨fun k => (hs.own k).stay e fun b hb hbl => (hs.own k).notDef h (hbl ▸ hb), hs.dis, fun b hb => hs.top b (by simpa using hb), fun t ht => (hs.tab t ht).stay e fun hbl => ?_⟩
  obtain ⟨e', fr, t1, _⟩ := hs.tab t ht
  have hbl' : t.1 = l := hbl
  rw [hbl', h] at t1
  cases t1
end
def RetE (I : Nat → CI) (M : Nat → Nat) (w : World) (r : AV) (e : Ending) (w' : World) : Prop :=
  ∃ cv I' M', e = .returned cv ∧ Rp I' M' w' cv r ∧ Sto I' M' w' (sto []) ∧ (∀ k, ([] : List Res).length ≤ k → I' k = .no) ∧ Ext (fun b => ∃ k, blkOf (I k) (sto [] k) = some b) I I' M M' w w' ∧
      ∀ k b, blkOf (I' k) (sto [] k) = some b → w.heap.size ≤ b ∨ ∃ k', blkOf (I k') (sto [] k') = some b
theorem sto_nil : (sto [] : Nat → Res) = fun _ => .no := by funext k; simp [sto]
theorem end_marks {P : Program} {fn : Func} {r : AV} {N p1 : Nat} {I : Nat → CI} {M : Nat → Nat} {w : World} (hno : ∀ k, ([] : List Res).length ≤ k → I k = .no) {ds0 ds1 : Dfs} {I1 : Nat → CI} {M1 : Nat → Nat} {w1 : World} {a1 : Act} {s1 : State}
    (st1 : St (@Ent.mk N 0 I M w (fun b => ∃ k, blkOf (I k) (sto [] k) = some b) ds0) I1 M1 w1 a1 s1) {I3 : Nat → CI} {M3 : Nat → Nat} {w3 : World} {a3 : Act} {s3 : State}
    (st3 : St (@Ent.mk N p1 I1 M1 w1 (fun b => ∃ k, blkOf (I1 k) (sto s1.σ k) = some b) ds1) I3 M3 w3 a3 s3) (hd : a3.defers = [] ∨ ∃ D, a3.defers = [{ target := .collected D, args := #[] }] ∧ w3.heap[D]? = some (.deferred (some [])) ∧ w.heap.size ≤ D)
    {vs : List AV} (hra : ResA P s3 fn.results.toList vs) (hcr : Cv (sto s3.σ) (resV vs) r) (hr : r.lt 0 = true) : LeavesInM Fence.wide 0 P fn a3.tmps (RetE I M w r) a3.defers .returning w3 := by
  have fin : ∀ w4, Ext (fun b => w.heap.size ≤ b) I3 I3 M3 M3 w3 w4 → Sto I3 M3 w4 (sto s3.σ) → ∃ v, (results fn a3.tmps).run P w4 = .ok v w4 ∧ RetE I M w r (.returned v) w4 := by
    intro w4 x4 s4
    obtain ⟨us, q1, q2, q3⟩ := hra.run (s := s3) (st3.fr.evo x4.le x4.evo) s4
    refine ⟨_, run_results q1, ?_⟩
    have hv : Rp I3 M3 w4 (resVal us) (resV vs) := by
      match us, vs, q2, q3 with
      | [], [], _, _ => exact .tup O (fun i v c h => by simp at h)
      | [u], [v], _, u3 => exact u3 0 u v O O
      | u :: u' :: r, v :: v' :: r', u2, u3 => exact .tup (by simpa using u2) (fun i x c hx hc => u3 i x c (by simpa using hx) hc)
    have x34 : Ext (fun b => (∃ k, blkOf (I1 k) (sto s1.σ k) = some b) ∨ w.heap.size ≤ b) I1 I3 M1 M3 w1 w4 := (st3.ext.wide fun b _ h => .inl h).trans x4 fun b _ h => .inr h
    have x := st1.ext.trans x34 fun b hb h => by
      have hb' : b < w.heap.size := hb
      rcases h with ⟨k, hk⟩ | h
      · exact (st1.ini k b hk).resolve_left fun q => by have q' : w.heap.size ≤ b := q; omega
      · omega
    refine ⟨_, fun _ => .no, M3, rfl, (hcr I3 M3 w4 _ s4 hv).agree (n := 0) (fun k h => absurd h (Nat.not_lt_zero k)) hr, ?_, fun _ _ => rfl, ⟨x.os, x.tape, x.output, fun k => ?_, x.evo, x.oth⟩, fun k b hb => ?_⟩
    · rw [sto_nil]
      exact ⟨fun k => trivial, fun k k' b _ hb => (blkno hb).elim, s4.top, s4.tab⟩
    · rw [hno k (Nat.zero_le k)]; trivial
    · rw [sto_nil] at hb; exact (blkno hb).elim
  rcases hd with hd | ⟨D, hd, hD, hDw⟩
  · rw [hd]
    exact fin w3 (Ext.refl _ _ _ _) st3.st
  · rw [hd]
    refine ⟨by simp, .inl ⟨D, _, rfl, run_takeDeferred hD, ?_⟩⟩
    exact fin _ ((pokeD_ext hD).wide fun b _ h => by have h' : b = D := h; rw [h']; exact hDw) (st3.st.pokeD hD)
abbrev EntM (N : Nat) (I : Nat → CI) (M : Nat → Nat) (w : World) : Ent := @Ent.mk N 0 I M w (fun b => ∃ k, blkOf (I k) (sto [] k) = some b) instDfs
def RetQ (P : Program) (fn : Func) (r : AV) (s : State) : Prop := ∃ vs, ResA P s fn.results.toList vs ∧ Cv (sto s.σ) (resV vs) r
def DW (P : Program) (fn : Func) (r : AV) (N : Nat) (I : Nat → CI) (M : Nat → Nat) (w : World) (c : Code) (s : State) : Prop :=
  ∀ (I1 : Nat → CI) (M1 : Nat → Nat) (w1 : World) (a1 : Act), St (EntM N I M w) I1 M1 w1 a1 s → c.wp P (bodyPostM Fence.wide 0 P fn (RetE I M w r)) a1 w1
theorem DW.seq_k {P : Program} {fn : Func} {r : AV} {N : Nat} {I : Nat → CI} {M : Nat → Nat} {w : World} {x y : Code} {s : State} (hno : ∀ k, ([] : List Res).length ≤ k → I k = .no) (hr : r.lt 0 = true)
    (h : ∀ K : State → Prop, (∀ s, DW P fn r N I M w y s → K s) → AW P (EntM N I M w) x (thenA K (fun e s => e = .ret ∧ RetQ P fn r s)) s) : DW P fn r N I M w (.seq x y) s := by
  intro I1 M1 w1 a1 hst
  refine wp_seq (wp_mono (h _ (fun _ h => h) I1 M1 w1 a1 hst) fun e a' w' ⟨I', M', s', h1, h2⟩ => ?_)
  cases e with
  | normal => exact h2 I' M' w' a' h1
  | ret =>
    obtain ⟨_, vs, q1, q2⟩ := h2
    exact end_marks (p1 := s'.σ.length) (ds1 := instDfs) hno h1 ⟨h1.fr, h1.df, h1.st, Nat.le_refl _, h1.no, Ext.refl _ _ _ _, fun k b hb => .inr ⟨k, hb⟩, h1.no⟩ (.inl h1.df) q1 q2 hr
  | _ => exact absurd h2.1 (fun h => by cases h)
theorem ACalls.ofM {P : Program} {f : FuncId} {fn : Func} {c : Code} {args : List AV} {r : AV} (hf : P.funcs[f]? = some fn) (hb : fn.body = some c) (hn' : Nat.ble args.length fn.ntmps = true)
    {N : Nat} (hN : fn.ntmps = N) (h : ∀ (I : Nat → CI) (M : Nat → Nat) (w : World), (∀ k, ([] : List Res).length ≤ k → I k = .no) → DW P fn r N I M w c ⟨argFr args 0, []⟩) : ACalls P f args [] r [] := by
  intro I M w cargs ha hav hs hno
  subst hN
  refine callsIn_wide.1 (callsIn_of_wp_marks (n := 0) hf hb trivial (wpIn_wide.2 ?_) O)
  exact h I M w hno I M w _ ⟨argFr_ok (Nat.le_of_ble_eq_true hn') ha hav, rfl, hs, Nat.le_refl _, hno, Ext.refl _ _ _ _, fun k b hb => .inr ⟨k, hb⟩, hno⟩
end Go.Proofs.YtbbcokckealagaaGreat
