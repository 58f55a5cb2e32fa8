/-
  Arrays that are written no more: they become slices that are read, or rows that are appended to. Nothing of the dump is used; no condition.
-/
import Derived.Test.YtpacgphnpalepaaQAR
namespace Go.Proofs.Ytpacgphnpalepaa
open Go.RowKit
set_option linter.unusedVariables false
set_option linter.unusedSimpArgs false
/-- the values behind the change: t, where it is given, is the row's number -/
inductive Fz (k sz : Nat) (xs : List (List PV)) (t : Option (Nat × Nat)) : AV → AV → Prop
  | row {n C T : Nat} (h : t = some (T, C)) (hn : n = xs.length) : Fz k sz xs t (.bsl k sz 0 n C) (.row T n)
  | all {n C : Nat} (hn : n = xs.length) : Fz k sz xs t (.bsl k sz 0 n C) (.sl sz xs false)
  | sl {lo m C : Nat} (h : lo + m ≤ xs.length) : Fz k sz xs t (.bsl k sz lo m C) (.sl sz ((xs.drop lo).take m) false)
  | same {v : AV} : Fz k sz xs t v v
inductive FzF (k sz : Nat) (xs : List (List PV)) (t : Option (Nat × Nat)) : Fr → Fr → Prop
  | refl {l : Fr} : FzF k sz xs t l l
  | cons {i : Nat} {v v' : AV} {l l' : Fr} (h : Fz k sz xs t v v') (hs : FzF k sz xs t l l') : FzF k sz xs t ((i, v) :: l) ((i, v') :: l')
inductive FzL (k sz : Nat) (xs : List (List PV)) (t : Option (Nat × Nat)) : List AV → List AV → Prop
  | refl {l : List AV} : FzL k sz xs t l l
  | cons {v v' : AV} {l l' : List AV} (h : Fz k sz xs t v v') (hs : FzL k sz xs t l l') : FzL k sz xs t (v :: l) (v' :: l')
inductive FzS (k sz : Nat) (xs : List (List PV)) (t : Option (Nat × Nat)) : Nat → List Res → List Res → Prop
  | nil {i : Nat} : FzS k sz xs t i [] []
  | here {i : Nat} {r : Res} {l l' : List Res} (h : i = k) (hs : FzS k sz xs t (i + 1) l l') : FzS k sz xs t i (r :: l) (.no :: l')
  | box {i : Nat} {cs cs' : List AV} {l l' : List Res} (h : i ≠ k) (hc : FzL k sz xs t cs cs') (hs : FzS k sz xs t (i + 1) l l') : FzS k sz xs t i (.box cs :: l) (.box cs' :: l')
  | same {i : Nat} {r : Res} {l l' : List Res} (h : i ≠ k) (hs : FzS k sz xs t (i + 1) l l') : FzS k sz xs t i (r :: l) (r :: l')
section
variable {k sz : Nat} {xs : List (List PV)} {t : Option (Nat × Nat)}
theorem FzF.get {fr fr' : Fr} (h : FzF k sz xs t fr fr') (i : Nat) : Fz k sz xs t (fr.get i) (fr'.get i) := by
  induction h with
  | refl => exact .same
  | @cons j v v' l l' h hs ih =>
    simp only [Fr.get]
    cases Nat.beq i j with
    | true => exact h
    | false => exact ih
theorem FzL.get {l l' : List AV} (h : FzL k sz xs t l l') : l'.length = l.length ∧ ∀ (i : Nat) (c' : AV), l'[i]? = some c' → ∃ c, l[i]? = some c ∧ Fz k sz xs t c c' := by
  induction h with
  | refl => exact ⟨rfl, fun i c h => ⟨c, h, .same⟩⟩
  | cons h hs ih =>
    refine ⟨by simp [ih.1], fun i c' hc => ?_⟩
    cases i with
    | zero => obtain rfl : _ = c' := by simpa using hc
              exact ⟨_, rfl, h⟩
    | succ i => exact ih.2 i c' (by simpa using hc)
/-- what a numbered thing is behind the change -/
inductive FzR (k sz : Nat) (xs : List (List PV)) (t : Option (Nat × Nat)) : Res → Res → Prop
  | box {cs cs' : List AV} (h : FzL k sz xs t cs cs') : FzR k sz xs t (.box cs) (.box cs')
  | same {r : Res} : FzR k sz xs t r r
theorem FzS.get {j : Nat} {l l' : List Res} (h : FzS k sz xs t j l l') : l'.length = l.length ∧ ∀ i, (j + i = k → i < l.length → sto l' i = .no) ∧ (j + i ≠ k → FzR k sz xs t (sto l i) (sto l' i)) := by
  induction h with
  | nil => exact ⟨rfl, fun i => ⟨fun _ h => by simp at h, fun _ => .same⟩⟩
  | @here j r l l' h hs ih =>
    refine ⟨by simp [ih.1], fun i => ?_⟩
    cases i with
    | zero => exact ⟨fun _ _ => rfl, fun hne => absurd (by omega) hne⟩
    | succ i =>
      have := ih.2 i
      exact ⟨fun h1 h2 => this.1 (by omega) (by simpa using h2), fun h1 => this.2 (by omega)⟩
  | @box j cs cs' l l' h hc hs ih =>
    refine ⟨by simp [ih.1], fun i => ?_⟩
    cases i with
    | zero => exact ⟨fun h1 _ => absurd (by omega) h, fun _ => .box hc⟩
    | succ i =>
      have := ih.2 i
      exact ⟨fun h1 h2 => this.1 (by omega) (by simpa using h2), fun h1 => this.2 (by omega)⟩
  | @same j r l l' h hs ih =>
    refine ⟨by simp [ih.1], fun i => ?_⟩
    cases i with
    | zero => exact ⟨fun h1 _ => absurd (by omega) h, fun _ => .same⟩
    | succ i =>
      have := ih.2 i
      exact ⟨fun h1 h2 => this.1 (by omega) (by simpa using h2), fun h1 => this.2 (by omega)⟩
/-- an array is written no more: what is read of it -/
theorem Sto.freeze {I : Nat → CI} {M : Nat → Nat} {w : World} {σ σ' : Nat → Res} (hs : Sto I M w σ) {cs : List AV} (hk : σ k = .box cs) (hcs : cs.take (xs.length * sz) = bxs xs) (hz : ∀ ys ∈ xs, ys.length = sz) (hσk : σ' k = .no) (hσ : ∀ i, i ≠ k → FzR k sz xs none (σ i) (σ' i)) :
    ∃ M', Sto I M' w σ' ∧ Ext (fun b => I k = .box b) I I M M' w w ∧ ∀ v p q, Fz k sz xs none p q → Rp I M w v p → Rp I M' w v q := by
  have own := hs.own k
  rw [hk] at own
  obtain ⟨b, cur, e, e1, e2, e3, e4, e5, e6⟩ := own
  have hlx := bx_len hz
  have hfit : xs.length * sz ≤ cs.length := by
    have := congrArg List.length hcs
    rw [hlx, List.length_take] at this
    omega
  let M' : Nat → Nat := fun i => if i = b then xs.length * sz else M i
  have hmask : ∀ i, M i ≤ M' i := by
    intro i
    simp only [M']
    split
    · rename_i h; rw [h, e3]; exact Nat.zero_le _
    · exact Nat.le_refl _
  have hM' : ∀ i, i ≠ b → M' i = M i := fun i h => by simp [M', h]
  have hMb : M' b = xs.length * sz := by simp [M']
  have hev : Evo M M' w w := ⟨Nat.le_refl _, hmask, fun _ _ _ _ h => h⟩
  have hblt : b < w.heap.size := (Array.getElem?_eq_some_iff.1 e2).1
  have hext : Ext (fun b => I k = .box b) I I M M' w w := ⟨rfl, rfl, rfl, fun _ => CI.le_refl _, hev, fun b' _ hne => ⟨rfl, hM' b' (by rintro rfl; exact hne e1)⟩⟩
  have hcell : ∀ j, j < xs.length * sz → w.cell? ⟨b, j, none⟩ = some (cur.getD j undef) := by
    intro j hj
    rw [cell_of_row w b j cur e (0, 0) e2]
    simp [show j < cur.size by omega]
  have hone : ∀ j, j < xs.length * sz → (cur.getD j undef).oneCell' = true := by
    intro j hj
    exact e5 j _ (by simp [show j < cur.size by omega])
  have hel : ∀ j p, xs.flatten[j]? = some p → RPV M w (cur.getD j undef) p := by
    intro j p hp
    have hj : j < xs.length * sz := by rw [← flat_len hz]; exact (List.getElem?_eq_some_iff.1 hp).1
    refine Rp.rpv (I := I) (e6 j _ p.av (by simp [show j < cur.size by omega]) ?_)
    have : (bxs xs)[j]? = some p.av := by rw [bxs, List.getElem?_map, hp]; rfl
    rw [← hcs, List.getElem?_take, if_pos hj] at this
    exact this
  have rd : ∀ lo m C A, lo + m ≤ xs.length → (0 < m → A = some ⟨b, lo * sz, none⟩) → m ≤ C → RPV M' w (.slice A m C) (.sl sz ((xs.drop lo).take m)) := by
    intro lo m C A hlm hA hmC
    have hml : m * sz + lo * sz ≤ xs.length * sz := by rw [← Nat.add_mul]; exact Nat.mul_le_mul_right _ (by omega)
    have hz1 : ∀ ys ∈ xs.drop lo, ys.length = sz := fun ys h => hz ys (List.mem_of_mem_drop h)
    refine .sl b (lo * sz) (fun j => cur.getD (lo * sz + j) undef) (by simp; omega) hmC (fun ys h => hz1 ys (List.mem_of_mem_take h)) hA (fun _ => by rw [hMb]; omega) (fun j hj => hcell _ (by omega)) (fun j hj => hone _ (by omega)) (fun j p hp => ?_)
    rw [flat_take hz1, flat_drop hz, List.getElem?_take] at hp
    split at hp
    · rw [List.getElem?_drop] at hp
      exact (hel _ p hp).evo hev
    · cases hp
  have conv : ∀ v p q, Fz k sz xs none p q → Rp I M w v p → Rp I M' w v q := by
    intro v p q h hv
    cases h with
    | row h => cases h
    | same => exact hv.evo (fun _ => CI.le_refl _) hev
    | @all n C hn =>
      cases hv with
      | @bsl _ _ _ _ _ b' A hI hn' hA =>
        obtain rfl : b' = b := by rw [hI] at e1; injection e1
        subst hn
        refine .sl ?_ (by simp)
        have := rd 0 xs.length (C - 0) A (by omega) (fun h => hA (by omega)) (by omega)
        rw [List.drop_zero, List.take_length] at this
        exact this
    | @sl lo m C h =>
      cases hv with
      | @bsl _ _ _ _ _ b' A hI hn' hA =>
        obtain rfl : b' = b := by rw [hI] at e1; injection e1
        exact .sl (rd lo m _ A h (fun h => hA (by omega)) (by omega)) (by simp)
  have blk : ∀ i b', blkOf (I i) (σ' i) = some b' → i ≠ k ∧ blkOf (I i) (σ i) = some b' := by
    intro i b' h
    by_cases hi : i = k
    · subst hi; rw [hσk] at h; cases h1 : I i <;> rw [h1] at h <;> cases h
    · refine ⟨hi, ?_⟩
      have q := hσ i hi
      generalize σ i = r at q
      generalize σ' i = r' at q h
      cases q with
      | box _ => cases h1 : I i <;> rw [h1] at h <;> first | exact h | cases h
      | same => exact h
  have nb : ∀ i b', i ≠ k → blkOf (I i) (σ i) = some b' → b' ≠ b := by
    rintro i b' hi h rfl
    exact hs.dis i k b' hi h (by rw [e1, hk]; rfl)
  refine ⟨M', ⟨fun i => ?_, fun i i' b' hne h1 h2 => hs.dis i i' b' hne (blk i b' h1).2 (blk i' b' h2).2, fun b' hb' => by rw [hM' b' (by omega)]; exact hs.top b' hb', fun tt htt => ?_⟩, hext, conv⟩
  · by_cases hi : i = k
    · subst hi; rw [hσk]; trivial
    · have q := hσ i hi
      have o := hs.own i
      have hb := fun b' => nb i b' hi
      generalize hri : σ i = r at q o hb
      generalize hri' : σ' i = r' at q
      cases q with
      | @box l l' hl =>
        obtain ⟨b', cur', e', f1, f2, f3, f4, f5, f6⟩ := o
        obtain ⟨g1, g2⟩ := hl.get
        refine ⟨b', cur', e', f1, f2, ?_, by rw [g1]; exact f4, f5, fun j v c' hv hc' => ?_⟩
        · rw [hM' b' (hb b' (by rw [f1]; rfl))]; exact f3
        · obtain ⟨c, hc, hf⟩ := g2 j c' hc'
          exact conv v c c' hf (f6 j v c hv hc)
      | same =>
        cases r with
        | no => trivial
        | box l =>
          obtain ⟨b', cur', e', f1, f2, f3, f4, f5, f6⟩ := o
          refine ⟨b', cur', e', f1, f2, ?_, f4, f5, fun j v c hv hc => conv v c c .same (f6 j v c hv hc)⟩
          rw [hM' b' (hb b' (by rw [f1]; rfl))]; exact f3
        | row sz' ys =>
          obtain ⟨A, c, f1, f2, f3⟩ := o
          refine ⟨A, c, f1, f2.evo hev, fun hc => ?_⟩
          obtain ⟨g, cur', e', fr', g1, g2, g3, g4, g5⟩ := f3 hc
          refine ⟨g, cur', e', fr', g1, g2, g3, ?_, g5⟩
          rw [hM' g (hb g (by rw [f1, g1]; simp [blkOf, hc]))]; exact g4
        | mby l =>
          obtain ⟨b', cur', e', fz', f1, f2, f3, f4⟩ := o
          refine ⟨b', cur', e', fz', f1, f2, ?_, f4⟩
          rw [hM' b' (hb b' (by rw [f1]; rfl))]; exact f3
  · obtain ⟨e', fr', t1, t2, t3⟩ := hs.tab tt htt
    refine ⟨e', fr', t1, ?_, t3⟩
    rw [hM' _ (by rintro rfl; exact (hs.own k).noTb (hs.tab tt htt) (by rw [e1, hk]; rfl))]
    exact t2
end
/-- an array is written no more -/
theorem AW.freeze {P : Program} {g : Ent} {c : Code} {Q : Exit → State → Prop} {fr fr' : Fr} {σ σ' : List Res} {cs : List AV} (k sz : Nat) (xs : List (List PV)) (hk : sto σ k = .box cs) (hcs : cs.take (xs.length * sz) = bxs xs) (hz : ∀ ys ∈ xs, ys.length = sz)
    (hf : FzF k sz xs none fr fr') (hσ : FzS k sz xs none 0 σ σ') (h : AW P g c Q ⟨fr', σ'⟩) : AW P g c Q ⟨fr, σ⟩ := by
  refine AW.conv (fun I M w a hst => ?_) h
  obtain ⟨g1, g2⟩ := hσ.get
  have hkl : k < σ.length := by
    rcases Nat.lt_or_ge k σ.length with h | h
    · exact h
    · have : sto σ k = .no := by simp [sto, List.getElem?_eq_none h]
      rw [this] at hk; cases hk
  have own := hst.st.own k
  simp only [hk] at own
  obtain ⟨b, cur, e, e1, e2, _⟩ := own
  obtain ⟨M', m1, m2, m3⟩ := Sto.freeze hst.st hk hcs hz ((g2 k).1 (by omega) hkl) (fun i hi => (g2 i).2 (by omega))
  have hini : ∀ b', I k = .box b' → g.w.heap.size ≤ b' ∨ g.own b' := fun b' hb => hst.ini k b' (by simp only [hk, hb]; rfl)
  refine ⟨I, M', ⟨hst.fr.1, fun t => m3 _ _ _ (hf.get t) (hst.fr.2 t)⟩, hst.df, m1, by have := hst.len; simp only at this ⊢; omega, fun i hi => hst.no i (by simp only at hi ⊢; omega), hst.ext.trans m2 (fun b' hb ho => (hini b' ho).resolve_left (by omega)), fun i b' hb => ?_, hst.gno⟩
  by_cases hi : i = k
  · subst hi
    simp only at hb
    rw [(g2 i).1 (by omega) hkl] at hb
    cases h1 : I i <;> rw [h1] at hb <;> cases hb
  · refine hst.ini i b' ?_
    have q := (g2 i).2 (by omega)
    simp only at hb ⊢
    generalize sto σ i = r at q
    generalize sto σ' i = r' at q hb
    cases q with
    | box _ => cases h1 : I i <;> rw [h1] at hb <;> first | exact hb | cases hb
    | same => exact hb
end Go.Proofs.Ytpacgphnpalepaa
/-
  append of zeros (make), and append to a slice without spare places that is written in place afterwards. Nothing of the dump is used; no condition.
-/
namespace Go.Proofs.Ytpacgphnpalepaa
open Go.RowKit
set_option linter.unusedVariables false
set_option linter.unusedSimpArgs false
end Go.Proofs.Ytpacgphnpalepaa
/-
  Rules of a walk for arrays that are written in place. Nothing of the dump is used; no condition.
-/
namespace Go.Proofs.Ytpacgphnpalepaa
open Go.RowKit
set_option linter.unusedVariables false
set_option linter.unusedSimpArgs false
section
variable {P : Program} {n : Nat} {ops : List Oper} {chk : List FP → Bool} {K : State → Prop} {rest : List Oper} {o : Oper} {fr : Fr} {σ : List Res} {acc : List FP} {ρ : Operand → AV} {σ0 : Nat → Res}
theorem Run.mkB {d t e k m sz bytes : Nat} {x y : Operand} {kl kc : IntKind} {a : Int} {z : Value} {σ' : List Res} [Und P t (.slice e)] [TyI P e z sz bytes] (ho : o.dst = some d) (hop : o.op = .makeSlice t x y) (hw : wantA ops fr o = some true) (hd : Nat.blt d n = true)
    (hx : evA fr x = .v (.int kl a)) (hy : evA fr y = .v (.int kc a)) (hr : Run P n ops chk K rest ⟨(d, .bsl k sz 0 m m) :: fr, σ'⟩ (acc ++ [([], [k])])) (ha : a = (m : Int) := by (first | assumption | rfl | exact nat_of (by omega))) (he : Ends σ k := by ((repeat constructor); first | done | fail))
    (hz : z.cells.toList.all (·.oneCell') = true := by rfl) (hzs : z.cells.size = sz := by rfl) (hb : m * bytes ≤ 140737488355328 := by (first | omega | (simp [maxLen]; omega))) (h63 : m ≤ maxLen := by (simp only [maxLen]; omega))
    (hσ : PutAt σ k (.box (bxs (List.replicate m (z.cells.toList.map .v)))) σ' := by ((repeat constructor); first | done | fail)) : Run P n ops chk K (o :: rest) ⟨fr, σ⟩ acc :=
  .op (ins := []) (outs := [(k, .box (bxs (List.replicate m (z.cells.toList.map .v))))]) (v := .bsl k sz 0 m m) hw (by rw [ho]; exact hd) (OpS.makeB hop hx hy ha hz hzs hb h63) (fun _ h => by cases h) (okU_one hσ).1 (fun k' hk => by
    obtain rfl : k' = k := by simpa [keys] using hk
    exact .inr (Nat.le_of_eq he.spec.symm)) (by rw [ho, (okU_one hσ).2]; exact hr)
/-- what is copied, and that it is there -/
def SrcNI (P : Program) (av : AV) (σ : List Res) (sz : Nat) (ys : List (List PV)) (ins : Upds) : Prop := SrcN P av sz ys ins ∧ ∀ q ∈ ins, sto σ q.1 = q.2
theorem Run.stF {t x y k off : _} {v : AV} {z : Value} {sz bytes : Nat} {cs new cs' : List AV} {σ' : List Res} [TyI P t z sz bytes] (ho : o.dst = none) (hop : o.op = .store t x y) (hw : wantA ops fr o = some true) (hx : evA fr x = .ptr k off) (hk : sto σ k = .box cs) (hr : Run P n ops chk K rest ⟨fr, σ'⟩ (acc ++ [([k], [k])]))
    (hy : evA fr y = v := by ((conv => lhs; whnf) <;> rfl)) (hc : Cells v new := by (first | exact Cells.agg | exact Cells.one rfl)) (hl : Nat.beq new.length sz = true := by rfl) (hcs : Over cs off new cs' := by assumption) (hσ : PutAt σ k (.box cs') σ' := by ((repeat constructor); first | done | fail)) : Run P n ops chk K (o :: rest) ⟨fr, σ⟩ acc :=
  Run.st ho hop hw hx hy hc hl hk hcs hσ hr
end
/-- the slots, where an array has become a row -/
inductive FzW (k sz n C T : Nat) : Fr → Fr → Prop
  | refl {l : Fr} : FzW k sz n C T l l
  | row {i n' C' : Nat} {l l' : Fr} (hn : n' = n) (hC : C' = C) (hs : FzW k sz n C T l l') : FzW k sz n C T ((i, .bsl k sz 0 n' C') :: l) ((i, .row T n) :: l')
  | same {i : Nat} {v : AV} {l l' : Fr} (hs : FzW k sz n C T l l') : FzW k sz n C T ((i, v) :: l) ((i, v) :: l')
theorem AW.freezeA {P : Program} {g : Ent} {c : Code} {Q : Exit → State → Prop} {fr fr' : Fr} {σ σ' : List Res} {ys : List (List PV)} (k sz : Nat) (xs zs : List (List PV)) (hk : sto σ k = .box (bxs ys)) (hys : ys = xs ++ zs) (hz : ∀ y ∈ xs, y.length = sz) (h : AW P g c Q ⟨fr', σ'⟩)
    (hf : FzF k sz xs none fr fr' := by ((repeat (first | apply FzF.cons | (apply Fz.all; (focus (first | assumption | rfl | (simp; done)))) | exact Fz.same | exact FzF.refl)); first | done | fail))
    (hσ : FzS k sz xs none 0 σ σ' := by ((repeat (first | (apply FzS.here; (focus rfl)) | (apply FzS.box; (focus decide)) | (apply FzS.same; (focus decide)) | exact FzS.nil | apply FzL.cons | (apply Fz.all; (focus (first | assumption | rfl | (simp; done)))) | exact Fz.same | exact FzL.refl)); first | done | fail)) : AW P g c Q ⟨fr, σ⟩ := by
  subst hys
  refine AW.freeze k sz xs hk ?_ hz hf hσ h
  rw [bx_append, ← bx_len hz, List.take_left']
  rfl
section
end
end Go.Proofs.Ytpacgphnpalepaa
/-
  Calls of which only a choice of results is known. Nothing of the dump is used; no condition.
-/
namespace Go.Proofs.Ytpacgphnpalepaa
open Go.RowKit
set_option linter.unusedVariables false
set_option linter.unusedSimpArgs false
/-- what a call of f with these arguments gives: one of these -/
def ACallsN (P : Program) (f : FuncId) (args : List AV) (σ : List Res) {ι : Type} (r : ι → AV) (σ' : ι → List Res) : Prop :=
  ∀ (I : Nat → CI) (M : Nat → Nat) (w : World) (cargs : Array Value), cargs.size = args.length → (∀ (i : Nat) (v : Value) (c : AV), cargs[i]? = some v → args[i]? = some c → Rp I M w v c) → Sto I M w (sto σ) → (∀ k, σ.length ≤ k → I k = .no) →
    Calls P f cargs w fun e w' => ∃ q cv I' M', e = .returned cv ∧ Rp I' M' w' cv (r q) ∧ Sto I' M' w' (sto (σ' q)) ∧ (∀ k, (σ' q).length ≤ k → I' k = .no) ∧ Ext (fun b => ∃ k, blkOf (I k) (sto σ k) = some b) I I' M M' w w' ∧
      ∀ k b, blkOf (I' k) (sto (σ' q) k) = some b → w.heap.size ≤ b ∨ ∃ k', blkOf (I k') (sto σ k') = some b
/-- how a function ends, in one of some ways -/
def RetOkN (P : Program) (fn : Func) {ι : Type} (r : ι → AV) (σ' : ι → List Res) (g : Ent) (e : Exit) (s : State) : Prop := ∃ q, RetOk P fn (r q) (σ' q) g e s
section
variable {P : Program} {n : Nat} {ops : List Oper} {chk : List FP → Bool} {K : State → Prop} {rest : List Oper} {o : Oper} {fr : Fr} {σ : List Res} {acc : List FP}
end
end Go.Proofs.Ytpacgphnpalepaa
