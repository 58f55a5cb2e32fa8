/-
  Arrays that are written no more: they become slices that are read, or rows that are appended to. Nothing of the dump is used; no condition.
-/
import Derived.Test.YtbbcokckealagaaGreatQAR
namespace Go.Proofs.YtbbcokckealagaaGreat
set_option linter.unusedVariables false
set_option linter.unusedSimpArgs false
open Go.RowKit
inductive Fz (k sz : Nat) (xs : List (List PV)) (t : Option (Nat × Nat)) : AV → AV → Prop
  | row {n C T : Nat} (h : t = some (T, C)) (hn : n = xs.length) : Fz k sz xs t (.bsl k sz 0 n C) (.row T n)
  | all {n C : Nat} (hn : n = xs.length) : Fz k sz xs t (.bsl k sz 0 n C) (.sl sz xs false)
  | sl {lo m C : Nat} (h : lo + m ≤ xs.length) : Fz k sz xs t (.bsl k sz lo m C) (.sl sz ((xs.drop lo).take m) false)
  | same {v : AV} : Fz k sz xs t v v
inductive FzF (k sz : Nat) (xs : List (List PV)) (t : Option (Nat × Nat)) : Fr → Fr → Prop
  | refl {l : Fr} : FzF k sz xs t l l
  | cons {i : Nat} {v v' : AV} {l l' : Fr} (h : Fz k sz xs t v v') (hs : FzF k sz xs t l l') : FzF k sz xs t ((i, v) :: l) ((i, v') :: l')
inductive FzL (k sz : Nat) (xs : List (List PV)) (t : Option (Nat × Nat)) : List AV → List AV → Prop
  | refl {l : List AV} : FzL k sz xs t l l
  | cons {v v' : AV} {l l' : List AV} (h : Fz k sz xs t v v') (hs : FzL k sz xs t l l') : FzL k sz xs t (v :: l) (v' :: l')
inductive FzS (k sz : Nat) (xs : List (List PV)) (t : Option (Nat × Nat)) : Nat → List Res → List Res → Prop
  | nil {i : Nat} : FzS k sz xs t i [] []
  | here {i : Nat} {r : Res} {l l' : List Res} (h : i = k) (hs : FzS k sz xs t (i + 1) l l') : FzS k sz xs t i (r :: l) (.no :: l')
  | box {i : Nat} {cs cs' : List AV} {l l' : List Res} (h : i ≠ k) (hc : FzL k sz xs t cs cs') (hs : FzS k sz xs t (i + 1) l l') : FzS k sz xs t i (.box cs :: l) (.box cs' :: l')
  | same {i : Nat} {r : Res} {l l' : List Res} (h : i ≠ k) (hs : FzS k sz xs t (i + 1) l l') : FzS k sz xs t i (r :: l) (r :: l')
section
variable {k sz : Nat} {xs : List (List PV)} {t : Option (Nat × Nat)}
theorem FzF.get {fr fr' : Fr} (h : FzF k sz xs t fr fr') (i : Nat) : Fz k sz xs t (fr.get i) (fr'.get i) := by
  induction h with
  | refl => exact .same
  | @cons j v v' l l' h hs ih =>
    simp only [Fr.get]
    cases Nat.beq i j with
    | true => exact h
    | false => exact ih
theorem FzL.get {l l' : List AV} (h : FzL k sz xs t l l') : l'.length = l.length ∧ ∀ (i : Nat) (c' : AV), l'[i]? = some c' → ∃ c, l[i]? = some c ∧ Fz k sz xs t c c' := by
  induction h with
  | refl => exact ⟨rfl, fun i c h => ⟨c, h, .same⟩⟩
  | cons h hs ih =>
    refine ⟨by simp [ih.1], fun i c' hc => ?_⟩
    cases i with
    | zero => obtain rfl : _ = c' := by simpa using hc
              exact ⟨_, rfl, h⟩
    | succ i => exact ih.2 i c' (by simpa using hc)
inductive FzR (k sz : Nat) (xs : List (List PV)) (t : Option (Nat × Nat)) : Res → Res → Prop
  | box {cs cs' : List AV} (h : FzL k sz xs t cs cs') : FzR k sz xs t (.box cs) (.box cs')
  | same {r : Res} : FzR k sz xs t r r
theorem FzS.get {j : Nat} {l l' : List Res} (h : FzS k sz xs t j l l') : l'.length = l.length ∧ ∀ i, (j + i = k → i < l.length → sto l' i = .no) ∧ (j + i ≠ k → FzR k sz xs t (sto l i) (sto l' i)) := by
  induction h with
  | nil => exact ⟨rfl, fun i => ⟨fun _ h => by simp at h, fun _ => .same⟩⟩
  | @here j r l l' h hs ih =>
    refine ⟨by simp [ih.1], fun i => ?_⟩
    cases i with
    | zero => exact ⟨fun _ _ => rfl, fun hne => absurd (by omega) hne⟩
    | succ i =>
      have := ih.2 i
      exact ⟨fun h1 h2 => this.1 (by omega) (by simpa using h2), fun h1 => this.2 (by omega)⟩
  | @box j cs cs' l l' h hc hs ih =>
    refine ⟨by simp [ih.1], fun i => ?_⟩
    cases i with
    | zero => exact ⟨fun h1 _ => absurd (by omega) h, fun _ => .box hc⟩
    | succ i =>
      have := ih.2 i
      exact ⟨fun h1 h2 => this.1 (by omega) (by simpa using h2), fun h1 => this.2 (by omega)⟩
  | @same j r l l' h hs ih =>
    refine ⟨by simp [ih.1], fun i => ?_⟩
    cases i with
    | zero => exact ⟨fun h1 _ => absurd (by omega) h, fun _ => .same⟩
    | succ i =>
      have := ih.2 i
      exact ⟨fun h1 h2 => this.1 (by omega) (by simpa using h2), fun h1 => this.2 (by omega)⟩
theorem Sto.freeze {I : Nat → CI} {M : Nat → Nat} {w : World} {σ σ' : Nat → Res} (hs : Sto I M w σ) {cs : List AV} (hk : σ k = .box cs) (hcs : cs.take (xs.length * sz) = bxs xs) (hz : ∀ ys ∈ xs, ys.length = sz) (hσk : σ' k = .no) (hσ : ∀ i, i ≠ k → FzR k sz xs none (σ i) (σ' i)) :
    ∃ M', Sto I M' w σ' ∧ Ext (fun b => I k = .box b) I I M M' w w ∧ ∀ v p q, Fz k sz xs none p q → Rp I M w v p → Rp I M' w v q := by
  have own := hs.own k
  rw [hk] at own
  obtain ⟨b, cur, e, e1, e2, e3, e4, e5, e6⟩ := own
  have hlx := bx_len hz
  have hfit : xs.length * sz ≤ cs.length := by
    have := congrArg List.length hcs
    rw [hlx, List.length_take] at this
    omega
  let M' : Nat → Nat := fun i => if i = b then xs.length * sz else M i
  have hmask : ∀ i, M i ≤ M' i := by
    intro i
    simp only [M']
    split
    · rename_i h; rw [h, e3]; exact Nat.zero_le _
    · exact Nat.le_refl _
  have hM' : ∀ i, i ≠ b → M' i = M i := fun i h => by simp [M', h]
  have hMb : M' b = xs.length * sz := by simp [M']
  have hev : Evo M M' w w := ⟨Nat.le_refl _, hmask, fun _ _ _ _ h => h, fun _ _ h => h⟩
  have hblt : b < w.heap.size := (Array.getElem?_eq_some_iff.1 e2).1
  have hext : Ext (fun b => I k = .box b) I I M M' w w := ⟨rfl, rfl, rfl, fun _ => CI.le_refl _, hev, fun b' _ hne => ⟨rfl, hM' b' (by rintro rfl; exact hne e1)⟩⟩
  have hcell : ∀ j, j < xs.length * sz → w.cell? ⟨b, j, none⟩ = some (cur.getD j undef) := by
    intro j hj
    rw [cell_of_row w b j cur e (0, 0) e2]
    simp [show j < cur.size by omega]
  have hone : ∀ j, j < xs.length * sz → (cur.getD j undef).oneCell' = true := by
    intro j hj
    exact e5 j _ (by simp [show j < cur.size by omega])
  have hel : ∀ j p, xs.flatten[j]? = some p → RPV M w (cur.getD j undef) p := by
    intro j p hp
    have hj : j < xs.length * sz := by rw [← flat_len hz]; exact (List.getElem?_eq_some_iff.1 hp).1
    refine Rp.rpv (I := I) (e6 j _ p.av (by simp [show j < cur.size by omega]) ?_)
    have : (bxs xs)[j]? = some p.av := by rw [bxs, List.getElem?_map, hp]; rfl
    rw [← hcs, List.getElem?_take, if_pos hj] at this
    exact this
  have rd : ∀ lo m C A, lo + m ≤ xs.length → (0 < m → A = some ⟨b, lo * sz, none⟩) → m ≤ C → RPV M' w (.slice A m C) (.sl sz ((xs.drop lo).take m)) := by
    intro lo m C A hlm hA hmC
    have hml : m * sz + lo * sz ≤ xs.length * sz := by rw [← Nat.add_mul]; exact Nat.mul_le_mul_right _ (by omega)
    have hz1 : ∀ ys ∈ xs.drop lo, ys.length = sz := fun ys h => hz ys (List.mem_of_mem_drop h)
    refine .sl b (lo * sz) (fun j => cur.getD (lo * sz + j) undef) (by simp; omega) hmC (fun ys h => hz1 ys (List.mem_of_mem_take h)) hA (fun _ => by rw [hMb]; omega) (fun j hj => hcell _ (by omega)) (fun j hj => hone _ (by omega)) (fun j p hp => ?_)
    rw [flat_take hz1, flat_drop hz, List.getElem?_take] at hp
    split at hp
    · rw [List.getElem?_drop] at hp
      exact (hel _ p hp).evo hev
    · cases hp
  have conv : ∀ v p q, Fz k sz xs none p q → Rp I M w v p → Rp I M' w v q := by
    intro v p q h hv
    cases h with
    | row h => cases h
    | same => exact hv.evo (fun _ => CI.le_refl _) hev
    | @all n C hn =>
      cases hv with
      | @bsl _ _ _ _ _ b' A hI hn' hA =>
        obtain rfl : b' = b := by rw [hI] at e1; injection e1
        subst hn
        refine .sl ?_ (by simp)
        have := rd 0 xs.length (C - 0) A (by omega) (fun h => hA (by omega)) (by omega)
        rw [List.drop_zero, List.take_length] at this
        exact this
    | @sl lo m C h =>
      cases hv with
      | @bsl _ _ _ _ _ b' A hI hn' hA =>
        obtain rfl : b' = b := by rw [hI] at e1; injection e1
        exact .sl (rd lo m _ A h (fun h => hA (by omega)) (by omega)) (by simp)
  have blk : ∀ i b', blkOf (I i) (σ' i) = some b' → i ≠ k ∧ blkOf (I i) (σ i) = some b' := by
    intro i b' h
    by_cases hi : i = k
    · subst hi; rw [hσk] at h; cases h1 : I i <;> rw [h1] at h <;> cases h
    · refine ⟨hi, ?_⟩
      have q := hσ i hi
      generalize σ i = r at q
      generalize σ' i = r' at q h
      cases q with
      | box _ => cases h1 : I i <;> rw [h1] at h <;> first | exact h | cases h
      | same => exact h
  have nb : ∀ i b', i ≠ k → blkOf (I i) (σ i) = some b' → b' ≠ b := by
    rintro i b' hi h rfl
    exact hs.dis i k b' hi h (by rw [e1, hk]; rfl)
  refine ⟨M', ⟨fun i => ?_, fun i i' b' hne h1 h2 => hs.dis i i' b' hne (blk i b' h1).2 (blk i' b' h2).2, fun b' hb' => by rw [hM' b' (by omega)]; exact hs.top b' hb', fun tt htt => ?_⟩, hext, conv⟩
  · by_cases hi : i = k
    · subst hi; rw [hσk]; trivial
    · have q := hσ i hi
      have o := hs.own i
      have hb := fun b' => nb i b' hi
      generalize hri : σ i = r at q o hb
      generalize hri' : σ' i = r' at q
      cases q with
      | @box l l' hl =>
        obtain ⟨b', cur', e', f1, f2, f3, f4, f5, f6⟩ := o
        obtain ⟨g1, g2⟩ := hl.get
        refine ⟨b', cur', e', f1, f2, ?_, by rw [g1]; exact f4, f5, fun j v c' hv hc' => ?_⟩
        · rw [hM' b' (hb b' (by rw [f1]; rfl))]; exact f3
        · obtain ⟨c, hc, hf⟩ := g2 j c' hc'
          exact conv v c c' hf (f6 j v c hv hc)
      | same =>
        cases r with
        | no => trivial
        | box l =>
          obtain ⟨b', cur', e', f1, f2, f3, f4, f5, f6⟩ := o
          refine ⟨b', cur', e', f1, f2, ?_, f4, f5, fun j v c hv hc => conv v c c .same (f6 j v c hv hc)⟩
          rw [hM' b' (hb b' (by rw [f1]; rfl))]; exact f3
        | row sz' ys =>
          obtain ⟨A, c, f1, f2, f3⟩ := o
          refine ⟨A, c, f1, f2.evo hev, fun hc => ?_⟩
          obtain ⟨g, cur', e', fr', g1, g2, g3, g4, g5⟩ := f3 hc
          refine ⟨g, cur', e', fr', g1, g2, g3, ?_, g5⟩
          rw [hM' g (hb g (by rw [f1, g1]; simp [blkOf, hc]))]; exact g4
        | mby l =>
          obtain ⟨b', C', f1, f0, o⟩ := o
          refine ⟨b', C', f1, f0, fun hC => ?_⟩
          obtain ⟨cur', fz', f2, f3, f4⟩ := o hC
          refine ⟨cur', fz', f2, ?_, f4⟩
          rw [hM' b' (hb b' (by rw [f1]; simp only [blkOf]; rw [if_neg (by omega)]))]; exact f3
  · obtain ⟨e', fr', t1, t2, t3⟩ := hs.tab tt htt
    refine ⟨e', fr', t1, ?_, t3⟩
    rw [hM' _ (by rintro rfl; exact (hs.own k).noTb (hs.tab tt htt) (by rw [e1, hk]; rfl))]
    exact t2
end
theorem AW.freeze {P : Program} {g : Ent} {c : Code} {Q : Exit → State → Prop} {fr fr' : Fr} {σ σ' : List Res} {cs : List AV} (k sz : Nat) (xs : List (List PV)) (hk : sto σ k = .box cs) (hcs : cs.take (xs.length * sz) = bxs xs) (hz : ∀ ys ∈ xs, ys.length = sz)
    (hf : FzF k sz xs none fr fr') (hσ : FzS k sz xs none 0 σ σ') (h : AW P g c Q ⟨fr', σ'⟩) : AW P g c Q ⟨fr, σ⟩ := by
  refine AW.conv (fun I M w a hst => ?_) h
  obtain ⟨g1, g2⟩ := hσ.get
  have hkl : k < σ.length := by
    rcases Nat.lt_or_ge k σ.length with h | h
    · exact h
    · have : sto σ k = .no := by simp [sto, List.getElem?_eq_none h]
      rw [this] at hk; cases hk
  have own := hst.st.own k
  simp only [hk] at own
  obtain ⟨b, cur, e, e1, e2, _⟩ := own
  obtain ⟨M', m1, m2, m3⟩ := Sto.freeze hst.st hk hcs hz ((g2 k).1 (by omega) hkl) (fun i hi => (g2 i).2 (by omega))
  have hini : ∀ b', I k = .box b' → g.w.heap.size ≤ b' ∨ g.own b' := fun b' hb => hst.ini k b' (by simp only [hk, hb]; rfl)
  refine ⟨I, M', ⟨hst.fr.1, fun t => m3 _ _ _ (hf.get t) (hst.fr.2 t)⟩, hst.df, m1, by have := hst.len; simp only at this ⊢; omega, fun i hi => hst.no i (by simp only at hi ⊢; omega), hst.ext.trans m2 (fun b' hb ho => (hini b' ho).resolve_left (by omega)), fun i b' hb => ?_, hst.gno⟩
  by_cases hi : i = k
  · subst hi
    simp only at hb
    rw [(g2 i).1 (by omega) hkl] at hb
    cases h1 : I i <;> rw [h1] at hb <;> cases hb
  · refine hst.ini i b' ?_
    have q := (g2 i).2 (by omega)
    simp only at hb ⊢
    generalize sto σ i = r at q
    generalize sto σ' i = r' at q hb
    cases q with
    | box _ => cases h1 : I i <;> rw [h1] at hb <;> first | exact hb | cases hb
    | same => exact hb
theorem AW.freezeR {P : Program} {g : Ent} {c : Code} {Q : Exit → State → Prop} {fr fr' : Fr} {σ σ' : List Res} {cs : List AV} (k sz : Nat) (xs : List (List PV)) (C : Nat) (hk : sto σ k = .box cs) (hcs : cs.take (xs.length * sz) = bxs xs) (hz : ∀ ys ∈ xs, ys.length = sz)
    (hC : cs.length = C * sz) (hC0 : 0 < C) (hxC : xs.length ≤ C) (hf : ∀ t, fr.get t = fr'.get t ∨ (fr.get t = .bsl k sz 0 xs.length C ∧ fr'.get t = .row σ.length xs.length)) (hσ : PutAt σ k .no σ') (h : AW P g c Q ⟨fr', σ' ++ [.row sz xs]⟩) : AW P g c Q ⟨fr, σ⟩ := by
  refine AW.conv (fun I M w a hst => ?_) h
  obtain ⟨p1, p2⟩ := hσ.spec
  have hkl : k < σ.length := by
    rcases Nat.lt_or_ge k σ.length with h | h
    · exact h
    · have : sto σ k = .no := by simp [sto, List.getElem?_eq_none h]
      rw [this] at hk; cases hk
  have hlen : σ'.length = σ.length := by rw [← p2, putR_len _ _ _ p1, if_neg (by omega)]
  have hs := hst.st
  simp only at hs
  have hno : I σ.length = .no := hst.no _ (Nat.le_refl _)
  have own := hs.own k
  rw [hk] at own
  obtain ⟨b, cur, e, e1, e2, e3, e4, e5, e6⟩ := own
  have hlx := bx_len hz
  have hfit : xs.length * sz ≤ cs.length := by rw [hC]; exact Nat.mul_le_mul_right _ hxC
  let M' : Nat → Nat := fun i => if i = b then xs.length * sz else M i
  let I' : Nat → CI := fun i => if i = σ.length then CI.row xs sz (some ⟨b, 0, none⟩) C else I i
  have hmask : ∀ i, M i ≤ M' i := by
    intro i
    simp only [M']
    split
    · rename_i h; rw [h, e3]; exact Nat.zero_le _
    · exact Nat.le_refl _
  have hM' : ∀ i, i ≠ b → M' i = M i := fun i h => by simp [M', h]
  have hMb : M' b = xs.length * sz := by simp [M']
  have hle : ∀ i, (I i).le (I' i) := by
    intro i
    by_cases hi : i = σ.length
    · rw [hi, hno]; trivial
    · simp only [I', if_neg hi]; exact CI.le_refl _
  have hIT : I' σ.length = CI.row xs sz (some ⟨b, 0, none⟩) C := by simp [I']
  have hIk : I' k = .box b := by simp only [I', if_neg (show k ≠ σ.length by omega)]; exact e1
  have hev : Evo M M' w w := ⟨Nat.le_refl _, hmask, fun _ _ _ _ h => h, fun _ _ h => h⟩
  have hblt : b < w.heap.size := (Array.getElem?_eq_some_iff.1 e2).1
  have hext : Ext (fun b => I k = .box b) I I' M M' w w := ⟨rfl, rfl, rfl, hle, hev, fun b' _ hne => ⟨rfl, hM' b' (by rintro rfl; exact hne e1)⟩⟩
  have hel : ∀ j p, xs.flatten[j]? = some p → RPV M' w (cur.getD j undef) p := by
    intro j p hp
    have hj : j < xs.length * sz := by rw [← flat_len hz]; exact (List.getElem?_eq_some_iff.1 hp).1
    refine (Rp.rpv (I := I) (M := M) (e6 j _ p.av (by simp [show j < cur.size by omega]) ?_)).evo hev
    have : (bxs xs)[j]? = some p.av := by rw [bxs, List.getElem?_map, hp]; rfl
    rw [← hcs, List.getElem?_take, if_pos hj] at this
    exact this
  have hr : RPV M' w (.slice (some ⟨b, 0, none⟩) xs.length C) (.sl sz xs) := by
    refine .sl b 0 (fun j => cur.getD j undef) O hxC hz (fun _ => rfl) (fun _ => by rw [hMb]; omega) (fun j hj => ?_) (fun j hj => e5 j _ (by simp [show j < cur.size by omega])) hel
    rw [Nat.zero_add, cell_of_row w b j cur e (0, 0) e2]
    simp [show j < cur.size by omega]
  have hsto : sto (σ' ++ [.row sz xs]) = updS (sto σ) [(k, .no), (σ.length, .row sz xs)] := by
    funext i
    have q := sto_putR σ k .no p1 i
    rw [p2] at q
    simp only [updS]
    rcases Nat.lt_trichotomy i σ.length with hi | hi | hi
    · rw [if_neg (show ¬ i = σ.length by omega), ← q]
      simp only [sto, List.getD_eq_getElem?_getD]; rw [List.getElem?_append_left (by omega)]
    · subst hi
      rw [if_neg (by omega), if_pos O]
      simp [sto, List.getD_eq_getElem?_getD, ← hlen]
    · rw [if_neg (by omega), if_neg (by omega)]
      have : sto σ i = .no := by simp [sto, List.getElem?_eq_none (show σ.length ≤ i by omega)]
      rw [this]
      simp [sto, List.getD_eq_getElem?_getD, List.getElem?_eq_none (show (σ' ++ [Res.row sz xs]).length ≤ i by simp; omega)]
  have hbT : ∀ b', blkOf (I' σ.length) (.row sz xs) = some b' → b' = b := by
    intro b' h
    rw [hIT] at h
    simp only [blkOf] at h
    split at h
    · cases h
    · simpa using h.symm
  have hST : Sto I' M' w (sto (σ' ++ [.row sz xs])) := by
    rw [hsto]
    have hne : k ≠ σ.length := by omega
    have uk : updS (sto σ) [(k, .no), (σ.length, .row sz xs)] k = .no := by simp [updS]
    have uT : updS (sto σ) [(k, .no), (σ.length, .row sz xs)] σ.length = .row sz xs := by simp [updS, hne.symm]
    refine hs.upd [k, σ.length] hext (fun b' h => ⟨k, by simp, by rw [hk, h]; rfl⟩) (fun i hi => ?_) (fun i hi => updS_other _ _ _ (by simpa [keys] using hi)) (fun i hi => ?_) (fun i hi b' hb' => ?_) (fun i hi j hj b' hij hb' hb2 => ?_) (fun b' hb' => by rw [hM' b' (by omega)]; exact hs.top b' hb')
    · simp only [List.mem_cons, List.not_mem_nil, or_false, not_or] at hi
      simp only [I', if_neg hi.2]
    · simp only [List.mem_cons, List.not_mem_nil, or_false] at hi
      rcases hi with rfl | rfl
      · rw [uk]; trivial
      · rw [uT]
        refine ⟨some ⟨b, 0, none⟩, C, hIT, hr, fun _ => ⟨b, cur, e, (0, 0), rfl, e2, by omega, hMb, fun o ho h => by simp at h⟩⟩
    · simp only [List.mem_cons, List.not_mem_nil, or_false] at hi
      rcases hi with rfl | rfl
      · rw [uk, hIk] at hb'; cases hb'
      · rw [uT] at hb'
        have := hbT b' hb'
        subst this
        exact .inr ⟨k, by simp, by rw [hk, e1]; rfl⟩
    · simp only [List.mem_cons, List.not_mem_nil, or_false] at hi hj
      rcases hi with rfl | rfl
      · rw [uk, hIk] at hb'; cases hb'
      · rcases hj with rfl | rfl
        · rw [uk, hIk] at hb2; cases hb2
        · exact hij O
  have hini : ∀ b', I k = .box b' → g.w.heap.size ≤ b' ∨ g.own b' := fun b' hb => hst.ini k b' (by simp only [hk, hb]; rfl)
  refine ⟨I', M', ⟨hst.fr.1, fun t => ?_⟩, hst.df, hST, by have := hst.len; simp at this ⊢; omega, fun i hi => ?_, hst.ext.trans hext (fun b' hb ho => (hini b' ho).resolve_left (by omega)), fun i b' hb => ?_, hst.gno⟩
  · have hv := hst.fr.2 t
    simp only at hv ⊢
    rcases hf t with q | ⟨q1, q2⟩
    · rw [q] at hv; exact hv.evo hle hev
    · rw [q1] at hv
      rw [q2]
      generalize a.tmps.getD t undef = x at hv
      cases hv with
      | @bsl _ _ _ _ _ b' A hI hn hA =>
        obtain rfl : b' = b := by rw [hI] at e1; injection e1
        obtain rfl := hA hC0
        have : (⟨b', 0 * sz, none⟩ : Addr) = ⟨b', 0, none⟩ := by simp
        rw [this]
        exact .row hIT (Nat.le_refl _) (by rw [List.take_length]; exact hr) fun _ => ⟨rfl, rfl⟩
  · simp only [List.length_append, List.length_cons, List.length_nil] at hi
    simp only [I', if_neg (show i ≠ σ.length by omega)]
    exact hst.no i (by simp only; omega)
  · simp only at hb
    rw [hsto] at hb
    by_cases h1 : i = k
    · subst h1
      simp only [updS, if_true, hIk] at hb
      cases hb
    · by_cases h2 : i = σ.length
      · subst h2
        simp only [updS, if_neg h1, if_true] at hb
        have := hbT b' hb
        subst this
        exact hini _ e1
      · simp only [updS, if_neg h1, if_neg h2, I'] at hb
        exact hst.ini i b' hb
end Go.Proofs.YtbbcokckealagaaGreat
namespace Go.Proofs.YtbbcokckealagaaGreat
set_option linter.unusedVariables false
set_option linter.unusedSimpArgs false
open Go.RowKit
set_option maxHeartbeats 1000000 in
theorem run_appz_core {P : Program} {t tx e ty : TypeId} {k1 k2 : IntKind} {z : Value} {sz bytes : Nat} [Und P t (.slice e)] [Und P tx (.int k1)] [TyI P e z sz bytes] (hzs : z.cells.size = sz) (hz1 : z.cells.toList.all (·.oneCell') = true)
    {w : World} {A : Option Addr} {n c m : Nat} {olds : List Value}
    (hol : olds.length = n * sz) (hA : 0 < n → ∃ b off, A = some ⟨b, off, none⟩ ∧ ∀ (j : Nat) (u : Value), olds[j]? = some u → w.cell? ⟨b, off + j, none⟩ = some u)
    (hin : n + m ≤ c → 0 < m → ∃ g cur e fr, A = some ⟨g, 0, none⟩ ∧ w.heap[g]? = some (.cells cur e fr) ∧ cur.size = c * sz ∧ Unfr fr cur.size)
    (hb : (n + m) * bytes ≤ 140737488355328) (h63 : n + m ≤ maxLen) :
    App3 P t tx ty e z sz w A n c m (.int k2 (m : Int)) (Builtin.zeroCells z.cells m).toList olds := by
  obtain ⟨i, hi, hz, hs, hby, hti, hzv, hsz⟩ := run_typeInfo (P := P) (t := e) w
  have hxt : ∀ w : World, (underlying tx).run P w = .ok (.int k1) w := fun w => run_und w
  have hm : n + m ≤ 9223372036854775807 := by simp only [maxLen] at h63; omega
  have hw : IntKind.i64.wrap (m : Int) = m := IntWalk.i64_in _ (by omega)
  have m0 : ¬ ((m : Int) < 0) := by omega
  have mb0 : m * bytes ≤ (n + m) * bytes := Nat.mul_le_mul_right _ (by omega)
  have mb : ¬ (281474976710656 < (m : Int) * (bytes : Int)) := by
    have : (m : Int) * (bytes : Int) = ((m * bytes : Nat) : Int) := by simp
    rw [this]; omega
  have happ : ∀ w : World, (if m * sz = 0 then pure #[] else do pure (Builtin.zeroCells (← zeroValue e).cells m) : Sem (Array Value)).run P w = .ok (Builtin.zeroCells z.cells m) w := by
    intro w
    by_cases h0 : m * sz = 0
    · rw [if_pos h0]
      have : Builtin.zeroCells z.cells m = #[] := by simp [Builtin.zeroCells, hzs, h0]
      rw [this]; simp
    · rw [if_neg h0]; simp [zeroValue, typeInfo, hi, hz]
  have hzl : (Builtin.zeroCells z.cells m).toList.length = m * sz := by simp [size_zeroCells, hzs]
  unfold App3
  by_cases hroom : n + m ≤ c
  · rcases Nat.eq_zero_or_pos m with hm0 | hm0
    · left
      subst hm0
      refine ⟨hroom, rfl, ?_⟩
      have hw0 : IntKind.i64.wrap 0 = 0 := rfl
      cases A <;> simp [Builtin.append_, run_und, sizeOf, typeInfo, hi, hs, hby, hxt, asInt, asIntOf, hw0, storeCells, show n ≤ c from hroom]
    · right; left
      refine ⟨hroom, hm0, ?_⟩
      obtain ⟨g, cur, e', fr, rfl, hg, hcs, hun⟩ := hin hroom hm0
      refine ⟨g, rfl, ?_⟩
      have hle : n * sz + (Builtin.zeroCells z.cells m).toList.length ≤ cur.size := by rw [hzl, hcs, ← Nat.add_mul]; exact Nat.mul_le_mul_right _ hroom
      have h1 : ∀ v ∈ (Builtin.zeroCells z.cells m).toList, v.oneCell' = true := by
        intro v hv
        simp only [Builtin.zeroCells, Array.toList_map, List.mem_map] at hv
        obtain ⟨j, hj, rfl⟩ := hv
        have hj' : j < m * z.cells.size := by simpa using hj
        have hpos : 0 < z.cells.size := by
          rcases Nat.eq_zero_or_pos z.cells.size with h | h
          · rw [h] at hj'; omega
          · exact h
        have hlt := Nat.mod_lt j hpos
        simp only [hlt, getElem!_pos]
        exact List.all_eq_true.1 hz1 _ (by simp)
      have hst := run_storeCells_cells (P := P) g (n * sz) (Builtin.zeroCells z.cells m).toList 0 w (fun j hj => by
          rw [cell_of_row w g _ cur e' fr hg]
          have : n * sz + j < cur.size := by omega
          simp [this]) (fun j hj => by
          have := hun (n * sz + 0 + j) (by omega)
          simp only [World.frozen?, hg, Bool.and_eq_false_iff, decide_eq_false_iff_not]
          omega) h1
      simp only [Nat.add_zero] at hst
      have ha := happ w
      by_cases h0 : m * sz = 0
      · rw [if_pos h0] at ha
        simp at ha
        simp [Builtin.append_, run_und, sizeOf, typeInfo, hi, hs, hby, hxt, asInt, asIntOf, hw, m0, mb, hroom, Addr.add_lit, h0]
        simp [ha, storeCells, World.setCells]
      · simp [Builtin.append_, run_und, sizeOf, typeInfo, hi, hs, hby, hxt, asInt, asIntOf, hw, m0, mb, hroom, Addr.add_lit, h0, zeroValue, hz, hst]
  · right; right
    have hc : c < n + m := by omega
    refine ⟨hc, grownCap w (n + m) c e, grownCap_ge w (n + m) c e, ?_⟩
    have h63' : ¬ (9223372036854775807 < ((n : Int) + (m : Int))) := by omega
    have hfit : ¬ (281474976710656 < Builtin.nextslicecap (n + m) c * bytes) := by have := growslice_fits hc hb; omega
    have hold : (Builtin.firstCells sz n (.slice A n c)).run P w.drew = .ok olds.toArray w.drew := by
      rcases Nat.eq_zero_or_pos n with h0 | h0
      · subst h0
        have : olds = [] := List.eq_nil_of_length_eq_zero (by simpa using hol)
        subst this
        cases A <;> simp [Builtin.firstCells, loadCells, loadCellsFrom]
      · obtain ⟨b, off, rfl, hcell⟩ := hA h0
        exact run_firstCells_some (P := P) w.drew sz n ⟨b, off, none⟩ n c olds hol (fun j v hv => by rw [Addr.add_lit]; simpa using hcell j v hv)
    have ha := happ w
    by_cases h0 : m * sz = 0
    · rw [if_pos h0] at ha
      simp at ha
      simp [Builtin.append_, run_und, sizeOf, typeInfo, zeroValue, hi, hs, hz, hby, hxt, asInt, asIntOf, hw, m0, mb, hroom, h63', hfit, Question.forced, hold, newRow, grownCap, h0]
      simp [ha]
    · simp [Builtin.append_, run_und, sizeOf, typeInfo, zeroValue, hi, hs, hz, hby, hxt, asInt, asIntOf, hw, m0, mb, hroom, h63', hfit, Question.forced, hold, newRow, grownCap, h0]
theorem zeroCells_get (cs : Array Value) (m j : Nat) : (Builtin.zeroCells cs m)[j]? = if j < m * cs.size then some (cs[j % cs.size]!) else none := by
  by_cases h : j < m * cs.size
  · rw [if_pos h]; simp [Builtin.zeroCells, h]
  · rw [if_neg h]; simp [Builtin.zeroCells, h]
theorem zrep_get (zs : List PV) : ∀ (m i : Nat), (List.replicate m zs).flatten[i]? = if i < m * zs.length then zs[i % zs.length]? else none := by
  intro m
  induction m with
  | zero => intro i; simp
  | succ m ih =>
    intro i
    rw [List.replicate_succ, List.flatten_cons]
    rcases Nat.lt_or_ge i zs.length with h | h
    · rw [List.getElem?_append_left h, if_pos (by rw [Nat.add_mul]; omega), Nat.mod_eq_of_lt h]
    · rw [List.getElem?_append_right h, ih]
      have e : i % zs.length = (i - zs.length) % zs.length := by rw [← Nat.mod_eq_sub_mod h]
      rw [e]
      by_cases h2 : i - zs.length < m * zs.length
      · rw [if_pos h2, if_pos (by rw [Nat.add_mul]; omega)]
      · rw [if_neg h2, if_neg (by rw [Nat.add_mul]; omega)]
theorem SrcG.zeros {P : Program} {t tx e : TypeId} {k1 k2 : IntKind} {z : Value} {sz bytes m : Nat} {a : Int} {av : AV} [Und P t (.slice e)] [Und P tx (.int k1)] [TyI P e z sz bytes] (hzs : z.cells.size = sz) (hz1 : z.cells.toList.all (·.oneCell') = true) (hav : av = .v (.int k2 a)) (ha : a = (m : Int)) :
    SrcG P t tx e z bytes av sz (List.replicate m (z.cells.toList.map PV.v)) [] := by
  intro I M w σ v hv hs hi
  subst hav ha
  obtain rfl := hv.val
  have hl : (List.replicate m (z.cells.toList.map PV.v)).length = m := by simp
  refine ⟨(Builtin.zeroCells z.cells m).toList, fun y hy => by rw [(List.mem_replicate.1 hy).2]; simp [hzs], by simp [size_zeroCells, hzs], fun v hv => ?_, fun j p hp => ?_, fun ty A n c olds h1 h2 h3 h4 h5 => ?_⟩
  · obtain ⟨j, hj⟩ := List.getElem?_of_mem hv
    rw [Array.getElem?_toList, zeroCells_get] at hj
    split at hj
    · rename_i hlt
      injection hj with hj
      have hpos : 0 < z.cells.size := by
        rcases Nat.eq_zero_or_pos z.cells.size with h | h
        · rw [h] at hlt; omega
        · exact h
      have hm := Nat.mod_lt j hpos
      simp only [hm, getElem!_pos] at hj
      rw [← hj]
      exact List.all_eq_true.1 hz1 _ (by simp)
    · cases hj
  · rw [zrep_get] at hp
    simp only [List.length_map, Array.length_toList] at hp
    split at hp
    · rename_i hlt
      rw [List.getElem?_map] at hp
      obtain ⟨u, hu, rfl⟩ := Option.map_eq_some_iff.1 hp
      refine ⟨u, ?_, .v _⟩
      rw [Array.getElem?_toList, zeroCells_get, if_pos hlt]
      rw [Array.getElem?_toList] at hu
      have := (Array.getElem?_eq_some_iff.1 hu).1
      simp only [this, getElem!_pos]
      rw [Array.getElem?_eq_getElem this] at hu
      exact hu
    · cases hp
  · rw [hl] at h3 h4 h5 ⊢
    exact run_appz_core hzs hz1 h1 h2 h3 h4 h5
end Go.Proofs.YtbbcokckealagaaGreat
namespace Go.Proofs.YtbbcokckealagaaGreat
set_option linter.unusedVariables false
set_option linter.unusedSimpArgs false
open Go.RowKit
section
variable {P : Program} {n : Nat} {ops : List Oper} {chk : List FP → Bool} {K : State → Prop} {rest : List Oper} {o : Oper} {fr : Fr} {σ : List Res} {acc : List FP} {ρ : Operand → AV} {σ0 : Nat → Res}
theorem putEnd (σ : List Res) (r : Res) : PutAt σ σ.length r (σ ++ [r]) := by
  induction σ with
  | nil => exact PutAt.new
  | cons q l ih => exact PutAt.there ih
theorem nat_of {a : Int} (h : 0 ≤ a) : a = (a.toNat : Int) := (Int.toNat_of_nonneg h).symm
def SrcNI (P : Program) (av : AV) (σ : List Res) (sz : Nat) (ys : List (List PV)) (ins : Upds) : Prop := SrcN P av sz ys ins ∧ ∀ q ∈ ins, sto σ q.1 = q.2
theorem SrcNI.dat {av : AV} {sz : Nat} {ys : List (List PV)} {ins : Upds} (d : Dat (sto σ) av sz ys ins) : SrcNI P av σ sz ys ins := ⟨SrcN.dat d, d.ins⟩
theorem SrcNI.bsl {av : AV} {k sz lo m C : Nat} {xs ys : List (List PV)} (hav : av = .bsl k sz lo m C) (hk : sto σ k = .box (bxs xs)) (hz : ∀ y ∈ xs, y.length = sz) (hn : lo + m ≤ xs.length) (hy : (xs.drop lo).take m = ys) : SrcNI P av σ sz ys [(k, .box (bxs xs))] := by
  subst hy
  have hz1 : ∀ y ∈ xs.drop lo, y.length = sz := fun y h => hz y (List.mem_of_mem_drop h)
  exact ⟨SrcN.bsl hav (by rw [bx_take hz1, bx_drop hz]) (fun y h => hz1 y (List.mem_of_mem_take h)) (by simp; omega), one_in hk⟩
theorem Run.cpB {d td ts e k lo m C sz bytes : Nat} {x y : Operand} {z : Value} {xs ys zs : List (List PV)} {insy : Upds} {ks : List Nat} {r : Int} {σ' : List Res} [Und P td (.slice e)] [TyI P e z sz bytes] (ho : o.dst = some d) (hop : o.op = .call { callee := .builtin .copy, args := #[x, y], argTypes := #[td, ts] })
    (hw : wantA ops fr o = some true) (hd : Nat.blt d n = true) (hx : evA fr x = .bsl k sz lo m C) (hk : sto σ k = .box (bxs xs)) (hy : SrcNI P (evA fr y) σ sz ys insy) (hsx : ∀ y ∈ xs, y.length = sz) (hC : lo + m ≤ xs.length)
    (hz : xs.take lo ++ (ys.take m ++ xs.drop (lo + (ys.take m).length)) = zs) (hσ : PutAt σ k (.box (bxs zs)) σ') (hks : k :: keys insy = ks) (hrr : ((min ys.length m : Nat) : Int) = r)
    (hr : Run P n ops chk K rest ⟨(d, .v (.int .i64 r)) :: fr, σ'⟩ (acc ++ [(ks, [k])])) : Run P n ops chk K (o :: rest) ⟨fr, σ⟩ acc := by
  subst hrr hz
  obtain ⟨hy1, hy2⟩ := hy
  have hys : ∀ w : World, True := fun _ => trivial
  refine .op (ins := (k, .box (bxs xs)) :: insy) (outs := [(k, .box (bxs (xs.take lo ++ (ys.take m ++ xs.drop (lo + (ys.take m).length)))))]) (v := .v (.int .i64 ((min ys.length m : Nat) : Int))) hw (by rw [ho]; exact hd) ?_ (fun q hq => by
    rcases List.mem_cons.1 hq with rfl | hq
    · exact hk
    · exact hy2 q hq) (okU_one hσ).1 (fun k' hk' => .inl (by
      obtain rfl : k' = k := by simpa [keys] using hk'
      simp [keys])) (by
      have : keys ((k, Res.box (bxs xs)) :: insy) = ks := by rw [← hks]; rfl
      rw [ho, (okU_one hσ).2, this]; exact hr)
  intro I M w a σ1 K1 Q1 hop1 hs1 hi1 hn1 hK1
  -- the sizes of what is copied
  have q2 := hop1 y (by simp [hop, Op.operands, Call.operands])
  obtain ⟨news, s1, s2, _⟩ := hy1 I M w σ1 _ q2 hs1 (fun q hq => hi1 q (List.mem_cons_of_mem _ hq))
  have hz2 : ∀ y ∈ ys.take m, y.length = sz := fun y h => s2 y (List.mem_of_mem_take h)
  refine OpS.copyB (o := o) (ρ := evA fr) (k := k) (cs := bxs xs) (cs' := bxs (xs.take lo ++ (ys.take m ++ xs.drop (lo + (ys.take m).length)))) hop hx hy1 (by rw [bx_len hsx]; exact Nat.mul_le_mul_right _ hC) ?_ I M w a σ1 K1 Q1 hop1 hs1 hi1 hn1 hK1
  rw [bx_append, bx_append, bx_take hsx, bx_drop hsx, bx_len hz2, Nat.add_mul]
theorem Run.ld1F {d t x k off : _} {D : TypeDesc} {cs : List AV} {c : AV} [Und P t D] (ho : o.dst = some d) (hop : o.op = .load t x) (hw : wantA ops fr o = some true) (hd : Nat.blt d n = true) (hx : evA fr x = .ptr k off) (hD : isAggD D = false) (hk : sto σ k = .box cs)
    (hr : Run P n ops chk K rest ⟨(d, c) :: fr, σ⟩ (acc ++ [([k], [])])) (hc : cs[off]? = some c := by assumption) : Run P n ops chk K (o :: rest) ⟨fr, σ⟩ acc := Run.ld1 ho hop hw hd hx hD hk hc hr
theorem Run.stF {t x y k off : _} {v : AV} {z : Value} {sz bytes : Nat} {cs new cs' : List AV} {σ' : List Res} [TyI P t z sz bytes] (ho : o.dst = none) (hop : o.op = .store t x y) (hw : wantA ops fr o = some true) (hx : evA fr x = .ptr k off) (hk : sto σ k = .box cs) (hr : Run P n ops chk K rest ⟨fr, σ'⟩ (acc ++ [([k], [k])]))
    (hy : evA fr y = v := by ((conv => lhs; whnf) <;> rfl)) (hc : Cells v new := by (first|exact Cells.agg|exact Cells.one O)) (hl : Nat.beq new.length sz = true := by rfl) (hcs : Over cs off new cs' := by assumption) (hσ : PutAt σ k (.box cs') σ' := by ((repeat constructor);first|done|fail)) : Run P n ops chk K (o :: rest) ⟨fr, σ⟩ acc :=
  Run.st ho hop hw hx hy hc hl hk hcs hσ hr
theorem Rp.bslLe {I : Nat → CI} {M : Nat → Nat} {w : World} {v : Value} {k sz lo n C : Nat} (h : Rp I M w v (.bsl k sz lo n C)) : lo + n ≤ C := by cases h; assumption
theorem OpP.sliceBH {t e : TypeId} {x y : Operand} {kk : IntKind} {h : Int} {k sz b0 n0 C bytes : Nat} {z : Value} [Und P t (.slice e)] [TyI P e z sz bytes] (ho : o.op = .slice t x none (some y) none) (hx : ρ x = .bsl k sz b0 n0 C) (hy : ρ y = .v (.int kk h))
    (h0 : 0 ≤ h := by omega) (hh : b0 + h.toNat ≤ C := by omega) : OpP P o ρ (.bsl k sz b0 h.toNat C) := by
  intro I M w a hop
  have q := Rp.bslLe (hx ▸ hop x (by simp [ho, Op.operands]))
  have := OpP.sliceB (P := P) (o := o) (ρ := ρ) (l := none) (h := some h.toNat) (m := none) ho hx OpI.no (OpI.so hy (nat_of h0)) OpI.no (by simp) (L := 0) O O O (Nat.zero_le _) (by simp only [Option.getD_some, Option.getD_none]; omega) (Nat.le_refl _) I M w a hop
  simp only [Option.getD_some, Option.getD_none, Nat.add_zero, Nat.sub_zero, show b0 + (C - b0) = C by omega] at this
  exact this
theorem OpP.sliceBL {t e : TypeId} {x y : Operand} {kk : IntKind} {l : Int} {k sz b0 n0 C lo bytes : Nat} {z : Value} [Und P t (.slice e)] [TyI P e z sz bytes] (ho : o.op = .slice t x (some y) none none) (hx : ρ x = .bsl k sz b0 n0 C) (hy : ρ y = .v (.int kk l))
    (h0 : 0 ≤ l := by omega) (hh : l.toNat ≤ n0 := by omega) (hlo : b0 + l.toNat = lo := by first | ((conv => lhs; simp only [Nat.zero_add]); first | done | rfl) | rfl) : OpP P o ρ (.bsl k sz lo (n0 - l.toNat) C) := by
  subst hlo
  intro I M w a hop
  have q := Rp.bslLe (hx ▸ hop x (by simp [ho, Op.operands]))
  have := OpP.sliceB (P := P) (o := o) (ρ := ρ) (l := some l.toNat) (h := none) (m := none) ho hx (OpI.so hy (nat_of h0)) OpI.no OpI.no (by simp) O O O (by simp only [Option.getD_some, Option.getD_none]; omega) (by simp only [Option.getD_some, Option.getD_none]; omega) (Nat.le_refl _) I M w a hop
  simp only [Option.getD_some, Option.getD_none, show b0 + (C - b0) = C by omega] at this
  exact this
theorem OpP.sliceBLH {t e : TypeId} {x y y2 : Operand} {kk k2 : IntKind} {l h : Int} {k sz b0 n0 C lo bytes : Nat} {z : Value} [Und P t (.slice e)] [TyI P e z sz bytes] (ho : o.op = .slice t x (some y) (some y2) none) (hx : ρ x = .bsl k sz b0 n0 C) (hy : ρ y = .v (.int kk l)) (hy2 : ρ y2 = .v (.int k2 h))
    (h0 : 0 ≤ l := by omega) (h1 : l ≤ h := by omega) (hh : b0 + h.toNat ≤ C := by omega) (hlo : b0 + l.toNat = lo := by first | ((conv => lhs; simp only [Nat.zero_add]); first | done | rfl) | rfl) : OpP P o ρ (.bsl k sz lo (h.toNat - l.toNat) C) := by
  subst hlo
  intro I M w a hop
  have q := Rp.bslLe (hx ▸ hop x (by simp [ho, Op.operands]))
  have := OpP.sliceB (P := P) (o := o) (ρ := ρ) (l := some l.toNat) (h := some h.toNat) (m := none) ho hx (OpI.so hy (nat_of h0)) (OpI.so hy2 (nat_of (by omega))) OpI.no (by simp) O O O (by simp only [Option.getD_some, Option.getD_none]; omega) (by simp only [Option.getD_some, Option.getD_none]; omega) (Nat.le_refl _) I M w a hop
  simp only [Option.getD_some, Option.getD_none, show b0 + (C - b0) = C by omega] at this
  exact this
theorem OpSN.appB {s x : Operand} {t tx e : TypeId} {z : Value} {sz bytes : Nat} [Und P t (.slice e)] [TyI P e z sz bytes] (k : Nat) (ho : o.op = .call { callee := .builtin .append, args := #[s, x], argTypes := #[t, tx] })
    (hzs : z.cells.size = sz) (hz1 : z.cells.toList.all (·.oneCell') = true) {m : Nat} {ys xs : List (List PV)} {insx : Upds} (hsv : ρ s = .sl sz xs true ∨ ρ s = .v (.slice none 0 0) ∧ xs = []) (hx : SrcG P t tx e z bytes (ρ x) sz ys insx) (hm : xs.length + ys.length = m) (hpos : 0 < ys.length) (hkin : k ∉ keys insx) (hb : m * bytes ≤ 140737488355328) (h63 : m ≤ maxLen) :
    OpSN P o ρ insx (ι := Nat) (fun d => .bsl k sz 0 m (m + d)) (fun d => [(k, .box (bxs (xs ++ ys ++ List.replicate d (z.cells.toList.map PV.v))))]) := by
  intro I M w a σ1 K1 Q hop hs hi hnew hK
  subst hm
  have h1 := hop s (by simp [ho, Op.operands, Call.operands])
  have h2 := hop x (by simp [ho, Op.operands, Call.operands])
  have hs0 : ∃ A, a.eval s = .slice A xs.length xs.length ∧ RPV M w (.slice A xs.length xs.length) (.sl sz xs) := by
    rcases hsv with hsv | ⟨hsv, rfl⟩
    · rw [hsv] at h1
      generalize eq0 : a.eval s = sv at h1
      cases h1 with
      | sl h hf =>
        have := hf O
        subst this
        have := h.len.1
        subst this
        exact ⟨_, rfl, h⟩
    · rw [hsv] at h1
      exact ⟨none, h1.val, .nil _ _ _ _ _⟩
  obtain ⟨A, eq0, r0⟩ := hs0
  obtain ⟨hk1, hk2⟩ := (hnew 0 k (by simp [keys])).resolve_left hkin
  obtain ⟨news, n2, n3, n4, n6, ncore⟩ := hx I M w σ1 _ h2 hs hi
  cases r0 with
  | sl b off u hn hc' hz' hA hM hcell h11 hu =>
  let olds := (List.range (xs.length * sz)).map u
  have hol : olds.length = xs.length * sz := by simp [olds]
  have hog : ∀ j, j < xs.length * sz → olds[j]? = some (u j) := fun j hj => by simp [olds, hj]
  have core := ncore o.type A xs.length xs.length olds hol
    (fun h0 => ⟨b, off, hA h0, fun j v hv => by
      have hj : j < xs.length * sz := by rw [← hol]; exact (List.getElem?_eq_some_iff.1 hv).1
      rw [hog j hj] at hv
      injection hv with hv; subst hv
      exact hcell j hj⟩) (fun h _ => by omega) hb h63
  rcases core with ⟨hr, _⟩ | ⟨hr, _⟩ | ⟨hr, c1, hc1, hrun⟩
  · omega
  · omega
  · obtain ⟨d, rfl⟩ : ∃ d, c1 = xs.length + ys.length + d := ⟨c1 - (xs.length + ys.length), by omega⟩
    rw [Nat.add_sub_cancel_left] at hrun
    let zs : List PV := z.cells.toList.map PV.v
    let cur : Array Value := olds.toArray ++ news.toArray ++ Builtin.zeroCells z.cells d
    let cs := bxs (xs ++ ys ++ List.replicate d zs)
    have hxl : (bxs xs).length = xs.length * sz := bx_len hz'
    have hyl : (bxs ys).length = ys.length * sz := bx_len n2
    have hzsl : zs.length = sz := by simp [zs, hzs]
    have hzl : (bxs (List.replicate d zs)).length = d * sz := by
      have := bx_len (sz := sz) (xs := List.replicate d zs) (fun y h => by rw [(List.mem_replicate.1 h).2]; exact hzsl)
      simpa using this
    have hcs : cs = bxs xs ++ (bxs ys ++ bxs (List.replicate d zs)) := by simp only [cs, bx_append, List.append_assoc]
    have hlen : cs.length = cur.size := by
      rw [hcs]
      simp only [List.length_append, hxl, hyl, hzl, cur, Array.size_append, List.size_toArray, hol, n3, size_zeroCells, hzs]
      omega
    have hcur : cur.toList = olds ++ (news ++ (Builtin.zeroCells z.cells d).toList) := by simp [cur]
    have hone : ∀ (i : Nat) (v : Value), cur[i]? = some v → v.oneCell' = true ∧ ∀ c, cs[i]? = some c → Rp I M w v c := by
      intro i v hv
      rw [← Array.getElem?_toList, hcur] at hv
      rw [hcs]
      rcases Nat.lt_or_ge i (xs.length * sz) with q | q
      · rw [List.getElem?_append_left (by omega), hog i q] at hv
        injection hv with hv; subst hv
        refine ⟨h11 i q, fun c hc => ?_⟩
        rw [List.getElem?_append_left (by omega), bxs, List.getElem?_map] at hc
        obtain ⟨p, hp, rfl⟩ := Option.map_eq_some_iff.1 hc
        exact (hu i p hp).rp
      · rw [List.getElem?_append_right (by omega), hol] at hv
        rcases Nat.lt_or_ge (i - xs.length * sz) (ys.length * sz) with q2 | q2
        · rw [List.getElem?_append_left (by omega)] at hv
          refine ⟨n4 v (List.mem_of_getElem? hv), fun c hc => ?_⟩
          rw [List.getElem?_append_right (by omega), hxl, List.getElem?_append_left (by omega), bxs, List.getElem?_map] at hc
          obtain ⟨p, hp, rfl⟩ := Option.map_eq_some_iff.1 hc
          obtain ⟨u', hu', hr'⟩ := n6 _ p hp
          rw [hv] at hu'; injection hu' with hu'; subst hu'
          exact hr'.rp
        · rw [List.getElem?_append_right (by omega), n3, Array.getElem?_toList, zeroCells_get] at hv
          split at hv
          · rename_i hlt
            injection hv with hv
            have hposz : 0 < z.cells.size := by
              rcases Nat.eq_zero_or_pos z.cells.size with h | h
              · rw [h] at hlt; omega
              · exact h
            have hmod := Nat.mod_lt (i - xs.length * sz - ys.length * sz) hposz
            simp only [hmod, getElem!_pos] at hv
            refine ⟨by rw [← hv]; exact List.all_eq_true.1 hz1 _ (by simp), fun c hc => ?_⟩
            rw [List.getElem?_append_right (by omega), hxl, List.getElem?_append_right (by omega), hyl, zbx_get] at hc
            simp only [hzsl] at hc
            rw [hzs] at hlt hmod
            rw [if_pos hlt, List.getElem?_map] at hc
            simp only [Array.getElem?_toList, hzs, List.getElem?_map, Option.map_map, zs] at hc
            rw [Array.getElem?_eq_getElem (by rw [hzs]; exact hmod)] at hc
            have : AV.v v = c := by
              rw [← hv]
              simpa [PV.av, hzs] using hc
            subst this
            exact .v _
          · cases hv
    have hsd : Sto I M w.drew σ1 := hs.stay ⟨rfl, rfl, rfl, fun _ => CI.le_refl _, ⟨Nat.le_refl _, fun _ => Nat.le_refl _, fun _ _ _ _ h => h, fun _ _ h => h⟩, fun _ _ _ => ⟨rfl, rfl⟩⟩ hs.top
    have hRp : Rp I M w.drew (.agg cur) (.agg cs) := .agg hlen.symm (fun i v hv => (hone i v hv).1) fun i v c hv hc => ((hone i v hv).2 c hc).evo (fun _ => CI.le_refl _) (show Evo M M w w.drew from ⟨Nat.le_refl _, fun _ => Nat.le_refl _, fun _ _ _ _ h => h, fun _ _ h => h⟩)
    obtain ⟨r1, r2, r3, r4⟩ := newVar_ok (t := e) hsd hRp O k hk1 hk2
    have hx3 : Ext (fun _ => False) I (fun i => if i = k then CI.box w.heap.size else I i) M M w (w.drew.alloc (.cells cur e)) := ⟨r3.os, r3.tape, r3.output, r3.le, ⟨r3.evo.size, r3.evo.mask, r3.evo.keep, r3.evo.ty⟩, r3.oth⟩
    unfold Oper.wp execOp
    simp only [ho, resolve, invoke, builtin, Sem.run_bind, Sem.run_pure, Result.andThen_ok, List.map_toArray, List.map_cons, List.map_nil, eq0, hrun]
    refine hK d _ (fun i => if i = k then CI.box w.heap.size else I i) M _ (.bsl (b := w.heap.size) (lo := 0) (C := xs.length + ys.length + d) (by simp) (by omega) (fun _ => by simp)) r2 (hx3.wide fun _ _ h => h.elim) (fun i hi => r4 i (by simpa [keys] using hi)) fun i hi b hb => ?_
    obtain rfl : i = k := by simpa [keys] using hi
    simp only [updS, if_true, blkOf] at hb
    injection hb with hb
    exact .inl (by omega)
end
inductive FzW (k sz n C T : Nat) : Fr → Fr → Prop
  | refl {l : Fr} : FzW k sz n C T l l
  | row {i n' C' : Nat} {l l' : Fr} (hn : n' = n) (hC : C' = C) (hs : FzW k sz n C T l l') : FzW k sz n C T ((i, .bsl k sz 0 n' C') :: l) ((i, .row T n) :: l')
  | same {i : Nat} {v : AV} {l l' : Fr} (hs : FzW k sz n C T l l') : FzW k sz n C T ((i, v) :: l) ((i, v) :: l')
theorem FzW.get {k sz n C T : Nat} {fr fr' : Fr} (h : FzW k sz n C T fr fr') (t : Nat) : fr.get t = fr'.get t ∨ (fr.get t = .bsl k sz 0 n C ∧ fr'.get t = .row T n) := by
  induction h with
  | refl => exact .inl O
  | @row i n' C' l l' hn hC hs ih =>
    subst hn hC
    simp only [Fr.get]
    cases Nat.beq t i with
    | true => exact .inr ⟨rfl, rfl⟩
    | false => exact ih
  | @same i v l l' hs ih =>
    simp only [Fr.get]
    cases Nat.beq t i with
    | true => exact .inl O
    | false => exact ih
theorem AW.freezeA {P : Program} {g : Ent} {c : Code} {Q : Exit → State → Prop} {fr fr' : Fr} {σ σ' : List Res} {ys : List (List PV)} (k sz : Nat) (xs zs : List (List PV)) (hk : sto σ k = .box (bxs ys)) (hys : ys = xs ++ zs) (hz : ∀ y ∈ xs, y.length = sz) (h : AW P g c Q ⟨fr', σ'⟩)
    (hf : FzF k sz xs none fr fr' := by ((repeat (first|apply FzF.cons|(apply Fz.all;(focus (first|assumption|rfl|(simp;done))))|exact Fz.same|exact FzF.refl));first|done|fail))
    (hσ : FzS k sz xs none 0 σ σ' := by ((repeat (first|(apply FzS.here;(focus rfl))|(apply FzS.box;(focus decide))|(apply FzS.same;(focus decide))|exact FzS.nil|apply FzL.cons|(apply Fz.all;(focus (first|assumption|rfl|(simp;done))))|exact Fz.same|exact FzL.refl));first|done|fail)) : AW P g c Q ⟨fr, σ⟩ := by
  subst hys
  refine AW.freeze k sz xs hk ?_ hz hf hσ h
  rw [bx_append, ← bx_len hz, List.take_left']
  rfl
theorem AW.freezeW {P : Program} {g : Ent} {c : Code} {Q : Exit → State → Prop} {fr fr' : Fr} {σ σ' : List Res} {ys : List (List PV)} (k sz : Nat) (xs zs : List (List PV)) (C : Nat) (hk : sto σ k = .box (bxs ys)) (hys : ys = xs ++ zs) (hz : ∀ y ∈ ys, y.length = sz)
    (hC : ys.length = C) (hC0 : 0 < C) (h : AW P g c Q ⟨fr', σ' ++ [.row sz xs]⟩) (hf : FzW k sz xs.length C σ.length fr fr' := by ((repeat (first|(apply FzW.row;(focus (first|rfl|(simp;done)));(focus (first|rfl|(simp;done))))|apply FzW.same|exact FzW.refl));first|done|fail)) (hσ : PutAt σ k .no σ' := by ((repeat constructor);first|done|fail)) : AW P g c Q ⟨fr, σ⟩ := by
  subst hys
  have hzx : ∀ y ∈ xs, y.length = sz := fun y hy => hz y (List.mem_append_left _ hy)
  refine AW.freezeR k sz xs C hk ?_ hzx (by rw [bx_len hz, hC]) hC0 (by rw [← hC]; simp) (fun t => hf.get t) hσ h
  rw [bx_append, ← bx_len hzx, List.take_left']
  rfl
section
end
end Go.Proofs.YtbbcokckealagaaGreat
namespace Go.Proofs.YtbbcokckealagaaGreat
set_option linter.unusedVariables false
set_option linter.unusedSimpArgs false
open Go.RowKit
def ACallsN (P : Program) (f : FuncId) (args : List AV) (σ : List Res) {ι : Type} (r : ι → AV) (σ' : ι → List Res) : Prop :=
  ∀ (I : Nat → CI) (M : Nat → Nat) (w : World) (cargs : Array Value), cargs.size = args.length → (∀ (i : Nat) (v : Value) (c : AV), cargs[i]? = some v → args[i]? = some c → Rp I M w v c) → Sto I M w (sto σ) → (∀ k, σ.length ≤ k → I k = .no) →
    Calls P f cargs w fun e w' => ∃ q cv I' M', e = .returned cv ∧ Rp I' M' w' cv (r q) ∧ Sto I' M' w' (sto (σ' q)) ∧ (∀ k, (σ' q).length ≤ k → I' k = .no) ∧ Ext (fun b => ∃ k, blkOf (I k) (sto σ k) = some b) I I' M M' w w' ∧
      ∀ k b, blkOf (I' k) (sto (σ' q) k) = some b → w.heap.size ≤ b ∨ ∃ k', blkOf (I k') (sto σ k') = some b
def RetOkN (P : Program) (fn : Func) {ι : Type} (r : ι → AV) (σ' : ι → List Res) (g : Ent) (e : Exit) (s : State) : Prop := ∃ q, RetOk P fn (r q) (σ' q) g e s
theorem RetOkN.mk {P : Program} {fn : Func} {ι : Type} {r : ι → AV} {σ' : ι → List Res} {g : Ent} {e : Exit} {s : State} (q : ι) (h : RetOk P fn (r q) (σ' q) g e s) : RetOkN P fn r σ' g e s := ⟨q, h⟩
theorem ACallsN.of {P : Program} {f : FuncId} {fn : Func} {c : Code} {args : List AV} {σ : List Res} {ι : Type} {r : ι → AV} {σ' : ι → List Res} (hf : P.funcs[f]? = some fn) (hb : fn.body = some c) (hn' : Nat.ble args.length fn.ntmps = true)
    {N : Nat} (hN : fn.ntmps = N) (h : ∀ (I : Nat → CI) (M : Nat → Nat) (w : World) (own : Nat → Prop), AW P ⟨N, σ.length, I, M, w, own⟩ c (RetOkN P fn r σ' ⟨N, σ.length, I, M, w, own⟩) ⟨argFr args 0, σ⟩) : ACallsN P f args σ r σ' := by
  have hn := Nat.le_of_ble_eq_true hn'
  intro I M w cargs ha hav hs hno
  refine calls_of_wp hf hb ?_
  let g : Ent := ⟨fn.ntmps, σ.length, I, M, w, fun b => ∃ k, blkOf (I k) (sto σ k) = some b⟩
  subst hN
  refine wp_mono (h I M w g.own I M w _ ⟨⟨by simp [ha, g]; omega, fun t => ?_⟩, rfl, hs, Nat.le_refl _, hno, Ext.refl _ _ _ _, fun k b hb => .inr ⟨k, hb⟩, hno⟩) fun e a' w' ⟨I', M', s', h1, h2⟩ => ?_
  · rw [argFr_get]
    simp only [Nat.zero_le, if_true, Nat.sub_zero]
    cases hc : args[t]? with
    | none => exact .any _
    | some v =>
      have ht : t < cargs.size := by rw [ha]; exact (List.getElem?_eq_some_iff.1 hc).1
      refine hav t _ v ?_ hc
      have h2 : (cargs ++ Array.replicate (fn.ntmps - cargs.size) undef)[t]? = some cargs[t] := by rw [Array.getElem?_append_left ht]; simp [ht]
      have h3 : (cargs ++ Array.replicate (fn.ntmps - cargs.size) undef).getD t undef = cargs[t] := by simp [Array.getD_eq_getD_getElem?, h2]
      rw [h3]; simp [ht]
  · have fin : RetOkN P fn r σ' g .ret s' → a'.defers = [] ∧ ∃ v, (results fn a'.tmps).run P w' = .ok v w' ∧ ∃ q cv I' M', Ending.returned v = .returned cv ∧ Rp I' M' w' cv (r q) ∧ Sto I' M' w' (sto (σ' q)) ∧ (∀ k, (σ' q).length ≤ k → I' k = .no) ∧ Ext (fun b => ∃ k, blkOf (I k) (sto σ k) = some b) I I' M M' w w' ∧
        ∀ k b, blkOf (I' k) (sto (σ' q) k) = some b → w.heap.size ≤ b ∨ ∃ k', blkOf (I k') (sto σ k') = some b := by
      rintro ⟨q, vs, S, q1, q2, q3, q4, q5, q6, q7⟩
      obtain ⟨us, u1, u2, u3⟩ := q1.run h1.fr h1.st
      refine ⟨h1.df, _, run_results u1, ?_⟩
      have hv : Rp I' M' w' (resVal us) (resV vs) := by
        match us, vs, u2, u3 with
        | [], [], _, _ => exact .tup O (fun i v c h => by simp at h)
        | [u], [v], _, u3 => exact u3 0 u v O O
        | u :: u' :: r, v :: v' :: r', u2, u3 => exact .tup (by simpa using u2) (fun i x c hx hc => u3 i x c (by simpa using hx) hc)
      obtain ⟨c1, c2, c3⟩ := h1.st.conv q2 q7
      have hSl := q7.get.1
      refine ⟨q, _, _, M', rfl, c2 _ _ q6 (q5 I' M' w' _ h1.st hv), c1, fun k hk => by simp [show ¬ k < (σ' q).length by omega], ⟨h1.ext.os, h1.ext.tape, h1.ext.output, fun k => ?_, h1.ext.evo, h1.ext.oth⟩, fun k b hb => h1.ini _ _ (c3 k b hb).2⟩
      rcases Nat.lt_or_ge k σ.length with hk | hk
      · simp only [fixB, List.all_eq_true] at q3
        have h1' : renL S k = k := Nat.eq_of_beq_eq_true (q3 k (List.mem_range.2 hk))
        have : k < (σ' q).length := by have : g.p = σ.length := rfl; omega
        simp only [this, if_true, h1']
        exact h1.ext.le k
      · rw [hno k hk]; trivial
    cases e with
    | ret => exact fin h2
    | normal => exact fin h2
    | _ => exact h2.elim fun _ h => h.elim
theorem OpSN.call {P : Program} {o : Oper} {ρ : Operand → AV} {x : Operand} {ops : Array Operand} {ts : Array TypeId} {f : FuncId} {caps args0 : List AV} {σc : List Res} {ι : Type} {σc' : ι → List Res} {r0 : ι → AV} {ins : Upds} [CallI P f] (S : List Nat) (nx : Nat) (hc : ACallsN P f args0 σc r0 σc')
    (ho : o.op = .call { callee := .value x, args := ops, argTypes := ts }) (hx : ρ x = .fn f caps) (hargs : AV.rens (renC S nx) args0 = ops.toList.map ρ ++ caps) (hnd : nodupB S = true) (hnx : S.all (fun k => Nat.blt k nx) = true) (hl : Nat.beq S.length σc.length = true) (hl' : ∀ q, Nat.ble σc.length (σc' q).length = true)
    (hlt : ∀ q, (σc' q).all (Res.lt (σc' q).length) = true) (hrl : ∀ q, (r0 q).lt (σc' q).length = true) (hlt0 : σc.all (Res.lt σc.length) = true) (hal : AV.lts σc.length args0 = true) (hins : insOf S (renC S nx) σc = ins) (hnt : noB caps = true) : OpSN P o ρ ins (fun q => (r0 q).ren (renC S nx)) (fun q => outsOf (renC S nx) 0 (σc' q)) := by
  intro I M w a σ K Q hop hs hi hnew hK
  subst hins
  have hl := Nat.eq_of_beq_eq_true hl
  have hinj : ∀ a b, renC S nx a = renC S nx b → a = b := by
    intro a b h
    have hS : ∀ i, i < S.length → S.getD i 0 < nx := by
      intro i hi
      have := (List.all_eq_true.1 hnx) (S.getD i 0) (by rw [List.getD_eq_getElem?_getD, List.getElem?_eq_getElem hi]; exact List.getElem_mem _)
      rwa [Nat.blt_eq] at this
    have bl : ∀ i, (i < S.length ∧ renC S nx i = S.getD i 0) ∨ (S.length ≤ i ∧ renC S nx i = nx + (i - S.length)) := by
      intro i
      unfold renC
      cases hb : Nat.blt i S.length with
      | true => left; rw [Nat.blt_eq] at hb; exact ⟨hb, rfl⟩
      | false =>
        right
        have : ¬ i < S.length := by rw [← Nat.blt_eq, hb]; simp
        exact ⟨by omega, rfl⟩
    rcases bl a with ⟨a1, a2⟩ | ⟨a1, a2⟩ <;> rcases bl b with ⟨b1, b2⟩ | ⟨b1, b2⟩
    · rw [a2, b2] at h
      rcases Nat.lt_trichotomy a b with q | q | q
      · exact absurd h (nodupB_spec hnd a b q b1)
      · exact q
      · exact absurd h.symm (nodupB_spec hnd b a q a1)
    · have := hS a a1; rw [a2, b2] at h; omega
    · have := hS b b1; rw [a2, b2] at h; omega
    · rw [a2, b2] at h; omega
  have rlow : ∀ i, i < σc.length → renC S nx i = S.getD i 0 := by
    intro i hi
    have : Nat.blt i S.length = true := by rw [Nat.blt_eq]; omega
    simp [renC, this]
  have hkeys : keys (insOf S (renC S nx) σc) = S := keys_insOf _ _ _ hl
  -- what the callee is given
  let Ic : Nat → CI := fun i => if i < σc.length then I (renC S nx i) else .no
  have hsto : ∀ i r, σc[i]? = some r → σ (renC S nx i) = r.ren (renC S nx) := by
    intro i r hr
    have hlt := (List.getElem?_eq_some_iff.1 hr).1
    have := hi _ (insOf_get (renC S nx) S σc hl i r hr)
    rw [rlow i hlt]; exact this
  have hblk : ∀ i b, blkOf (Ic i) (sto σc i) = some b → i < σc.length ∧ blkOf (I (renC S nx i)) (σ (renC S nx i)) = some b := by
    intro i b hb
    rcases Nat.lt_or_ge i σc.length with h | h
    · have h1 : sto σc i = σc[i] := by simp [sto, List.getD, h]
      rw [h1] at hb
      simp only [Ic, if_pos h] at hb
      rw [hsto i σc[i] (by simp [h]), blk_ren]
      exact ⟨h, hb⟩
    · simp only [Ic, if_neg (show ¬ i < σc.length by omega)] at hb
      cases hq : sto σc i <;> rw [hq] at hb <;> cases hb
  have rpc : ∀ v p, p.lt σc.length = true → Rp I M w v (p.ren (renC S nx)) → Rp Ic M w v p := fun v p hp h =>
    Rp.agree (I := fun i => I (renC S nx i)) (n := σc.length) (fun k hk => by simp [Ic, hk]) (Rp.unname h p O) hp
  have hsc : Sto Ic M w (sto σc) := by
    refine ⟨fun k => ?_, fun k k' b hne hb hb' => ?_, hs.top, hs.tab⟩
    · rcases Nat.lt_or_ge k σc.length with h | h
      · have h1 : sto σc k = σc[k] := by simp [sto, List.getD, h]
        have hI : Ic k = I (renC S nx k) := by simp [Ic, h]
        have ho := hs.own (renC S nx k)
        rw [hsto k σc[k] (by simp [h])] at ho
        rw [h1, hI]
        have hlt1 := (List.all_eq_true.1 hlt0) σc[k] (List.getElem_mem _)
        generalize σc[k] = q at ho hlt1
        cases q with
        | no => trivial
        | row sz xs => exact ho
        | mby l => exact ho
        | box cs =>
          obtain ⟨b, cur, e, e1, e2, e3, e4, e5, e6⟩ := ho
          refine ⟨b, cur, e, e1, e2, e3, by rw [e4, AV.rens_map]; simp, e5, fun i v c hv hc => ?_⟩
          exact rpc v c (AV.lts_get hlt1 hc) (e6 i v _ hv (by rw [AV.rens_map, List.getElem?_map, hc]; rfl))
      · have : sto σc k = .no := by simp [sto, List.getElem?_eq_none h]
        rw [this]; trivial
    · obtain ⟨a1, a2⟩ := hblk k b hb
      obtain ⟨b1, b2⟩ := hblk k' b hb'
      exact hs.dis _ _ b (fun e => hne (hinj _ _ e)) a2 b2
  have hxv := hop x (by simp [ho, Op.operands, Call.operands])
  rw [hx] at hxv
  generalize hxe : a.eval x = xv at hxv
  cases hxv with
  | fnb h => simp [noB] at hnt
  | @fn _ vs _ hvs hcs =>
  have hcall := hc Ic M w (ops.map a.eval ++ vs) (by
      have := congrArg List.length hargs
      rw [AV.rens_map] at this
      simp at this ⊢; omega) (fun i v c hv hc' => by
      refine rpc v c (AV.lts_get hal hc') ?_
      have h1 : (AV.rens (renC S nx) args0)[i]? = some (c.ren (renC S nx)) := by rw [AV.rens_map, List.getElem?_map, hc']; rfl
      rw [hargs] at h1
      rcases Nat.lt_or_ge i ops.size with h | h
      · rw [Array.getElem?_append_left (by simpa using h), Array.getElem?_map] at hv
        rw [List.getElem?_append_left (by simpa using h), List.getElem?_map] at h1
        obtain ⟨y, hy, rfl⟩ := Option.map_eq_some_iff.1 hv
        obtain ⟨y', hy', h2⟩ := Option.map_eq_some_iff.1 h1
        rw [Array.getElem?_toList, hy] at hy'
        injection hy' with hy'
        subst hy'
        rw [← h2]
        refine hop y ?_
        simp only [ho, Op.operands, Call.operands, Array.toList_append, List.mem_append]
        exact .inr (by simpa using Array.mem_of_getElem? hy)
      · rw [Array.getElem?_append_right (by simpa using h)] at hv
        rw [List.getElem?_append_right (by simpa using h)] at h1
        exact hcs _ v _ (by simpa using hv) (by simpa using h1)) hsc (fun k hk => by simp [Ic, show ¬ k < σc.length by omega])
  have hfn : ∃ fn, P.funcs[f]? = some fn ∧ (fn.name == "runtime.NumGoroutine") = false ∧ fn.body.isNone = false := by
    have := CallI.eq (P := P) (f := f)
    cases hq : P.funcs[f]? with
    | none => rw [hq] at this; cases this
    | some fn =>
      rw [hq] at this
      simp only [Option.map_some, Option.some.injEq, Prod.mk.injEq] at this
      exact ⟨fn, rfl, this⟩
  obtain ⟨fn, hf1, hf2, hf3⟩ := hfn
  have hexec : (execOp a.eval o).run P w = .ok (.enter f (ops.map a.eval ++ vs)) w := by
    have hf3' : ¬ fn.body = none := by intro h; rw [h] at hf3; cases hf3
    have hf2' : ¬ fn.name = "runtime.NumGoroutine" := by intro h; rw [h] at hf2; simp at hf2
    simp [execOp, ho, resolve, hxe, Deferred.ofValue, invoke, callFunc, hf1, hf2', hf3']
  unfold Oper.wp
  rw [hexec, Oper.upon_enter]
  refine Calls.mono hcall ?_
  rintro e w' ⟨q, cv, I', M', rfl, g1, g2, g3, g4, g5⟩
  have hl' := Nat.le_of_ble_eq_true (hl' q)
  have hlt := hlt q
  have hrl := hrl q
  have hK := hK q
  have hnew := hnew q
  simp only
  -- the callee's numbers as ours
  let Iw : Nat → CI := fun k => if h : ∃ i, i < (σc' q).length ∧ k = renC S nx i then I' (Classical.choose h) else I k
  have hIw : ∀ i, i < (σc' q).length → Iw (renC S nx i) = I' i := by
    intro i hi
    have hex : ∃ j, j < (σc' q).length ∧ renC S nx i = renC S nx j := ⟨i, hi, rfl⟩
    simp only [Iw, dif_pos hex]
    rw [← hinj _ _ (Classical.choose_spec hex).2]
  have hIn : ∀ k, k ∉ keys (outsOf (renC S nx) 0 (σc' q)) → Iw k = I k := by
    intro k hk
    have hne : ¬ ∃ i, i < (σc' q).length ∧ k = renC S nx i := fun ⟨i, hi, he⟩ => hk ((outsOf_key _ _ _ _).2 ⟨i, hi, by rw [Nat.zero_add]; exact he⟩)
    simp only [Iw, dif_neg hne]
  have hle : ∀ k, (I k).le (Iw k) := by
    intro k
    by_cases hk : k ∈ keys (outsOf (renC S nx) 0 (σc' q))
    · obtain ⟨i, hi, rfl⟩ := (outsOf_key _ _ _ _).1 hk
      rw [Nat.zero_add, hIw i hi]
      rcases Nat.lt_or_ge i σc.length with h | h
      · have := g4.le i
        simpa only [Ic, if_pos h] using this
      · rcases hnew _ hk with p | ⟨_, p⟩
        · rw [hkeys, Nat.zero_add] at p
          have := (List.all_eq_true.1 hnx) _ p
          rw [Nat.blt_eq] at this
          have : Nat.blt i S.length = false := by
            cases hb : Nat.blt i S.length with
            | false => rfl
            | true => rw [Nat.blt_eq] at hb; omega
          simp only [renC, this] at *
          omega
        · rw [Nat.zero_add] at p; rw [p]; trivial
    · rw [hIn k hk]; exact CI.le_refl _
  have rpw : ∀ v p, p.lt (σc' q).length = true → Rp I' M' w' v p → Rp Iw M' w' v (p.ren (renC S nx)) := fun v p hp h =>
    Rp.rename (Rp.agree (I' := fun i => Iw (renC S nx i)) (n := (σc' q).length) (fun k hk => hIw k hk) h hp)
  have own_in : ∀ b, (∃ k, blkOf (Ic k) (sto σc k) = some b) → ∃ k ∈ S, blkOf (I k) (σ k) = some b := by
    rintro b ⟨k, hb⟩
    obtain ⟨h1, h2⟩ := hblk k b hb
    rw [rlow k h1] at h2
    exact ⟨S.getD k 0, by rw [List.getD_eq_getElem?_getD, List.getElem?_eq_getElem (by omega)]; exact List.getElem_mem _, h2⟩
  have hext : Ext (fun b => ∃ k ∈ S, blkOf (I k) (σ k) = some b) I Iw M M' w w' := by
    have := g4.wide (own' := fun b => ∃ k ∈ S, blkOf (I k) (σ k) = some b) (fun b _ h => own_in b h)
    exact ⟨this.os, this.tape, this.output, hle, this.evo, this.oth⟩
  have hupd : ∀ i r, (σc' q)[i]? = some r → updS σ (outsOf (renC S nx) 0 (σc' q)) (renC S nx i) = r.ren (renC S nx) := by
    intro i r hr
    have := outsOf_get (σ := σ) (renC S nx) (σc' q) 0 (fun a b _ _ h => hinj a b h) i r hr
    rwa [Nat.zero_add] at this
  have hbw : ∀ i b, i < (σc' q).length → blkOf (Iw (renC S nx i)) (updS σ (outsOf (renC S nx) 0 (σc' q)) (renC S nx i)) = some b → w.heap.size ≤ b ∨ ∃ k ∈ S, blkOf (I k) (σ k) = some b := by
    intro i b hi hb
    rw [hIw i hi, hupd i (σc' q)[i] (by simp [hi]), blk_ren] at hb
    rcases g5 i b (by simpa [sto, List.getD, hi] using hb) with p | p
    · exact .inl p
    · exact .inr (own_in b p)
  refine hK cv Iw M' w' (rpw cv (r0 q) hrl g1) ?_ (by rw [hkeys]; exact hext) hIn fun k hk b hb => ?_
  · refine hs.upd (keys (outsOf (renC S nx) 0 (σc' q))) hext (fun b ⟨k, hk, hb⟩ => ⟨k, (outsOf_key _ _ _ _).2 ?_, hb⟩) hIn (fun k hk => updS_other _ _ _ hk) (fun k hk => ?_) (fun k hk b hb => ?_) (fun k hk k' hk' b hne hb hb' => ?_) g2.top
    · obtain ⟨i, hi, rfl⟩ := List.getElem_of_mem hk
      refine ⟨i, by omega, ?_⟩
      rw [Nat.zero_add, rlow i (by omega)]
      simp [List.getD, hi]
    · obtain ⟨i, hi, rfl⟩ := (outsOf_key _ _ _ _).1 hk
      rw [Nat.zero_add, hIw i hi, hupd i (σc' q)[i] (by simp [hi])]
      have ho := g2.own i
      have h1 : sto (σc' q) i = (σc' q)[i] := by simp [sto, List.getD, hi]
      rw [h1] at ho
      have hlt1 := (List.all_eq_true.1 hlt) (σc' q)[i] (List.getElem_mem _)
      generalize (σc' q)[i] = p at ho hlt1
      cases p with
      | no => trivial
      | row sz xs => exact ho
      | mby l => exact ho
      | box cs =>
        obtain ⟨b, cur, e, e1, e2, e3, e4, e5, e6⟩ := ho
        refine ⟨b, cur, e, e1, e2, e3, by rw [e4, AV.rens_map]; simp, e5, fun j v c hv hc => ?_⟩
        rw [AV.rens_map, List.getElem?_map] at hc
        obtain ⟨c0, hc0, rfl⟩ := Option.map_eq_some_iff.1 hc
        exact rpw v c0 (AV.lts_get hlt1 hc0) (e6 j v c0 hv hc0)
    · obtain ⟨i, hi, rfl⟩ := (outsOf_key _ _ _ _).1 hk
      rw [Nat.zero_add] at hb
      rcases hbw i b hi hb with p | ⟨k, hk, p⟩
      · exact .inl p
      · right
        obtain ⟨j, hj, rfl⟩ := List.getElem_of_mem hk
        refine ⟨_, (outsOf_key _ _ _ _).2 ⟨j, by omega, ?_⟩, p⟩
        rw [Nat.zero_add, rlow j (by omega)]
        simp [List.getD, hj]
    · obtain ⟨i, hi, rfl⟩ := (outsOf_key _ _ _ _).1 hk
      obtain ⟨j, hj, rfl⟩ := (outsOf_key _ _ _ _).1 hk'
      rw [Nat.zero_add] at hb hb' hne
      rw [hIw i hi, hupd i (σc' q)[i] (by simp [hi]), blk_ren] at hb
      rw [hIw j hj, hupd j (σc' q)[j] (by simp [hj]), blk_ren] at hb'
      exact g2.dis i j b (fun e => hne (by rw [e, Nat.zero_add])) (by simpa [sto, List.getD, hi] using hb) (by simpa [sto, List.getD, hj] using hb')
  · obtain ⟨i, hi, rfl⟩ := (outsOf_key _ _ _ _).1 hk
    rw [Nat.zero_add] at hb
    rw [hkeys]
    exact hbw i b hi hb
section
variable {P : Program} {n : Nat} {ops : List Oper} {chk : List FP → Bool} {K : State → Prop} {rest : List Oper} {o : Oper} {fr : Fr} {σ : List Res} {acc : List FP}
theorem Run.cN {d nx : Nat} {x : Operand} {os : Array Operand} {ts : Array TypeId} {f : FuncId} {caps args0 : List AV} {σc : List Res} {ι : Type} {σc' σ' : ι → List Res} {r0 r : ι → AV} {outs : ι → Upds} {k2 : List Nat} (S : List Nat) (hc : ACallsN P f args0 σc r0 σc') (hall : ∀ acc, chk acc = true) (ho : o.dst = some d) (hop : o.op = .call { callee := .value x, args := os, argTypes := ts }) (hw : wantA ops fr o = some true) (hd : Nat.blt d n = true)
    [CallI P f] (hx : evA fr x = .fn f caps) (hS : nodupB S = true) (hl : Nat.beq S.length σc.length = true) (hl' : ∀ q, Nat.ble σc.length (σc' q).length = true) (hlt : ∀ q, (σc' q).all (Res.lt (σc' q).length) = true) (hrl : ∀ q, (r0 q).lt (σc' q).length = true)
    (hlt0 : σc.all (Res.lt σc.length) = true) (hal : AV.lts σc.length args0 = true) (he : Ends σ nx) (hargs : RenLs (renC S nx) args0 (os.toList.map (evA fr) ++ caps)) (hi : InsI σ (renC S nx) S σc) (hSn : S.all (fun k => Nat.blt k nx) = true)
    (hr0 : ∀ q, RenR (renC S nx) (r0 q) (r q)) (hou : ∀ q, OutI (renC S nx) 0 (σc' q) (outs q)) (hok : ∀ q, okU σ.length (outs q) = true) (hpu : ∀ q, Puts σ (outs q) (σ' q)) (hk2 : ∀ q, keys (outs q) = k2) (hnew : k2.all (fun k => S.any (Nat.beq k) || Nat.ble nx k) = true)
    (hr : ∀ q, Run P n ops chk K rest ⟨(d, r q) :: fr, σ' q⟩ acc) (hnt : noB caps = true := by rfl) : Run P n ops chk K (o :: rest) ⟨fr, σ⟩ acc := by
  refine .opN hall hw (by rw [ho]; exact hd) (OpSN.call S nx hc hop hx hargs.spec hS hSn hl hl' hlt hrl hlt0 hal O hnt) hi.spec (fun q => by rw [(hou q).spec]; exact hok q) (fun q k hk => ?_) (fun q => by rw [ho, (hou q).spec, (hpu q).spec, (hr0 q).spec]; exact hr q)
  rw [(hou q).spec, hk2 q] at hk
  have h1 := (List.all_eq_true.1 hnew) k hk
  rw [Bool.or_eq_true] at h1
  rcases h1 with h1 | h1
  · left
    rw [keys_insOf _ _ _ (Nat.eq_of_beq_eq_true hl)]
    obtain ⟨k', hk', he'⟩ := List.any_eq_true.1 h1
    rw [Nat.eq_of_beq_eq_true he']; exact hk'
  · right
    rw [← he.spec]; exact Nat.le_of_ble_eq_true h1
end
end Go.Proofs.YtbbcokckealagaaGreat
