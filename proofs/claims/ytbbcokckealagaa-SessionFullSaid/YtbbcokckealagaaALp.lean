/-
  Loops, and slices that a loop begins to own, over values without addresses. Nothing of the dump is used; no condition.
-/
import Derived.Test.YtbbcokckealagaaASt
namespace Go.Proofs.Ytbbcokckealagaa
open Go.RowKit
set_option linter.unusedVariables false
set_option linter.unusedSimpArgs false
/-- whatever state s tells, state s' tells -/
def Conv (g : Ent) (s s' : State) : Prop := ∀ (I : Nat → CI) (M : Nat → Nat) (w : World) (a : Act), St g I M w a s → ∃ I' M', St g I' M' w a s'
theorem Conv.trans {g : Ent} {s s' s'' : State} (h : Conv g s s') (k : Conv g s' s'') : Conv g s s'' := fun I M w a hst => by
  obtain ⟨I', M', h1⟩ := h I M w a hst
  exact k I' M' w a h1
theorem Conv.refl {g : Ent} {s : State} : Conv g s s := fun I M w a h => ⟨I, M, h⟩
theorem Conv.mk {g : Ent} {s s' : State} (S : List Nat) (hnd : nodupB S = true) (hp : fixB g.p S = true) (hl : Nat.ble g.p S.length = true) (hf : Cf (sto s.σ) s.fr (renL S) s'.fr) (hfl : s'.fr.lt s'.σ.length = true) (hc : Crs (sto s.σ) (renL S) s'.σ.length S s'.σ) : Conv g s s' :=
  fun I M w a hst => hst.conv S hnd hp (Nat.le_of_ble_eq_true hl) hf hfl hc
theorem AW.conv {P : Program} {g : Ent} {c : Code} {Q : Exit → State → Prop} {s s' : State} (h : Conv g s s') (k : AW P g c Q s') : AW P g c Q s := fun I M w a hst => by
  obtain ⟨I', M', h1⟩ := h I M w a hst
  exact k I' M' w a h1
theorem AW.loopF {P : Program} {g : Ent} {c : Code} {Q : Exit → State → Prop} {s : State} {X : Type} (F : X → State) (C : X → Prop) (m : X → Nat) (x0 : X) (hs : Conv g s (F x0)) (h0 : C x0)
    (round : ∀ x, C x → AW P g c (thenA (fun s' => ∃ x', C x' ∧ m x' < m x ∧ Conv g s' (F x')) Q) (F x)) : AW P g (.loop c) Q s := AW.loop F C m x0 hs h0 round
section
variable {g : Ent} {I : Nat → CI} {M : Nat → Nat} {w : World} {a : Act} {fr : Fr} {σ : List Res}
/-- a slice without spare places becomes a row of one's own: what this leaves of the numbered things -/
theorem own_ok (h : St g I M w a ⟨fr, σ⟩) {A : Option Addr} {sz : Nat} {xs : List (List PV)} (hr : RPV M w (.slice A xs.length xs.length) (.sl sz xs)) :
    let I' := fun i => if i = σ.length then CI.row xs sz A xs.length else I i
    Rp I' M w (.slice A xs.length xs.length) (.row σ.length xs.length) ∧ St g I' M w a ⟨fr, σ ++ [.row sz xs]⟩ := by
  intro I'
  have hno := h.no σ.length (Nat.le_refl _)
  have hIk : I' σ.length = .row xs sz A xs.length := by simp [I']
  have hle : ∀ i, (I i).le (I' i) := by
    intro i
    by_cases hi : i = σ.length
    · rw [hi, hno]; trivial
    · simp only [I', if_neg hi]; exact CI.le_refl _
  have hext : Ext (fun _ => False) I I' M M w w := ⟨rfl, rfl, rfl, hle, Evo.refl _ _, fun _ _ _ => ⟨rfl, rfl⟩⟩
  have hsto : sto (σ ++ [.row sz xs]) = updS (sto σ) [(σ.length, .row sz xs)] := by
    funext k
    have := sto_putR σ σ.length (.row sz xs) (Nat.le_refl _) k
    have h2 : putR σ σ.length (.row sz xs) = σ ++ [.row sz xs] := by
      unfold putR
      have : Nat.blt σ.length σ.length = false := by
        cases hb : Nat.blt σ.length σ.length with
        | false => rfl
        | true => rw [Nat.blt_eq] at hb; omega
      rw [this]
    rw [h2] at this
    rw [this]; rfl
  have hblk : blkOf (I' σ.length) (.row sz xs) = none := by rw [hIk]; simp [blkOf]
  have hst : Sto I' M w (sto (σ ++ [.row sz xs])) := by
    rw [hsto]
    refine h.st.upd [σ.length] hext (fun _ h => h.elim) (fun i hi => ?_) (fun i hi => updS_other _ _ _ (by simpa [keys] using hi)) (fun i hi => ?_) (fun i hi b hb => ?_) (fun i hi j hj b hne => ?_) h.st.top
    · have : i ≠ σ.length := by simpa using hi
      simp [I', this]
    · obtain rfl : i = σ.length := by simpa using hi
      simp only [updS, if_true, hIk]
      exact ⟨A, xs.length, rfl, hr, fun hne => absurd rfl hne⟩
    · obtain rfl : i = σ.length := by simpa using hi
      simp only [updS, if_true, hblk] at hb
      cases hb
    · obtain rfl : i = σ.length := by simpa using hi
      obtain rfl : j = σ.length := by simpa using hj
      exact absurd rfl hne
  refine ⟨.row hIk (Nat.le_refl _) (by rw [List.take_length]; exact hr) fun _ => ⟨rfl, rfl⟩, ⟨h.fr.evo hle (Evo.refl _ _), h.df, hst, by have := h.len; simp at this ⊢; omega, fun k hk => ?_, h.ext.trans hext (fun _ _ h => h.elim), fun k b hb => ?_, h.gno⟩⟩
  · simp only [List.length_append, List.length_cons, List.length_nil] at hk
    simp only [I', if_neg (show k ≠ σ.length by omega)]
    exact h.no k (by simp only; omega)
  · simp only at hb
    rw [hsto] at hb
    by_cases hk : k = σ.length
    · subst hk
      simp only [updS, if_true, hblk] at hb
      cases hb
    · simp only [updS, if_neg hk, I', if_neg hk] at hb
      exact h.ini k b hb
theorem full_of (h : St g I M w a ⟨fr, σ⟩) {v : Value} {p : AV} {sz : Nat} {xs : List (List PV)} (hv : Rp I M w v p) (hp : p = .sl sz xs true ∨ p = .v (.slice none 0 0) ∧ xs = []) : ∃ A, v = .slice A xs.length xs.length ∧ RPV M w v (.sl sz xs) := by
  rcases hp with rfl | ⟨rfl, rfl⟩
  · cases hv with
    | sl h hf =>
      have := hf rfl
      subst this
      have := h.len.1
      subst this
      exact ⟨_, rfl, h⟩
  · exact ⟨none, hv.val, by rw [hv.val]; exact .nil _ _ _ _ _⟩
end
/-- slot t holds a slice without spare places: from here on a row of one's own -/
theorem Conv.own {g : Ent} {fr : Fr} {σ : List Res} {s' : State} (t : Nat) (sz : Nat) (xs : List (List PV)) (hp : fr.get t = .sl sz xs true ∨ fr.get t = .v (.slice none 0 0) ∧ xs = []) (h : Conv g ⟨(t, .row σ.length xs.length) :: fr, σ ++ [.row sz xs]⟩ s') : Conv g ⟨fr, σ⟩ s' := fun I M w a hst => by
  obtain ⟨A, hv, hr⟩ := full_of hst (hst.fr.2 t) hp
  rw [hv] at hr
  obtain ⟨r1, r2⟩ := own_ok hst hr
  refine h _ M w a ⟨⟨r2.fr.1, fun t' => ?_⟩, r2.df, r2.st, r2.len, r2.no, r2.ext, r2.ini, r2.gno⟩
  simp only [Fr.get]
  cases hb : Nat.beq t' t with
  | true => obtain rfl := Nat.eq_of_beq_eq_true hb; simp only; rw [hv]; exact r1
  | false => exact r2.fr.2 t'
/-- cell i of variable k holds such a slice -/
theorem Conv.ownB {g : Ent} {fr : Fr} {σ : List Res} {s' : State} (k i : Nat) (sz : Nat) (xs : List (List PV)) {cs cs' : List AV} {c : AV} {σ' : List Res} (hk : sto σ k = .box cs) (hc : cs[i]? = some c) (hp : c = .sl sz xs true ∨ c = .v (.slice none 0 0) ∧ xs = []) (ho : Over cs i [.row σ.length xs.length] cs') (hσ : PutAt σ k (.box cs') σ')
    (h : Conv g ⟨fr, σ' ++ [.row sz xs]⟩ s') : Conv g ⟨fr, σ⟩ s' := fun I M w a hst => by
  have own := hst.st.own k
  simp only at own
  rw [hk] at own
  obtain ⟨b, cur, e, e1, e2, e3, e4, e5, e6⟩ := own
  have hil : i < cs.length := (List.getElem?_eq_some_iff.1 hc).1
  have hcur : cur[i]? = some cur[i] := by simp [show i < cur.size by omega]
  obtain ⟨A, hv, hr⟩ := full_of hst (e6 i _ c hcur hc) hp
  rw [hv] at hr
  obtain ⟨r1, r2⟩ := own_ok hst hr
  obtain ⟨p1, p2⟩ := hσ.spec
  obtain ⟨o1, o2⟩ := ho.spec
  have hkl : k < σ.length := by
    rcases Nat.lt_or_ge k σ.length with h | h
    · exact h
    · have : sto σ k = .no := by simp [sto, List.getElem?_eq_none h]
      rw [this] at hk; cases hk
  have hlen : σ'.length = σ.length := by rw [← p2, putR_len _ _ _ p1, if_neg (by omega)]
  have hcs : cs'.length = cs.length := by rw [← o2]; simp at o1 ⊢; omega
  have hget : ∀ j c', cs'[j]? = some c' → (j = i ∧ c' = .row σ.length xs.length) ∨ (j ≠ i ∧ cs[j]? = some c') := by
    intro j c' hj
    rw [← o2] at hj
    simp only [List.length_cons, List.length_nil] at o1 hj
    rcases Nat.lt_trichotomy j i with q | q | q
    · rw [List.getElem?_append_left (by simp; omega), List.getElem?_take, if_pos q] at hj
      exact .inr ⟨by omega, hj⟩
    · subst q
      rw [List.getElem?_append_right (by rw [List.length_take]; omega), List.length_take, Nat.min_eq_left (by omega), Nat.sub_self] at hj
      simp at hj
      exact .inl ⟨rfl, hj.symm⟩
    · rw [List.getElem?_append_right (by simp; omega), List.length_take, Nat.min_eq_left (by omega), List.getElem?_append_right (by simp; omega), List.getElem?_drop] at hj
      refine .inr ⟨by omega, ?_⟩
      rw [← hj]; congr 1; simp; omega
  have hs1 : ∀ j, sto (σ' ++ [.row sz xs]) j = if j = k then .box cs' else sto (σ ++ [.row sz xs]) j := by
    intro j
    have q := sto_putR σ k (.box cs') p1 j
    rw [p2] at q
    by_cases hjl : j < σ.length
    · have a1 : sto (σ' ++ [.row sz xs]) j = sto σ' j := by simp only [sto, List.getD_eq_getElem?_getD]; rw [List.getElem?_append_left (by omega)]
      have a2 : sto (σ ++ [.row sz xs]) j = sto σ j := by simp only [sto, List.getD_eq_getElem?_getD]; rw [List.getElem?_append_left hjl]
      rw [a1, a2, q]
    · rw [if_neg (by omega)]
      simp only [sto, List.getD_eq_getElem?_getD]
      rw [List.getElem?_append_right (by omega), List.getElem?_append_right (by omega), hlen]
  have hIk : (if k = σ.length then CI.row xs sz A xs.length else I k) = I k := if_neg (by omega)
  have hsk : sto (σ ++ [.row sz xs]) k = .box cs := by
    simp only [sto, List.getD_eq_getElem?_getD] at hk ⊢
    rw [List.getElem?_append_left hkl]; exact hk
  have blk : ∀ j ci, blkOf ci (sto (σ' ++ [.row sz xs]) j) = blkOf ci (sto (σ ++ [.row sz xs]) j) := by
    intro j ci
    rw [hs1]
    by_cases hj : j = k
    · rw [if_pos hj]; subst hj; rw [hsk]; cases ci <;> rfl
    · rw [if_neg hj]
  refine h _ M w a ⟨r2.fr, r2.df, ⟨fun j => ?_, fun j j' b hne hb => ?_, r2.st.top, r2.st.tab⟩, by have := r2.len; simp at this ⊢; omega, fun j hj => r2.no j (by simp at hj ⊢; omega), r2.ext, fun j b hb => ?_, r2.gno⟩
  · have o := r2.st.own j
    simp only at o ⊢
    rw [hs1]
    by_cases hj : j = k
    · rw [if_pos hj]
      subst hj
      rw [hsk] at o
      obtain ⟨b', cur', e', f1, f2, f3, f4, f5, f6⟩ := o
      refine ⟨b', cur', e', f1, f2, f3, by omega, f5, fun i' v' c' hv' hc' => ?_⟩
      rcases hget i' c' hc' with ⟨rfl, rfl⟩ | ⟨_, hc'⟩
      · have hbb : b' = b := by
          rw [hIk, e1] at f1
          injection f1 with f1; exact f1.symm
        subst hbb
        rw [e2] at f2
        injection f2 with f2
        injection f2 with f2
        subst f2
        rw [hcur] at hv'
        injection hv' with hv'
        rw [← hv', hv]; exact r1
      · exact f6 i' v' c' hv' hc'
    · rw [if_neg hj]; exact o
  · simp only at hb ⊢
    rw [blk] at hb ⊢
    exact r2.st.dis j j' b hne hb
  · simp only at hb
    rw [blk] at hb
    exact r2.ini j b hb
end Go.Proofs.Ytbbcokckealagaa
