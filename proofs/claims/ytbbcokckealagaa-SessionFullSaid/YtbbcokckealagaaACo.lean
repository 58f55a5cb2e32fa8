/-
  Code, functions and calls over values without addresses. Nothing of the dump is used; no condition.
-/
import Derived.Test.YtbbcokckealagaaARd
namespace Go.Proofs.Ytbbcokckealagaa
open Go.RowKit
set_option linter.unusedVariables false
set_option linter.unusedSimpArgs false
/-- from state s the code ends as Q says -/
def AW (P : Program) (g : Ent) (c : Code) (Q : Exit → State → Prop) (s : State) : Prop :=
  ∀ (I : Nat → CI) (M : Nat → Nat) (w : World) (a : Act), St g I M w a s → c.wp P (fun e a' w' => ∃ I' M' s', St g I' M' w' a' s' ∧ Q e s') a w
abbrev thenA (K : State → Prop) (Q : Exit → State → Prop) : Exit → State → Prop
  | .normal, s => K s
  | e, s => Q e s
abbrev inBlockA (id : Nat) (Q : Exit → State → Prop) : Exit → State → Prop
  | .exit id', s => if id' = id then Q .normal s else Q (.exit id') s
  | e, s => Q e s
section
variable {P : Program} {g : Ent} {Q : Exit → State → Prop} {s : State}
theorem AW.mono {c : Code} {Q' : Exit → State → Prop} (h : AW P g c Q s) (hq : ∀ e s, Q e s → Q' e s) : AW P g c Q' s :=
  fun I M w a hst => wp_mono (h I M w a hst) fun e a' w' ⟨I', M', s', h1, h2⟩ => ⟨I', M', s', h1, hq _ _ h2⟩
theorem AW.seq_k {x y : Code} (h : ∀ K : State → Prop, (∀ s, AW P g y Q s → K s) → AW P g x (thenA K Q) s) : AW P g (.seq x y) Q s := by
  intro I M w a hst
  refine wp_seq (wp_mono (h _ (fun _ h => h) I M w a hst) fun e a' w' ⟨I', M', s', h1, h2⟩ => ?_)
  cases e with
  | normal => exact h2 I' M' w' a' h1
  | _ => exact ⟨I', M', s', h1, h2⟩
theorem AW.seq {x y : Code} (h : AW P g x (thenA (fun s => AW P g y Q s) Q) s) : AW P g (.seq x y) Q s := by
  intro I M w a hst
  refine wp_seq (wp_mono (h I M w a hst) fun e a' w' ⟨I', M', s', h1, h2⟩ => ?_)
  cases e with
  | normal => exact h2 I' M' w' a' h1
  | _ => exact ⟨I', M', s', h1, h2⟩
theorem AW.cond {c : Operand} {x y : Code} {b : Bool} (hc : evA s.fr c = .v (.bool b)) (ht : b = true → AW P g x Q s) (hf : b = false → AW P g y Q s) : AW P g (.cond c x y) Q s := by
  intro I M w a hst
  have h := hst.fr.eval c
  rw [hc] at h
  exact wp_cond_split h.val (fun e => ht e I M w a hst) (fun e => hf e I M w a hst)
theorem AW.condD {c : Operand} {x y : Code} {p : Prop} [Decidable p] (hc : evA s.fr c = .v (.bool (decide p))) (ht : p → AW P g x Q s) (hf : ¬ p → AW P g y Q s) : AW P g (.cond c x y) Q s :=
  AW.cond hc (fun h => ht (of_decide_eq_true h)) (fun h => hf (of_decide_eq_false h))
theorem AW.condN {c : Operand} {x y : Code} {p : Prop} [Decidable p] (hc : evA s.fr c = .v (.bool (!decide p))) (ht : ¬ p → AW P g x Q s) (hf : p → AW P g y Q s) : AW P g (.cond c x y) Q s :=
  AW.cond hc (fun h => ht (of_decide_eq_false (by simpa using h))) (fun h => hf (of_decide_eq_true (by simpa using h)))
theorem AW.block {id : Nat} {c : Code} (h : AW P g c (inBlockA id Q) s) : AW P g (.block id c) Q s := by
  intro I M w a hst
  refine wp_block (wp_mono (h I M w a hst) fun e a' w' ⟨I', M', s', h1, h2⟩ => ?_)
  cases e with
  | exit id' =>
    simp only [inBlockA] at h2
    simp only [Exit.inBlock]
    split
    · rename_i hid; rw [if_pos hid] at h2; exact ⟨I', M', s', h1, h2⟩
    · rename_i hid; rw [if_neg hid] at h2; exact ⟨I', M', s', h1, h2⟩
  | _ => exact ⟨I', M', s', h1, h2⟩
theorem AW.exit {id : Nat} (h : Q (.exit id) s) : AW P g (.exit id) Q s := fun I M w a hst => wp_exit ⟨I, M, s, hst, h⟩
theorem AW.ret (h : Q .ret s) : AW P g .ret Q s := fun I M w a hst => wp_ret ⟨I, M, s, hst, h⟩
theorem AW.skip (h : Q .normal s) : AW P g .skip Q s := fun I M w a hst => wp_skip ⟨I, M, s, hst, h⟩
theorem AW.region {id : Nat} {ops : List Oper} (h : Run P g.n ops (fun _ => true) (fun s => Q .normal s) ops s []) : AW P g (.region id ops.toArray false) Q s := by
  intro I M w a hst
  exact wp_mono (wp_region_lit (h.plain I M w a hst)) fun e a' w' ⟨I', M', s', h1, h2, h3⟩ => ⟨I', M', s', h1, h2 ▸ h3⟩
theorem AW.draw {id : Nat} {ops : List Oper} (hm : P.follows .mixedOrders = true) (h : Run P g.n ops (okDraw ops) (fun s => Q .normal s) ops s []) : AW P g (.region id ops.toArray true) Q s := by
  intro I M w a hst
  refine wp_mono (Run.drawn (id := id) hm h I M w a hst) fun e a' w' ⟨I', M', s', h1, h2, h3⟩ => ⟨I', M', s', h1, h2 ▸ h3⟩
theorem least_of {p : Nat → Prop} (h : ∃ n, p n) : ∃ n, p n ∧ ∀ m, p m → n ≤ m := by
  obtain ⟨n, hn⟩ := h
  induction n using Nat.strongRecOn with
  | _ n ih =>
    by_cases hm : ∃ m, m < n ∧ p m
    · obtain ⟨m, hlt, hp⟩ := hm
      exact ih m hlt hp
    · exact ⟨n, hn, fun m hp => Nat.le_of_not_lt fun hlt => hm ⟨m, hlt, hp⟩⟩
/-- a loop, by a family of states at its head -/
theorem AW.loop {c : Code} {X : Type} (F : X → State) (C : X → Prop) (m : X → Nat) (x0 : X) (hs : ∀ I M w a, St g I M w a s → ∃ I' M', St g I' M' w a (F x0)) (h0 : C x0)
    (round : ∀ x, C x → AW P g c (thenA (fun s' => ∃ x', C x' ∧ m x' < m x ∧ ∀ I M w a, St g I M w a s' → ∃ I' M', St g I' M' w a (F x')) Q) (F x)) : AW P g (.loop c) Q s := by
  classical
  intro I M w a hst
  let rep : Nat → Act → World → Prop := fun n a w => ∃ x, C x ∧ m x = n ∧ ∃ I M, St g I M w a (F x)
  let μ : Act → World → Nat := fun a w => if h : ∃ n, rep n a w then Classical.choose (least_of h) else 0
  have mu_le : ∀ n a w, rep n a w → μ a w ≤ n := by
    intro n a w h
    have hex : ∃ n, rep n a w := ⟨n, h⟩
    simp only [μ, dif_pos hex]
    exact (Classical.choose_spec (least_of hex)).2 n h
  have mu_rep : ∀ a w, (∃ n, rep n a w) → rep (μ a w) a w := by
    intro a w hex
    simp only [μ, dif_pos hex]
    exact (Classical.choose_spec (least_of hex)).1
  refine wp_loop (fun a w => ∃ n, rep n a w) μ ?_ ?_
  · obtain ⟨I', M', h⟩ := hs I M w a hst
    exact ⟨_, x0, h0, rfl, I', M', h⟩
  · intro a w hI
    obtain ⟨x, hx, hm, I1, M1, h1⟩ := mu_rep a w hI
    refine wp_mono (round x hx I1 M1 w a h1) fun e a' w' ⟨I', M', s', h2, h3⟩ => ?_
    cases e with
    | normal =>
      obtain ⟨x', hx', hlt, hcv⟩ := h3
      obtain ⟨I2, M2, h4⟩ := hcv I' M' w' a' h2
      have hr : rep (m x') a' w' := ⟨x', hx', rfl, I2, M2, h4⟩
      refine ⟨⟨_, hr⟩, ?_⟩
      have := mu_le _ _ _ hr
      omega
    | _ => exact ⟨I', M', s', h2, h3⟩
end

/-! other words for what is known -/
def Cv (σ : Nat → Res) (p q : AV) : Prop := ∀ (I : Nat → CI) (M : Nat → Nat) (w : World) (v : Value), Sto I M w σ → Rp I M w v p → Rp I M w v q
section
variable {σ : Nat → Res} {p q : AV}
theorem Cv.any : Cv σ p .any := fun _ _ _ _ _ _ => .any _
theorem Cv.refl : Cv σ p p := fun _ _ _ _ _ h => h
theorem Cv.eq (h : p = q) : Cv σ p q := h ▸ Cv.refl
theorem Cv.full {sz : Nat} {xs : List (List PV)} {f : Bool} : Cv σ (.sl sz xs f) (.sl sz xs false) := by
  intro I M w v _ h
  cases h with
  | sl h _ => exact .sl h (by simp)
theorem Cv.row {t n sz : Nat} {xs : List (List PV)} (h : σ t = .row sz xs) : Cv σ (.row t n) (.sl sz (xs.take n) false) := by
  intro I M w v hs hv
  obtain ⟨A, c, rfl, r⟩ := Dat.rpv (σ0 := σ) (.row h) (fun q hq => by obtain rfl := List.mem_singleton.1 hq; exact h) hs hv
  exact .sl r (by simp)
theorem Cv.rowf {t n sz : Nat} {xs : List (List PV)} (h : σ t = .row sz xs) (hn : n = xs.length) : Cv σ (.row t n) (.sl sz xs false) := by
  intro I M w v hs hv
  obtain ⟨A, c, rfl, r⟩ := Dat.rpv (σ0 := σ) (.rowf h hn) (fun q hq => by obtain rfl := List.mem_singleton.1 hq; exact h) hs hv
  exact .sl r (by simp)
theorem Cv.nil {sz : Nat} {f : Bool} : Cv σ (.v (.slice none 0 0)) (.sl sz [] f) := by
  intro I M w v _ h
  obtain rfl := h.val
  exact .sl (.nil _ _ _ _ _) (fun _ => rfl)
inductive CvL (σ : Nat → Res) : List AV → List AV → Prop
  | nil : CvL σ [] []
  | cons {p q : AV} {l m : List AV} (h : Cv σ p q) (hs : CvL σ l m) : CvL σ (p :: l) (q :: m)
theorem CvL.len {l m : List AV} (h : CvL σ l m) : l.length = m.length := by
  induction h with
  | nil => rfl
  | cons _ _ ih => simp [ih]
theorem CvL.get {l m : List AV} (h : CvL σ l m) : ∀ {i : Nat} {q : AV}, m[i]? = some q → ∃ p, l[i]? = some p ∧ Cv σ p q := by
  induction h with
  | nil => intro i q h; simp at h
  | cons h hs ih =>
    intro i q hq
    cases i with
    | zero => obtain rfl : _ = q := by simpa using hq
              exact ⟨_, rfl, h⟩
    | succ i => exact ih (by simpa using hq)
theorem CvL.refl : ∀ (l : List AV), CvL σ l l
  | [] => .nil
  | _ :: l => .cons .refl (CvL.refl l)
theorem CvL.eq {l m : List AV} (h : l = m) : CvL σ l m := h ▸ CvL.refl l
theorem Cv.agg {l m : List AV} (h : CvL σ l m) : Cv σ (.agg l) (.agg m) := by
  intro I M w v hs hv
  cases hv with
  | agg h0 h1 hc =>
    refine .agg (by rw [h0, h.len]) h1 fun i v c hv hc' => ?_
    obtain ⟨p, hp, hpq⟩ := h.get hc'
    exact hpq I M w v hs (hc i v p hv hp)
theorem Cv.tup {l m : List AV} (h : CvL σ l m) : Cv σ (.tup l) (.tup m) := by
  intro I M w v hs hv
  cases hv with
  | tup h0 hc =>
    refine .tup (by rw [h0, h.len]) fun i v c hv hc' => ?_
    obtain ⟨p, hp, hpq⟩ := h.get hc'
    exact hpq I M w v hs (hc i v p hv hp)
/-- a frame, in other words -/
inductive Cf (σ : Nat → Res) (fr : Fr) (ρ : Nat → Nat) : Fr → Prop
  | nil : Cf σ fr ρ []
  | cons {t : Nat} {v : AV} {r : Fr} (h : Cv σ (fr.get t) (v.ren ρ)) (hr : Cf σ fr ρ r) : Cf σ fr ρ ((t, v) :: r)
theorem Cf.get {fr fr' : Fr} {ρ : Nat → Nat} (h : Cf σ fr ρ fr') (t : Nat) : Cv σ (fr.get t) ((fr'.get t).ren ρ) := by
  induction h with
  | nil => exact Cv.any
  | @cons t' v r h hr ih =>
    simp only [Fr.get]
    cases hb : Nat.beq t t' with
    | true => obtain rfl := Nat.eq_of_beq_eq_true hb; exact h
    | false => exact ih
end
/-- what a numbered thing holds, in other words -/
inductive Cr (σ : Nat → Res) (ρ : Nat → Nat) : Res → Res → Prop
  | no {r : Res} : Cr σ ρ r .no
  | row {sz : Nat} {xs xs' : List (List PV)} (h : xs = xs') : Cr σ ρ (.row sz xs) (.row sz xs')
  | box {l m : List AV} (h : CvL σ l (AV.rens ρ m)) : Cr σ ρ (.box l) (.box m)
def renL (S : List Nat) (i : Nat) : Nat := S.getD i 0
def Res.lt (n : Nat) : Res → Bool
  | .box cs => AV.lts n cs
  | _ => true
def Fr.lt (n : Nat) : Fr → Bool
  | [] => true
  | (_, v) :: r => v.lt n && Fr.lt n r
theorem Fr.lt_get {n : Nat} {fr : Fr} (h : fr.lt n = true) (t : Nat) : (fr.get t).lt n = true := by
  induction fr with
  | nil => rfl
  | cons p r ih =>
    obtain ⟨t', v⟩ := p
    simp only [Fr.lt, Bool.and_eq_true] at h
    simp only [Fr.get]
    cases Nat.beq t t' with
    | true => exact h.1
    | false => exact ih h.2
inductive Crs (σ : Nat → Res) (ρ : Nat → Nat) (n : Nat) : List Nat → List Res → Prop
  | nil : Crs σ ρ n [] []
  | cons {k : Nat} {S : List Nat} {r : Res} {rs : List Res} (h : Cr σ ρ (σ k) r) (hlt : r.lt n = true) (hs : Crs σ ρ n S rs) : Crs σ ρ n (k :: S) (r :: rs)
theorem Crs.get {σ : Nat → Res} {ρ : Nat → Nat} {n : Nat} {S : List Nat} {rs : List Res} (h : Crs σ ρ n S rs) : S.length = rs.length ∧ ∀ (i : Nat) (r : Res), rs[i]? = some r → Cr σ ρ (σ (S.getD i 0)) r ∧ r.lt n = true := by
  induction h with
  | nil => exact ⟨rfl, fun i r h => by simp at h⟩
  | cons h hlt hs ih =>
    refine ⟨by simp [ih.1], fun i r hr => ?_⟩
    cases i with
    | zero => obtain rfl : _ = r := by simpa using hr
              exact ⟨h, hlt⟩
    | succ i => exact ih.2 i r (by simpa using hr)
def nodupB : List Nat → Bool
  | [] => true
  | k :: r => !r.any (Nat.beq k) && nodupB r
theorem nodupB_spec : ∀ {l : List Nat}, nodupB l = true → ∀ (i j : Nat), i < j → j < l.length → l.getD i 0 ≠ l.getD j 0 := by
  intro l
  induction l with
  | nil => intro _ i j _ h; simp at h
  | cons k r ih =>
    intro h i j hij hj
    simp only [nodupB, Bool.and_eq_true, Bool.not_eq_true', List.any_eq_false] at h
    cases j with
    | zero => omega
    | succ j =>
      simp only [List.length_cons] at hj
      cases i with
      | zero =>
        intro e
        simp only [List.getD_cons_zero, List.getD_cons_succ] at e
        have := h.1 (r.getD j 0) (by rw [List.getD_eq_getElem?_getD, List.getElem?_eq_getElem (by omega)]; exact List.getElem_mem _)
        rw [← e] at this
        simp at this
      | succ i =>
        simp only [List.getD_cons_succ]
        exact ih h.2 i j (by omega) (by omega)
/-- the numbered things S, in other words and by other numbers -/
theorem Sto.conv {I : Nat → CI} {M : Nat → Nat} {w : World} {σ : Nat → Res} (hs : Sto I M w σ) {S : List Nat} {σ' : List Res} (hnd : nodupB S = true) (hc : Crs σ (renL S) σ'.length S σ') :
    let I' := fun i => if i < σ'.length then I (renL S i) else .no
    Sto I' M w (sto σ') ∧ (∀ v p, p.lt σ'.length = true → Rp I M w v (p.ren (renL S)) → Rp I' M w v p) ∧ ∀ k b, blkOf (I' k) (sto σ' k) = some b → k < σ'.length ∧ blkOf (I (renL S k)) (σ (renL S k)) = some b := by
  intro I'
  obtain ⟨hl, hg⟩ := hc.get
  have rp : ∀ v p, p.lt σ'.length = true → Rp I M w v (p.ren (renL S)) → Rp I' M w v p := fun v p hp h =>
    Rp.agree (I := fun i => I (renL S i)) (n := σ'.length) (fun k hk => by simp [I', hk]) (Rp.unname h p rfl) hp
  have get : ∀ k, k < σ'.length → Cr σ (renL S) (σ (renL S k)) (sto σ' k) ∧ (sto σ' k).lt σ'.length = true := fun k hk =>
    hg k _ (by simp [sto, List.getD, hk])
  have out : ∀ k, σ'.length ≤ k → sto σ' k = .no := fun k hk => by simp [sto, List.getElem?_eq_none hk]
  have blk : ∀ k b, blkOf (I' k) (sto σ' k) = some b → k < σ'.length ∧ blkOf (I (renL S k)) (σ (renL S k)) = some b := by
    intro k b hb
    rcases Nat.lt_or_ge k σ'.length with hk | hk
    · refine ⟨hk, ?_⟩
      have hI : I' k = I (renL S k) := by simp [I', hk]
      rw [hI] at hb
      generalize hq : sto σ' k = q at hb
      have := (get k hk).1
      rw [hq] at this
      generalize σ (renL S k) = q' at this
      generalize I (renL S k) = ci at hb
      cases this with
      | no => cases ci <;> cases hb
      | row h => subst h; exact hb
      | box h => cases ci <;> first | exact hb | cases hb
    · rw [out k hk] at hb
      cases h : I' k <;> rw [h] at hb <;> cases hb
  refine ⟨⟨fun k => ?_, fun k k' b hne hb hb' => ?_, hs.top, hs.tab⟩, rp, blk⟩
  · rcases Nat.lt_or_ge k σ'.length with hk | hk
    · have hI : I' k = I (renL S k) := by simp [I', hk]
      obtain ⟨h1, h2⟩ := get k hk
      have ho := hs.own (renL S k)
      rw [hI]
      generalize hq : sto σ' k = q at h1 h2
      generalize σ (renL S k) = q' at h1 ho
      cases h1 with
      | no => trivial
      | row h => subst h; exact ho
      | @box l m h =>
        obtain ⟨b, cur, e, e1, e2, e3, e4, e5, e6⟩ := ho
        have hml : l.length = m.length := by rw [h.len, AV.rens_map]; simp
        refine ⟨b, cur, e, e1, e2, e3, by rw [e4, hml], e5, fun i v c hv hc => ?_⟩
        have hc' : (AV.rens (renL S) m)[i]? = some (c.ren (renL S)) := by rw [AV.rens_map, List.getElem?_map, hc]; rfl
        obtain ⟨p, hp, hpq⟩ := h.get hc'
        exact rp v c (AV.lts_get h2 hc) (hpq I M w v hs (e6 i v p hv hp))
    · rw [out k hk]; trivial
  · obtain ⟨a1, a2⟩ := blk k b hb
    obtain ⟨b1, b2⟩ := blk k' b hb'
    have hne' : renL S k ≠ renL S k' := by
      rcases Nat.lt_trichotomy k k' with h | h | h
      · exact nodupB_spec hnd k k' h (by omega)
      · exact absurd h hne
      · exact fun e => nodupB_spec hnd k' k h (by omega) e.symm
    exact hs.dis _ _ b hne' a2 b2
/-- the first p numbers stay -/
def fixB : Nat → List Nat → Bool
  | p, S => (List.range p).all fun i => Nat.beq (S.getD i 0) i
theorem St.conv {g : Ent} {I : Nat → CI} {M : Nat → Nat} {w : World} {a : Act} {s s' : State} (h : St g I M w a s) (S : List Nat) (hnd : nodupB S = true) (hp : fixB g.p S = true) (hl : g.p ≤ S.length) (hf : Cf (sto s.σ) s.fr (renL S) s'.fr) (hfl : s'.fr.lt s'.σ.length = true) (hc : Crs (sto s.σ) (renL S) s'.σ.length S s'.σ) :
    ∃ I' M', St g I' M' w a s' := by
  obtain ⟨c1, c2, c3⟩ := h.st.conv hnd hc
  have hSl := hc.get.1
  refine ⟨_, M, ⟨⟨h.fr.1, fun t => c2 _ _ (Fr.lt_get hfl t) (hf.get t I M w _ h.st (h.fr.2 t))⟩, h.df, c1, by omega, fun k hk => by simp [show ¬ k < s'.σ.length by omega], ⟨h.ext.os, h.ext.tape, h.ext.output, fun k => ?_, h.ext.evo, h.ext.oth⟩, fun k b hb => h.ini _ _ (c3 k b hb).2, h.gno⟩⟩
  rcases Nat.lt_or_ge k g.p with hk | hk
  · simp only [fixB, List.all_eq_true] at hp
    have h1 : renL S k = k := Nat.eq_of_beq_eq_true (hp k (List.mem_range.2 hk))
    simp only [show k < s'.σ.length by omega, if_true, h1]
    exact h.ext.le k
  · rw [h.gno k hk]; trivial
end Go.Proofs.Ytbbcokckealagaa
