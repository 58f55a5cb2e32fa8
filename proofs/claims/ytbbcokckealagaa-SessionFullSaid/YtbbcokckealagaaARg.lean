/-
  Regions over values without addresses: a region in the order of the text; a region that draws its order, walked once in the order of the text, if no two operations that may change places touch the same thing. Nothing of the dump is used; no condition.
-/
import Derived.Test.YtbbcokckealagaaAAp
namespace Go.Proofs.Ytbbcokckealagaa
open Go.RowKit
set_option linter.unusedVariables false
set_option linter.unusedSimpArgs false
structure State where
  fr : Fr
  σ : List Res
def sto (σ : List Res) : Nat → Res := fun k => σ.getD k .no
def putR (σ : List Res) (k : Nat) (r : Res) : List Res := match Nat.blt k σ.length with | true => σ.set k r | false => σ ++ [r]
def updL (σ : List Res) : Upds → List Res
  | [] => σ
  | (k, r) :: us => updL (putR σ k r) us
/-- the numbers are in use, or the next ones; none occurs twice -/
def okU (n : Nat) : Upds → Bool
  | [] => true
  | (k, _) :: us => Nat.ble k n && (!us.any (fun p => Nat.beq p.1 k) && okU (match Nat.beq k n with | true => n + 1 | false => n) us)
theorem putR_len (σ : List Res) (k : Nat) (r : Res) (h : k ≤ σ.length) : (putR σ k r).length = if k = σ.length then σ.length + 1 else σ.length := by
  unfold putR
  cases hb : Nat.blt k σ.length with
  | true => rw [Nat.blt_eq] at hb; simp; omega
  | false =>
    have : ¬ k < σ.length := by rw [← Nat.blt_eq, hb]; simp
    simp; omega
theorem sto_putR (σ : List Res) (k : Nat) (r : Res) (h : k ≤ σ.length) (i : Nat) : sto (putR σ k r) i = if i = k then r else sto σ i := by
  unfold putR sto
  cases hb : Nat.blt k σ.length with
  | true =>
    rw [Nat.blt_eq] at hb
    by_cases hi : i = k
    · subst hi; simp [List.getD, hb]
    · simp [List.getD, hi, List.getElem?_set_ne (fun e => hi e.symm)]
  | false =>
    have : ¬ k < σ.length := by rw [← Nat.blt_eq, hb]; simp
    have hk : k = σ.length := by omega
    subst hk
    simp only [List.getD_eq_getElem?_getD, List.getElem?_append]
    by_cases hi : i = σ.length
    · subst hi; simp
    · rw [if_neg hi]
      split
      · rfl
      · rename_i h1
        rw [List.getElem?_eq_none (by simp; omega), List.getElem?_eq_none (by omega)]
theorem okU_cons {n k : Nat} {r : Res} {us : Upds} (h : okU n ((k, r) :: us) = true) : k ≤ n ∧ k ∉ keys us ∧ okU (if k = n then n + 1 else n) us = true := by
  simp only [okU, Bool.and_eq_true, Bool.not_eq_true', Nat.ble_eq] at h
  obtain ⟨h1, h2, h3⟩ := h
  refine ⟨h1, fun hk => ?_, ?_⟩
  · obtain ⟨p, hp, rfl⟩ := List.mem_map.1 hk
    have := List.any_eq_false.1 h2 p hp
    simp at this
  · by_cases hkn : k = n
    · subst hkn; simpa using h3
    · have : Nat.beq k n = false := by
        cases hb : Nat.beq k n with
        | false => rfl
        | true => exact absurd (Nat.eq_of_beq_eq_true hb) hkn
      rw [this] at h3
      rw [if_neg hkn]; exact h3
theorem sto_updL (us : Upds) : ∀ (σ : List Res), okU σ.length us = true → ∀ i, sto (updL σ us) i = updS (sto σ) us i := by
  induction us with
  | nil => intro σ _ i; rfl
  | cons p us ih =>
    obtain ⟨k, r⟩ := p
    intro σ h i
    obtain ⟨h1, h2, h3⟩ := okU_cons h
    rw [updL, ih _ (by rw [putR_len _ _ _ h1]; exact h3)]
    by_cases hi : i = k
    · subst hi
      rw [updS_other _ _ _ h2, sto_putR _ _ _ h1]
      simp [updS]
    · rw [updS, if_neg hi]
      by_cases hk : i ∈ keys us
      · have : ∀ (f g : Nat → Res) (us : Upds), i ∈ keys us → updS f us i = updS g us i := by
          intro f g us
          induction us with
          | nil => intro h; cases h
          | cons q us ih =>
            intro h
            simp only [updS]
            split
            · rfl
            · rename_i hne
              exact ih (by simpa [keys, hne] using h)
        exact this _ _ _ hk
      · rw [updS_other _ _ _ hk, updS_other _ _ _ hk, sto_putR _ _ _ h1, if_neg hi]
theorem updL_len (us : Upds) : ∀ (σ : List Res), okU σ.length us = true → σ.length ≤ (updL σ us).length ∧ ∀ k ∈ keys us, k < (updL σ us).length := by
  induction us with
  | nil => intro σ _; exact ⟨Nat.le_refl _, fun k h => by cases h⟩
  | cons p us ih =>
    obtain ⟨k, r⟩ := p
    intro σ h
    obtain ⟨h1, h2, h3⟩ := okU_cons h
    have hl := putR_len σ k r h1
    obtain ⟨i1, i2⟩ := ih (putR σ k r) (by rw [hl]; exact h3)
    rw [hl] at i1
    have hk : k < (updL (putR σ k r) us).length := by split at i1 <;> omega
    refine ⟨by rw [updL]; split at i1 <;> omega, fun j hj => ?_⟩
    simp only [keys, List.map_cons, List.mem_cons] at hj
    rcases hj with rfl | hj
    · exact hk
    · exact i2 j hj

/-- the call: the size of its frame, how many numbered things came in, the world at its beginning -/
structure Ent where
  n : Nat
  p : Nat
  I : Nat → CI
  M : Nat → Nat
  w : World
  own : Nat → Prop
structure St (g : Ent) (I : Nat → CI) (M : Nat → Nat) (w : World) (a : Act) (s : State) : Prop where
  fr : FrOk I M w g.n a s.fr
  df : a.defers = []
  st : Sto I M w (sto s.σ)
  len : g.p ≤ s.σ.length
  no : ∀ k, s.σ.length ≤ k → I k = .no
  ext : Ext g.own g.I I g.M M g.w w
  ini : ∀ k b, blkOf (I k) (sto s.σ k) = some b → g.w.heap.size ≤ b ∨ g.own b
  gno : ∀ k, g.p ≤ k → g.I k = .no
/-- what a value that is a guard says -/
def wantV (want : Bool) : AV → Option Bool
  | .v (.bool b) => some (b == want)
  | .v _ => some false
  | .ifb c v => match wantV want v with
    | some r => some (c && r)
    | none => none
  | _ => none
def yieldV : Value → Option Bool
  | .bool b => some b
  | _ => none
theorem undef_eq : (undef : Value) = .tuple #[] := rfl
theorem wantV_ok {I : Nat → CI} {M : Nat → Nat} {w : World} {want : Bool} {x : Value} {v : AV} (h : Rp I M w x v) : ∀ {r : Bool}, wantV want v = some r → (yieldV x == some want) = r := by
  induction h with
  | v x =>
    intro r hr
    cases x <;> simp only [wantV] at hr <;> injection hr with hr <;> subst hr <;> first | rfl | (rename_i b; cases b <;> cases want <;> rfl)
  | @ifb b x v h hf ih =>
    intro r hr
    simp only [wantV] at hr
    split at hr
    · rename_i r' hr'
      injection hr with hr
      subst hr
      cases b with
      | true => simpa using ih rfl hr'
      | false => rw [hf rfl, undef_eq]; rfl
    · cases hr
  | _ => intro r hr; cases hr
/-- whether a guarded operation runs -/
def wantA (ops : List Oper) (fr : Fr) (o : Oper) : Option Bool :=
  match o.guard with
  | none => some true
  | some (j, want) => match ops[j]? with
    | some q => match q.dst with
      | some d => wantV want (fr.get d)
      | none => none
    | none => none
theorem wanted_of {I : Nat → CI} {M : Nat → Nat} {w : World} {a : Act} {ops : List Oper} {o : Oper} {f : Nat → AV} {r : Bool} (h : ∀ j want q d, o.guard = some (j, want) → ops[j]? = some q → q.dst = some d → Rp I M w (a.tmps.getD d undef) (f d))
    (hr : (match o.guard with
      | none => some true
      | some (j, want) => match ops[j]? with
        | some q => match q.dst with
          | some d => wantV want (f d)
          | none => none
        | none => none) = some r) : Region.wanted o (yielded ops.toArray a.tmps) = r := by
  unfold Region.wanted
  cases hg : o.guard with
  | none => rw [hg] at hr; simpa using hr
  | some p =>
    obtain ⟨j, want⟩ := p
    rw [hg] at hr
    simp only at hr ⊢
    cases hq : ops[j]? with
    | none => rw [hq] at hr; cases hr
    | some q =>
      rw [hq] at hr
      simp only at hr
      cases hd : q.dst with
      | none => rw [hd] at hr; cases hr
      | some d =>
        rw [hd] at hr
        simp only at hr
        have hv := wantV_ok (h j want q d hg hq hd) hr
        have hy : yielded ops.toArray a.tmps j = yieldV (a.tmps.getD d undef) := by
          cases ht : a.tmps[d]? with
          | none => simp [yielded, hq, hd, ht, undef_eq, yieldV]
          | some x => simp [yielded, hq, hd, ht, yieldV]; cases x <;> rfl
        rw [hy]; exact hv
/-- less is known of a value -/
inductive Le1 : AV → AV → Prop
  | same {v : AV} : Le1 v v
  | any {v : AV} : Le1 .any v
  | ifb {b : Bool} {u v : AV} (hb : b = true) (h : Le1 u v) : Le1 (.ifb b u) v
  | ifF {b : Bool} {u : AV} (hb : b = false) : Le1 (.ifb b u) (.v undef)
theorem Le1.rp {u v : AV} (h : Le1 u v) {I : Nat → CI} {M : Nat → Nat} {w : World} {x : Value} (hx : Rp I M w x v) : Rp I M w x u := by
  induction h with
  | same => exact hx
  | any => exact .any _
  | ifb hb h ih => exact .ifb (fun _ => ih hx) (fun hf => by rw [hb] at hf; cases hf)
  | ifF hb => exact .ifb (fun ht => by rw [hb] at ht; cases ht) (fun _ => hx.val)
theorem Le1.want {want : Bool} {u v : AV} (h : Le1 u v) : ∀ {r : Bool}, wantV want u = some r → wantV want v = some r := by
  induction h with
  | same => exact fun h => h
  | any => intro r h; cases h
  | ifb hb h ih =>
    intro r hr
    simp only [wantV] at hr
    split at hr
    · rename_i r' hr'
      injection hr with hr
      rw [hb, Bool.true_and] at hr
      rw [ih hr', hr]
    · cases hr
  | ifF hb =>
    intro r hr
    simp only [wantV] at hr
    split at hr
    · injection hr with hr
      rw [hb, Bool.false_and] at hr
      subst hr
      rfl
    · cases hr
/-- less is known -/
def Fr.le (fr' fr : Fr) : Prop := ∀ t, Le1 (fr'.get t) (fr.get t)
/-- what an operation touched: the numbered things that it read, and those that it changed -/
abbrev FP := List Nat × List Nat
/-- the walk of a region in the order of the text -/
inductive Run (P : Program) (n : Nat) (ops : List Oper) (chk : List FP → Bool) (K : State → Prop) : List Oper → State → List FP → Prop
  | nil {s : State} {acc : List FP} (hc : chk acc = true) (hK : K s) : Run P n ops chk K [] s acc
  | op {o : Oper} {rest : List Oper} {s : State} {acc : List FP} {ins outs : Upds} {v : AV} (hw : wantA ops s.fr o = some true) (hd : dstOk n o.dst = true) (h : OpS P o (evA s.fr) ins v outs) (hi : ∀ q ∈ ins, sto s.σ q.1 = q.2) (hu : okU s.σ.length outs = true)
      (hn : ∀ k ∈ keys outs, k ∈ keys ins ∨ s.σ.length ≤ k) (hr : Run P n ops chk K rest ⟨s.fr.put o.dst v, updL s.σ outs⟩ (acc ++ [(keys ins, keys outs)])) : Run P n ops chk K (o :: rest) s acc
  | opN {o : Oper} {rest : List Oper} {s : State} {acc : List FP} {ins : Upds} {ι : Type} {v : ι → AV} {outs : ι → Upds} (hall : ∀ acc, chk acc = true) (hw : wantA ops s.fr o = some true) (hd : dstOk n o.dst = true) (h : OpSN P o (evA s.fr) ins v outs) (hi : ∀ q ∈ ins, sto s.σ q.1 = q.2) (hu : ∀ i, okU s.σ.length (outs i) = true)
      (hn : ∀ i, ∀ k ∈ keys (outs i), k ∈ keys ins ∨ s.σ.length ≤ k) (hr : ∀ i, Run P n ops chk K rest ⟨s.fr.put o.dst (v i), updL s.σ (outs i)⟩ acc) : Run P n ops chk K (o :: rest) s acc
  | conv {fr fr' : Fr} {σ : List Res} {rest : List Oper} {acc : List FP} (h : fr'.le fr) (hr : Run P n ops chk K rest ⟨fr', σ⟩ acc) : Run P n ops chk K rest ⟨fr, σ⟩ acc
  | skip {o : Oper} {rest : List Oper} {s : State} {acc : List FP} (f : FP) (hw : wantA ops s.fr o = some false) (hd : dstOk n o.dst = true) (hr : Run P n ops chk K rest ⟨s.fr.put o.dst (.v undef), s.σ⟩ (acc ++ [f])) : Run P n ops chk K (o :: rest) s acc
section
variable {P : Program} {g : Ent} {I : Nat → CI} {M : Nat → Nat} {w : World} {a : Act} {s : State}
theorem St.step {I' : Nat → CI} {M' : Nat → Nat} {w' : World} {ins outs : Upds} {v : AV} {cv : Value} {d : Option Tmp} (h : St g I M w a s) (hd : dstOk g.n d = true) (hu : okU s.σ.length outs = true) (hi : ∀ q ∈ ins, sto s.σ q.1 = q.2)
    (hv : Rp I' M' w' cv v) (hs : Sto I' M' w' (updS (sto s.σ) outs)) (he : Ext (fun b => ∃ k ∈ keys ins, blkOf (I k) (sto s.σ k) = some b) I I' M M' w w') (hI : ∀ k, k ∉ keys outs → I' k = I k)
    (hn : ∀ k ∈ keys outs, ∀ b, blkOf (I' k) (updS (sto s.σ) outs k) = some b → w.heap.size ≤ b ∨ ∃ k0 ∈ keys ins, blkOf (I k0) (sto s.σ k0) = some b) : St g I' M' w' (a.put d cv) ⟨s.fr.put d v, updL s.σ outs⟩ := by
  obtain ⟨l1, l2⟩ := updL_len outs s.σ hu
  have hsto : sto (updL s.σ outs) = updS (sto s.σ) outs := funext (sto_updL outs s.σ hu)
  have hini : ∀ b, (∃ k ∈ keys ins, blkOf (I k) (sto s.σ k) = some b) → g.w.heap.size ≤ b ∨ g.own b := fun b ⟨k, _, hb⟩ => h.ini k b hb
  refine ⟨(h.fr.evo he.le he.evo).put hd hv, ?_, by rw [hsto]; exact hs, Nat.le_trans h.len l1, fun k hk => ?_, h.ext.trans he (fun b hb ho => (hini b ho).resolve_left (by omega)), fun k b hb => ?_, h.gno⟩
  · cases d <;> exact h.df
  · simp only at hk
    rw [hI k (fun hh => by have := l2 k hh; omega)]
    exact h.no k (by omega)
  · simp only at hb
    rw [hsto] at hb
    by_cases hk : k ∈ keys outs
    · rcases hn k hk b hb with q | q
      · have := h.ext.evo.size; left; omega
      · exact hini b q
    · rw [hI k hk, updS_other _ _ _ hk] at hb
      exact h.ini k b hb
/-- a region in the order of the text -/
theorem Run.plain {ops : List Oper} {chk : List FP → Bool} {K : State → Prop} {rest : List Oper} {acc : List FP} (h : Run P g.n ops chk K rest s acc) : ∀ (I : Nat → CI) (M : Nat → Nat) (w : World) (a : Act), St g I M w a s →
    wpList P ops.toArray (fun e a' w' => ∃ I' M' s', St g I' M' w' a' s' ∧ e = .normal ∧ K s') rest a w := by
  induction h with
  | nil hc hK => intro I M w a hst; exact ⟨I, M, _, hst, rfl, hK⟩
  | op hw hd h hi hu hn hr ih =>
    intro I M w a hst
    refine wpList_step fun K' hK' => ?_
    rw [if_pos (wanted_of (f := fun d => Fr.get _ d) (fun j want q d _ _ _ => hst.fr.2 d) hw)]
    refine h I M w a _ K' _ (fun x _ => hst.fr.eval x) hst.st hi (fun k hk => (hn k hk).imp id fun hl => ⟨?_, hst.no k hl⟩) fun cv I' M' w' h1 h2 h3 h4 h5 => ?_
    · simp [sto, List.getElem?_eq_none hl]
    · exact hK' _ _ (ih I' M' w' _ (hst.step hd hu hi h1 h2 h3 h4 h5))
  | opN hall hw hd h hi hu hn hr ih =>
    intro I M w a hst
    refine wpList_step fun K' hK' => ?_
    rw [if_pos (wanted_of (f := fun d => Fr.get _ d) (fun j want q d _ _ _ => hst.fr.2 d) hw)]
    refine h I M w a _ K' _ (fun x _ => hst.fr.eval x) hst.st hi (fun i k hk => (hn i k hk).imp id fun hl => ⟨?_, hst.no k hl⟩) fun i cv I' M' w' h1 h2 h3 h4 h5 => ?_
    · simp [sto, List.getElem?_eq_none hl]
    · exact hK' _ _ (ih i I' M' w' _ (hst.step hd (hu i) hi h1 h2 h3 h4 h5))
  | conv h hr ih =>
    intro I M w a hst
    exact ih I M w a ⟨⟨hst.fr.1, fun t => (h t).rp (hst.fr.2 t)⟩, hst.df, hst.st, hst.len, hst.no, hst.ext, hst.ini, hst.gno⟩
  | @skip o rest s acc f hw hd hr ih =>
    intro I M w a hst
    refine wpList_step fun K' hK' => ?_
    rw [if_neg (by rw [wanted_of (f := fun d => Fr.get _ d) (fun j want q d _ _ _ => hst.fr.2 d) hw]; simp)]
    refine hK' _ _ (ih I M w _ ?_)
    have := hst.step (ins := []) (outs := []) (cv := undef) (v := .v undef) hd rfl (fun _ h => by cases h) (.v _) hst.st (Ext.refl _ _ _ _) (fun _ _ => rfl) (fun _ h => by cases h)
    exact this
end

/-! the order that a region draws -/
def maskOf (B : List Nat) (o : Oper) : Nat := o.after.toList.foldl (fun s e => if Region.binds .any e then s ||| (2 ^ e.on ||| B.getD e.on 0) else s) 0
def befs : List Oper → List Nat → List Nat
  | [], B => B
  | o :: r, B => befs r (B ++ [maskOf B o])
def hit (a b : List Nat) : Bool := a.any fun x => b.any (Nat.beq x)
def looks (ops : List Oper) (o : Oper) : List Nat :=
  o.op.operands.toList.filterMap (fun | .tmp t => some t | _ => none) ++ (match o.guard with
    | some (j, _) => match ops[j]? with
      | some q => q.dst.toList
      | none => []
    | none => [])
/-- operation i (earlier in the text) and operation j touch the same thing -/
def clash (looki lookj : List Nat) (di dj : Option Nat) (fi fj : FP) : Bool :=
  (match di with | some d => lookj.any (Nat.beq d) | none => false) || ((match dj with | some d => looki.any (Nat.beq d) | none => false) || (hit fi.2 fj.1 || (hit fi.2 fj.2 || hit fi.1 fj.2)))
def okRow (lj : List Nat) (dj : Option Nat) (fj : FP) (b : Nat) : List (List Nat × Option Nat × FP) → Nat → Bool
  | [], _ => true
  | (li, di, fi) :: r, i => (!clash li lj di dj fi fj || Nat.testBit b i) && okRow lj dj fj b r (i + 1)
def okRows : List (List Nat × Option Nat × FP) → List (List Nat × Option Nat × FP × Nat) → Bool
  | _, [] => true
  | done, (l, d, f, b) :: r => okRow l d f b done 0 && okRows (done ++ [(l, d, f)]) r
def dstNd : List (Option Nat) → Bool
  | [] => true
  | d :: r => (match d with | some d => !r.any (fun e => match e with | some e => Nat.beq d e | none => false) | none => true) && dstNd r
def rowsOf (ops : List Oper) (acc : List FP) : List (List Nat × Option Nat × FP × Nat) := ((ops.zip acc).zip (befs ops [])).map fun q => (looks ops q.1.1, q.1.1.dst, q.1.2, q.2)
/-- depends on no later operation; no slot twice; what touches the same thing is ordered -/
def okDown : List Oper → Nat → Bool
  | [], _ => true
  | o :: r, j => o.after.toList.all (fun e => !Region.binds .any e || Nat.blt e.on j) && okDown r (j + 1)
def okDraw (ops : List Oper) (acc : List FP) : Bool := Nat.beq acc.length ops.length && ( okDown ops 0 && (dstNd (ops.map (·.dst)) && okRows [] (rowsOf ops acc)))

theorem befs_spec : ∀ (ops : List Oper) (B : List Nat), (befs ops B).length = B.length + ops.length ∧ (∀ i, i < B.length → (befs ops B)[i]? = B[i]?) ∧
    ∀ j o, ops[j]? = some o → (befs ops B)[B.length + j]? = some (maskOf ((befs ops B).take (B.length + j)) o) := by
  intro ops
  induction ops with
  | nil => intro B; exact ⟨by simp [befs], fun _ _ => rfl, fun j o h => by simp at h⟩
  | cons o r ih =>
    intro B
    obtain ⟨h1, h2, h3⟩ := ih (B ++ [maskOf B o])
    simp only [List.length_append, List.length_cons, List.length_nil] at h1 h2 h3
    have htake : (befs r (B ++ [maskOf B o])).take B.length = B := by
      apply List.ext_getElem?
      intro i
      rw [List.getElem?_take]
      split
      · rename_i hi
        rw [h2 i (by omega), List.getElem?_append_left hi]
      · rename_i hi
        rw [List.getElem?_eq_none (by omega)]
    refine ⟨by simp only [befs, h1, List.length_cons]; omega, fun i hi => ?_, fun j q hq => ?_⟩
    · rw [befs, h2 i (by omega), List.getElem?_append_left hi]
    · cases j with
      | zero =>
        obtain rfl : o = q := by simpa using hq
        simp only [befs, Nat.add_zero]
        rw [htake, h2 _ (by omega), List.getElem?_append_right (Nat.le_refl _)]
        simp
      | succ j =>
        have := h3 j q (by simpa using hq)
        simp only [befs]
        rw [show B.length + (j + 1) = B.length + 1 + j by omega]
        exact this
theorem maskOf_bit {B : List Nat} {o : Oper} {i : Nat} (h : Nat.testBit (maskOf B o) i = true) : ∃ e ∈ o.after.toList, Region.binds .any e = true ∧ (i = e.on ∨ Nat.testBit (B.getD e.on 0) i = true) := by
  unfold maskOf at h
  have key : ∀ (l : List Edge) (s : Nat), Nat.testBit (l.foldl (fun s e => if Region.binds .any e then s ||| (2 ^ e.on ||| B.getD e.on 0) else s) s) i = true → Nat.testBit s i = true ∨ ∃ e ∈ l, Region.binds .any e = true ∧ (i = e.on ∨ Nat.testBit (B.getD e.on 0) i = true) := by
    intro l
    induction l with
    | nil => intro s h; exact .inl h
    | cons e r ih =>
      intro s h
      rcases ih _ h with h | ⟨e', he', h'⟩
      · simp only at h
        split at h
        · rename_i hb
          rw [Nat.testBit_or, Nat.testBit_or, Bool.or_eq_true, Bool.or_eq_true] at h
          rcases h with h | h | h
          · exact .inl h
          · exact .inr ⟨e, by simp, hb, .inl (by rw [Nat.testBit_two_pow] at h; simpa using (of_decide_eq_true h).symm)⟩
          · exact .inr ⟨e, by simp, hb, .inr h⟩
        · exact .inl h
      · exact .inr ⟨e', List.mem_cons_of_mem _ he', h'⟩
  rcases key _ _ h with h | h
  · simp at h
  · exact h
/-- what is done is closed under what it waits for -/
def Closed (ops : List Oper) (D : Nat → Bool) : Prop := ∀ j o, ops[j]? = some o → D j = true → ∀ e ∈ o.after.toList, Region.binds .any e = true → D e.on = true
theorem before_done {ops : List Oper} {D : Nat → Bool} (hc : Closed ops D) : ∀ (j : Nat) (o : Oper) (i : Nat), ops[j]? = some o → (∀ e ∈ o.after.toList, Region.binds .any e = true → D e.on = true) → Nat.testBit ((befs ops []).getD j 0) i = true → D i = true := by
  intro j
  induction j using Nat.strongRecOn with
  | _ j ih =>
    intro o i ho hd hb
    obtain ⟨h1, _, h3⟩ := befs_spec ops []
    have h4 := h3 j o ho
    simp only [List.length_nil, Nat.zero_add] at h4 h1
    rw [List.getD_eq_getElem?_getD, h4, Option.getD_some] at hb
    obtain ⟨e, he, hbd, h5⟩ := maskOf_bit hb
    have hD := hd e he hbd
    rcases h5 with rfl | h5
    · exact hD
    · rw [List.getD_eq_getElem?_getD, List.getElem?_take] at h5
      split at h5
      · rename_i hlt
        have hj : j < ops.length := (List.getElem?_eq_some_iff.1 ho).1
        have hq : ops[e.on]? = some ops[e.on] := List.getElem?_eq_getElem (by omega)
        refine ih e.on hlt _ i hq (fun e' he' hb' => hc e.on _ hq hD e' he' hb') ?_
        rw [List.getD_eq_getElem?_getD]
        exact h5
      · simp at h5

/-- what a numbered thing holds behind the first m operations of the text, of those that are done -/
def curD {α : Type} (σ0 : Nat → α) (outs : Nat → List (Nat × α)) (D : Nat → Bool) : Nat → Nat → α
  | 0 => σ0
  | m + 1 => if D m then updS (curD σ0 outs D m) (outs m) else curD σ0 outs D m
theorem updS_congr {α : Type} {f g : Nat → α} {us : List (Nat × α)} {k : Nat} (h : k ∉ keys us → f k = g k) : updS f us k = updS g us k := by
  induction us with
  | nil => exact h (by simp [keys])
  | cons q us ih =>
    simp only [updS]
    split
    · rfl
    · rename_i hne
      exact ih fun hk => h (by simp only [keys, List.map_cons, List.mem_cons, not_or]; exact ⟨hne, hk⟩)
theorem curD_eq {α : Type} {σ0 : Nat → α} {outs : Nat → List (Nat × α)} {D : Nat → Bool} {k j : Nat} (h1 : ∀ i, i < j → k ∈ keys (outs i) → D i = true) : ∀ n, j ≤ n → (∀ i, j ≤ i → i < n → D i = true → k ∉ keys (outs i)) → curD σ0 outs D n k = curD σ0 outs (fun _ => true) j k := by
  have low : ∀ m, m ≤ j → curD σ0 outs D m k = curD σ0 outs (fun _ => true) m k := by
    intro m
    induction m with
    | zero => intro _; rfl
    | succ m ih =>
      intro hm
      have := ih (by omega)
      simp only [curD, if_true]
      split
      · exact updS_congr fun _ => this
      · rename_i hD
        rw [this, updS_other]
        exact fun hk => hD (h1 m (by omega) hk)
  intro n hn
  induction n with
  | zero => intro _; obtain rfl : j = 0 := by omega
            exact low 0 (Nat.le_refl _)
  | succ n ih =>
    intro h2
    rcases Nat.lt_or_ge n j with hlt | hge
    · obtain rfl : j = n + 1 := by omega
      exact low _ (Nat.le_refl _)
    · simp only [curD]
      split
      · rename_i hD
        rw [updS_other _ _ _ (h2 n hge (by omega) hD)]
        exact ih hge fun i hi hin => h2 i hi (by omega)
      · exact ih hge fun i hi hin => h2 i hi (by omega)
theorem curD_ins {α : Type} {σ0 : Nat → α} {outs : Nat → List (Nat × α)} {D : Nat → Bool} {j : Nat} (hj : D j = false) : ∀ n, (∀ i, j < i → i < n → D i = true → ∀ k, k ∈ keys (outs j) → k ∉ keys (outs i)) →
    curD σ0 outs (fun i => D i || Nat.beq i j) n = if j < n then updS (curD σ0 outs D n) (outs j) else curD σ0 outs D n := by
  intro n
  induction n with
  | zero => intro _; rfl
  | succ n ih =>
    intro h
    have ih := ih fun i hi hin => h i hi (by omega)
    have hnb : ∀ a, a ≠ j → Nat.beq a j = false := by
      intro a ha
      cases hb : Nat.beq a j with
      | false => rfl
      | true => exact absurd (Nat.eq_of_beq_eq_true hb) ha
    rcases Nat.lt_trichotomy j n with hlt | rfl | hgt
    · rw [if_pos (by omega)]
      rw [if_pos hlt] at ih
      simp only [curD]
      rw [ih]
      simp only [hnb n (by omega), Bool.or_false]
      split
      · rename_i hD
        funext k
        by_cases hk : k ∈ keys (outs j)
        · have h2 := h n hlt (by omega) hD k hk
          rw [updS_other _ _ _ h2]
          exact updS_congr fun h => absurd hk h
        · rw [updS_other _ _ _ hk]
          exact updS_congr fun _ => updS_other _ _ _ hk
      · rfl
    · rw [if_pos (by omega)]
      rw [if_neg (by omega)] at ih
      simp only [curD]
      rw [ih]
      simp [hj]
    · rw [if_neg (by omega)]
      rw [if_neg (by omega)] at ih
      simp only [curD]
      rw [ih]
      simp only [hnb n (by omega), Bool.or_false]

/-- what one operation of a region did -/
structure Rec where
  run : Bool
  v : AV
  ins : Upds
  outs : Upds
  f : FP
instance : Inhabited Rec := ⟨⟨false, .any, [], [], ([], [])⟩⟩
/-- the states in the order of the text -/
def stT (s : State) (ops : List Oper) (rs : List Rec) : Nat → State
  | 0 => s
  | j + 1 => match ops[j]?, rs[j]? with
    | some o, some r => ⟨(stT s ops rs j).fr.put o.dst r.v, updL (stT s ops rs j).σ r.outs⟩
    | _, _ => stT s ops rs j
structure RecOk (P : Program) (n : Nat) (ops : List Oper) (o : Oper) (s : State) (r : Rec) : Prop where
  w : wantA ops s.fr o = some r.run
  d : dstOk n o.dst = true
  h : r.run = true → OpS P o (evA s.fr) r.ins r.v r.outs
  x : r.run = false → r.v = .v undef ∧ r.ins = [] ∧ r.outs = []
  i : ∀ q ∈ r.ins, sto s.σ q.1 = q.2
  u : okU s.σ.length r.outs = true
  n : ∀ k ∈ keys r.outs, k ∈ keys r.ins ∨ s.σ.length ≤ k
  f1 : ∀ k ∈ keys r.ins, k ∈ r.f.1
  f2 : ∀ k ∈ keys r.outs, k ∈ r.f.2
theorem stT_cons (s : State) (o : Oper) (r : Rec) (ops : List Oper) (rs : List Rec) : ∀ j, stT s (o :: ops) (r :: rs) (j + 1) = stT ⟨s.fr.put o.dst r.v, updL s.σ r.outs⟩ ops rs j
  | 0 => rfl
  | j + 1 => by
    rw [stT, stT_cons s o r ops rs j]
    simp only [List.getElem?_cons_succ]
    rfl
theorem evA_le {fr fr' : Fr} (h : fr'.le fr) (x : Operand) : Le1 (evA fr' x) (evA fr x) := by
  cases x with
  | tmp t => exact h t
  | _ => exact .same
theorem wantA_le {ops : List Oper} {o : Oper} {fr fr' : Fr} (h : fr'.le fr) {b : Bool} (hw : wantA ops fr' o = some b) : wantA ops fr o = some b := by
  unfold wantA at hw ⊢
  cases hg : o.guard with
  | none => rw [hg] at hw; exact hw
  | some p =>
    obtain ⟨j, want⟩ := p
    rw [hg] at hw
    simp only at hw ⊢
    cases hq : ops[j]? with
    | none => rw [hq] at hw; cases hw
    | some q =>
      rw [hq] at hw
      simp only at hw ⊢
      cases hd : q.dst with
      | none => rw [hd] at hw; cases hw
      | some d =>
        rw [hd] at hw
        simp only at hw ⊢
        exact (h d).want hw
theorem OpS.le {P : Program} {o : Oper} {fr fr' : Fr} {ins outs : Upds} {v : AV} (h : fr'.le fr) (hs : OpS P o (evA fr') ins v outs) : OpS P o (evA fr) ins v outs := by
  intro I M w a σ K Q hop hst hi hn hK
  exact hs I M w a σ K Q (fun x hx => (evA_le h x).rp (hop x hx)) hst hi hn hK
theorem RecOk.congr {P : Program} {n : Nat} {ops : List Oper} {o : Oper} {s s' : State} {r : Rec} (hf : s'.fr.le s.fr) (hσ : s'.σ = s.σ) (h : RecOk P n ops o s' r) : RecOk P n ops o s r :=
  ⟨wantA_le hf h.w, h.d, fun hr => (h.h hr).le hf, h.x, by rw [← hσ]; exact h.i, by rw [← hσ]; exact h.u, by rw [← hσ]; exact h.n, h.f1, h.f2⟩
theorem put_le {fr fr' : Fr} (h : fr'.le fr) (d : Option Tmp) (v : AV) : (fr'.put d v).le (fr.put d v) := by
  cases d with
  | none => exact h
  | some d =>
    intro t
    rw [Fr.get_put, Fr.get_put]
    by_cases ht : t = d
    · rw [if_pos ht, if_pos ht]; exact .same
    · rw [if_neg ht, if_neg ht]; exact h t
theorem stT_congr {s s' : State} (hf : s'.fr.le s.fr) (hσ : s'.σ = s.σ) (ops : List Oper) (rs : List Rec) : ∀ j, (stT s' ops rs j).fr.le (stT s ops rs j).fr ∧ (stT s' ops rs j).σ = (stT s ops rs j).σ
  | 0 => ⟨hf, hσ⟩
  | j + 1 => by
    obtain ⟨h1, h2⟩ := stT_congr hf hσ ops rs j
    simp only [stT]
    split
    · exact ⟨put_le h1 _ _, by simp only; rw [h2]⟩
    · exact ⟨h1, h2⟩
theorem Le1.trans {a b c : AV} (h : Le1 a b) (k : Le1 b c) : Le1 a c := by
  induction h with
  | same => exact k
  | any => exact .any
  | ifb hb h ih => exact .ifb hb (ih k)
  | ifF hb =>
    generalize hq : AV.v undef = q at k
    cases k with
    | same => subst hq; exact .ifF hb
    | any => cases hq
    | ifb _ _ => cases hq
    | ifF _ => cases hq
theorem Fr.le_trans {a b c : Fr} (h : a.le b) (k : b.le c) : a.le c := fun t => (h t).trans (k t)
theorem Run.recs {P : Program} {n : Nat} {all : List Oper} {chk : List FP → Bool} {K : State → Prop} {rest : List Oper} {s : State} {acc : List FP} (hne : ¬ ∀ acc, chk acc = true) (h : Run P n all chk K rest s acc) :
    ∃ rs : List Rec, rs.length = rest.length ∧ (∀ j o r, rest[j]? = some o → rs[j]? = some r → RecOk P n all o (stT s rest rs j) r) ∧ chk (acc ++ rs.map fun r => r.f) = true ∧ ∃ s' : State, s'.fr.le (stT s rest rs rest.length).fr ∧ s'.σ = (stT s rest rs rest.length).σ ∧ K s' := by
  induction h with
  | nil hc hK => exact ⟨[], rfl, fun j o r h => by simp at h, by simpa using hc, _, fun _ => .same, rfl, hK⟩
  | @op o rest s acc ins outs v hw hd h hi hu hn hr ih =>
    obtain ⟨rs, h1, h2, h3, h4⟩ := ih
    refine ⟨⟨true, v, ins, outs, (keys ins, keys outs)⟩ :: rs, by simp [h1], fun j o' r ho hr' => ?_, by simpa using h3, by rw [List.length_cons, stT_cons]; exact h4⟩
    cases j with
    | zero =>
      obtain rfl : o = o' := by simpa using ho
      obtain rfl : (⟨true, v, ins, outs, (keys ins, keys outs)⟩ : Rec) = r := by simpa using hr'
      exact ⟨hw, hd, fun _ => h, (fun h => by cases h), hi, hu, hn, fun _ h => h, fun _ h => h⟩
    | succ j =>
      rw [stT_cons]
      exact h2 j o' r (by simpa using ho) (by simpa using hr')
  | opN hall => exact absurd hall hne
  | @conv fr fr' σ rest acc h hr ih =>
    obtain ⟨rs, h1, h2, h3, s', h4, h5, h6⟩ := ih
    have hc := stT_congr (s := ⟨fr, σ⟩) (s' := ⟨fr', σ⟩) h rfl rest rs
    exact ⟨rs, h1, fun j o r ho hr => (h2 j o r ho hr).congr (hc j).1 (hc j).2, h3, s', Fr.le_trans h4 (hc _).1, h5.trans (hc _).2, h6⟩
  | @skip o rest s acc f hw hd hr ih =>
    obtain ⟨rs, h1, h2, h3, h4⟩ := ih
    refine ⟨⟨false, .v undef, [], [], f⟩ :: rs, by simp [h1], fun j o' r ho hr' => ?_, by simpa [keys] using h3, by rw [List.length_cons, stT_cons]; exact h4⟩
    cases j with
    | zero =>
      obtain rfl : o = o' := by simpa using ho
      obtain rfl : (⟨false, .v undef, [], [], f⟩ : Rec) = r := by simpa using hr'
      exact ⟨hw, hd, (fun h => by cases h), fun _ => ⟨rfl, rfl, rfl⟩, (fun _ h => by cases h), rfl, (fun _ h => by cases h), (fun _ h => by cases h), (fun _ h => by cases h)⟩
    | succ j =>
      rw [stT_cons]
      exact h2 j o' r (by simpa using ho) (by simpa using hr')
end Go.Proofs.Ytbbcokckealagaa
