/-
  Arguments by their shape: what a call's arguments read as, out of the given reading of a claim; a law out of a call over values without addresses. No dump is used; no condition.
-/
import Derived.Test.YtbbcokckealagaaGreatQAD
import Derived.Carry
import Derived.ChangeArms
import Derived.WideShapes
import Derived.OpenVars
import Derived.ChangeShapes
import Derived.ChangeSlices
import Derived.DataElems
import Derived.RowKit
import Derived.Handed
import Derived.Below
namespace Go.Proofs.YtbbcokckealagaaGreat
set_option linter.unusedVariables false
set_option linter.unusedSimpArgs false
open Go.RowKit Go.ChangeShapes Go.WideShapes
inductive Sh
  | int (k : IntKind)
  | bool
  | str
  | sl (e : Sh)
  | st (fs : List Sh)
mutual
def Sh.cells : Sh → Nat
  | .st fs => Sh.cellsL fs
  | .int _ => 1
  | .bool => 1
  | .str => 1
  | .sl _ => 1
def Sh.cellsL : List Sh → Nat
  | [] => 0
  | f :: fs => f.cells + Sh.cellsL fs
end
mutual
def Sh.fits : Sh → List PV → Prop
  | .int k, ps => ∃ n, ps = [.v (.int k n)] ∧ (Lit.int k n).wf = true
  | .bool, ps => ∃ b, ps = [.v (.bool b)]
  | .str, ps => ∃ s : List UInt8, ps = [.v (.string (bs s))] ∧ s.length ≤ maxLen
  | .sl e, ps => ∃ xs, ps = [.sl e.cells xs] ∧ xs.length ≤ maxLen ∧ ∀ x ∈ xs, e.fits x
  | .st fs, ps => Sh.fitsL fs ps
def Sh.fitsL : List Sh → List PV → Prop
  | [], ps => ps = []
  | f :: fs, ps => ∃ a b, ps = a ++ b ∧ f.fits a ∧ Sh.fitsL fs b
end
mutual
def Sh.is (P : Program) : Sh → TypeId → Bool
  | .int k, t => match P.underlying t with
    | some (.int k') => decide (k' = k)
    | _ => false
  | .bool, t => match P.underlying t with
    | some .bool => true
    | _ => false
  | .str, t => match P.underlying t with
    | some .string => true
    | _ => false
  | .sl e, t => match P.underlying t with
    | some (.slice e') => Sh.is P e e' && (Nat.beq (P.cellsOf e') e.cells && Nat.blt 0 e.cells)
    | _ => false
  | .st fs, t => match P.underlying t with
    | some (.struct fds) => Nat.beq (P.cellsOf t) (Sh.cellsL fs) && Sh.isL P fs fds.toList 0
    | _ => false
def Sh.isL (P : Program) : List Sh → List Field → Nat → Bool
  | [], [], _ => true
  | s :: ss, f :: fs, off => Nat.beq f.offset off && (Nat.beq (P.cellsOf f.type) s.cells && (Sh.is P s f.type && Sh.isL P ss fs (off + s.cells)))
  | _, _, _ => false
end
def Sh.isSt : Sh → Bool
  | .st _ => true
  | _ => false
def Sh.av (s : Sh) (ps : List PV) : AV := match s.isSt with
  | true => .agg (ps.map PV.av)
  | false => match ps with
    | p :: _ => p.av
    | [] => .any
def blkMask (w : World) (b : Nat) : Nat := match w.heap[b]? with
  | some (.cells cs _ _) => cs.size
  | _ => 0
theorem blkMask_lt {w : World} {b o : Nat} {v : Value} (h : w.cell? ⟨b, o, none⟩ = some v) : o < blkMask w b := by
  unfold World.cell? at h
  unfold blkMask
  simp only at h
  cases hb : w.heap[b]? with
  | none => rw [hb] at h; cases h
  | some obj =>
    rw [hb] at h
    cases obj with
    | cells c e f =>
      simp only [Option.isSome_none, Bool.false_eq_true, if_false] at h
      exact (Array.getElem?_eq_some_iff.1 h).1
    | _ => cases h
theorem spot_none {w : World} {a : Addr} {v : Value} (h : w.cell? a = some v) : a.spot = none := by
  unfold World.cell? at h
  split at h
  · split at h
    · cases h
    · rename_i q; simpa using q
  · cases h
theorem list_of {α : Type} {Q : Nat → α → Prop} : ∀ {n : Nat}, (∀ i, i < n → ∃ y, Q i y) → ∃ l : List α, l.length = n ∧ ∀ i, i < n → ∃ y, l[i]? = some y ∧ Q i y := by
  intro n
  induction n with
  | zero => intro _; exact ⟨[], rfl, fun i h => by omega⟩
  | succ n ih =>
    intro h
    obtain ⟨l, h1, h2⟩ := ih (fun i hi => h i (by omega))
    obtain ⟨y, hy⟩ := h n (by omega)
    refine ⟨l ++ [y], by simp [h1], fun i hi => ?_⟩
    rcases Nat.lt_or_ge i n with q | q
    · obtain ⟨z, hz, hq⟩ := h2 i q
      exact ⟨z, by rw [List.getElem?_append_left (by omega)]; exact hz, hq⟩
    · obtain rfl : i = n := by omega
      exact ⟨y, by rw [List.getElem?_append_right (by omega), h1]; simp, hy⟩
section
variable {H : Type} {enc : TypeId × Value → H} {P : Program} {w : World} {base : Nat} {sp : Nat → Bool} {held : Bool}
def Sh.Good (P : Program) (w : World) (s : Sh) (cs : List Value) : Prop := ∃ pvs : List PV, pvs.length = cs.length ∧ cs.length = s.cells ∧ s.fits pvs ∧ ∀ (i : Nat) (v : Value) (p : PV), cs[i]? = some v → pvs[i]? = some p → RPV (blkMask w) w v p ∧ v.oneCell' = true
theorem Sh.good1 {s : Sh} {v : Value} {p : PV} (h1 : s.cells = 1) (h2 : s.fits [p]) (h3 : RPV (blkMask w) w v p) (h4 : v.oneCell' = true) : s.Good P w [v] :=
  ⟨[p], rfl, h1.symm, h2, fun i u q hu hq => by
    cases i with
    | zero => simp at hu hq; subst hu hq; exact ⟨h3, h4⟩
    | succ i => simp at hu⟩
theorem Sh.slice_good {e : Sh} {t' : TypeId} {a : Addr} {len cap : Nat} (hz0 : 0 < e.cells) (hc : P.cellsOf t' = e.cells) (hlc : len ≤ cap) (hcm : cap ≤ maxLen)
    (hel : ∀ i, i < len → ∃ cs, w.cells? base (a.add (i * P.cellsOf t')) (P.cellsOf t') = some cs ∧ e.Good P w cs) : (Sh.sl e).Good P w [.slice (some a) len cap] := by
  have hel' : ∀ i, i < len → ∃ ys : List PV, ys.length = e.cells ∧ e.fits ys ∧ ∀ j, j < e.cells → ∃ v, w.cell? (a.add (i * e.cells + j)) = some v ∧ v.oneCell' = true ∧ ∀ p, ys[j]? = some p → RPV (blkMask w) w v p := by
    intro i hi
    obtain ⟨cs, h1, ys, h2, h3, h4, h5⟩ := hel i hi
    refine ⟨ys, h2.trans h3, h4, fun j hj => ?_⟩
    obtain ⟨_, hl, hg⟩ := World.cells?_some h1
    have hj' : j < cs.length := by omega
    have hp : ys[j]? = some ys[j] := by simp
    obtain ⟨r1, r2⟩ := h5 j cs[j] ys[j] (by simp) hp
    have hcj := hg j (by omega)
    rw [hc] at hcj
    refine ⟨cs[j], ?_, r2, fun p hp' => ?_⟩
    · have e1 : (a.add (i * e.cells)).add j = a.add (i * e.cells + j) := Addr.add_add _ _ _
      rw [e1] at hcj
      rw [hcj]; simp [hj']
    · rw [hp] at hp'; injection hp' with hp'; subst hp'; exact r1
  obtain ⟨xs, hxl, hx⟩ := list_of hel'
  have hz : ∀ ys ∈ xs, ys.length = e.cells := by
    intro ys hys
    obtain ⟨i, hi, rfl⟩ := List.mem_iff_getElem.1 hys
    obtain ⟨y, h1, h2, _⟩ := hx i (by omega)
    rw [List.getElem?_eq_getElem hi] at h1
    injection h1 with h1; subst h1; exact h2
  have hcell : ∀ k, k < len * e.cells → ∃ v, w.cell? (a.add k) = some v ∧ v.oneCell' = true ∧ ∀ p, xs.flatten[k]? = some p → RPV (blkMask w) w v p := by
    intro k hk
    have hi : k / e.cells < len := by rw [Nat.div_lt_iff_lt_mul hz0]; exact hk
    obtain ⟨ys, h1, h2, _, h4⟩ := hx _ hi
    have hj : k % e.cells < e.cells := Nat.mod_lt _ hz0
    obtain ⟨v, r1, r2, r3⟩ := h4 _ hj
    have hkk : k / e.cells * e.cells + k % e.cells = k := by rw [Nat.mul_comm]; exact Nat.div_add_mod _ _
    rw [hkk] at r1
    refine ⟨v, r1, r2, fun p hp => r3 p ?_⟩
    have hyj : ys[k % e.cells]? = some (ys[k % e.cells]'(by omega)) := by simp
    have := flat_get hz h1 hyj
    rw [hkk, hp] at this
    rw [hyj, this]
  refine Sh.good1 (p := .sl e.cells xs) O ⟨xs, rfl, by omega, fun x hx' => ?_⟩ ?_ O
  · obtain ⟨i, hi, rfl⟩ := List.mem_iff_getElem.1 hx'
    obtain ⟨y, h1, _, h3, _⟩ := hx i (by omega)
    rw [List.getElem?_eq_getElem hi] at h1
    injection h1 with h1; subst h1; exact h3
  · have hb : 0 < len → a = ⟨a.block, a.off, none⟩ := by
      intro h0
      obtain ⟨v, r1, _⟩ := hcell 0 (Nat.mul_pos h0 hz0)
      have := spot_none r1
      have h0 : a.add 0 = a := rfl
      rw [h0] at this
      cases a; simp only at this; subst this; rfl
    have hcl : ∀ k, k < len * e.cells → ∃ v, w.cell? ⟨a.block, a.off + k, none⟩ = some v ∧ v.oneCell' = true ∧ ∀ p, xs.flatten[k]? = some p → RPV (blkMask w) w v p := by
      intro k hk
      obtain ⟨v, r1, r2⟩ := hcell k hk
      have h0 : 0 < len := by
        rcases Nat.eq_zero_or_pos len with h | h
        · subst h; omega
        · exact h
      have := hb h0
      generalize a.block = b, a.off = off at this ⊢
      subst this
      rw [Addr.add_lit] at r1
      exact ⟨v, r1, r2⟩
    refine .sl a.block a.off (fun k => (w.cell? ⟨a.block, a.off + k, none⟩).getD default) hxl hlc hz (fun h => by rw [← hb h]) (fun h => ?_) (fun k hk => ?_) (fun k hk => ?_) (fun k p hp => ?_)
    · obtain ⟨v, r1, _⟩ := hcl (len * e.cells - 1) (by have := Nat.mul_pos h hz0; omega)
      have := blkMask_lt r1
      have := Nat.mul_pos h hz0
      omega
    · obtain ⟨v, r1, _⟩ := hcl k hk
      rw [r1]; rfl
    · obtain ⟨v, r1, r2, _⟩ := hcl k hk
      rw [r1]; exact r2
    · have hk : k < len * e.cells := by
        have := (List.getElem?_eq_some_iff.1 hp).1
        rw [flat_len hz, hxl] at this; exact this
      obtain ⟨v, r1, _, r3⟩ := hcl k hk
      rw [r1]; exact r3 p hp
mutual
theorem Sh.read : ∀ (s : Sh) {t : TypeId} {fuel : Nat} {cs : List Value} {x : DataW H × List MemPlace}, s.is P t = true → DataW.trod enc P w base sp held fuel t cs = some x → s.Good P w cs
  | .int k, t, fuel, cs, x, hs, h => by
    simp only [Sh.is] at hs
    split at hs
    · rename_i k' ht
      obtain rfl : k' = k := of_decide_eq_true hs
      obtain ⟨n, rfl, _, hw⟩ := DataW.trod_int ht h
      exact Sh.good1 (p := .v (.int k' n)) O ⟨n, rfl, hw⟩ (.v _) O
    · cases hs
  | .bool, t, fuel, cs, x, hs, h => by
    simp only [Sh.is] at hs
    split at hs
    · rename_i ht
      obtain ⟨b, rfl, _⟩ := DataW.trod_bool ht h
      exact Sh.good1 (p := .v (.bool b)) O ⟨b, rfl⟩ (.v _) O
    · cases hs
  | .str, t, fuel, cs, x, hs, h => by
    simp only [Sh.is] at hs
    split at hs
    · rename_i ht
      obtain ⟨s, rfl, _, hl⟩ := DataW.trod_string ht h
      exact Sh.good1 (p := .v (.string s)) O ⟨s.data.toList, rfl, hl⟩ (.v _) O
    · cases hs
  | .sl e, t, fuel, cs, x, hs, h => by
    simp only [Sh.is] at hs
    split at hs
    · rename_i e' ht
      simp only [Bool.and_eq_true] at hs
      have h1 := Nat.eq_of_beq_eq_true hs.2.1
      have h2 : 0 < e.cells := by have := hs.2.2; rwa [Nat.blt_eq] at this
      rcases DataW.trod_slice ht h with ⟨rfl, _⟩ | ⟨a, len, cap, elems, rest, n, _, rfl, _, _, hlc, hcm, hlen, hel, _, _⟩
      · exact Sh.good1 (p := .sl e.cells []) O ⟨[], rfl, by simp, fun _ h => by cases h⟩ (.nil _ _ _ _ _) O
      · refine Sh.slice_good (base := base) h2 h1 hlc hcm fun i hi => ?_
        have := hel i hi
        rw [List.getElem?_eq_getElem (by omega), Option.bind_eq_some_iff] at this
        obtain ⟨cs, c1, c2⟩ := this
        exact ⟨cs, c1, Sh.read e hs.1 c2⟩
    · cases hs
  | .st fs, t, fuel, cs, x, hs, h => by
    simp only [Sh.is] at hs
    split at hs
    · rename_i fds ht
      simp only [Bool.and_eq_true] at hs
      have h1 := Nat.eq_of_beq_eq_true hs.1
      obtain ⟨xs, n, _, _, hl, hxl, hx⟩ := DataW.trod_struct ht h
      have hf : ∀ (i : Nat) (f : Field), fds.toList[i]? = some f → ∃ x, DataW.trod enc P w base sp held n f.type ((cs.drop f.offset).take (P.cellsOf f.type)) = some x := by
        intro i f hf
        have hf' : fds[i]? = some f := by simpa using hf
        refine ⟨_, (hx i f hf').trans (List.getElem?_eq_getElem ?_)⟩
        have := (Array.getElem?_eq_some_iff.1 hf').1
        omega
      obtain ⟨pvs, p1, p2, p3⟩ := Sh.readL fs hs.2 hf (by omega)
      refine ⟨pvs, by omega, by simp only [Sh.cells]; omega, p2, fun i v p hv hp => p3 i v p (by simpa using hv) hp⟩
    · cases hs
theorem Sh.readL : ∀ (ss : List Sh) {fs : List Field} {off n : Nat} {cs : List Value}, Sh.isL P ss fs off = true → (∀ (i : Nat) (f : Field), fs[i]? = some f → ∃ x, DataW.trod (H := H) enc P w base sp held n f.type ((cs.drop f.offset).take (P.cellsOf f.type)) = some x) → off + Sh.cellsL ss ≤ cs.length →
    ∃ pvs : List PV, pvs.length = Sh.cellsL ss ∧ Sh.fitsL ss pvs ∧ ∀ (i : Nat) (v : Value) (p : PV), cs[off + i]? = some v → pvs[i]? = some p → RPV (blkMask w) w v p ∧ v.oneCell' = true
  | [], fs, off, n, cs, hs, hf, hl => ⟨[], rfl, rfl, fun i v p _ hp => by simp at hp⟩
  | s :: ss, [], off, n, cs, hs, hf, hl => by simp [Sh.isL] at hs
  | s :: ss, f :: fs, off, n, cs, hs, hf, hl => by
    simp only [Sh.isL, Bool.and_eq_true] at hs
    obtain ⟨a1, a2, a3, a4⟩ := hs
    have a1 := Nat.eq_of_beq_eq_true a1
    have a2 := Nat.eq_of_beq_eq_true a2
    obtain ⟨x, hx⟩ := hf 0 f O
    rw [a1, a2] at hx
    obtain ⟨pv1, q1, q2, q3, q4⟩ := Sh.read s a3 hx
    simp only [Sh.cellsL] at hl
    obtain ⟨pv2, r1, r2, r3⟩ := Sh.readL ss a4 (fun i f hf' => hf (i + 1) f (by simpa using hf')) (by omega)
    refine ⟨pv1 ++ pv2, by simp only [List.length_append, Sh.cellsL]; omega, ⟨pv1, pv2, rfl, q3, r2⟩, fun i v p hv hp => ?_⟩
    rcases Nat.lt_or_ge i s.cells with q | q
    · rw [List.getElem?_append_left (by omega)] at hp
      refine q4 i v p ?_ hp
      rw [List.getElem?_take, if_pos q, List.getElem?_drop]
      exact hv
    · rw [List.getElem?_append_right (by omega)] at hp
      refine r3 (i - pv1.length) v p ?_ hp
      rw [← hv]; congr 1; omega
end
theorem okWide_not {s : Sh} {t : TypeId} {r : Reach} {b : Nat} {v : Value} (hn : s.isSt = false) (hs : s.is P t = true) (h : Value.okWide P w r b t v) : v.cells = #[v] := by
  cases s <;> simp only [Sh.is] at hs <;> split at hs <;> first | (cases hs; done) | (cases hn; done) | skip
  all_goals (rename_i ht; simp only [Value.okWide, ht, Cell.okWide] at h; cases v <;> simp_all [Cell.ok, Value.cells])
theorem Sh.readV (s : Sh) {t : TypeId} {v : Value} {d : DataW H} {ps : List MemPlace} {r : Reach} {b : Nat} (hs : s.is P t = true) (hok : Value.okWide P w r b t v) (h : DataW.Trod enc P w base sp held t v d ps) :
    ∃ pvs, s.fits pvs ∧ Rp (fun _ => .no) (blkMask w) w v (s.av pvs) := by
  obtain ⟨fuel, h⟩ := h
  obtain ⟨pvs, h1, h2, h3, h4⟩ := Sh.read s hs h
  refine ⟨pvs, h3, ?_⟩
  cases hst : s.isSt with
  | false =>
    rw [okWide_not hst hs hok] at h1 h4
    rcases pvs with _ | ⟨p, r⟩
    · simp at h1
    · unfold Sh.av
      rw [hst]
      exact (h4 0 v p O O).1.rp
  | true =>
    have hag : ∃ cs, v = .agg cs := by
      cases s <;> first | (cases hst; done) | skip
      simp only [Sh.is] at hs
      split at hs
      · rename_i ht
        obtain ⟨cs, e, _⟩ := okWide_struct ht hok
        exact ⟨cs, e⟩
      · cases hs
    obtain ⟨cs, rfl⟩ := hag
    unfold Sh.av
    rw [hst]
    simp only [Value.cells] at h1 h4
    have hsz : cs.size = pvs.length := by simpa using h1.symm
    refine .agg (by simpa using hsz) (fun i v hv => ?_) fun i v c hv hc => ?_
    · have hi : i < pvs.length := by have := (Array.getElem?_eq_some_iff.1 hv).1; omega
      exact (h4 i v pvs[i] (by simpa using hv) (by simp [hi])).2
    · rw [List.getElem?_map] at hc
      obtain ⟨p, hp, rfl⟩ := Option.map_eq_some_iff.1 hc
      exact (h4 i v p (by simpa using hv) hp).1.rp
def Sh.avs : List Sh → List (List PV) → List AV
  | s :: ss, p :: ps => s.av p :: Sh.avs ss ps
  | _, _ => []
def Sh.all : List Sh → List (List PV) → Prop
  | [], [] => True
  | s :: ss, p :: ps => s.fits p ∧ Sh.all ss ps
  | _, _ => False
def Sh.isAll (P : Program) : List Sh → List TypeId → Bool
  | [], [] => true
  | s :: ss, t :: ts => s.is P t && (P.readableRec t && (decide (t < P.types.size) && Sh.isAll P ss ts))
  | _, _ => false
theorem Sh.readAll : ∀ (ss : List Sh) {ts : List TypeId} {vs : List Value} {ds : List (DataW H)} {ps : List MemPlace} {r : Reach} {b : Nat}, Sh.isAll P ss ts = true → (∀ (j : Nat) (t : TypeId) (v : Value), ts[j]? = some t → vs[j]? = some v → Value.okWide P w r b t v) →
    DataW.TrodAll enc P w base sp held ts vs ds ps → ∃ pss, Sh.all ss pss ∧ vs.length = (Sh.avs ss pss).length ∧ ds.length = ts.length ∧ ∀ (j : Nat) (v : Value) (c : AV), vs[j]? = some v → (Sh.avs ss pss)[j]? = some c → Rp (fun _ => .no) (blkMask w) w v c
  | [], [], vs, ds, ps, r, b, hs, hok, h => by
    cases vs <;> cases ds <;> simp [DataW.TrodAll] at h
    exact ⟨[], trivial, rfl, rfl, fun j v c hv => by simp at hv⟩
  | [], t :: ts, vs, ds, ps, r, b, hs, hok, h => by simp [Sh.isAll] at hs
  | s :: ss, [], vs, ds, ps, r, b, hs, hok, h => by simp [Sh.isAll] at hs
  | s :: ss, t :: ts, vs, ds, ps, r, b, hs, hok, h => by
    simp only [Sh.isAll, Bool.and_eq_true] at hs
    obtain ⟨v, vs', d, ds', p, q, rfl, rfl, rfl, h1, h2⟩ := trodAll_cons h
    obtain ⟨pv, f1, f2⟩ := Sh.readV s hs.1 (hok 0 t v O O) h1
    obtain ⟨pss, g1, g2, g4, g3⟩ := Sh.readAll ss hs.2.2.2 (fun j t v ht hv => hok (j + 1) t v (by simpa using ht) (by simpa using hv)) h2
    refine ⟨pv :: pss, ⟨f1, g1⟩, by simp [Sh.avs, g2], by simp [g4], fun j v c hv hc => ?_⟩
    cases j with
    | zero => simp [Sh.avs] at hv hc; subst hv hc; exact f2
    | succ j => exact g3 j v c (by simpa using hv) (by simpa [Sh.avs] using hc)
theorem Sh.stayAll (hl : laidOutB P = true) : ∀ (ss : List Sh) {ts : List TypeId} {vs : List Value} {ds : List (DataW H)} {ps : List MemPlace} {W W' : World}, Sh.isAll P ss ts = true → DataW.TrodAll enc P W 0 (fun _ => true) true ts vs ds ps → Below W.heap.size W W' →
    DataW.TrodAll enc P W' 0 (fun b => decide (b < W.heap.size)) true ts vs ds ps
  | [], [], vs, ds, ps, W, W', hs, h, hb => by
    cases vs <;> cases ds <;> simp [DataW.TrodAll] at h ⊢
    exact h
  | [], t :: ts, vs, ds, ps, W, W', hs, h, hb => by simp [Sh.isAll] at hs
  | s :: ss, [], vs, ds, ps, W, W', hs, h, hb => by simp [Sh.isAll] at hs
  | s :: ss, t :: ts, vs, ds, ps, W, W', hs, h, hb => by
    simp only [Sh.isAll, Bool.and_eq_true] at hs
    obtain ⟨v, vs', d, ds', p, q, rfl, rfl, rfl, h1, h2⟩ := trodAll_cons h
    refine ⟨p, q, Below.trod hl hs.2.1 (of_decide_eq_true hs.2.2.1) h1 hb ?_, Sh.stayAll hl ss hs.2.2.2 h2 hb, rfl⟩
    obtain ⟨m, hm⟩ := h1
    exact DataW.trod_lt m _ _ _ hm
end
theorem trodVars_len {H : Type} {enc : TypeId × Value → H} {P : Program} {w : World} {sp : Nat → Bool} : ∀ {ns : List String} {gs : List (DataW H)} {ps : List MemPlace}, DataW.TrodVars enc P w sp ns gs ps → gs.length = ns.length
  | [], [], _, _ => rfl
  | [], _ :: _, _, h => h.elim
  | _ :: _, [], _, h => h.elim
  | n :: ns, d :: ds, _, h => by
    obtain ⟨_, _, _, _, _, _, _, _, _, _, h, _⟩ := h
    simp [trodVars_len h]
theorem Sh.all_cons {s : Sh} {ss : List Sh} {pss : List (List PV)} (h : Sh.all (s :: ss) pss) : ∃ p ps, pss = p :: ps ∧ s.fits p ∧ Sh.all ss ps := by
  cases pss with
  | nil => exact h.elim
  | cons p ps => exact ⟨p, ps, rfl, h.1, h.2⟩
theorem Sh.all_nil {pss : List (List PV)} (h : Sh.all [] pss) : pss = [] := by
  cases pss with
  | nil => rfl
  | cons p ps => exact h.elim
theorem wfi64 {n : Int} (h : (Lit.int .i64 n).wf = true) : -9223372036854775808 ≤ n ∧ n ≤ 9223372036854775807 := by simpa [Lit.wf, IntKind.min, IntKind.max, IntKind.signed, IntKind.bits] using h
theorem ints_of (k : IntKind) : ∀ (xs : List (List PV)), (∀ x ∈ xs, (Sh.int k).fits x) → ∃ l : List Int, xs = l.map (fun n => [PV.v (.int k n)]) ∧ ∀ n ∈ l, (Lit.int k n).wf = true := by
  intro xs
  induction xs with
  | nil => intro _; exact ⟨[], rfl, fun _ h => by cases h⟩
  | cons x xs ih =>
    intro h
    obtain ⟨l, rfl, hl⟩ := ih (fun y hy => h y (List.mem_cons_of_mem _ hy))
    obtain ⟨n, rfl, hn⟩ := h x (by simp)
    exact ⟨n :: l, rfl, fun m hm => (List.mem_cons.1 hm).elim (fun e => by rw [e]; exact hn) (hl m)⟩
theorem len2 {α : Type} (l : List α) (h : l.length = 2) : ∃ a b, l = [a, b] := by
  match l, h with
  | [a, b], _ => exact ⟨_, _, rfl⟩
theorem ACalls.law {P : Program} {f : FuncId} {args : List AV} (h : ACalls P f args [] (.v (.bool true)) []) {W : World} (htab : ∀ t ∈ tabs, Tb (blkMask W) W t) {cargs : Array Value} (hn : cargs.size = args.length) (ha : ∀ (i : Nat) (v : Value) (c : AV), cargs[i]? = some v → args[i]? = some c → Rp (fun _ => .no) (blkMask W) W v c) :
    Calls P f cargs W fun e W' => e = .returned (.bool true) ∧ Below W.heap.size W W' := by
  have hs0 : ∀ k, sto [] k = .no := fun k => by simp [sto]
  refine (h (fun _ => .no) (blkMask W) W cargs hn ha ⟨fun k => ?_, fun k k' b _ hb => ?_, fun b hb => ?_, htab⟩ (fun _ _ => rfl)).mono fun e W' ⟨cv, I', M', he, hr, _, _, hx, _⟩ => ?_
  · rw [hs0]; trivial
  · rw [hs0] at hb; cases hb
  · unfold blkMask
    rw [Array.getElem?_eq_none hb]
  · have := hr.val
    subst this
    refine ⟨he, hx.os, hx.tape, hx.output, hx.evo.size, fun k hk => (hx.oth k hk ?_).1⟩
    rintro ⟨k', hk'⟩
    rw [hs0] at hk'; cases hk'
theorem law_post {H : Type} {enc : TypeId × Value → H} {P : Program} {f : FuncId} {fn : Func} {s : ChangeSpec} {tb : TypeId} (ss : List Sh) (hl : laidOutB P = true) (hv : varsRowed P s.vars = true)
    (hfn : ∀ ds gs : List (DataW H), ds.length = fn.params.size → gs.length = s.vars.length → (s.fn H (ds ++ gs)).results = [.lit (.bool true)] ∧ (s.fn H (ds ++ gs)).args = ds ∧ (s.fn H (ds ++ gs)).vars = gs)
    (hrt : fn.resultTypes = #[tb]) (htb : P.underlying tb = some .bool) (hss : Sh.isAll P ss fn.params.toList = true)
    (hc : ∀ pss, Sh.all ss pss → ACalls P f (Sh.avs ss pss) [] (.v (.bool true)) [])
    {W : World} {base : Nat} {args : Array Value} {ds gs : List (DataW H)} {before : List MemPlace} (hval : ∀ (j : Nat) (t : TypeId) (v : Value), fn.params[j]? = some t → args[j]? = some v → Value.okWide P W .any base t v)
    (hW : DataW.Whole enc P fn.params.toList s.vars false W args.toList ds gs before) (htab : ∀ t ∈ tabs, Tb (blkMask W) W t := by first | assumption | (intro t ht; cases ht)) : Calls P f args W fun e W' => ∃ v, e = .returned v ∧ s.post enc P fn false true false false W args v W' := by
  have hW' := hW
  obtain ⟨p, q, hA, hV, hpq, _, _⟩ := hW
  obtain ⟨pss, g1, g2, g4, g3⟩ := Sh.readAll ss hss (fun j t v ht hv => hval j t v (by simpa using ht) (by simpa using hv)) hA
  refine (ACalls.law (hc pss g1) htab (by simpa using g2) (fun i v c hv hc => g3 i v c (by simpa using hv) hc)).mono fun e W' ⟨he, hb⟩ => ?_
  subst he
  obtain ⟨f1, f2, f3⟩ := hfn ds gs (by simpa using g4) (trodVars_len hV)
  have r1 := Sh.stayAll hl ss hss hA hb
  have r2 := Below.trodVars hl hb hv hV
  refine ⟨_, rfl, ds, gs, _, [], p, q, hW', ?_, by rw [f2]; exact r1, by rw [f3]; exact r2, hb.frame _, fun h => by cases h⟩
  rw [f1, hrt]
  exact trodAll_mk1 (Go.RowKit.shut_bool htb _)
end Go.Proofs.YtbbcokckealagaaGreat
