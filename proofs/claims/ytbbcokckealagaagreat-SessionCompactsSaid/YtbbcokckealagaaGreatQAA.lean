/-
  A walk over values without addresses. What a slot or a cell of memory holds is told by an abstract value: a slice by the list that it reads as, a local variable in memory by a number. Here: what such values mean in a world, what a step leaves of that, and renaming. Nothing of the dump is used; no condition.
-/
import Derived.WalkKit
import Derived.ProofKit
import Derived.Lib.Hide
import Derived.Deep.Draws
import Derived.Laws.IdiomCopy
import Derived.Deep.AppendLies
import Derived.Maps.AppendAt
namespace Go.Proofs.YtbbcokckealagaaGreat
set_option linter.unusedVariables false
set_option linter.unusedSimpArgs false
theorem O.{u} {α : Sort u} {a : α} : a = a := rfl
theorem kA (a b : Bool) : ((a && b) = true) = (a = true ∧ b = true) := Bool.and_eq_true a b
theorem kB (a b : Bool) : ((a || b) = true) = (a = true ∨ b = true) := Bool.or_eq_true a b
theorem kC (b : Bool) : ((!b) = true) = (b = false) := Bool.not_eq_true' b
theorem kD (b : Bool) : ((!b) = false) = (b = true) := Bool.not_eq_false' b
theorem kE {x y : Bool} : (x && y) = false ↔ x = false ∨ y = false := Bool.and_eq_false_iff
theorem kF {x y : Bool} : (x || y) = false ↔ x = false ∧ y = false := Bool.or_eq_false_iff
theorem kG {x y : Bool} : (x && y) = false ↔ (x = true → y = false) := Bool.and_eq_false_imp
theorem kH {p : Prop} [Decidable p] : (decide p = true) = p := decide_eq_true_eq
theorem kI {p : Prop} {x : Decidable p} : decide p = false ↔ ¬p := decide_eq_false_iff_not
theorem kJ {p : Prop} [Decidable p] : ¬¬p ↔ p := Decidable.not_not
theorem kK {a b : Int} : ¬a < b ↔ b ≤ a := Int.not_lt
theorem kL {a b : Int} : ¬a ≤ b ↔ b < a := Int.not_le
theorem kM.{u} {α : Sort u} (a b : α) : (a ≠ b) = ¬a = b := ne_eq a b
theorem kN (b : Bool) : (!!b) = b := Bool.not_not b
open Go.RowKit
def tabs : List (Nat × IntKind × List Int) := []
abbrev u8T : TypeId := 5
inductive PV
  | v (x : Value)
  | sl (sz : Nat) (xs : List (List PV))
instance : Inhabited PV := ⟨.v default⟩
inductive AV
  | any
  | v (x : Value)
  | agg (cs : List AV)
  | tup (vs : List AV)
  | sl (sz : Nat) (xs : List (List PV)) (full : Bool)
  | row (t n : Nat)
  | ptr (k off : Nat)
  | bsl (k sz lo n C : Nat)
  | mb (k lo : Nat) (n : Option Nat)
  | tp (k T n : Nat)
  | ep (ys : List PV) (j : Nat)
  | fn (f : FuncId) (cs : List AV)
  | ifb (b : Bool) (v : AV)
instance : Inhabited AV := ⟨.any⟩
inductive CI
  | no
  | box (b : Nat)
  | row (xs : List (List PV)) (sz : Nat) (A : Option Addr) (c : Nat)
  | mb (b C : Nat)
inductive Res
  | no
  | box (cs : List AV)
  | row (sz : Nat) (xs : List (List PV))
  | mby (l : List UInt8)
instance : Inhabited Res := ⟨.no⟩

def ety (w : World) (b : Nat) : Option (TypeId × Nat) := match w.heap[b]? with
  | some (.cells c e _) => some (e, c.size)
  | _ => none
theorem ety_of {w w' : World} (h : ∀ b, b < w.heap.size → w'.heap[b]? = w.heap[b]?) : ∀ b T, ety w b = some T → ety w' b = some T := by
  intro b T hT
  have hb : b < w.heap.size := by
    rcases Nat.lt_or_ge b w.heap.size with hb | hb
    · exact hb
    · rw [ety, Array.getElem?_eq_none hb] at hT; cases hT
  rw [ety, h b hb]
  exact hT
theorem ety_one {w w' : World} {g : Nat} {cur cur' : Array Value} {e : TypeId} {f f' : Nat × Nat} (h0 : w.heap[g]? = some (.cells cur e f)) (h1 : w'.heap[g]? = some (.cells cur' e f')) (h : ∀ b, b ≠ g → w'.heap[b]? = w.heap[b]?) (hs : cur'.size = cur.size) : ∀ b T, ety w b = some T → ety w' b = some T := by
  intro b T hT
  by_cases hb : b = g
  · subst hb
    rw [ety, h0] at hT
    rw [ety, h1]
    simp only [hs]
    exact hT
  · rw [ety, h b hb]
    exact hT
inductive RPV (M : Nat → Nat) (w : World) : Value → PV → Prop
  | v (x : Value) : RPV M w x (.v x)
  | sl {A : Option Addr} {n c sz : Nat} {xs : List (List PV)} (b off : Nat) (u : Nat → Value) (hn : xs.length = n) (hc : n ≤ c) (hz : ∀ ys ∈ xs, ys.length = sz)
      (hA : 0 < n → A = some ⟨b, off, none⟩) (hM : 0 < n → off + n * sz ≤ M b)
      (hcell : ∀ j, j < n * sz → w.cell? ⟨b, off + j, none⟩ = some (u j)) (h1 : ∀ j, j < n * sz → (u j).oneCell' = true)
      (hu : ∀ j p, xs.flatten[j]? = some p → RPV M w (u j) p) : RPV M w (.slice A n c) (.sl sz xs)

inductive Rp (I : Nat → CI) (M : Nat → Nat) (w : World) : Value → AV → Prop
  | any (x : Value) : Rp I M w x .any
  | v (x : Value) : Rp I M w x (.v x)
  | agg {vs : Array Value} {cs : List AV} (h : vs.size = cs.length) (h1 : ∀ (i : Nat) (v : Value), vs[i]? = some v → v.oneCell' = true) (hc : ∀ (i : Nat) (v : Value) (c : AV), vs[i]? = some v → cs[i]? = some c → Rp I M w v c) : Rp I M w (.agg vs) (.agg cs)
  | tup {vs : Array Value} {cs : List AV} (h : vs.size = cs.length) (hc : ∀ (i : Nat) (v : Value) (c : AV), vs[i]? = some v → cs[i]? = some c → Rp I M w v c) : Rp I M w (.tuple vs) (.tup cs)
  | sl {A : Option Addr} {n c sz : Nat} {xs : List (List PV)} {full : Bool} (h : RPV M w (.slice A n c) (.sl sz xs)) (hf : full = true → c = n) : Rp I M w (.slice A n c) (.sl sz xs full)
  | row {A A0 : Option Addr} {t n c c0 sz : Nat} {xs : List (List PV)} (hI : I t = .row xs sz A0 c0) (hn : n ≤ xs.length) (h : RPV M w (.slice A n c) (.sl sz (xs.take n)))
      (hk : n = xs.length → A = A0 ∧ c = c0) : Rp I M w (.slice A n c) (.row t n)
  | ptr {k off b : Nat} (hI : I k = .box b) : Rp I M w (.pointer (some ⟨b, off, none⟩)) (.ptr k off)
  | bsl {k sz lo n C b : Nat} {A : Option Addr} (hI : I k = .box b) (hn : lo + n ≤ C) (hA : lo < C → A = some ⟨b, lo * sz, none⟩) : Rp I M w (.slice A n (C - lo)) (.bsl k sz lo n C)
  | mb {k lo n C b : Nat} {A : Option Addr} (hI : I k = .mb b C) (hn : lo + n ≤ C) (hA : lo < C → A = some ⟨b, lo, none⟩) : Rp I M w (.slice A n (C - lo)) (.mb k lo (some n))
  | mbp {k lo C b : Nat} {A : Option Addr} (hI : I k = .mb b C) (hA : lo < C → A = some ⟨b, lo, none⟩) : Rp I M w (.pointer A) (.mb k lo none)
  | tp {k T n b : Nat} (hI : I k = .box b) (hT : ety w b = some (T, n)) : Rp I M w (.pointer (some ⟨b, 0, none⟩)) (.tp k T n)
  | ep {b off j : Nat} {ys : List PV} (u : Nat → Value) (hj : j ≤ ys.length) (hM : off + ys.length ≤ M b)
      (hcell : ∀ i, i < ys.length → w.cell? ⟨b, off + i, none⟩ = some (u i)) (h1 : ∀ i, i < ys.length → (u i).oneCell' = true) (hu : ∀ i p, ys[i]? = some p → RPV M w (u i) p) : Rp I M w (.pointer (some ⟨b, off + j, none⟩)) (.ep ys j)
  | fn {f : FuncId} {vs : Array Value} {cs : List AV} (h : vs.size = cs.length) (hc : ∀ (i : Nat) (v : Value) (c : AV), vs[i]? = some v → cs[i]? = some c → Rp I M w v c) : Rp I M w (.func (.func f) #[] vs) (.fn f cs)
  | fnb {f : FuncId} {v : Value} {c : AV} (h : Rp I M w v c) : Rp I M w (.func (.func f) #[v] #[]) (.fn f [.ep [] 1, c])
  | ifb {b : Bool} {x : Value} {v : AV} (h : b = true → Rp I M w x v) (hf : b = false → x = undef) : Rp I M w x (.ifb b v)

def CI.le : CI → CI → Prop
  | .no, _ => True
  | .box b, .box b' => b = b'
  | .mb b C, .mb b' C' => b = b' ∧ C = C'
  | .row xs sz A c, .row xs' sz' A' c' => sz = sz' ∧ (∃ ys, xs' = xs ++ ys) ∧ (xs.length = xs'.length → A = A' ∧ c = c')
  | _, _ => False
theorem CI.le_refl (a : CI) : a.le a := by
  cases a with
  | no => trivial
  | box b => rfl
  | mb b C => exact ⟨rfl, rfl⟩
  | row xs sz A c => exact ⟨rfl, ⟨[], by simp⟩, fun _ => ⟨rfl, rfl⟩⟩
theorem CI.le_trans {a b c : CI} (h : a.le b) (k : b.le c) : a.le c := by
  cases a with
  | no => trivial
  | box b0 =>
    cases b with
    | box b1 => cases c with
      | box b2 => exact Eq.trans h k
      | _ => exact k.elim
    | _ => exact h.elim
  | mb b0 C0 =>
    cases b with
    | mb b1 C1 => cases c with
      | mb b2 C2 => exact ⟨h.1.trans k.1, h.2.trans k.2⟩
      | _ => exact k.elim
    | _ => exact h.elim
  | row xs sz A c0 =>
    cases b with
    | row xs1 sz1 A1 c1 =>
      cases c with
      | row xs2 sz2 A2 c2 =>
        obtain ⟨h1, ⟨ys, rfl⟩, h3⟩ := h
        obtain ⟨k1, ⟨zs, rfl⟩, k3⟩ := k
        refine ⟨h1.trans k1, ⟨ys ++ zs, by simp⟩, fun e => ?_⟩
        rw [List.length_append, List.length_append] at e
        have e1 : ys.length = 0 := by omega
        have e2 : zs.length = 0 := by omega
        obtain ⟨a1, a2⟩ := h3 (by simp [e1])
        obtain ⟨b1, b2⟩ := k3 (by simp [e2])
        exact ⟨a1.trans b1, a2.trans b2⟩
      | _ => exact k.elim
    | _ => exact h.elim

structure Evo (M M' : Nat → Nat) (w w' : World) : Prop where
  size : w.heap.size ≤ w'.heap.size
  mask : ∀ b, M b ≤ M' b
  keep : ∀ b o v, o < M b → w.cell? ⟨b, o, none⟩ = some v → w'.cell? ⟨b, o, none⟩ = some v
  ty : ∀ b T, ety w b = some T → ety w' b = some T
theorem Evo.refl (M : Nat → Nat) (w : World) : Evo M M w w := ⟨Nat.le_refl _, fun _ => Nat.le_refl _, fun _ _ _ _ h => h, fun _ _ h => h⟩
theorem Evo.trans {M M' M'' : Nat → Nat} {w w' w'' : World} (h : Evo M M' w w') (k : Evo M' M'' w' w'') : Evo M M'' w w'' :=
  ⟨Nat.le_trans h.size k.size, fun b => Nat.le_trans (h.mask b) (k.mask b), fun b o v ho hv => k.keep b o v (Nat.lt_of_lt_of_le ho (h.mask b)) (h.keep b o v ho hv), fun b T hT => k.ty b T (h.ty b T hT)⟩
theorem RPV.evo {M M' : Nat → Nat} {w w' : World} (e : Evo M M' w w') {x : Value} {p : PV} (h : RPV M w x p) : RPV M' w' x p := by
  induction h with
  | v x => exact .v x
  | sl b off u hn hc hz hA hM hcell h1 hu ih =>
    refine .sl b off u hn hc hz hA (fun h => Nat.le_trans (hM h) (e.mask b)) (fun j hj => e.keep b _ _ ?_ (hcell j hj)) h1 ih
    rename_i n c sz xs
    have h0 : 0 < n := by
      rcases Nat.eq_zero_or_pos n with h | h
      · subst h; omega
      · exact h
    have := hM h0
    omega
theorem Rp.evo {I I' : Nat → CI} {M M' : Nat → Nat} {w w' : World} (hI : ∀ k, (I k).le (I' k)) (e : Evo M M' w w') {x : Value} {p : AV} (h : Rp I M w x p) : Rp I' M' w' x p := by
  induction h with
  | any x => exact .any x
  | v x => exact .v x
  | agg h h1 hc ih => exact .agg h h1 ih
  | tup h hc ih => exact .tup h ih
  | sl h hf => exact .sl (h.evo e) hf
  | @row A A0 t n c c0 sz xs h1 hn h hk =>
    have h2 := hI t
    rw [h1] at h2
    cases h3 : I' t with
    | row xs' sz' A' c' =>
      rw [h3] at h2
      obtain ⟨rfl, ⟨ys, rfl⟩, h5⟩ := h2
      have ht : (xs ++ ys).take n = xs.take n := by rw [List.take_append_of_le_length hn]
      refine .row h3 (by simp; omega) (by rw [ht]; exact h.evo e) fun h6 => ?_
      have h7 : n = xs.length := by simp at h6; omega
      obtain ⟨a, b⟩ := hk h7
      obtain ⟨a', b'⟩ := h5 (by rw [← h6, h7])
      exact ⟨a.trans a', b.trans b'⟩
    | _ => rw [h3] at h2; exact h2.elim
  | @ptr k off b h1 =>
    have h2 := hI k
    rw [h1] at h2
    cases h3 : I' k with
    | box b' => rw [h3] at h2; obtain rfl : b = b' := h2; exact .ptr h3
    | _ => rw [h3] at h2; exact h2.elim
  | @bsl k sz lo n C b A h1 hn hA =>
    have h2 := hI k
    rw [h1] at h2
    cases h3 : I' k with
    | box b' => rw [h3] at h2; obtain rfl : b = b' := h2; exact .bsl h3 hn hA
    | _ => rw [h3] at h2; exact h2.elim
  | @mb k lo n C b A h1 hn hA =>
    have h2 := hI k
    rw [h1] at h2
    cases h3 : I' k with
    | mb b' C' => rw [h3] at h2; obtain ⟨rfl, rfl⟩ := h2; exact .mb h3 hn hA
    | _ => rw [h3] at h2; exact h2.elim
  | @mbp k lo C b A h1 hA =>
    have h2 := hI k
    rw [h1] at h2
    cases h3 : I' k with
    | mb b' C' => rw [h3] at h2; obtain ⟨rfl, rfl⟩ := h2; exact .mbp h3 hA
    | _ => rw [h3] at h2; exact h2.elim
  | @tp k T n b h1 hT =>
    have h2 := hI k
    rw [h1] at h2
    cases h3 : I' k with
    | box b' => rw [h3] at h2; obtain rfl : b = b' := h2; exact .tp h3 (e.ty _ _ hT)
    | _ => rw [h3] at h2; exact h2.elim
  | @ep b off j ys u hj hM hcell h1 hu =>
    exact .ep u hj (Nat.le_trans hM (e.mask b)) (fun i hi => e.keep _ _ _ (by omega) (hcell i hi)) h1 (fun i p hp => (hu i p hp).evo e)
  | fn h hc ih => exact .fn h ih
  | fnb h ih => exact .fnb ih
  | ifb h hf ih => exact .ifb ih hf

mutual
def AV.ren (ρ : Nat → Nat) : AV → AV
  | .agg cs => .agg (AV.rens ρ cs)
  | .tup cs => .tup (AV.rens ρ cs)
  | .fn f cs => .fn f (AV.rens ρ cs)
  | .row t n => .row (ρ t) n
  | .ptr k off => .ptr (ρ k) off
  | .bsl k sz lo n C => .bsl (ρ k) sz lo n C
  | .mb k lo n => .mb (ρ k) lo n
  | .tp k T n => .tp (ρ k) T n
  | .any => .any
  | .v x => .v x
  | .sl sz xs full => .sl sz xs full
  | .ep ys j => .ep ys j
  | .ifb b u => .ifb b (u.ren ρ)
def AV.rens (ρ : Nat → Nat) : List AV → List AV
  | [] => []
  | c :: cs => c.ren ρ :: AV.rens ρ cs
end
theorem AV.rens_map (ρ : Nat → Nat) (l : List AV) : AV.rens ρ l = l.map (AV.ren ρ) := by
  induction l with
  | nil => rfl
  | cons c cs ih => simp [AV.rens, ih]
mutual
def AV.lt (n : Nat) : AV → Bool
  | .agg cs => AV.lts n cs
  | .tup cs => AV.lts n cs
  | .fn _ cs => AV.lts n cs
  | .row t _ => decide (t < n)
  | .ptr k _ => decide (k < n)
  | .bsl k _ _ _ _ => decide (k < n)
  | .mb k _ _ => decide (k < n)
  | .tp k _ _ => decide (k < n)
  | .ifb _ u => u.lt n
  | _ => true
def AV.lts (n : Nat) : List AV → Bool
  | [] => true
  | c :: cs => AV.lt n c && AV.lts n cs
end
theorem AV.lts_get {n : Nat} {l : List AV} (h : AV.lts n l = true) {i : Nat} {c : AV} (hc : l[i]? = some c) : c.lt n = true := by
  induction l generalizing i with
  | nil => cases hc
  | cons d r ih =>
    simp only [AV.lts, Bool.and_eq_true] at h
    cases i with
    | zero => obtain rfl : d = c := by simpa using hc
              exact h.1
    | succ i => exact ih h.2 (by simpa using hc)
section
variable {I I' : Nat → CI} {M : Nat → Nat} {w : World}
theorem Rp.rename {ρ : Nat → Nat} {x : Value} {p : AV} (h : Rp (fun i => I (ρ i)) M w x p) : Rp I M w x (p.ren ρ) := by
  induction h with
  | any x => exact .any x
  | v x => exact .v x
  | agg h h1 hc ih =>
    refine .agg (by rw [AV.rens_map]; simpa using h) h1 fun i v c hv hc' => ?_
    rw [AV.rens_map, List.getElem?_map] at hc'
    obtain ⟨c0, h0, rfl⟩ := Option.map_eq_some_iff.1 hc'
    exact ih i v c0 hv h0
  | tup h hc ih =>
    refine .tup (by rw [AV.rens_map]; simpa using h) fun i v c hv hc' => ?_
    rw [AV.rens_map, List.getElem?_map] at hc'
    obtain ⟨c0, h0, rfl⟩ := Option.map_eq_some_iff.1 hc'
    exact ih i v c0 hv h0
  | sl h hf => exact .sl h hf
  | row hI hn h hk => exact .row hI hn h hk
  | ptr hI => exact .ptr hI
  | bsl hI hn hA => exact .bsl hI hn hA
  | mb hI hn hA => exact .mb hI hn hA
  | mbp hI hA => exact .mbp hI hA
  | tp hI hT => exact .tp hI hT
  | ep u hj hM hcell h1 hu => exact .ep u hj hM hcell h1 hu
  | fn h hc ih =>
    refine .fn (by rw [AV.rens_map]; simpa using h) fun i v c hv hc' => ?_
    rw [AV.rens_map, List.getElem?_map] at hc'
    obtain ⟨c0, h0, rfl⟩ := Option.map_eq_some_iff.1 hc'
    exact ih i v c0 hv h0
  | fnb h ih => simp only [AV.ren, AV.rens]; exact .fnb ih
  | ifb h hf ih => exact .ifb ih hf
theorem Rp.unname {ρ : Nat → Nat} {x : Value} {q : AV} (h : Rp I M w x q) : ∀ p : AV, q = p.ren ρ → Rp (fun i => I (ρ i)) M w x p := by
  induction h with
  | any x => intro p e; cases p <;> simp only [AV.ren] at e <;> first | exact .any x | cases e
  | v x => intro p e; cases p <;> simp only [AV.ren] at e <;> first | (injection e with e; subst e; exact .v _) | cases e
  | agg h h1 hc ih =>
    intro p e
    cases p <;> simp only [AV.ren] at e <;> first | cases e | skip
    rename_i ds
    simp only [AV.rens_map] at *
    refine .agg (by simpa using h) h1 fun i v c hv hc' => ih i v (c.ren ρ) hv (by rw [List.getElem?_map, hc']; rfl) c O
  | tup h hc ih =>
    intro p e
    cases p <;> simp only [AV.ren] at e <;> first | cases e | skip
    rename_i ds
    simp only [AV.rens_map] at *
    refine .tup (by simpa using h) fun i v c hv hc' => ih i v (c.ren ρ) hv (by rw [List.getElem?_map, hc']; rfl) c O
  | sl h hf => intro p e; cases p <;> simp only [AV.ren] at e <;> first | (injection e with e1 e2 e3; subst e1 e2 e3; exact .sl h hf) | cases e
  | row hI hn h hk => intro p e; cases p <;> simp only [AV.ren] at e <;> first | (injection e with e1 e2; subst e1 e2; exact .row hI hn h hk) | cases e
  | ptr hI => intro p e; cases p <;> simp only [AV.ren] at e <;> first | (injection e with e1 e2; subst e1 e2; exact .ptr hI) | cases e
  | bsl hI hn hA => intro p e; cases p <;> simp only [AV.ren] at e <;> first | (injection e with e1 e2 e3 e4 e5; subst e1 e2 e3 e4 e5; exact .bsl hI hn hA) | cases e
  | mb hI hn hA => intro p e; cases p <;> simp only [AV.ren] at e <;> first | (injection e with e1 e2 e3; subst e1 e2 e3; exact .mb hI hn hA) | cases e
  | mbp hI hA => intro p e; cases p <;> simp only [AV.ren] at e <;> first | (injection e with e1 e2 e3; subst e1 e2 e3; exact .mbp hI hA) | cases e
  | tp hI hT => intro p e; cases p <;> simp only [AV.ren] at e <;> first | (injection e with e1 e2 e3; subst e1 e2 e3; exact .tp hI hT) | cases e
  | ep u hj hM hcell h1 hu => intro p e; cases p <;> simp only [AV.ren] at e <;> first | (injection e with e1 e2; subst e1 e2; exact .ep u hj hM hcell h1 hu) | cases e
  | fn h hc ih =>
    intro p e
    cases p <;> simp only [AV.ren] at e <;> first | cases e | skip
    rename_i ds
    simp only [AV.rens_map] at *
    refine .fn (by simpa using h) fun i v c hv hc' => ih i v (c.ren ρ) hv (by rw [List.getElem?_map, hc']; rfl) c O
  | fnb h ih =>
    intro p e
    cases p <;> simp only [AV.ren] at e <;> first | cases e | skip
    rename_i f' ds
    injection e with e1 e2
    subst e1
    match ds, e2 with
    | [d, x], e2 =>
      simp only [AV.rens, List.cons.injEq, and_true] at e2
      obtain ⟨e2, e3⟩ := e2
      cases d <;> simp only [AV.ren] at e2 <;> first | cases e2 | skip
      exact .fnb (ih x e3)
    | [], e2 => simp [AV.rens] at e2
    | [_], e2 => simp [AV.rens] at e2
    | _ :: _ :: _ :: _, e2 => simp [AV.rens] at e2
  | ifb h hf ih => intro p e; cases p <;> simp only [AV.ren] at e <;> first | (injection e with e1 e2; subst e1; exact .ifb (fun hb => ih hb _ e2) hf) | cases e
theorem Rp.agree {n : Nat} (hI : ∀ k, k < n → I' k = I k) {x : Value} {p : AV} (h : Rp I M w x p) : p.lt n = true → Rp I' M w x p := by
  induction h with
  | any x => exact fun _ => .any x
  | v x => exact fun _ => .v x
  | agg h h1 hc ih => exact fun l => .agg h h1 fun i v c hv hc' => ih i v c hv hc' (AV.lts_get (by simpa [AV.lt] using l) hc')
  | tup h hc ih => exact fun l => .tup h fun i v c hv hc' => ih i v c hv hc' (AV.lts_get (by simpa [AV.lt] using l) hc')
  | sl h hf => exact fun _ => .sl h hf
  | row h1 hn h hk => exact fun l => .row (by rw [hI _ (by simpa [AV.lt] using l)]; exact h1) hn h hk
  | ptr h1 => exact fun l => .ptr (by rw [hI _ (by simpa [AV.lt] using l)]; exact h1)
  | bsl h1 hn hA => exact fun l => .bsl (by rw [hI _ (by simpa [AV.lt] using l)]; exact h1) hn hA
  | mb h1 hn hA => exact fun l => .mb (by rw [hI _ (by simpa [AV.lt] using l)]; exact h1) hn hA
  | mbp h1 hA => exact fun l => .mbp (by rw [hI _ (by simpa [AV.lt] using l)]; exact h1) hA
  | tp h1 hT => exact fun l => .tp (by rw [hI _ (by simpa [AV.lt] using l)]; exact h1) hT
  | ep u hj hM hcell h1 hu => exact fun _ => .ep u hj hM hcell h1 hu
  | fn h hc ih => exact fun l => .fn h fun i v c hv hc' => ih i v c hv hc' (AV.lts_get (by simpa [AV.lt] using l) hc')
  | fnb h ih => exact fun l => .fnb (ih (by simpa [AV.lt, AV.lts] using l))
  | ifb h hf ih => exact fun l => .ifb (fun hb => ih hb (by simpa [AV.lt] using l)) hf
end

def blkOf : CI → Res → Option Nat
  | .box b, .box _ => some b
  | .mb b C, .mby _ => if C = 0 then none else some b
  | .row _ _ A c, .row _ xs => if c = xs.length then none else A.map (·.block)
  | _, _ => none
def Unfr (fr : Nat × Nat) (n : Nat) : Prop := ∀ o, o < n → ¬ (fr.1 ≤ o ∧ o < fr.2)
def Own1 (I : Nat → CI) (M : Nat → Nat) (w : World) (ci : CI) : Res → Prop
  | .no => True
  | .box cs => ∃ b cur e, ci = .box b ∧ w.heap[b]? = some (.cells cur e (0, 0)) ∧ M b = 0 ∧ cur.size = cs.length ∧ (∀ (i : Nat) (v : Value), cur[i]? = some v → v.oneCell' = true) ∧ ∀ (i : Nat) (v : Value) (c : AV), cur[i]? = some v → cs[i]? = some c → Rp I M w v c
  | .row sz xs => ∃ A c, ci = .row xs sz A c ∧ RPV M w (.slice A xs.length c) (.sl sz xs) ∧
      (c ≠ xs.length → ∃ g cur e fr, A = some ⟨g, 0, none⟩ ∧ w.heap[g]? = some (.cells cur e fr) ∧ cur.size = c * sz ∧ M g = xs.length * sz ∧ Unfr fr cur.size)
  | .mby l => ∃ b C, ci = .mb b C ∧ l.length ≤ C ∧ (0 < C → ∃ cur fz, w.heap[b]? = some (.cells cur u8T fz) ∧ M b = 0 ∧ Unfr fz cur.size ∧ cur.size = C ∧ ∀ (i : Nat) (c : UInt8), l[i]? = some c → cur[i]? = some (.int .u8 (c.toNat : Int)))
def Tb (M : Nat → Nat) (w : World) (t : Nat × IntKind × List Int) : Prop :=
  ∃ e fr, w.heap[t.1]? = some (.cells (t.2.2.map fun z => Value.int t.2.1 z).toArray e fr) ∧ M t.1 = t.2.2.length ∧ 0 < t.2.2.length
structure Sto (I : Nat → CI) (M : Nat → Nat) (w : World) (σ : Nat → Res) : Prop where
  own : ∀ k, Own1 I M w (I k) (σ k)
  dis : ∀ k k' b, k ≠ k' → blkOf (I k) (σ k) = some b → blkOf (I k') (σ k') ≠ some b
  top : ∀ b, w.heap.size ≤ b → M b = 0
  tab : ∀ t ∈ tabs, Tb M w t
structure Ext (own : Nat → Prop) (I I' : Nat → CI) (M M' : Nat → Nat) (w w' : World) : Prop where
  os : w'.os = w.os
  tape : w'.tape = w.tape
  output : w'.output = w.output
  le : ∀ k, (I k).le (I' k)
  evo : Evo M M' w w'
  oth : ∀ b, b < w.heap.size → ¬ own b → w'.heap[b]? = w.heap[b]? ∧ M' b = M b
theorem Ext.refl (own : Nat → Prop) (I : Nat → CI) (M : Nat → Nat) (w : World) : Ext own I I M M w w :=
  ⟨rfl, rfl, rfl, fun _ => CI.le_refl _, Evo.refl _ _, fun _ _ _ => ⟨rfl, rfl⟩⟩
theorem Ext.wide {own own' : Nat → Prop} {I I' : Nat → CI} {M M' : Nat → Nat} {w w' : World} (h : Ext own I I' M M' w w') (ho : ∀ b, b < w.heap.size → own b → own' b) : Ext own' I I' M M' w w' :=
  ⟨h.os, h.tape, h.output, h.le, h.evo, fun b hb hn => h.oth b hb fun h => hn (ho b hb h)⟩
theorem Ext.trans {own own' : Nat → Prop} {I I' I'' : Nat → CI} {M M' M'' : Nat → Nat} {w w' w'' : World} (h : Ext own I I' M M' w w') (k : Ext own' I' I'' M' M'' w' w'') (ho : ∀ b, b < w.heap.size → own' b → own b) : Ext own I I'' M M'' w w'' :=
  ⟨k.os.trans h.os, k.tape.trans h.tape, k.output.trans h.output, fun i => CI.le_trans (h.le i) (k.le i), h.evo.trans k.evo, fun b hb hn => by
    obtain ⟨a1, a2⟩ := h.oth b hb hn
    obtain ⟨b1, b2⟩ := k.oth b (Nat.lt_of_lt_of_le hb h.evo.size) fun hh => hn (ho b hb hh)
    exact ⟨b1.trans a1, b2.trans a2⟩⟩
section
variable {I I' : Nat → CI} {M M' : Nat → Nat} {w w' : World} {σ σ' : Nat → Res} {own : Nat → Prop}
theorem Own1.blk {ci : CI} {r : Res} (h : Own1 I M w ci r) {b : Nat} (hb : blkOf ci r = some b) : ∃ cur e fr, w.heap[b]? = some (.cells cur e fr) := by
  cases r with
  | no => cases ci <;> cases hb
  | box cs =>
    obtain ⟨b', cur, e, rfl, h1, _⟩ := h
    obtain rfl : b' = b := by simpa [blkOf] using hb
    exact ⟨_, _, _, h1⟩
  | mby l =>
    obtain ⟨b', C, rfl, _, h1⟩ := h
    simp only [blkOf] at hb
    split at hb
    · cases hb
    · obtain rfl : b' = b := by simpa using hb
      obtain ⟨cur, fz, h2, _⟩ := h1 (by omega)
      exact ⟨_, _, _, h2⟩
  | row sz xs =>
    obtain ⟨A, c, rfl, _, h1⟩ := h
    simp only [blkOf] at hb
    split at hb
    · cases hb
    · rename_i hc
      obtain ⟨g, cur, e, fr, rfl, hg, _⟩ := h1 hc
      obtain rfl : g = b := by simpa using hb
      exact ⟨_, _, _, hg⟩
theorem Own1.lt {ci : CI} {r : Res} (h : Own1 I M w ci r) {b : Nat} (hb : blkOf ci r = some b) : b < w.heap.size := by
  obtain ⟨_, _, _, h1⟩ := h.blk hb
  exact (Array.getElem?_eq_some_iff.1 h1).1
theorem Own1.stay {ci : CI} {r : Res} (h : Own1 I M w ci r) (e : Ext own I I' M M' w w') (hb : ∀ b, blkOf ci r = some b → ¬ own b) : Own1 I' M' w' ci r := by
  cases r with
  | no => trivial
  | box cs =>
    obtain ⟨b, cur, t, rfl, h1, h2, h3, h5, h4⟩ := h
    obtain ⟨a1, a2⟩ := e.oth b (Array.getElem?_eq_some_iff.1 h1).1 (hb b O)
    exact ⟨b, cur, t, rfl, a1.trans h1, a2.trans h2, h3, h5, fun i v c hv hc => (h4 i v c hv hc).evo e.le e.evo⟩
  | mby l =>
    obtain ⟨b, C, rfl, h0, h⟩ := h
    refine ⟨b, C, rfl, h0, fun hC => ?_⟩
    obtain ⟨cur, fz, h1, h2, h3⟩ := h hC
    obtain ⟨a1, a2⟩ := e.oth b (Array.getElem?_eq_some_iff.1 h1).1 (hb b (by simp only [blkOf]; rw [if_neg (by omega)]))
    exact ⟨cur, fz, a1.trans h1, a2.trans h2, h3⟩
  | row sz xs =>
    obtain ⟨A, c, rfl, h1, h2⟩ := h
    refine ⟨A, c, rfl, h1.evo e.evo, fun hc => ?_⟩
    obtain ⟨g, cur, t, fr, rfl, h3, h4, h5, h6⟩ := h2 hc
    obtain ⟨a1, a2⟩ := e.oth g (Array.getElem?_eq_some_iff.1 h3).1 (hb g (by simp [blkOf, hc]))
    exact ⟨g, cur, t, fr, rfl, a1.trans h3, h4, a2.trans h5, h6⟩
theorem Own1.noTb {ci : CI} {r : Res} (h : Own1 I M w ci r) {t : Nat × IntKind × List Int} (ht : Tb M w t) : blkOf ci r ≠ some t.1 := by
  intro hb
  obtain ⟨e, fr, t1, t2, t3⟩ := ht
  cases r with
  | no => cases ci <;> cases hb
  | box cs =>
    obtain ⟨b, cur, e', rfl, h1, h2, _⟩ := h
    obtain rfl : b = t.1 := by simpa [blkOf] using hb
    omega
  | mby l =>
    obtain ⟨b, C, rfl, _, h⟩ := h
    simp only [blkOf] at hb
    split at hb
    · cases hb
    · obtain rfl : b = t.1 := by simpa using hb
      obtain ⟨cur, fz, h1, h2, _⟩ := h (by omega)
      omega
  | row sz xs =>
    obtain ⟨A, c, rfl, _, h1⟩ := h
    simp only [blkOf] at hb
    split at hb
    · cases hb
    · rename_i hc
      obtain ⟨g, cur, e', fr', rfl, hg, h2, h3, _⟩ := h1 hc
      obtain rfl : g = t.1 := by simpa using hb
      rw [t1] at hg
      injection hg with hg
      injection hg with hg _ _
      subst hg
      simp only [List.size_toArray, List.length_map] at h2
      have h4 : (c : Int) * sz = xs.length * sz := by exact_mod_cast (h2.symm.trans (t2.symm.trans h3))
      rcases Nat.eq_zero_or_pos sz with hz | hz
      · subst hz; omega
      · exact hc (Nat.eq_of_mul_eq_mul_right hz (by exact_mod_cast h4))
theorem Tb.lt {t : Nat × IntKind × List Int} (ht : Tb M w t) : t.1 < w.heap.size := by
  obtain ⟨e, fr, t1, _⟩ := ht
  exact (Array.getElem?_eq_some_iff.1 t1).1
theorem Tb.stay {t : Nat × IntKind × List Int} (ht : Tb M w t) (e : Ext own I I' M M' w w') (ho : ¬ own t.1) : Tb M' w' t := by
  obtain ⟨a, b⟩ := e.oth _ ht.lt ho
  obtain ⟨e, fr, t1, t2, t3⟩ := ht
  exact ⟨e, fr, a.trans t1, b.trans t2, t3⟩
theorem Sto.upd (h : Sto I M w σ) (ks : List Nat) (e : Ext own I I' M M' w w') (ho : ∀ b, own b → ∃ k ∈ ks, blkOf (I k) (σ k) = some b)
    (hI : ∀ k, k ∉ ks → I' k = I k) (hσ : ∀ k, k ∉ ks → σ' k = σ k) (h1 : ∀ k ∈ ks, Own1 I' M' w' (I' k) (σ' k))
    (hn : ∀ k ∈ ks, ∀ b, blkOf (I' k) (σ' k) = some b → w.heap.size ≤ b ∨ ∃ k0 ∈ ks, blkOf (I k0) (σ k0) = some b)
    (hd : ∀ k ∈ ks, ∀ k' ∈ ks, ∀ b, k ≠ k' → blkOf (I' k) (σ' k) = some b → blkOf (I' k') (σ' k') ≠ some b)
    (ht : ∀ b, w'.heap.size ≤ b → M' b = 0) : Sto I' M' w' σ' := by
  have far : ∀ k, k ∉ ks → ∀ b, blkOf (I k) (σ k) = some b → ¬ own b := by
    intro k hk b hb hob
    obtain ⟨k0, hk0, hb0⟩ := ho b hob
    exact h.dis k k0 b (fun e => hk (e ▸ hk0)) hb hb0
  refine ⟨fun k => ?_, fun k k' b hne hb hb' => ?_, ht, fun t htt => (h.tab t htt).stay e fun hob => by
    obtain ⟨k, _, hk⟩ := ho _ hob
    exact (h.own k).noTb (h.tab t htt) hk⟩
  · by_cases hk : k ∈ ks
    · exact h1 k hk
    · rw [hI k hk, hσ k hk]
      exact (h.own k).stay e (far k hk)
  · have side : ∀ k k', k ∈ ks → k' ∉ ks → blkOf (I' k) (σ' k) = some b → blkOf (I' k') (σ' k') = some b → False := by
      intro k k' hk hk' hb hb'
      rw [hI k' hk', hσ k' hk'] at hb'
      rcases hn k hk b hb with q | ⟨k0, hk0, hb0⟩
      · have := (h.own k').lt hb'; omega
      · exact h.dis k' k0 b (fun e => hk' (e ▸ hk0)) hb' hb0
    by_cases hk : k ∈ ks
    · by_cases hk' : k' ∈ ks
      · exact hd k hk k' hk' b hne hb hb'
      · exact side k k' hk hk' hb hb'
    · by_cases hk' : k' ∈ ks
      · exact side k' k hk' hk hb' hb
      · rw [hI k hk, hσ k hk] at hb
        rw [hI k' hk', hσ k' hk'] at hb'
        exact h.dis k k' b hne hb hb'
theorem Sto.stay (h : Sto I M w σ) (e : Ext (fun _ => False) I I M M' w w') (ht : ∀ b, w'.heap.size ≤ b → M' b = 0) : Sto I M' w' σ :=
  h.upd [] e (fun _ h => h.elim) (fun _ _ => rfl) (fun _ _ => rfl) (fun _ h => by cases h) (fun _ h => by cases h) (fun _ h => by cases h) ht
end
end Go.Proofs.YtbbcokckealagaaGreat
namespace Go.Proofs.YtbbcokckealagaaGreat
set_option linter.unusedVariables false
set_option linter.unusedSimpArgs false
open Go.RowKit
abbrev Fr := List (Nat × AV)
def Fr.get : Fr → Nat → AV
  | [], _ => .any
  | (t', v) :: r, t => match Nat.beq t t' with | true => v | false => Fr.get r t
def Fr.put (fr : Fr) (d : Option Tmp) (v : AV) : Fr := match d with | some d => (d, v) :: fr | none => fr
def evA (fr : Fr) : Operand → AV
  | .tmp t => fr.get t
  | .const v => .v v
  | .func f => .fn f []
  | .global _ => .any
def FrOk (I : Nat → CI) (M : Nat → Nat) (w : World) (n : Nat) (a : Act) (fr : Fr) : Prop := a.tmps.size = n ∧ ∀ t, Rp I M w (a.tmps.getD t undef) (fr.get t)
theorem FrOk.eval {I : Nat → CI} {M : Nat → Nat} {w : World} {n : Nat} {a : Act} {fr : Fr} (h : FrOk I M w n a fr) (x : Operand) : Rp I M w (a.eval x) (evA fr x) := by
  cases x with
  | tmp t => exact h.2 t
  | const v => exact .v v
  | func f => exact .fn (by simp) (by intro i v c hv; simp at hv)
  | global g => exact .any _
def dstOk (n : Nat) : Option Tmp → Bool
  | some d => Nat.blt d n
  | none => true
theorem Fr.get_put (fr : Fr) (d t : Nat) (v : AV) : (Fr.put fr (some d) v).get t = if t = d then v else fr.get t := by
  simp only [Fr.put, Fr.get]
  by_cases h : t = d
  · subst h; simp
  · have : Nat.beq t d = false := by
      cases hb : Nat.beq t d with
      | false => rfl
      | true => exact absurd (Nat.eq_of_beq_eq_true hb) h
    rw [this, if_neg h]
theorem FrOk.put {I : Nat → CI} {M : Nat → Nat} {w : World} {n : Nat} {a : Act} {fr : Fr} (h : FrOk I M w n a fr) {d : Option Tmp} (hd : dstOk n d = true) {cv : Value} {v : AV} (hv : Rp I M w cv v) : FrOk I M w n (a.put d cv) (fr.put d v) := by
  cases d with
  | none => exact h
  | some d =>
    have hd : d < n := by simpa [dstOk, Nat.blt_eq] using hd
    refine ⟨by simpa [Act.put] using h.1, fun t => ?_⟩
    rw [Fr.get_put]
    by_cases ht : t = d
    · subst ht
      have : t < a.tmps.size := by rw [h.1]; exact hd
      simpa [Act.put, this] using hv
    · have hne : d ≠ t := fun e => ht e.symm
      simpa [Act.put, ht, Array.getElem?_setIfInBounds_ne hne] using h.2 t
theorem FrOk.evo {I I' : Nat → CI} {M M' : Nat → Nat} {w w' : World} {n : Nat} {a : Act} {fr : Fr} (h : FrOk I M w n a fr) (hI : ∀ k, (I k).le (I' k)) (e : Evo M M' w w') : FrOk I' M' w' n a fr := ⟨h.1, fun t => (h.2 t).evo hI e⟩

abbrev Upds := List (Nat × Res)
def keys {α : Type} (u : List (Nat × α)) : List Nat := u.map (·.1)
def updS {α : Type} (σ : Nat → α) : List (Nat × α) → Nat → α
  | [], k => σ k
  | (k', r) :: us, k => if k = k' then r else updS σ us k
theorem updS_other {α : Type} (σ : Nat → α) (us : List (Nat × α)) (k : Nat) (h : k ∉ keys us) : updS σ us k = σ k := by
  induction us with
  | nil => rfl
  | cons p us ih =>
    obtain ⟨k', r⟩ := p
    simp only [keys, List.map_cons, List.mem_cons, not_or] at h
    simp only [updS, if_neg h.1]
    exact ih h.2

def OpS (P : Program) (o : Oper) (ρ : Operand → AV) (ins : Upds) (v : AV) (outs : Upds) : Prop :=
  ∀ (I : Nat → CI) (M : Nat → Nat) (w : World) (a : Act) (σ : Nat → Res) (K : Act → World → Prop) (Q : Exit → Act → World → Prop),
    (∀ x ∈ o.op.operands.toList, Rp I M w (a.eval x) (ρ x)) → Sto I M w σ → (∀ p ∈ ins, σ p.1 = p.2) → (∀ k ∈ keys outs, k ∈ keys ins ∨ (σ k = .no ∧ I k = .no)) →
    (∀ cv I' M' w', Rp I' M' w' cv v → Sto I' M' w' (updS σ outs) → Ext (fun b => ∃ k ∈ keys ins, blkOf (I k) (σ k) = some b) I I' M M' w w' → (∀ k, k ∉ keys outs → I' k = I k) →
      (∀ k ∈ keys outs, ∀ b, blkOf (I' k) (updS σ outs k) = some b → w.heap.size ≤ b ∨ ∃ k0 ∈ keys ins, blkOf (I k0) (σ k0) = some b) → K (a.put o.dst cv) w') → o.wp P a w K Q
def OpSN (P : Program) (o : Oper) (ρ : Operand → AV) (ins : Upds) {ι : Type} (v : ι → AV) (outs : ι → Upds) : Prop :=
  ∀ (I : Nat → CI) (M : Nat → Nat) (w : World) (a : Act) (σ : Nat → Res) (K : Act → World → Prop) (Q : Exit → Act → World → Prop),
    (∀ x ∈ o.op.operands.toList, Rp I M w (a.eval x) (ρ x)) → Sto I M w σ → (∀ p ∈ ins, σ p.1 = p.2) → (∀ i, ∀ k ∈ keys (outs i), k ∈ keys ins ∨ (σ k = .no ∧ I k = .no)) →
    (∀ i cv I' M' w', Rp I' M' w' cv (v i) → Sto I' M' w' (updS σ (outs i)) → Ext (fun b => ∃ k ∈ keys ins, blkOf (I k) (σ k) = some b) I I' M M' w w' → (∀ k, k ∉ keys (outs i) → I' k = I k) →
      (∀ k ∈ keys (outs i), ∀ b, blkOf (I' k) (updS σ (outs i) k) = some b → w.heap.size ≤ b ∨ ∃ k0 ∈ keys ins, blkOf (I k0) (σ k0) = some b) → K (a.put o.dst cv) w') → o.wp P a w K Q
def OpP (P : Program) (o : Oper) (ρ : Operand → AV) (v : AV) : Prop :=
  ∀ (I : Nat → CI) (M : Nat → Nat) (w : World) (a : Act), (∀ x ∈ o.op.operands.toList, Rp I M w (a.eval x) (ρ x)) → ∃ cv, (execOp a.eval o).run P w = .ok (.value cv) w ∧ Rp I M w cv v
theorem OpP.s {P : Program} {o : Oper} {ρ : Operand → AV} {v : AV} (h : OpP P o ρ v) : OpS P o ρ [] v [] := by
  intro I M w a σ K Q hx hs _ _ hK
  obtain ⟨cv, hr, hv⟩ := h I M w a hx
  unfold Oper.wp
  rw [hr]
  exact hK cv I M w hv hs (Ext.refl _ _ _ _) (fun _ _ => rfl) (fun _ h => by cases h)
def OpR (P : Program) (o : Oper) (ρ : Operand → AV) (ins : Upds) (v : AV) : Prop :=
  ∀ (I : Nat → CI) (M : Nat → Nat) (w : World) (a : Act) (σ : Nat → Res), (∀ x ∈ o.op.operands.toList, Rp I M w (a.eval x) (ρ x)) → Sto I M w σ → (∀ p ∈ ins, σ p.1 = p.2) → ∃ cv, (execOp a.eval o).run P w = .ok (.value cv) w ∧ Rp I M w cv v
theorem OpR.s {P : Program} {o : Oper} {ρ : Operand → AV} {ins : Upds} {v : AV} (h : OpR P o ρ ins v) : OpS P o ρ ins v [] := by
  intro I M w a σ K Q hx hs hi _ hK
  obtain ⟨cv, hr, hv⟩ := h I M w a σ hx hs hi
  unfold Oper.wp
  rw [hr]
  exact hK cv I M w hv hs (Ext.refl _ _ _ _) (fun _ _ => rfl) (fun _ h => by cases h)

theorem Rp.val {I : Nat → CI} {M : Nat → Nat} {w : World} {x y : Value} (h : Rp I M w x (.v y)) : x = y := by cases h; rfl
theorem Rp.val' {I : Nat → CI} {M : Nat → Nat} {w : World} {x y : Value} {p : AV} (h : Rp I M w x p) (e : p = .v y) : x = y := by subst e; exact h.val

class TyI (P : Program) (t : TypeId) (z : outParam Value) (size bytes : outParam Nat) : Prop where
  info : (P.info? t).map (fun i => (i.zero, i.size, i.bytes)) = some (some z, size, bytes)
class Und (P : Program) (t : TypeId) (d : outParam TypeDesc) : Prop where
  und : P.underlying t = some d
section
variable {P : Program} {o : Oper} {ρ : Operand → AV}
theorem run_typeInfo {t : TypeId} {z : Value} {size bytes : Nat} [T : TyI P t z size bytes] (w : World) : ∃ i, P.info? t = some i ∧ i.zero = some z ∧ i.size = size ∧ i.bytes = bytes ∧ (typeInfo t).run P w = .ok i w ∧ (zeroValue t).run P w = .ok z w ∧ (sizeOf t).run P w = .ok size w := by
  obtain ⟨i, h1, h2, h3, h4⟩ := info_parts T.info
  exact ⟨i, h1, h2, h3, h4, by simp [typeInfo, h1], by simp [zeroValue, typeInfo, h1, h2], by simp [sizeOf, typeInfo, h1, h3]⟩
theorem run_und {t : TypeId} {d : TypeDesc} [T : Und P t d] (w : World) : (underlying t).run P w = .ok d w := run_underlying T.und w

theorem OpP.move (x : Operand) (ho : o.op = .move x ∨ o.op = .assign x) {v : AV} (hx : ρ x = v) : OpP P o ρ v := by
  intro I M w a h
  refine ⟨a.eval x, ?_, ?_⟩
  · rcases ho with ho | ho <;> simp [execOp, ho]
  · rw [← hx]; exact h x (by rcases ho with ho | ho <;> simp [ho, Op.operands])
theorem OpP.bin {op : BinOp} {t t' : TypeId} {x y : Operand} (ho : o.op = .binOp op t x y t') {u v r : Value} (hx : ρ x = .v u) (hy : ρ y = .v v)
    (hr : ∀ w : World, (binOp op t u v).run P w = .ok r w) (hg : ∀ w : World, (eqGuard op t x y u v).run P w = .ok () w) : OpP P o ρ (.v r) := by
  intro I M w a h
  have h1 := h x (by simp [ho, Op.operands])
  have h2 := h y (by simp [ho, Op.operands])
  rw [hx] at h1; rw [hy] at h2
  exact ⟨r, by simp [execOp, ho, h1.val, h2.val, hr, hg], .v r⟩
theorem eqGuard_int (op : BinOp) (t : TypeId) (x y : Operand) (k k' : IntKind) (a b : Int) (w : World) : (eqGuard op t x y (.int k a) (.int k' b)).run P w = .ok () w := by
  cases op <;> simp [eqGuard]
theorem eqGuard_str (op : BinOp) (t : TypeId) (x y : Operand) (a b : ByteArray) (w : World) : (eqGuard op t x y (.string a) (.string b)).run P w = .ok () w := by
  cases op <;> simp [eqGuard]
abbrev bs (l : List UInt8) : ByteArray := ⟨l.toArray⟩
theorem bs_size (l : List UInt8) : (bs l).size = l.length := by simp [ByteArray.size]
theorem ba_beq (l m : List UInt8) : ((bs l).toList == (bs m).toList) = decide (l = m) := by
  rw [ByteArray.toList_eq, ByteArray.toList_eq]
  by_cases h : l = m <;> simp [h]
section
variable {t t' : TypeId} {x y : Operand} {k : IntKind} {a b r : Int}
theorem OpP.add (ho : o.op = .binOp .add t x y t') (hx : ρ x = .v (.int k a)) (hy : ρ y = .v (.int k b)) (hr : k.wrap (a + b) = r) : OpP P o ρ (.v (.int k r)) :=
  .bin ho hx hy (fun w => by simp [binOp, Op.intArith, hr]) (fun w => eqGuard_int ..)
theorem OpP.sub (ho : o.op = .binOp .sub t x y t') (hx : ρ x = .v (.int k a)) (hy : ρ y = .v (.int k b)) (hr : k.wrap (a - b) = r) : OpP P o ρ (.v (.int k r)) :=
  .bin ho hx hy (fun w => by simp [binOp, Op.intArith, hr]) (fun w => eqGuard_int ..)
theorem OpP.mul (ho : o.op = .binOp .mul t x y t') (hx : ρ x = .v (.int k a)) (hy : ρ y = .v (.int k b)) (hr : k.wrap (a * b) = r) : OpP P o ρ (.v (.int k r)) :=
  .bin ho hx hy (fun w => by simp [binOp, Op.intArith, hr]) (fun w => eqGuard_int ..)
theorem OpP.rem (ho : o.op = .binOp .rem t x y t') (hx : ρ x = .v (.int k a)) (hy : ρ y = .v (.int k b)) (hb : b ≠ 0) (hr : a.tmod b = r) : OpP P o ρ (.v (.int k r)) :=
  .bin ho hx hy (fun w => by simp [binOp, Op.intDiv, hb, hr]) (fun w => eqGuard_int ..)
theorem OpP.binv {op : BinOp} {u v z : Value} (ho : o.op = .binOp op t x y t') (hx : ρ x = .v u) (hy : ρ y = .v v) (hi : ∃ k a k' b, u = .int k a ∧ v = .int k' b) (hr : ∀ w, (binOp op t u v).run P w = .ok z w) : OpP P o ρ (.v z) := by
  obtain ⟨k, a, k', b, rfl, rfl⟩ := hi
  exact .bin ho hx hy hr (fun w => eqGuard_int ..)
theorem OpP.eq (ho : o.op = .binOp .eql t x y t') (hx : ρ x = .v (.int k a)) (hy : ρ y = .v (.int k b)) : OpP P o ρ (.v (.bool (decide (a = b)))) :=
  .bin ho hx hy (fun w => by simp [binOp, Op.intCmp]; rfl) (fun w => eqGuard_int ..)
theorem OpP.ne (ho : o.op = .binOp .neq t x y t') (hx : ρ x = .v (.int k a)) (hy : ρ y = .v (.int k b)) : OpP P o ρ (.v (.bool (decide (a ≠ b)))) :=
  .bin ho hx hy (fun w => by simp [binOp, Op.intCmp, bne]; rfl) (fun w => eqGuard_int ..)
theorem OpP.ltt (ho : o.op = .binOp .lss t x y t') (hx : ρ x = .v (.int k a)) (hy : ρ y = .v (.int k b)) : OpP P o ρ (.v (.bool (decide (a < b)))) :=
  .bin ho hx hy (fun w => by simp [binOp, Op.intCmp]) (fun w => eqGuard_int ..)
theorem OpP.lee (ho : o.op = .binOp .leq t x y t') (hx : ρ x = .v (.int k a)) (hy : ρ y = .v (.int k b)) : OpP P o ρ (.v (.bool (decide (a ≤ b)))) :=
  .bin ho hx hy (fun w => by simp [binOp, Op.intCmp]) (fun w => eqGuard_int ..)
theorem OpP.gtt (ho : o.op = .binOp .gtr t x y t') (hx : ρ x = .v (.int k a)) (hy : ρ y = .v (.int k b)) : OpP P o ρ (.v (.bool (decide (b < a)))) :=
  .bin ho hx hy (fun w => by simp [binOp, Op.intCmp]) (fun w => eqGuard_int ..)
theorem OpP.gee (ho : o.op = .binOp .geq t x y t') (hx : ρ x = .v (.int k a)) (hy : ρ y = .v (.int k b)) : OpP P o ρ (.v (.bool (decide (b ≤ a)))) :=
  .bin ho hx hy (fun w => by simp [binOp, Op.intCmp]) (fun w => eqGuard_int ..)
theorem OpP.seq {s u : List UInt8} (ho : o.op = .binOp .eql t x y t') (hx : ρ x = .v (.string (bs s))) (hy : ρ y = .v (.string (bs u))) : OpP P o ρ (.v (.bool (decide (s = u)))) :=
  .bin ho hx hy (fun w => by rw [binOp_string_eql, ba_beq]; rfl) (fun w => eqGuard_str ..)
theorem OpP.sne {s u : List UInt8} (ho : o.op = .binOp .neq t x y t') (hx : ρ x = .v (.string (bs s))) (hy : ρ y = .v (.string (bs u))) : OpP P o ρ (.v (.bool (decide (s ≠ u)))) :=
  .bin ho hx hy (fun w => by rw [binOp_string_neq, ba_beq]; simp) (fun w => eqGuard_str ..)
theorem OpP.pick {c u v : Operand} {b : Bool} {r : AV} (ho : o.op = .pick c u v) (hc : ρ c = .v (.bool b)) (hr : (match b with | true => ρ u | false => ρ v) = r) : OpP P o ρ r := by
  intro I M w a h
  have h1 := h c (by simp [ho, Op.operands])
  rw [hc] at h1
  subst hr
  cases b with
  | true => exact ⟨a.eval u, by simp [execOp, ho, h1.val, asBool], h u (by simp [ho, Op.operands])⟩
  | false => exact ⟨a.eval v, by simp [execOp, ho, h1.val, asBool], h v (by simp [ho, Op.operands])⟩
theorem OpP.not {b : Bool} (ho : o.op = .unOp .not t x) (hx : ρ x = .v (.bool b)) : OpP P o ρ (.v (.bool (!b))) := by
  intro I M w a h
  have h1 := h x (by simp [ho, Op.operands])
  rw [hx] at h1
  exact ⟨_, by simp [execOp, ho, h1.val, Op.unary], .v _⟩
theorem OpP.un {op : UnOp} {u z : Value} (ho : o.op = .unOp op t x) (hx : ρ x = .v u) (hr : ∀ w, (Op.unary op u).run P w = .ok z w) : OpP P o ρ (.v z) := by
  intro I M w a h
  have h1 := h x (by simp [ho, Op.operands])
  rw [hx] at h1
  exact ⟨z, by simp [execOp, ho, h1.val, hr], .v z⟩
theorem OpP.conv {s d : TypeId} {k k' : IntKind} [Und P s (.int k')] [Und P d (.int k)] (ho : o.op = .convert s d x) (hx : ρ x = .v (.int k' a)) (hr : k.wrap a = r) : OpP P o ρ (.v (.int k r)) := by
  intro I M w ac h
  have h1 := h x (by simp [ho, Op.operands])
  rw [hx] at h1
  exact ⟨_, by simp [execOp, ho, h1.val, convert, run_und, Conv.intToInt, hr], .v _⟩
end
end
end Go.Proofs.YtbbcokckealagaaGreat
namespace Go.Proofs.YtbbcokckealagaaGreat
set_option linter.unusedVariables false
set_option linter.unusedSimpArgs false
open Go.RowKit
def PV.av : PV → AV
  | .v x => .v x
  | .sl sz xs => .sl sz xs false
theorem RPV.rp {I : Nat → CI} {M : Nat → Nat} {w : World} {x : Value} {p : PV} (h : RPV M w x p) : Rp I M w x p.av := by
  cases h with
  | v x => exact .v x
  | sl b off u hn hc hz hA hM hcell h1 hu => exact .sl (.sl b off u hn hc hz hA hM hcell h1 hu) (by simp)
theorem RPV.nil (M : Nat → Nat) (w : World) (A : Option Addr) (c sz : Nat) : RPV M w (.slice A 0 c) (.sl sz []) :=
  .sl 0 0 (fun _ => default) O (Nat.zero_le _) (by simp) (by simp) (by simp) (by simp) (by simp) (by simp)
theorem flat_len {sz : Nat} {xs : List (List PV)} (hz : ∀ ys ∈ xs, ys.length = sz) : xs.flatten.length = xs.length * sz := by
  induction xs with
  | nil => simp
  | cons y ys ih =>
    rw [List.flatten_cons, List.length_append, ih (fun z h => hz z (List.mem_cons_of_mem _ h)), hz y (by simp), List.length_cons, Nat.add_mul]
    omega
theorem flat_drop {sz : Nat} {xs : List (List PV)} (hz : ∀ ys ∈ xs, ys.length = sz) (k : Nat) : (xs.drop k).flatten = xs.flatten.drop (k * sz) := by
  induction xs generalizing k with
  | nil => simp
  | cons y ys ih =>
    cases k with
    | zero => simp
    | succ k =>
      rw [List.drop_succ_cons, ih (fun z h => hz z (List.mem_cons_of_mem _ h)), List.flatten_cons, Nat.add_mul, Nat.one_mul, Nat.add_comm, ← List.drop_drop]
      congr 1
      rw [List.drop_left' (hz y (by simp))]
theorem flat_take {sz : Nat} {xs : List (List PV)} (hz : ∀ ys ∈ xs, ys.length = sz) (k : Nat) : (xs.take k).flatten = xs.flatten.take (k * sz) := by
  induction xs generalizing k with
  | nil => simp
  | cons y ys ih =>
    cases k with
    | zero => simp
    | succ k =>
      have hy := hz y (by simp)
      rw [List.take_succ_cons, List.flatten_cons, ih (fun z h => hz z (List.mem_cons_of_mem _ h)), List.flatten_cons, Nat.add_mul, Nat.one_mul, List.take_append, hy]
      have e1 : List.take (k * sz + sz) y = y := List.take_of_length_le (by omega)
      have e2 : k * sz + sz - sz = k * sz := by omega
      rw [e1, e2]
theorem flat_get {sz : Nat} {xs : List (List PV)} (hz : ∀ ys ∈ xs, ys.length = sz) {k : Nat} {ys : List PV} (hk : xs[k]? = some ys) {j : Nat} {p : PV} (hj : ys[j]? = some p) : xs.flatten[k * sz + j]? = some p := by
  rw [← List.getElem?_drop, ← flat_drop hz]
  obtain ⟨h1, h2⟩ := List.getElem?_eq_some_iff.1 hk
  rw [List.drop_eq_getElem_cons h1, h2, List.flatten_cons, List.getElem?_append_left (List.getElem?_eq_some_iff.1 hj).1, hj]
theorem RPV.part {M : Nat → Nat} {w : World} {A : Option Addr} {n c sz : Nat} {xs : List (List PV)} (h : RPV M w (.slice A n c) (.sl sz xs)) {l k m : Nat} (hl : l ≤ k) (hk : k ≤ n) (hm : k ≤ m) :
    RPV M w (.slice (if m = l then A else A.map (·.add (l * sz))) (k - l) (m - l)) (.sl sz ((xs.take k).drop l)) := by
  cases h with
  | sl b off u hn hc hz hA hM hcell h1 hu =>
    have hz1 : ∀ ys ∈ xs.take k, ys.length = sz := fun ys h => hz ys (List.mem_of_mem_take h)
    have hz2 : ∀ ys ∈ (xs.take k).drop l, ys.length = sz := fun ys h => hz1 ys (List.mem_of_mem_drop h)
    have hlen : ((xs.take k).drop l).length = k - l := by rw [List.length_drop, List.length_take, hn]; omega
    have hle : (k - l) * sz + l * sz ≤ n * sz := by rw [← Nat.add_mul]; exact Nat.mul_le_mul_right _ (by omega)
    refine .sl b (off + l * sz) (fun j => u (l * sz + j)) hlen (by omega) hz2 (fun h => ?_) (fun h => ?_) (fun j hj => ?_) (fun j hj => ?_) (fun j p hp => ?_)
    · rw [if_neg (by omega), hA (by omega)]
      simp [Addr.add_lit]
    · have := hM (by omega); omega
    · rw [Nat.add_assoc]; exact hcell _ (by omega)
    · exact h1 _ (by omega)
    · rw [flat_drop hz1, flat_take hz, List.getElem?_drop, List.getElem?_take] at hp
      split at hp
      · exact hu _ _ hp
      · cases hp

inductive Dat (σ : Nat → Res) : AV → Nat → List (List PV) → Upds → Prop
  | sl {sz : Nat} {xs : List (List PV)} {f : Bool} : Dat σ (.sl sz xs f) sz xs []
  | nil {sz : Nat} : Dat σ (.v (.slice none 0 0)) sz [] []
  | rowf {t sz n : Nat} {xs : List (List PV)} (h : σ t = .row sz xs) (hn : n = xs.length) : Dat σ (.row t n) sz xs [(t, .row sz xs)]
  | row {t sz n : Nat} {xs : List (List PV)} (h : σ t = .row sz xs) : Dat σ (.row t n) sz (xs.take n) [(t, .row sz xs)]
section
variable {P : Program} {o : Oper} {ρ : Operand → AV} {I : Nat → CI} {M : Nat → Nat} {w : World} {σ0 σ : Nat → Res}
theorem Sto.rowCI (hs : Sto I M w σ) {t sz : Nat} {xs : List (List PV)} (h : σ t = .row sz xs) : ∃ A c, I t = .row xs sz A c ∧ RPV M w (.slice A xs.length c) (.sl sz xs) := by
  have := hs.own t
  rw [h] at this
  obtain ⟨A, c, h1, h2, _⟩ := this
  exact ⟨A, c, h1, h2⟩
theorem RPV.len {A : Option Addr} {n c sz : Nat} {xs : List (List PV)} (h : RPV M w (.slice A n c) (.sl sz xs)) : xs.length = n ∧ n ≤ c := by cases h; exact ⟨by assumption, by assumption⟩
theorem Dat.rpv {av : AV} {sz : Nat} {xs : List (List PV)} {ins : Upds} (d : Dat σ0 av sz xs ins) (hi : ∀ p ∈ ins, σ p.1 = p.2) (hs : Sto I M w σ) {v : Value} (h : Rp I M w v av) :
    ∃ A c, v = .slice A xs.length c ∧ RPV M w (.slice A xs.length c) (.sl sz xs) := by
  cases d with
  | sl =>
    cases h with
    | sl h hf =>
      have := h.len.1
      subst this
      exact ⟨_, _, rfl, h⟩
  | nil => cases h; exact ⟨none, 0, rfl, .nil _ _ _ _ _⟩
  | rowf h0 hn =>
    obtain ⟨A0, c0, h1, _⟩ := hs.rowCI (hi _ (List.mem_singleton.2 O))
    cases h with
    | row hI hn' h hk =>
      rw [h1] at hI
      injection hI with e1 e2 e3 e4
      subst e1 e2 hn
      rw [List.take_length] at h
      exact ⟨_, _, rfl, h⟩
  | row h0 =>
    obtain ⟨A0, c0, h1, _⟩ := hs.rowCI (hi _ (List.mem_singleton.2 O))
    cases h with
    | row hI hn' h hk =>
      rw [h1] at hI
      injection hI with e1 e2 e3 e4
      subst e1 e2
      have : ∀ n (xs : List (List PV)), n ≤ xs.length → (xs.take n).length = n := fun n xs h => by rw [List.length_take]; omega
      rw [this _ _ hn']
      exact ⟨_, _, rfl, h⟩

def At (xs : List (List PV)) (i : Int) (ys : List PV) : Prop := 0 ≤ i ∧ xs[i.toNat]? = some ys
theorem At.mk {xs : List (List PV)} {i : Int} {ys : List PV} (k : Nat) (hi : i = k) (h : xs[k]? = some ys) : At xs i ys := ⟨by omega, by subst hi; simpa using h⟩
def AtS (s : ByteArray) (i : Int) (c : UInt8) : Prop := 0 ≤ i ∧ s.data.toList[i.toNat]? = some c
theorem OpR.indexAddr {t e : TypeId} {x y : Operand} {k : IntKind} {i : Int} {sz : Nat} {xs : List (List PV)} {ys : List PV} {ins : Upds} {z : Value} {by_ : Nat} [Und P t (.slice e)] [TyI P e z sz by_]
    (ho : o.op = .indexAddr t x y) (hx : Dat σ0 (ρ x) sz xs ins) (hy : ρ y = .v (.int k i)) (hat : At xs i ys) : OpR P o ρ ins (.ep ys 0) := by
  intro I M w a σ h hs hi
  have h1 := h x (by simp [ho, Op.operands])
  have h2 := h y (by simp [ho, Op.operands])
  rw [hy] at h2
  obtain ⟨A, c, e1, h3⟩ := hx.rpv hi hs h1
  obtain ⟨hat1, hat2⟩ := hat
  have hlt := (List.getElem?_eq_some_iff.1 hat2).1
  cases h3 with
  | sl b off u hn hc hz hA hM hcell ho1 hu =>
    have hpos : 0 < xs.length := by omega
    have hA := hA hpos
    subst hA
    obtain ⟨_, _, _, _, _, _, _, hsz⟩ := run_typeInfo (P := P) (t := e) w
    have hilt : i < (xs.length : Int) := by omega
    have hys : ys.length = sz := hz ys (List.mem_of_getElem? hat2)
    have hle : i.toNat * sz + sz ≤ xs.length * sz := by rw [← Nat.succ_mul]; exact Nat.mul_le_mul_right _ hlt
    refine ⟨.pointer (some ⟨b, off + i.toNat * sz, none⟩), ?_, ?_⟩
    · simp [execOp, ho, e1, h2.val, Instr.indexAt, run_und, asIntOf, hat1, hilt, hsz, Addr.add_lit]
    · have hM := hM hpos
      have := Rp.ep (I := I) (M := M) (w := w) (b := b) (off := off + i.toNat * sz) (j := 0) (ys := ys) (fun j => u (i.toNat * sz + j)) (Nat.zero_le _) (by omega)
        (fun j hj => by rw [Nat.add_assoc]; exact hcell _ (by omega)) (fun j hj => ho1 _ (by omega)) (fun j p hp => hu _ _ (flat_get hz hat2 hp))
      simpa using this
def isAggD : TypeDesc → Bool
  | .struct _ | .array _ _ => true
  | _ => false
theorem run_isAgg {t : TypeId} {d : TypeDesc} [Und P t d] (w : World) : (isAgg t).run P w = .ok (isAggD d) w := by
  cases d <;> simp [isAgg, run_und, isAggD]
theorem run_loadVar1 {t : TypeId} {d : TypeDesc} [Und P t d] (hd : isAggD d = false) {p : Addr} {v : Value} (h : w.cell? p = some v) : (loadVar t p).run P w = .ok v w := by
  simp [loadVar, run_isAgg, hd, run_load, h]
theorem run_loadVarN {t : TypeId} {d : TypeDesc} [Und P t d] {z : Value} {sz bytes : Nat} [TyI P t z sz bytes] (hd : isAggD d = true) {p : Addr} (f : Nat → Value) (h : ∀ j, j < sz → w.cell? (p.add j) = some (f j)) :
    (loadVar t p).run P w = .ok (.agg ((List.range sz).map f).toArray) w := by
  obtain ⟨_, _, _, _, _, _, _, hsz⟩ := run_typeInfo (P := P) (t := t) w
  simp [loadVar, run_isAgg, hd, hsz, run_loadCells w p sz f h]
theorem OpR.load1 {t : TypeId} {x : Operand} {k off : Nat} {cs : List AV} {c : AV} {d : TypeDesc} [Und P t d] (ho : o.op = .load t x) (hx : ρ x = .ptr k off) (hd : isAggD d = false) (hc : cs[off]? = some c) : OpR P o ρ [(k, .box cs)] c := by
  intro I M w a σ h hs hi
  have h1 := h x (by simp [ho, Op.operands])
  rw [hx] at h1
  have h2 := hs.own k
  rw [hi _ (List.mem_singleton.2 O)] at h2
  obtain ⟨b, cur, e, e1, e2, e3, e4, _, e5⟩ := h2
  generalize eq0 : a.eval x = q at h1
  cases h1 with
  | ptr hI =>
    rw [e1] at hI
    injection hI with hI
    subst hI
    have hlt : off < cur.size := by rw [e4]; exact (List.getElem?_eq_some_iff.1 hc).1
    have hcell : w.cell? ⟨b, off, none⟩ = some cur[off] := by rw [cell_of_row w b off cur e (0, 0) e2]; simp [hlt]
    exact ⟨cur[off], by simp [execOp, ho, eq0, Instr.loadAt, Instr.sureAddr, run_loadVar1 hd hcell], e5 off _ c (by simp [hlt]) hc⟩
theorem OpR.loadN {t : TypeId} {x : Operand} {k off sz bytes : Nat} {z : Value} {cs l : List AV} {d : TypeDesc} [Und P t d] [TyI P t z sz bytes] (ho : o.op = .load t x) (hx : ρ x = .ptr k off) (hd : isAggD d = true) (hl : off + sz ≤ cs.length) (hc : (cs.drop off).take sz = l) : OpR P o ρ [(k, .box cs)] (.agg l) := by
  intro I M w a σ h hs hi
  have h1 := h x (by simp [ho, Op.operands])
  rw [hx] at h1
  have h2 := hs.own k
  rw [hi _ (List.mem_singleton.2 O)] at h2
  obtain ⟨b, cur, e, e1, e2, e3, e4, e6, e5⟩ := h2
  generalize eq0 : a.eval x = q at h1
  cases h1 with
  | ptr hI =>
    rw [e1] at hI
    injection hI with hI
    subst hI
    have hcell : ∀ j, j < sz → w.cell? ((⟨b, off, none⟩ : Addr).add j) = some (cur.getD (off + j) undef) := by
      intro j hj
      rw [Addr.add_lit, cell_of_row w b (off + j) cur e (0, 0) e2]
      simp [show off + j < cur.size by omega]
    refine ⟨_, by simp [execOp, ho, eq0, Instr.loadAt, Instr.sureAddr, run_loadVarN hd _ hcell]; rfl, ?_⟩
    subst hc
    refine .agg (by simp; omega) (fun i v hv => ?_) fun i v c hv hc => ?_
    · have hi : i < sz := by have := (Array.getElem?_eq_some_iff.1 hv).1; simpa using this
      have : cur.getD (off + i) undef = v := by simpa [hi] using hv
      exact e6 (off + i) v (by rw [← this]; simp [show off + i < cur.size by omega])
    · have hi : i < sz := by have := (Array.getElem?_eq_some_iff.1 hv).1; simpa using this
      have : cur.getD (off + i) undef = v := by simpa [hi] using hv
      exact e5 (off + i) v c (by rw [← this]; simp [show off + i < cur.size by omega]) (by rw [List.getElem?_take, if_pos hi, List.getElem?_drop] at hc; exact hc)
theorem OpP.loadE1 {t : TypeId} {x : Operand} {j : Nat} {ys : List PV} {p : PV} {d : TypeDesc} [Und P t d] (ho : o.op = .load t x) (hx : ρ x = .ep ys j) (hd : isAggD d = false) (hc : ys[j]? = some p) {c : AV} (hp : p.av = c) : OpP P o ρ c := by
  intro I M w a h
  have h1 := h x (by simp [ho, Op.operands])
  rw [hx] at h1
  generalize e : a.eval x = q at h1
  cases h1 with
  | ep u hj hM hcell ho1 hu =>
    have hlt := (List.getElem?_eq_some_iff.1 hc).1
    exact ⟨u j, by simp [execOp, ho, e, Instr.loadAt, Instr.sureAddr, run_loadVar1 hd (hcell j hlt)], hp ▸ (hu j p hc).rp⟩
theorem OpP.loadEN {t : TypeId} {x : Operand} {j sz bytes : Nat} {z : Value} {ys : List PV} {l : List AV} {d : TypeDesc} [Und P t d] [TyI P t z sz bytes] (ho : o.op = .load t x) (hx : ρ x = .ep ys j) (hd : isAggD d = true) (hl : j + sz ≤ ys.length) (hc : ((ys.drop j).take sz).map PV.av = l) : OpP P o ρ (.agg l) := by
  intro I M w a h
  have h1 := h x (by simp [ho, Op.operands])
  rw [hx] at h1
  generalize e : a.eval x = q at h1
  cases h1 with
  | @ep b off _ _ u hj hM hcell ho1 hu =>
    have hcell' : ∀ i, i < sz → w.cell? ((⟨b, off + j, none⟩ : Addr).add i) = some (u (j + i)) := by
      intro i hi
      rw [Addr.add_lit, Nat.add_assoc]
      exact hcell _ (by omega)
    refine ⟨_, by simp [execOp, ho, e, Instr.loadAt, Instr.sureAddr, run_loadVarN hd _ hcell']; rfl, ?_⟩
    subst hc
    refine .agg (by simp; omega) (fun i v hv => ?_) fun i v c hv hc => ?_
    · have hi : i < sz := by have := (Array.getElem?_eq_some_iff.1 hv).1; simpa using this
      have : u (j + i) = v := by simpa [hi] using hv
      rw [← this]; exact ho1 _ (by omega)
    · have hi : i < sz := by have := (Array.getElem?_eq_some_iff.1 hv).1; simpa using this
      have : u (j + i) = v := by simpa [hi] using hv
      rw [← this]
      rw [List.getElem?_map, List.getElem?_take, if_pos hi, List.getElem?_drop] at hc
      obtain ⟨p, hp, rfl⟩ := Option.map_eq_some_iff.1 hc
      exact (hu _ p hp).rp
end
def fieldOf (P : Program) (t : TypeId) (i : Nat) : Option (Nat × Nat × Bool) :=
  match P.underlying t with
  | some (.struct fs) => match fs[i]? with
    | some f => match P.info? f.type, P.underlying f.type with
      | some j, some d => some (f.offset, j.size, isAggD d)
      | _, _ => none
    | none => none
  | _ => none
class FieldI (P : Program) (t : TypeId) (i : Nat) (off sz : outParam Nat) (ag : outParam Bool) : Prop where
  eq : fieldOf P t i = some (off, sz, ag)
theorem fieldOf_some {P : Program} {t : TypeId} {i off sz : Nat} {ag : Bool} (h : fieldOf P t i = some (off, sz, ag)) :
    ∃ fs f j d, P.underlying t = some (.struct fs) ∧ fs[i]? = some f ∧ f.offset = off ∧ P.info? f.type = some j ∧ j.size = sz ∧ P.underlying f.type = some d ∧ isAggD d = ag := by
  unfold fieldOf at h
  split at h
  · rename_i fs hfs
    split at h
    · rename_i f hf
      split at h
      · rename_i j d hj hd
        injection h with h
        injection h with h1 h2
        injection h2 with h2 h3
        exact ⟨fs, f, j, d, hfs, hf, h1, hj, h2, hd, h3⟩
      · cases h
    · cases h
  · cases h
section
variable {P : Program} {o : Oper} {ρ : Operand → AV} {t : TypeId} {x : Operand} {i off sz : Nat} {ag : Bool}
theorem OpP.fieldAddr [F : FieldI P t i off sz ag] {k f0 : Nat} (ho : o.op = .fieldAddr t x i) (hx : ρ x = .ptr k f0) (hs : sz ≠ 0) {r : Nat} (hr : f0 + off = r) : OpP P o ρ (.ptr k r) := by
  intro I M w a h
  have h1 := h x (by simp [ho, Op.operands])
  rw [hx] at h1
  obtain ⟨fs, f, j, d, e1, e2, e3, e4, e5, _, _⟩ := fieldOf_some F.eq
  subst hr
  generalize e : a.eval x = q at h1
  cases h1 with
  | ptr hI =>
    refine ⟨_, ?_, .ptr hI⟩
    simp [execOp, ho, e, Instr.fieldAt, run_underlying e1, e2, Instr.sureAddr, fieldPlace, sizeOf, typeInfo, e4, e5, hs, Addr.add_lit, e3]
theorem OpP.fieldAddrE [F : FieldI P t i off sz ag] {j0 : Nat} {ys : List PV} (ho : o.op = .fieldAddr t x i) (hx : ρ x = .ep ys j0) (hs : sz ≠ 0) {r : Nat} (hr : j0 + off = r) (hl : r ≤ ys.length) : OpP P o ρ (.ep ys r) := by
  intro I M w a h
  have h1 := h x (by simp [ho, Op.operands])
  rw [hx] at h1
  obtain ⟨fs, f, j, d, e1, e2, e3, e4, e5, _, _⟩ := fieldOf_some F.eq
  subst hr
  generalize e : a.eval x = q at h1
  cases h1 with
  | @ep b o1 _ _ u hj hM hcell ho1 hu =>
    refine ⟨.pointer (some ⟨b, o1 + (j0 + off), none⟩), ?_, .ep u hl hM hcell ho1 hu⟩
    simp [execOp, ho, e, Instr.fieldAt, run_underlying e1, e2, Instr.sureAddr, fieldPlace, sizeOf, typeInfo, e4, e5, hs, Addr.add_lit, e3, Nat.add_assoc]
end
end Go.Proofs.YtbbcokckealagaaGreat
namespace Go.Proofs.YtbbcokckealagaaGreat
set_option linter.unusedVariables false
set_option linter.unusedSimpArgs false
open Go.RowKit
section
variable {P : Program} {o : Oper} {ρ : Operand → AV} {σ0 : Nat → Res}
def OpI (ρ : Operand → AV) : Option Operand → Option Nat → Prop
  | none, none => True
  | some x, some n => ∃ k i, ρ x = .v (.int k i) ∧ i = (n : Int)
  | _, _ => False
theorem OpI.no {ρ : Operand → AV} : OpI ρ none none := trivial
theorem OpI.so {ρ : Operand → AV} {x : Operand} {k : IntKind} {i : Int} {n : Nat} (h : ρ x = .v (.int k i)) (hi : i = (n : Int)) : OpI ρ (some x) (some n) := ⟨k, i, h, hi⟩
theorem run_bound {x : Value} {n y : Nat} (hx : ∃ k, x = .int k (n : Int)) (h : n ≤ y) (code : BoundsCode) (w : World) : (Instr.sliceBound x y code).run P w = .ok n w := by
  obtain ⟨k, rfl⟩ := hx
  simp [Instr.sliceBound, asIntOf, h]
theorem OpR.slice {t e : TypeId} {x : Operand} {lo hi mx : Option Operand} {l h m : Option Nat} {sz bytes : Nat} {z : Value} {xs : List (List PV)} {ins : Upds} [Und P t (.slice e)] [TyI P e z sz bytes]
    (ho : o.op = .slice t x lo hi mx) (hx : Dat σ0 (ρ x) sz xs ins) (hl : OpI ρ lo l) (hh : OpI ρ hi h) (hm : OpI ρ mx m) (hmh : m.isSome = true → h.isSome = true) {L H : Nat} (eL : l.getD 0 = L) (eH : h.getD xs.length = H) (h1 : L ≤ H) (h2 : H ≤ xs.length) (h3 : H ≤ m.getD H) (h4 : m.getD H ≤ xs.length)
    {f : Bool} (hf : f = true → m = some H ∨ m = none ∧ H = xs.length ∧ (match ρ x with | .sl _ _ f => f | _ => false) = true) : OpR P o ρ ins (.sl sz ((xs.take H).drop L) f) := by
  intro I M w a σ hop hs hi'
  have q1 := hop x (by simp [ho, Op.operands])
  obtain ⟨A, c, e1, q2⟩ := hx.rpv hi' hs q1
  obtain ⟨_, _, _, _, _, _, _, hsz⟩ := run_typeInfo (P := P) (t := e) w
  have hc := q2.len.2
  have vl : ∀ (y : Operand) (n : Nat), y ∈ o.op.operands.toList → (∃ k i, ρ y = .v (.int k i) ∧ i = (n : Int)) → ∃ k, a.eval y = .int k (n : Int) := by
    rintro y n hy ⟨k, i, r1, rfl⟩
    have := hop y hy
    rw [r1] at this
    exact ⟨k, this.val⟩
  have key : ∀ m' : Nat, (m = none → m' = c) → (∀ k, m = some k → m' = k) → H ≤ m' ∧ (m' ≤ c) := by
    intro m' n1 n2
    cases m with
    | none => have := n1 O; omega
    | some k => have := n2 k O; simp at h3 h4; omega
  have run : ∃ m', (m = none → m' = c) ∧ (∀ k, m = some k → m' = k) ∧ (execOp a.eval o).run P w = .ok (.value (.slice (if m' = L then A else A.map (·.add (L * sz))) (H - L) (m' - L))) w := by
    have bl : ∀ code, lo = none ∧ L = 0 ∨ ∃ y, lo = some y ∧ (Instr.sliceBound (a.eval y) H code).run P w = .ok L w := by
      intro code
      cases lo with
      | none => cases l with
        | none => left; exact ⟨rfl, by simpa using eL.symm⟩
        | some k => exact hl.elim
      | some y => cases l with
        | none => exact hl.elim
        | some k =>
          right
          obtain rfl : k = L := by simpa using eL
          exact ⟨y, rfl, run_bound (vl y k (by simp [ho, Op.operands]) hl) h1 code w⟩
    cases mx with
    | none =>
      cases m with
      | some k => exact hm.elim
      | none =>
        refine ⟨c, fun _ => rfl, (fun k hk => by cases hk), ?_⟩
        have bh : ∀ code, hi = none ∧ H = xs.length ∨ ∃ y, hi = some y ∧ (Instr.sliceBound (a.eval y) c code).run P w = .ok H w := by
          intro code
          cases hi with
          | none => cases h with
            | none => left; exact ⟨rfl, by simpa using eH.symm⟩
            | some k => exact hh.elim
          | some y => cases h with
            | none => exact hh.elim
            | some k =>
              right
              obtain rfl : k = H := by simpa using eH
              exact ⟨y, rfl, run_bound (vl y k (by simp [ho, Op.operands]) hh) (by omega) code w⟩
        rcases bh .sliceAcap with ⟨rfl, rH⟩ | ⟨y2, rfl, bh1⟩ <;> rcases bl .sliceB with ⟨rfl, rL⟩ | ⟨y1, rfl, bl1⟩
        · subst rH rL
          simp [execOp, ho, e1, Instr.sliceAt, run_und, Instr.slice, Instr.sliceBounds, hsz]
        · subst rH
          simp [execOp, ho, e1, Instr.sliceAt, run_und, Instr.slice, Instr.sliceBounds, hsz, bl1]
        · subst rL
          simp [execOp, ho, e1, Instr.sliceAt, run_und, Instr.slice, Instr.sliceBounds, hsz, bh1]
        · simp [execOp, ho, e1, Instr.sliceAt, run_und, Instr.slice, Instr.sliceBounds, hsz, bh1, bl1]
    | some y3 =>
      cases m with
      | none => exact hm.elim
      | some k =>
        simp at h3 h4
        refine ⟨k, (fun hk => by cases hk), (fun k' hk => by injection hk), ?_⟩
        have bm := run_bound (P := P) (vl y3 k (by simp [ho, Op.operands]) hm) (show k ≤ c by omega) .slice3Acap w
        cases hi with
        | none => cases h with
          | none => simp at hmh
          | some k => exact hh.elim
        | some y2 => cases h with
          | none => exact hh.elim
          | some k2 =>
            obtain rfl : k2 = H := by simpa using eH
            have bh := run_bound (P := P) (vl y2 k2 (by simp [ho, Op.operands]) hh) (show k2 ≤ k by omega) .slice3B w
            rcases bl .slice3C with ⟨rfl, rL⟩ | ⟨y1, rfl, bl1⟩
            · subst rL
              simp [execOp, ho, e1, Instr.sliceAt, run_und, Instr.slice, Instr.sliceBounds, hsz, bh, bm]
            · simp [execOp, ho, e1, Instr.sliceAt, run_und, Instr.slice, Instr.sliceBounds, hsz, bh, bm, bl1]
  obtain ⟨m', n1, n2, run⟩ := run
  obtain ⟨k1, k2⟩ := key m' n1 n2
  refine ⟨_, run, .sl (q2.part h1 h2 k1) fun hft => ?_⟩
  rcases hf hft with rfl | ⟨rfl, r1, r2⟩
  · have := n2 H O; omega
  · have hm' := n1 O
    have : c = xs.length := by
      rw [e1] at q1
      split at r2
      · rename_i eq
        rw [eq] at q1
        cases q1 with
        | sl hh hf => exact hf r2
      · cases r2
    omega
theorem OpP.sliceStr {t : TypeId} {x : Operand} {lo hi : Option Operand} {l h : Option Nat} {s r : List UInt8} [Und P t .string] (ho : o.op = .slice t x lo hi none) (hx : ρ x = .v (.string (bs s)))
    (hl : OpI ρ lo l) (hh : OpI ρ hi h) {L H : Nat} (eL : l.getD 0 = L) (eH : h.getD s.length = H) (h1 : L ≤ H) (h2 : H ≤ s.length) (hr : (s.take H).drop L = r) : OpP P o ρ (.v (.string (bs r))) := by
  intro I M w a hop
  have q1 := hop x (by simp [ho, Op.operands])
  rw [hx] at q1
  have e1 := q1.val
  have vl : ∀ (y : Operand) (n : Nat), y ∈ o.op.operands.toList → (∃ k i, ρ y = .v (.int k i) ∧ i = (n : Int)) → ∃ k, a.eval y = .int k (n : Int) := by
    rintro y n hy ⟨k, i, r1, rfl⟩
    have := hop y hy
    rw [r1] at this
    exact ⟨k, this.val⟩
  have ex : (bs s).extract L H = bs r := by
    subst hr
    apply ByteArray.ext
    rw [ByteArray.data_extract]
    apply Array.ext'
    simp [List.extract_eq_take_drop, List.take_drop, Nat.sub_add_cancel h1, Nat.add_sub_cancel' h1]
  refine ⟨_, ?_, .v _⟩
  have bl : ∀ code, lo = none ∧ L = 0 ∨ ∃ y, lo = some y ∧ (Instr.sliceBound (a.eval y) H code).run P w = .ok L w := by
    intro code
    cases lo with
    | none => cases l with
      | none => left; exact ⟨rfl, by simpa using eL.symm⟩
      | some k => exact hl.elim
    | some y => cases l with
      | none => exact hl.elim
      | some k =>
        right
        obtain rfl : k = L := by simpa using eL
        exact ⟨y, rfl, run_bound (vl y k (by simp [ho, Op.operands]) hl) h1 code w⟩
  have hsize := bs_size s
  have bh : ∀ code, hi = none ∧ H = s.length ∨ ∃ y, hi = some y ∧ (Instr.sliceBound (a.eval y) (bs s).size code).run P w = .ok H w := by
    intro code
    cases hi with
    | none => cases h with
      | none => left; exact ⟨rfl, by simpa using eH.symm⟩
      | some k => exact hh.elim
    | some y => cases h with
      | none => exact hh.elim
      | some k =>
        right
        obtain rfl : k = H := by simpa using eH
        exact ⟨y, rfl, run_bound (vl y k (by simp [ho, Op.operands]) hh) (by rw [hsize]; omega) code w⟩
  rcases bh .sliceAlen with ⟨rfl, rH⟩ | ⟨y2, rfl, bh1⟩ <;> rcases bl .sliceB with ⟨rfl, rL⟩ | ⟨y1, rfl, bl1⟩
  · rw [rH, rL, ← hsize] at ex
    have hsr : s = r := by rw [← hr, rH, rL]; simp
    simp [execOp, ho, e1, Instr.sliceAt, run_und, Instr.slice, Instr.sliceBounds, ex, hsr]
  · rw [rH, ← hsize] at bl1 ex
    simp [execOp, ho, e1, Instr.sliceAt, run_und, Instr.slice, Instr.sliceBounds, bl1, ex]
  · rw [rL] at ex
    simp [execOp, ho, e1, Instr.sliceAt, run_und, Instr.slice, Instr.sliceBounds, bh1, ex]
  · simp [execOp, ho, e1, Instr.sliceAt, run_und, Instr.slice, Instr.sliceBounds, bh1, bl1, ex]
theorem OpP.indexStr {t : TypeId} {x y : Operand} {k : IntKind} {i : Int} {s : List UInt8} {c : UInt8} [Und P t .string] (ho : o.op = .index t x y) (hx : ρ x = .v (.string (bs s))) (hy : ρ y = .v (.int k i)) (h0 : 0 ≤ i) (hc : s[i.toNat]? = some c) : OpP P o ρ (.v (.int .u8 (c.toNat : Int))) := by
  intro I M w a h
  have h1 := h x (by simp [ho, Op.operands])
  have h2 := h y (by simp [ho, Op.operands])
  rw [hx] at h1; rw [hy] at h2
  refine ⟨_, ?_, .v _⟩
  obtain ⟨hlt, hce⟩ := List.getElem?_eq_some_iff.1 hc
  have hg : (bs s)[i.toNat]? = some c := by
    have : i.toNat < (bs s).size := by rw [bs_size]; exact hlt
    rw [getElem?_pos (bs s) i.toNat this]
    congr 1
  simp [execOp, ho, h1.val, h2.val, Instr.index, run_und, asIntOf, h0, hg]
theorem OpR.len {x : Operand} {t ty : TypeId} {d : TypeDesc} {sz : Nat} {xs : List (List PV)} {ins : Upds} {e : TypeId} [Und P t (.slice e)] (ho : o.op = .call { callee := .builtin .len, args := #[x], argTypes := #[t] }) (hx : Dat σ0 (ρ x) sz xs ins) {n : Nat} (hn : xs.length = n) : OpR P o ρ ins (.v (.int .i64 n)) := by
  intro I M w a σ hop hs hi
  have q1 := hop x (by simp [ho, Op.operands, Call.operands])
  obtain ⟨A, c, e1, q2⟩ := hx.rpv hi hs q1
  subst hn
  exact ⟨_, by simp [execOp, ho, resolve, invoke, builtin, e1, Builtin.len_, run_und, goInt], .v _⟩
theorem OpP.lenStr {x : Operand} {t : TypeId} {s : List UInt8} [Und P t .string] (ho : o.op = .call { callee := .builtin .len, args := #[x], argTypes := #[t] }) (hx : ρ x = .v (.string (bs s))) : OpP P o ρ (.v (.int .i64 s.length)) := by
  intro I M w a hop
  have q1 := hop x (by simp [ho, Op.operands, Call.operands])
  rw [hx] at q1
  have hsize := bs_size s
  exact ⟨_, by simp [execOp, ho, resolve, invoke, builtin, q1.val, Builtin.len_, run_und, goInt, hsize], .v _⟩
theorem OpP.max {x y : Operand} {ts : Array TypeId} {k : IntKind} {a b : Int} (ho : o.op = .call { callee := .builtin .max, args := #[x, y], argTypes := ts }) (hx : ρ x = .v (.int k a)) (hy : ρ y = .v (.int k b)) : OpP P o ρ (.v (.int k (Max.max a b))) := by
  intro I M w ac hop
  have q1 := hop x (by simp [ho, Op.operands, Call.operands])
  have q2 := hop y (by simp [ho, Op.operands, Call.operands])
  rw [hx] at q1; rw [hy] at q2
  have e1 := q1.val
  have e2 := q2.val
  exact ⟨_, by simp [execOp, ho, resolve, invoke, builtin, e1, e2, Builtin.max_, Builtin.max2]; (by_cases h : a < b) <;> simp [h] <;> omega, .v _⟩
theorem OpP.min {x y : Operand} {ts : Array TypeId} {k : IntKind} {a b : Int} (ho : o.op = .call { callee := .builtin .min, args := #[x, y], argTypes := ts }) (hx : ρ x = .v (.int k a)) (hy : ρ y = .v (.int k b)) : OpP P o ρ (.v (.int k (Min.min a b))) := by
  intro I M w ac hop
  have q1 := hop x (by simp [ho, Op.operands, Call.operands])
  have q2 := hop y (by simp [ho, Op.operands, Call.operands])
  rw [hx] at q1; rw [hy] at q2
  have e1 := q1.val
  have e2 := q2.val
  exact ⟨_, by simp [execOp, ho, resolve, invoke, builtin, e1, e2, Builtin.min_, Builtin.min2]; (by_cases h : b < a) <;> simp [h] <;> omega, .v _⟩
theorem OpP.extract {x : Operand} {i : Nat} {vs : List AV} {c : AV} (ho : o.op = .extract x i) (hx : ρ x = .tup vs) (hc : vs[i]? = some c) : OpP P o ρ c := by
  intro I M w a hop
  have q1 := hop x (by simp [ho, Op.operands])
  rw [hx] at q1
  generalize e1 : a.eval x = v at q1
  cases q1 with
  | @tup ws _ h hcs =>
    have hlt : i < ws.size := by rw [h]; exact (List.getElem?_eq_some_iff.1 hc).1
    exact ⟨ws[i], by simp [execOp, ho, e1, Instr.extract, hlt], hcs i _ c (by simp [hlt]) hc⟩
theorem OpP.nilCheck {x : Operand} {v : AV} (ho : o.op = .nilCheck x) (hx : ρ x = v) (hv : (match v with | .ptr _ _ => true | .ep _ _ => true | .fn _ _ => true | _ => false) = true) : OpP P o ρ v := by
  intro I M w a hop
  have q1 := hop x (by simp [ho, Op.operands])
  rw [hx] at q1
  refine ⟨a.eval x, ?_, q1⟩
  generalize e1 : a.eval x = u at q1
  cases q1 <;> simp at hv <;> simp [execOp, ho, e1]
theorem OpP.makeFunc {f : FuncId} {caps : Array Operand} {cs : List AV} (ho : o.op = .makeFunc (.func f) #[] caps) (hx : caps.toList.map ρ = cs) : OpP P o ρ (.fn f cs) := by
  intro I M w a hop
  subst hx
  refine ⟨.func (.func f) #[] (caps.map a.eval), by simp [execOp, ho, Instr.makeFunc], .fn (by simp) fun i v c hv hc => ?_⟩
  simp only [Array.getElem?_map, Option.map_eq_some_iff] at hv
  obtain ⟨x, hx, rfl⟩ := hv
  simp only [List.getElem?_map, Option.map_eq_some_iff] at hc
  obtain ⟨y, hy, rfl⟩ := hc
  have : x = y := by
    rw [Array.getElem?_toList] at hy
    rw [hx] at hy; injection hy
  subst this
  exact hop x (by simp [ho, Op.operands]; exact Array.mem_of_getElem? hx)
abbrev bsP (l : List UInt8) : List (List PV) := l.map fun c => [PV.v (.int .u8 (c.toNat : Int))]
theorem bsP_flat (l : List UInt8) : (bsP l).flatten = l.map fun c => PV.v (.int .u8 (c.toNat : Int)) := by
  induction l with
  | nil => rfl
  | cons c l ih => simp only [List.map_cons, List.flatten_cons, ih]; rfl
theorem OpR.toStr {x : Operand} {s d e : TypeId} {l : List UInt8} {xs : List (List PV)} {ins : Upds} [Und P s (.slice e)] [Und P e (.int .u8)] [Und P d .string] (ho : o.op = .convert s d x) (hx : Dat σ0 (ρ x) 1 xs ins) (hb : xs = bsP l) : OpR P o ρ ins (.v (.string (bs l))) := by
  intro I M w a σ hop hs hi
  have q1 := hop x (by simp [ho, Op.operands])
  obtain ⟨A, c, e1, q2⟩ := hx.rpv hi hs q1
  subst hb
  refine ⟨_, ?_, .v _⟩
  have hlen : (bsP l).length = l.length := by simp
  have hconv : (convert s d (.slice A (bsP l).length c)).run P w = .ok (.string (bs l)) w := by
    cases q2 with
    | sl b off u hn hc hz hA hM hcell ho1 hu =>
      rcases Nat.eq_zero_or_pos l.length with h0 | hpos
      · have : l = [] := List.eq_nil_of_length_eq_zero h0
        subst this
        cases A with
        | none => simp [convert, run_und, Conv.bytesToString, bs]; rfl
        | some ad => simp [convert, run_und, Conv.bytesToString, bs, loadCells, loadCellsFrom]; rfl
      · rw [hA (by rw [hlen]; exact hpos), hlen]
        have hcs : ∀ j, j < l.length → u j = Value.int .u8 ((l.getD j 0).toNat : Int) := by
          intro j hj
          have := hu j (PV.v (.int .u8 ((l.getD j 0).toNat : Int))) (by rw [bsP_flat, List.getElem?_map]; simp [hj])
          generalize u j = q at this ⊢
          cases this; rfl
        have := run_convert_bytes_arg (P := P) w s e Und.und Und.und b off l.length c (l.map fun c => (c.toNat : Int)) (by simp) (fun j hj => by
          rw [hcell j (by rw [hlen]; omega), hcs j hj]; simp [hj]) d Und.und
        rw [this]
        simp [strOfNums, bs, Function.comp_def]
  rw [hlen] at hconv e1
  simp [execOp, ho, e1, hconv]
end
end Go.Proofs.YtbbcokckealagaaGreat
namespace Go.Proofs.YtbbcokckealagaaGreat
set_option linter.unusedVariables false
set_option linter.unusedSimpArgs false
open Go.RowKit
def AV.cells : AV → List AV
  | .agg cs => cs
  | c => [c]
def AV.one1 : AV → Bool
  | .v x => x.oneCell'
  | .any | .agg _ | .tup _ | .ifb _ _ => false
  | _ => true
theorem Rp.one1 {I : Nat → CI} {M : Nat → Nat} {w : World} {x : Value} {p : AV} (h : Rp I M w x p) (hp : p.one1 = true) : x.oneCell' = true := by
  cases h <;> first | rfl | exact hp | (simp [AV.one1] at hp)
def AV.okCells : AV → Bool
  | .agg _ => true
  | c => c.one1
theorem one_cells {x : Value} (h : x.oneCell' = true) : x.cells = #[x] := by
  cases x <;> first | rfl | cases h
theorem Rp.cells {I : Nat → CI} {M : Nat → Nat} {w : World} {x : Value} {p : AV} (h : Rp I M w x p) (hp : p.okCells = true) :
    x.cells.size = p.cells.length ∧ (∀ (i : Nat) (v : Value), x.cells[i]? = some v → v.oneCell' = true) ∧ ∀ (i : Nat) (v : Value) (c : AV), x.cells[i]? = some v → p.cells[i]? = some c → Rp I M w v c := by
  have sing : p.one1 = true → p.cells = [p] → x.cells.size = p.cells.length ∧ (∀ (i : Nat) (v : Value), x.cells[i]? = some v → v.oneCell' = true) ∧ ∀ (i : Nat) (v : Value) (c : AV), x.cells[i]? = some v → p.cells[i]? = some c → Rp I M w v c := by
    intro h1 h2
    have h3 := h.one1 h1
    rw [one_cells h3, h2]
    refine ⟨rfl, fun i v hv => ?_, fun i v c hv hc => ?_⟩
    · cases i with
      | zero => obtain rfl : x = v := by simpa using hv
                exact h3
      | succ i => simp at hv
    · cases i with
      | zero =>
        obtain rfl : x = v := by simpa using hv
        obtain rfl : p = c := by simpa using hc
        exact h
      | succ i => simp at hv
  cases p with
  | agg cs =>
    cases h with
    | agg hs h1 hc => exact ⟨hs, h1, hc⟩
  | _ => exact sing hp O
section
variable {P : Program} {o : Oper} {ρ : Operand → AV} {σ0 : Nat → Res}
theorem newVar_ok {I : Nat → CI} {M : Nat → Nat} {w : World} {σ : Nat → Res} {t : TypeId} {v : Value} {p : AV} (hs : Sto I M w σ) (hv : Rp I M w v p) (hp : p.okCells = true) (k : Nat) (hk : σ k = .no) (hI : I k = .no) :
    let I' := fun i => if i = k then CI.box w.heap.size else I i
    let w' := w.alloc (.cells v.cells t)
    Rp I' M w' (.pointer (some ⟨w.heap.size, 0, none⟩)) (.ptr k 0) ∧ Sto I' M w' (updS σ [(k, .box p.cells)]) ∧ Ext (fun _ => False) I I' M M w w' ∧ (∀ i, i ≠ k → I' i = I i) := by
  intro I' w'
  have hle : ∀ i, (I i).le (I' i) := by
    intro i
    show (I i).le (if i = k then CI.box w.heap.size else I i)
    by_cases h : i = k
    · rw [h, hI]; trivial
    · rw [if_neg h]; exact CI.le_refl _
  have hext : Ext (fun _ => False) I I' M M w w' := ⟨rfl, rfl, rfl, hle, ⟨by simp [w'], fun _ => Nat.le_refl _, fun b o v _ hv => by
      rw [World.cell?_alloc_lt _ _ _ (World.block_lt_of_cell? w _ hv)]; exact hv, ety_of fun b hb => Below.heap_alloc w _ b hb⟩, fun b hb _ => ⟨Below.heap_alloc w _ b hb, rfl⟩⟩
  have hIk : I' k = .box w.heap.size := by simp [I']
  refine ⟨.ptr hIk, ?_, hext, fun i hi => by simp [I', hi]⟩
  refine hs.upd [k] hext (fun _ h => h.elim) (fun i hi => by have : i ≠ k := by simpa using hi
                                                             simp [I', this]) (fun i hi => updS_other _ _ _ (by simpa [keys] using hi)) (fun i hi => ?_) (fun i hi b hb => ?_) (fun i hi j hj b hne => ?_) (fun b hb => ?_)
  · obtain rfl : i = k := by simpa using hi
    obtain ⟨c1, c2, c3⟩ := hv.cells hp
    simp only [updS, if_true, hIk]
    refine ⟨w.heap.size, v.cells, t, rfl, heap_alloc_new w _, hs.top _ (Nat.le_refl _), c1, c2, fun j u c hu hc => (c3 j u c hu hc).evo hle hext.evo⟩
  · obtain rfl : i = k := by simpa using hi
    simp only [updS, if_true, hIk, blkOf] at hb
    injection hb with hb
    exact .inl (by omega)
  · obtain rfl : i = k := by simpa using hi
    obtain rfl : j = i := by simpa using hj
    exact absurd O hne
  · exact hs.top b (by have : w'.heap.size = w.heap.size + 1 := by simp [w']
                       omega)
theorem OpS.newVar {v : AV} {t : TypeId} (k : Nat) (hp : v.okCells = true)
    (hrun : ∀ (I : Nat → CI) (M : Nat → Nat) (w : World) (a : Act), (∀ x ∈ o.op.operands.toList, Rp I M w (a.eval x) (ρ x)) → ∃ cv, Rp I M w cv v ∧ (execOp a.eval o).run P w = .ok (.value (.pointer (some ⟨w.heap.size, 0, none⟩))) (w.alloc (.cells cv.cells t))) :
    OpS P o ρ [] (.ptr k 0) [(k, .box v.cells)] := by
  intro I M w a σ K Q hx hs _ hk hK
  obtain ⟨cv, hv, hr⟩ := hrun I M w a hx
  obtain ⟨hk1, hk2⟩ := (hk k (by simp [keys])).resolve_left (by simp [keys])
  obtain ⟨r1, r2, r3, r4⟩ := newVar_ok (t := t) hs hv hp k hk1 hk2
  unfold Oper.wp
  rw [hr]
  refine hK _ _ M _ r1 r2 (r3.wide fun _ _ h => h.elim) (fun i hi => r4 i (by simpa [keys] using hi)) fun i hi b hb => ?_
  obtain rfl : i = k := by simpa [keys] using hi
  simp only [updS, if_true, blkOf] at hb
  injection hb with hb
  exact .inl (by omega)
theorem OpS.boxed {t : TypeId} {x : Operand} {v : AV} (k : Nat) (ho : o.op = .box t x) (hx : ρ x = v) (hp : v.okCells = true) {cs : List AV} (hc : v.cells = cs) : OpS P o ρ [] (.ptr k 0) [(k, .box cs)] := by
  subst hc
  refine OpS.newVar (t := t) k hp fun I M w a h => ?_
  have h1 := h x (by simp [ho, Op.operands])
  rw [hx] at h1
  exact ⟨_, h1, by simp [execOp, ho, Instr.box, Go.newVar, newRow]⟩
def zav (z : Value) : AV := match z with | .agg vs => .agg (vs.toList.map .v) | z => .v z
theorem zav_ok {I : Nat → CI} {M : Nat → Nat} {w : World} (z : Value) (h : z.cells.toList.all (·.oneCell') = true) : Rp I M w z (zav z) ∧ (zav z).okCells = true := by
  cases z with
  | agg vs =>
    refine ⟨.agg (by simp) (fun i v hv => ?_) fun i v c hv hc => ?_, rfl⟩
    · rw [List.all_eq_true] at h
      exact h v (by simpa [Value.cells] using Array.mem_of_getElem? hv)
    · simp only [List.getElem?_map, Option.map_eq_some_iff, Array.getElem?_toList] at hc
      obtain ⟨u, hu, rfl⟩ := hc
      rw [hv] at hu; injection hu with hu; subst hu
      exact .v _
  | _ => exact ⟨.v _, by simpa [Value.cells, zav, AV.okCells, AV.one1] using h⟩
theorem OpS.alloc {t : TypeId} {z : Value} {sz bytes : Nat} [TyI P t z sz bytes] (k : Nat) (ho : o.op = .alloc t) (hz : z.cells.toList.all (·.oneCell') = true) {cs : List AV} (hc : (zav z).cells = cs) : OpS P o ρ [] (.ptr k 0) [(k, .box cs)] := by
  subst hc
  refine OpS.newVar (t := t) k (zav_ok (I := fun _ => .no) (M := fun _ => 0) (w := default) z hz).2 fun I M w a h => ?_
  obtain ⟨_, _, _, _, _, _, hzv, _⟩ := run_typeInfo (P := P) (t := t) w
  exact ⟨z, (zav_ok z hz).1, by simp [execOp, ho, Instr.alloc, Go.newVar, newRow, hzv]⟩

def setArr (cur : Array Value) : Nat → List Value → Array Value
  | _, [] => cur
  | o, v :: r => setArr (cur.setIfInBounds o v) (o + 1) r
theorem setArr_size (cur : Array Value) (o : Nat) (vs : List Value) : (setArr cur o vs).size = cur.size := by
  induction vs generalizing cur o with
  | nil => rfl
  | cons v r ih => simp [setArr, ih]
theorem setArr_get (cur : Array Value) (o : Nat) (vs : List Value) (h : o + vs.length ≤ cur.size) (i : Nat) : (setArr cur o vs)[i]? = if o ≤ i ∧ i < o + vs.length then vs[i - o]? else cur[i]? := by
  induction vs generalizing cur o with
  | nil => simp only [setArr, List.length_nil]; rw [if_neg (by omega)]
  | cons v r ih =>
    simp only [List.length_cons] at h
    rw [setArr, ih _ _ (by simp; omega)]
    by_cases h1 : o + 1 ≤ i ∧ i < o + 1 + r.length
    · rw [if_pos h1, if_pos (by simp; omega), show i - o = (i - (o + 1)) + 1 by omega, List.getElem?_cons_succ]
    · rw [if_neg h1]
      by_cases h2 : i = o
      · subst h2
        rw [if_pos (by simp)]
        simp [show i < cur.size by omega]
      · rw [if_neg (by simp; omega), Array.getElem?_setIfInBounds_ne (by omega)]
theorem heap_setCells (w : World) (b : Nat) (cur : Array Value) (e : TypeId) (fr : Nat × Nat) (vs : List Value) (o : Nat) (h : w.heap[b]? = some (.cells cur e fr)) :
    (w.setCells b o vs).heap[b]? = some (.cells (setArr cur o vs) e fr) ∧ (∀ b', b' ≠ b → (w.setCells b o vs).heap[b']? = w.heap[b']?) ∧ (w.setCells b o vs).heap.size = w.heap.size ∧
      (w.setCells b o vs).os = w.os ∧ (w.setCells b o vs).tape = w.tape ∧ (w.setCells b o vs).output = w.output := by
  induction vs generalizing w cur o with
  | nil => exact ⟨h, fun _ _ => rfl, rfl, rfl, rfl, rfl⟩
  | cons v r ih =>
    have h1 : (w.setCell ⟨b, o, none⟩ v).heap[b]? = some (.cells (cur.setIfInBounds o v) e fr) := by
      simp [World.setCell, Array.getElem?_modify, h]
    obtain ⟨a1, a2, a3, a4, a5, a6⟩ := ih _ _ (o + 1) h1
    refine ⟨a1, fun b' hb => ?_, ?_, a4, a5, a6⟩
    · rw [World.setCells, a2 b' hb, Below.heap_setCell _ _ _ _ hb]
    · rw [World.setCells, a3]; simp [World.setCell]
theorem OpS.store {t : TypeId} {x y : Operand} {k off sz bytes : Nat} {z : Value} {cs new cs' : List AV} {v : AV} [TyI P t z sz bytes] (ho : o.op = .store t x y) (hx : ρ x = .ptr k off) (hy : ρ y = v) (hp : v.okCells = true) (hn : v.cells = new) (hl : new.length = sz)
    (hb : off + sz ≤ cs.length) (hc : cs.take off ++ (new ++ cs.drop (off + sz)) = cs') : OpS P o ρ [(k, .box cs)] .any [(k, .box cs')] := by
  intro I M w a σ K Q hop hs hi _ hK
  have q1 := hop x (by simp [ho, Op.operands])
  have q2 := hop y (by simp [ho, Op.operands])
  rw [hx] at q1; rw [hy] at q2
  have own := hs.own k
  rw [hi _ (List.mem_singleton.2 O)] at own
  obtain ⟨b, cur, e, e1, e2, e3, e4, e5, e6⟩ := own
  generalize eq0 : a.eval x = xv at q1
  generalize eq1 : a.eval y = yv at q2
  cases q1 with
  | ptr hI =>
    rw [e1] at hI
    injection hI with hI
    subst hI hn hl
    obtain ⟨c1, c2, c3⟩ := q2.cells hp
    obtain ⟨_, _, _, _, _, _, _, hsz⟩ := run_typeInfo (P := P) (t := t) w
    have hlen : yv.cells.toList.length = v.cells.length := by simpa using c1
    have hblk : b < w.heap.size := (Array.getElem?_eq_some_iff.1 e2).1
    have hrun : (execOp a.eval o).run P w = .ok .skip (w.setCells b off yv.cells.toList) := by
      have hst := run_storeCells_cells (P := P) b off yv.cells.toList 0 w (fun j hj => by
          rw [cell_of_row w b _ cur e (0, 0) e2]
          have : off + j < cur.size := by rw [hlen] at hj; omega
          simp [this]) (fun j hj => by simp [World.frozen?, e2]) (fun u hu => by
          obtain ⟨i, hi⟩ := List.getElem?_of_mem hu
          exact c2 i u (by simpa using hi))
      have hne : ¬ (yv.cells.size ≠ v.cells.length) := by rw [c1]; simp
      simp only [Nat.add_zero] at hst
      simp [execOp, ho, eq0, eq1, Instr.storeAt, Instr.sureAddr, storeVar, hsz, c1, hst]
    obtain ⟨a1, a2, a3, a4, a5, a6⟩ := heap_setCells w b cur e (0, 0) yv.cells.toList off e2
    have hext : Ext (fun b' => b' = b) I I M M w (w.setCells b off yv.cells.toList) := ⟨a4, a5, a6, fun _ => CI.le_refl _, ⟨by omega, fun _ => Nat.le_refl _, fun b' o' u ho' hu => by
        have hne : b' ≠ b := by rintro rfl; omega
        rw [World.cell?_of_block (a2 b' hne)]; exact hu, ety_one e2 a1 a2 (setArr_size _ _ _)⟩, fun b' _ hne => ⟨a2 b' hne, rfl⟩⟩
    unfold Oper.wp
    rw [hrun]
    refine hK undef I M _ (.any _) ?_ (hext.wide fun b' _ h => ⟨k, by simp [keys], by rw [e1, hi _ (List.mem_singleton.2 O)]; simp [blkOf, h]⟩) (fun _ _ => rfl) (fun i hi' b' hb' => ?_)
    · refine hs.upd [k] hext (fun b' h => ⟨k, by simp, by rw [e1, hi _ (List.mem_singleton.2 O)]; simp [blkOf, h]⟩) (fun _ _ => rfl) (fun i hi => updS_other _ _ _ (by simpa [keys] using hi)) (fun i hi' => ?_) (fun i hi' b' hb' => ?_) (fun i hi j hj b hne => ?_) (fun b hb => hs.top b (by omega))
      · obtain rfl : i = k := by simpa using hi'
        simp only [updS, if_true, e1]
        have hcl : cs'.length = cs.length := by rw [← hc]; simp; omega
        refine ⟨b, _, e, rfl, a1, e3, by rw [setArr_size, hcl]; exact e4, fun j u hu => ?_, fun j u c hu hcc => ?_⟩
        · rw [setArr_get _ _ _ (by omega)] at hu
          split at hu
          · exact c2 (j - off) u (by simpa using hu)
          · exact e5 j u hu
        · rw [setArr_get _ _ _ (by omega)] at hu
          rw [← hc] at hcc
          split at hu
          · rename_i hj
            rw [List.getElem?_append_right (by simp; omega), List.length_take, Nat.min_eq_left (by omega), List.getElem?_append_left (by omega)] at hcc
            exact (c3 (j - off) u c (by simpa using hu) hcc).evo hext.le hext.evo
          · rename_i hj
            refine (e6 j u c hu ?_).evo hext.le hext.evo
            rcases Nat.lt_or_ge j off with h1 | h1
            · rw [List.getElem?_append_left (by simp; omega), List.getElem?_take, if_pos h1] at hcc
              exact hcc
            · rw [List.getElem?_append_right (by simp; omega), List.length_take, Nat.min_eq_left (by omega), List.getElem?_append_right (by omega), List.getElem?_drop] at hcc
              rw [← hcc]; congr 1; omega
      · obtain rfl : i = k := by simpa using hi'
        right
        refine ⟨i, by simp, ?_⟩
        simp only [updS, if_true, e1, blkOf] at hb'
        rw [e1, hi _ (List.mem_singleton.2 O)]
        exact hb'
      · obtain rfl : i = k := by simpa using hi
        obtain rfl : j = i := by simpa using hj
        exact absurd O hne
    · obtain rfl : i = k := by simpa [keys] using hi'
      right
      refine ⟨i, by simp [keys], ?_⟩
      simp only [updS, if_true, e1, blkOf] at hb'
      rw [e1, hi _ (List.mem_singleton.2 O)]
      exact hb'
end
end Go.Proofs.YtbbcokckealagaaGreat
namespace Go.Proofs.YtbbcokckealagaaGreat
set_option linter.unusedVariables false
set_option linter.unusedSimpArgs false
open Go.RowKit
section
variable {I : Nat → CI} {M : Nat → Nat} {w : World} {σ : Nat → Res}
theorem fresh_ok (hs : Sto I M w σ) {w1 : World} (e1 : w1.heap = w.heap) (e2 : w1.os = w.os) (e3 : w1.tape = w.tape) (e4 : w1.output = w.output) {cur : Array Value} {e : TypeId} {fr : Nat × Nat} {xs : List (List PV)} {sz c : Nat}
    (hz : ∀ ys ∈ xs, ys.length = sz) (hc : xs.length ≤ c) (hl : xs.length * sz ≤ cur.size)
    (hf : ∀ (j : Nat) (p : PV), xs.flatten[j]? = some p → ∃ u : Value, cur[j]? = some u ∧ u.oneCell' = true ∧ RPV M w u p) :
    let M' := fun b => if b = w.heap.size then xs.length * sz else M b
    let w' := w1.alloc (.cells cur e fr)
    Evo M M' w w' ∧ RPV M' w' (.slice (some ⟨w.heap.size, 0, none⟩) xs.length c) (.sl sz xs) ∧ Sto I M' w' σ ∧ Ext (fun _ => False) I I M M' w w' := by
  intro M' w'
  have hw' : w'.heap = w.heap.push (.cells cur e fr) := by show w1.heap.push _ = _; rw [e1]
  have h0 : M w.heap.size = 0 := hs.top _ (Nat.le_refl _)
  have hmask : ∀ b, M b ≤ M' b := by
    intro b
    show M b ≤ if b = w.heap.size then xs.length * sz else M b
    split
    · rename_i h; subst h; omega
    · exact Nat.le_refl _
  have hold : ∀ b, b < w.heap.size → w'.heap[b]? = w.heap[b]? := by
    intro b hb
    rw [hw', Array.getElem?_push, if_neg (by omega)]
  have hevo : Evo M M' w w' := ⟨by rw [hw']; simp, hmask, fun b o v _ hv => by
    rw [World.cell?_of_block (hold b (World.block_lt_of_cell? w _ hv))]; exact hv, ety_of hold⟩
  have hext : Ext (fun _ => False) I I M M' w w' := ⟨e2, e3, e4, fun _ => CI.le_refl _, hevo, fun b hb _ => ⟨hold b hb, by show (if b = w.heap.size then _ else M b) = M b; rw [if_neg (by omega)]⟩⟩
  refine ⟨hevo, ?_, hs.stay hext (fun b hb => ?_), hext⟩
  · refine .sl w.heap.size 0 (fun j => cur.getD j undef) O hc hz (fun _ => rfl) (fun _ => ?_) (fun j hj => ?_) (fun j hj => ?_) (fun j p hp => ?_)
    · show 0 + xs.length * sz ≤ if w.heap.size = w.heap.size then xs.length * sz else M _
      rw [if_pos O]; omega
    · have : w'.heap[w.heap.size]? = some (.cells cur e fr) := by rw [hw']; simp
      rw [cell_of_row w' _ _ cur e fr this]
      simp [show j < cur.size by omega]
    · have hlt : j < xs.flatten.length := by rw [flat_len hz]; exact hj
      obtain ⟨u, hu, h1, _⟩ := hf j _ (List.getElem?_eq_getElem hlt)
      simp [hu, h1]
    · obtain ⟨u, hu, _, hr⟩ := hf j p hp
      have : cur.getD j undef = u := by simp [hu]
      rw [this]
      exact hr.evo hevo
  · have hsz : w'.heap.size = w.heap.size + 1 := by rw [hw']; simp
    show (if b = w.heap.size then _ else M b) = 0
    rw [if_neg (by omega)]
    exact hs.top b (by omega)
end
inductive ToP (σ : Nat → Res) : AV → PV → Upds → Prop
  | sl {sz : Nat} {xs : List (List PV)} {f : Bool} : ToP σ (.sl sz xs f) (.sl sz xs) []
  | rowf {t sz n : Nat} {xs : List (List PV)} (h : σ t = .row sz xs) (hn : n = xs.length) : ToP σ (.row t n) (.sl sz xs) [(t, .row sz xs)]
  | row {t sz n : Nat} {xs : List (List PV)} (h : σ t = .row sz xs) : ToP σ (.row t n) (.sl sz (xs.take n)) [(t, .row sz xs)]
  | nil {sz : Nat} : ToP σ (.v (.slice none 0 0)) (.sl sz []) []
  | v {x : Value} (h : x.oneCell' = true) : ToP σ (.v x) (.v x) []
inductive ToPs (σ : Nat → Res) : List AV → List PV → Upds → Prop
  | nil : ToPs σ [] [] []
  | cons {a : AV} {p : PV} {l : List AV} {ps : List PV} {u us : Upds} (h : ToP σ a p u) (hs : ToPs σ l ps us) : ToPs σ (a :: l) (p :: ps) (u ++ us)
section
variable {I : Nat → CI} {M : Nat → Nat} {w : World} {σ0 σ : Nat → Res}
theorem ToP.rpv {a : AV} {p : PV} {u : Upds} (d : ToP σ0 a p u) (hi : ∀ q ∈ u, σ q.1 = q.2) (hs : Sto I M w σ) {v : Value} (h : Rp I M w v a) : RPV M w v p ∧ v.oneCell' = true := by
  cases d with
  | sl =>
    obtain ⟨A, c, rfl, r⟩ := Dat.rpv (σ0 := σ0) (.sl) hi hs h
    exact ⟨r, rfl⟩
  | rowf h0 hn =>
    obtain ⟨A, c, rfl, r⟩ := Dat.rpv (.rowf h0 hn) hi hs h
    exact ⟨r, rfl⟩
  | row h0 =>
    obtain ⟨A, c, rfl, r⟩ := Dat.rpv (.row h0) hi hs h
    exact ⟨r, rfl⟩
  | nil => cases h; exact ⟨.nil _ _ _ _ _, rfl⟩
  | v h1 => cases h; exact ⟨.v _, h1⟩
theorem ToPs.len {l : List AV} {ps : List PV} {u : Upds} (d : ToPs σ0 l ps u) : l.length = ps.length := by
  induction d with
  | nil => rfl
  | cons h hs ih => simp [ih]
theorem ToPs.rpv {l : List AV} {ps : List PV} {u : Upds} (d : ToPs σ0 l ps u) (hi : ∀ q ∈ u, σ q.1 = q.2) (hs : Sto I M w σ) {vs : List Value} (hl : vs.length = l.length) (h : ∀ (i : Nat) (v : Value) (c : AV), vs[i]? = some v → l[i]? = some c → Rp I M w v c) :
    ∀ (i : Nat) (p : PV), ps[i]? = some p → ∃ v, vs[i]? = some v ∧ v.oneCell' = true ∧ RPV M w v p := by
  induction d generalizing vs with
  | nil => intro i p hp; simp at hp
  | cons h0 hs0 ih =>
    rename_i a0 p0 l0 ps0 u0 us0
    intro i p hp
    cases vs with
    | nil => simp at hl
    | cons v vs =>
      cases i with
      | zero =>
        obtain rfl : p0 = p := by simpa using hp
        obtain ⟨r1, r2⟩ := h0.rpv (fun q hq => hi q (List.mem_append_left _ hq)) hs (h 0 v a0 (by simp) (by simp))
        exact ⟨v, by simp, r2, r1⟩
      | succ i =>
        obtain ⟨v', h1, h2⟩ := ih (fun q hq => hi q (List.mem_append_right _ hq)) (vs := vs) (by simpa using hl) (fun j v c hv hc => h (j + 1) v c (by simpa using hv) (by simpa using hc)) i p (by simpa using hp)
        exact ⟨v', by simpa using h1, h2⟩
end
theorem foldl_setArr (v : List Value) (off : Nat) : ∀ (k : Nat) (cells : Array Value), (v.zipIdx k).foldl (fun cs (c, j) => cs.setIfInBounds (off + j) c) cells = setArr cells (off + k) v := by
  induction v with
  | nil => intro k cells; rfl
  | cons c r ih => intro k cells; simp only [List.zipIdx_cons, List.foldl_cons, setArr]; rw [ih]; rfl
theorem setArr_toList (cur : Array Value) (o : Nat) (vs : List Value) (h : o + vs.length ≤ cur.size) : (setArr cur o vs).toList = cur.toList.take o ++ (vs ++ cur.toList.drop (o + vs.length)) := by
  have hcl : cur.toList.length = cur.size := by simp
  apply List.ext_getElem?
  intro i
  rw [Array.getElem?_toList, setArr_get _ _ _ h]
  have ht : (cur.toList.take o).length = o := by rw [List.length_take]; omega
  split
  · rename_i hi
    rw [List.getElem?_append_right (by omega), ht, List.getElem?_append_left (by omega)]
  · rename_i hi
    rcases Nat.lt_or_ge i o with h1 | h1
    · rw [List.getElem?_append_left (by omega), List.getElem?_take, if_pos h1, Array.getElem?_toList]
    · rw [List.getElem?_append_right (by omega), ht, List.getElem?_append_right (by omega), List.getElem?_drop, Array.getElem?_toList]
      congr 1; omega
theorem fill_seq (sz : Nat) : ∀ (vs : List Value) (k : Nat) (cur : Array Value), (∀ v ∈ vs, v.cells.size = sz) → cur.size = (k + vs.length) * sz →
    ∃ r, Instr.fill (fun i => some (i * sz, sz)) cur ((vs.zipIdx k).map fun p => (p.2, p.1)) = some r ∧ r.toList = cur.toList.take (k * sz) ++ (vs.map fun v => v.cells.toList).flatten := by
  intro vs
  induction vs with
  | nil => intro k cur _ hs; refine ⟨cur, rfl, ?_⟩; simp only [List.length_nil, Nat.add_zero] at hs; rw [List.take_of_length_le (by simp [hs])]; simp
  | cons v r ih =>
    intro k cur h1 hs
    have hv := h1 v (by simp)
    have hle : k * sz + sz ≤ cur.size := by rw [hs, ← Nat.succ_mul]; exact Nat.mul_le_mul_right _ (by simp only [List.length_cons]; omega)
    have hz : v.cells.zipIdx.foldl (fun cs (c, j) => cs.setIfInBounds (k * sz + j) c) cur = setArr cur (k * sz) v.cells.toList := by
      have := foldl_setArr v.cells.toList (k * sz) 0 cur
      rw [Nat.add_zero] at this
      rw [← this, ← Array.foldl_toList]
      simp [Array.toList_zipIdx]
    obtain ⟨r', e1, e2⟩ := ih (k + 1) (setArr cur (k * sz) v.cells.toList) (fun u hu => h1 u (List.mem_cons_of_mem _ hu)) (by rw [setArr_size, hs]; congr 1; simp only [List.length_cons]; omega)
    refine ⟨r', ?_, ?_⟩
    · simp only [List.zipIdx_cons, List.map_cons, Instr.fill]
      rw [if_neg (by simp [hv]; omega)]
      simp only [hz]
      exact e1
    · rw [e2, setArr_toList _ _ _ (by simp [hv]; exact hle), List.map_cons, List.flatten_cons, ← List.append_assoc, ← List.append_assoc]
      congr 1
      rw [List.take_append_of_le_length (by simp [hv, Nat.add_mul]; omega), List.take_of_length_le (by simp [hv, Nat.add_mul]; omega)]
section
variable {P : Program} {o : Oper} {ρ : Operand → AV} {σ0 : Nat → Res}
inductive Elems (ρ : Operand → AV) (σ : Nat → Res) (sz : Nat) : Nat → List (Nat × Operand) → List (List PV) → Upds → Prop
  | nil {k : Nat} : Elems ρ σ sz k [] [] []
  | cons {k : Nat} {x : Operand} {v : AV} {l : List (Nat × Operand)} {ps : List PV} {xs : List (List PV)} {u us : Upds} (hx : ρ x = v) (hok : v.okCells = true) (h : ToPs σ v.cells ps u) (hl : ps.length = sz) (hs : Elems ρ σ sz (k + 1) l xs us) : Elems ρ σ sz k ((k, x) :: l) (ps :: xs) (u ++ us)
theorem Elems.spec {I : Nat → CI} {M : Nat → Nat} {w : World} {σ : Nat → Res} {a : Act} {sz k : Nat} {l : List (Nat × Operand)} {xs : List (List PV)} {u : Upds} (d : Elems ρ σ0 sz k l xs u) (hi : ∀ q ∈ u, σ q.1 = q.2) (hs : Sto I M w σ) (hop : ∀ q ∈ l, Rp I M w (a.eval q.2) (ρ q.2)) :
    l.length = xs.length ∧ (∀ ys ∈ xs, ys.length = sz) ∧ (∀ v ∈ l.map (fun q => a.eval q.2), v.cells.size = sz) ∧ l.map (fun q => (q.1, a.eval q.2)) = ((l.map fun q => a.eval q.2).zipIdx k).map (fun p => (p.2, p.1)) ∧
      ∀ (j : Nat) (p : PV), xs.flatten[j]? = some p → ∃ v : Value, ((l.map fun q => a.eval q.2).map fun v => v.cells.toList).flatten[j]? = some v ∧ v.oneCell' = true ∧ RPV M w v p := by
  induction d with
  | nil => simp
  | cons hx hok h hl hs' ih =>
    rename_i k x v l ps xs u us
    obtain ⟨i1, i2, i3, i4, i5⟩ := ih (fun q hq => hi q (List.mem_append_right _ hq)) (fun q hq => hop q (List.mem_cons_of_mem _ hq))
    have hv := hop (k, x) (by simp)
    rw [hx] at hv
    obtain ⟨c1, c2, c3⟩ := hv.cells hok
    have hcl := h.len
    have hp := h.rpv (fun q hq => hi q (List.mem_append_left _ hq)) hs (vs := (a.eval x).cells.toList) (by simpa using c1) (fun i v c hv hc => c3 i v c (by simpa using hv) hc)
    refine ⟨by simp [i1], ?_, ?_, ?_, ?_⟩
    · intro ys hy
      rcases List.mem_cons.1 hy with rfl | hy
      · exact hl
      · exact i2 ys hy
    · intro u hu
      simp only [List.map_cons, List.mem_cons] at hu
      rcases hu with rfl | hu
      · rw [c1, hcl, hl]
      · exact i3 u hu
    · simp only [List.map_cons, List.zipIdx_cons]
      rw [i4]
    · intro j p hj
      have hsz : (a.eval x).cells.toList.length = ps.length := by rw [← hcl]; simpa using c1
      simp only [List.map_cons, List.flatten_cons] at hj ⊢
      rcases Nat.lt_or_ge j ps.length with h1 | h1
      · rw [List.getElem?_append_left h1] at hj
        rw [List.getElem?_append_left (by omega)]
        exact hp j p hj
      · rw [List.getElem?_append_right h1] at hj
        rw [List.getElem?_append_right (by omega), hsz]
        exact i5 _ p hj
theorem OpS.fresh {ins : Upds} {sz : Nat} {xs : List (List PV)} {f : Bool}
    (hrun : ∀ (I : Nat → CI) (M : Nat → Nat) (w : World) (a : Act) (σ : Nat → Res), (∀ x ∈ o.op.operands.toList, Rp I M w (a.eval x) (ρ x)) → Sto I M w σ → (∀ q ∈ ins, σ q.1 = q.2) →
      ∃ (w1 : World) (cur : Array Value) (e : TypeId) (fr : Nat × Nat) (c : Nat), w1.heap = w.heap ∧ w1.os = w.os ∧ w1.tape = w.tape ∧ w1.output = w.output ∧ (∀ ys ∈ xs, ys.length = sz) ∧ xs.length ≤ c ∧ xs.length * sz ≤ cur.size ∧ (f = true → c = xs.length) ∧
        (∀ (j : Nat) (p : PV), xs.flatten[j]? = some p → ∃ u : Value, cur[j]? = some u ∧ u.oneCell' = true ∧ RPV M w u p) ∧ (execOp a.eval o).run P w = .ok (.value (.slice (some ⟨w.heap.size, 0, none⟩) xs.length c)) (w1.alloc (.cells cur e fr))) :
    OpS P o ρ ins (.sl sz xs f) [] := by
  intro I M w a σ K Q hx hs hi _ hK
  obtain ⟨w1, cur, e, fr, c, e1, e2, e3, e4, hz, hc, hl, hf, hfl, hr⟩ := hrun I M w a σ hx hs hi
  obtain ⟨_, r1, r2, r3⟩ := fresh_ok hs e1 e2 e3 e4 (e := e) (fr := fr) hz hc hl hfl
  unfold Oper.wp
  rw [hr]
  exact hK _ _ _ _ (.sl r1 hf) r2 (r3.wide fun _ _ h => h.elim) (fun _ _ => rfl) (fun _ h => by cases h)
theorem OpS.buildSlice {t e : TypeId} {n : Nat} {parts : Array (Nat × Operand)} {z : Value} {sz bytes : Nat} {xs : List (List PV)} {ins : Upds} [Und P t (.slice e)] [TyI P e z sz bytes] (ho : o.op = .buildSlice t n parts) (hn : parts.size = n) (hz : z.cells.size = sz) (hsm : n * sz ≤ 16777216)
    (hx : Elems ρ σ0 sz 0 parts.toList xs ins) : OpS P o ρ ins (.sl sz xs true) [] := by
  refine OpS.fresh fun I M w a σ hop hs hi => ?_
  have hop' : ∀ q ∈ parts.toList, Rp I M w (a.eval q.2) (ρ q.2) := fun q hq => hop q.2 (by rw [ho]; simp only [Op.operands]; exact List.mem_map.2 ⟨q, hq, rfl⟩)
  obtain ⟨i1, i2, i3, i4, i5⟩ := hx.spec hi hs hop'
  have hlen : parts.toList.length = n := by simpa using hn
  obtain ⟨_, _, _, _, _, _, hzv, hsz⟩ := run_typeInfo (P := P) (t := e) w
  let vs := parts.toList.map fun q => a.eval q.2
  obtain ⟨r, r1, r2⟩ := fill_seq sz vs 0 ((Array.range (n * sz)).map fun j => (if n * sz = 0 then (#[] : Array Value) else z.cells)[j % (if n * sz = 0 then (#[] : Array Value) else z.cells).size]!) i3 (by simp [vs, hlen])
  have hrl : r.size = n * sz := by
    rw [← Array.length_toList, r2]
    simp only [Nat.zero_mul, List.take_zero, List.nil_append]
    have : ∀ l : List Value, (∀ v ∈ l, v.cells.size = sz) → ((l.map fun v => v.cells.toList).flatten).length = l.length * sz := by
      intro l
      induction l with
      | nil => simp
      | cons v l ih => intro h; simp [ih (fun u hu => h u (List.mem_cons_of_mem _ hu)), h v (by simp), Nat.add_mul]; omega
    rw [this vs i3]; simp [vs, hlen]
  refine ⟨w, r, e, (0, 0), n, rfl, rfl, rfl, rfl, i2, by omega, by rw [hrl, ← i1, hlen]; exact Nat.le_refl _, fun _ => by omega, fun j p hp => ?_, ?_⟩
  · obtain ⟨v, h1, h2⟩ := i5 j p hp
    refine ⟨v, ?_, h2⟩
    rw [← Array.getElem?_toList, r2]
    simp only [Nat.zero_mul, List.take_zero, List.nil_append]
    exact h1
  · have hparts : (parts.map fun q => (q.1, a.eval q.2)).toList = (vs.zipIdx 0).map (fun p => (p.2, p.1)) := by rw [Array.toList_map]; exact i4
    have hmm : (parts.map fun (i, x) => (i, a.eval x)) = parts.map fun q => (q.1, a.eval q.2) := rfl
    rw [← i1, hlen]
    have h24 : ¬ (n * sz > 2 ^ 24) := by omega
    have hgo : execOp a.eval o = (do pure (.value (← Instr.buildSlice t n (parts.map fun q => (q.1, a.eval q.2))))) := by simp only [execOp, ho]
    rw [hgo]
    unfold Instr.buildSlice
    rw [hparts]
    by_cases h0 : n * sz = 0
    · rw [if_pos h0, h0] at r1
      have r1' : Instr.fill (fun i => some (i * sz, sz)) (Array.map (fun x => default) (Array.range 0)) (List.map (fun p => (p.snd, p.fst)) vs.zipIdx) = some r := by rw [← r1]; simp
      simp [run_und, hsz, h0, newRow]
      rw [r1']
      simp
    · rw [if_neg h0] at r1
      simp [run_und, hsz, h0, hzv, newRow, h24]
      simp [r1]
end
set_option maxHeartbeats 1000000 in
theorem run_app_core {P : Program} {t tx e ty : TypeId} {dx : TypeDesc} {z : Value} {sz bytes : Nat} [Und P t (.slice e)] [Und P tx dx] [TyI P e z sz bytes] (hdx : (∃ e', dx = .slice e') ∨ dx = .string) (hzs : z.cells.size = sz)
    {w : World} {A : Option Addr} {n c m : Nat} {x : Value} {news olds : List Value} (hlen : ∀ w : World, (Builtin.lenOf x).run P w = .ok m w) (hnl : news.length = m * sz) (h1 : ∀ v ∈ news, v.oneCell' = true)
    (hfirst : ∀ w1 : World, w1.heap = w.heap → (Builtin.firstCells sz m x).run P w1 = .ok news.toArray w1)
    (hol : olds.length = n * sz) (hA : 0 < n → ∃ b off, A = some ⟨b, off, none⟩ ∧ ∀ (j : Nat) (u : Value), olds[j]? = some u → w.cell? ⟨b, off + j, none⟩ = some u)
    (hin : n + m ≤ c → 0 < m → ∃ g cur e fr, A = some ⟨g, 0, none⟩ ∧ w.heap[g]? = some (.cells cur e fr) ∧ cur.size = c * sz ∧ Unfr fr cur.size)
    (hb : (n + m) * bytes ≤ 140737488355328) (h63 : n + m ≤ maxLen) :
    (n + m ≤ c ∧ m = 0 ∧ (Builtin.append_ #[t, tx] ty #[.slice A n c, x]).run P w = .ok (.slice A n c) w) ∨
    (n + m ≤ c ∧ 0 < m ∧ ∃ g, A = some ⟨g, 0, none⟩ ∧ (Builtin.append_ #[t, tx] ty #[.slice A n c, x]).run P w = .ok (.slice A (n + m) c) (w.setCells g (n * sz) news)) ∨
    (c < n + m ∧ ∃ c1, n + m ≤ c1 ∧ (Builtin.append_ #[t, tx] ty #[.slice A n c, x]).run P w = .ok (.slice (some ⟨w.heap.size, 0, none⟩) (n + m) c1) (w.drew.alloc (.cells (olds.toArray ++ news.toArray ++ Builtin.zeroCells z.cells (c1 - (n + m))) e))) := by
  obtain ⟨i, hi, hz, hs, hby, hti, hzv, hsz⟩ := run_typeInfo (P := P) (t := e) w
  have hxt : ∀ w : World, (underlying tx).run P w = .ok dx w := fun w => run_und w
  have hm : n + m ≤ 9223372036854775807 := by simp only [maxLen] at h63; omega
  by_cases hroom : n + m ≤ c
  · rcases Nat.eq_zero_or_pos m with hm0 | hm0
    · left
      subst hm0
      have : news = [] := List.eq_nil_of_length_eq_zero (by simpa using hnl)
      subst this
      refine ⟨hroom, rfl, ?_⟩
      have hf := hfirst w O
      rcases hdx with ⟨e', rfl⟩ | rfl <;> cases A <;> simp [Builtin.append_, run_und, sizeOf, typeInfo, hi, hs, hlen, hf, hxt, storeCells, show n ≤ c from hroom]
    · right; left
      refine ⟨hroom, hm0, ?_⟩
      obtain ⟨g, cur, e', fr, rfl, hg, hcs, hun⟩ := hin hroom hm0
      refine ⟨g, rfl, ?_⟩
      have hf := hfirst w O
      have hle : n * sz + news.length ≤ cur.size := by rw [hnl, hcs, ← Nat.add_mul]; exact Nat.mul_le_mul_right _ hroom
      have hst := run_storeCells_cells (P := P) g (n * sz) news 0 w (fun j hj => by
          rw [cell_of_row w g _ cur e' fr hg]
          have : n * sz + j < cur.size := by omega
          simp [this]) (fun j hj => by
          have := hun (n * sz + 0 + j) (by omega)
          simp only [World.frozen?, hg, Bool.and_eq_false_iff, decide_eq_false_iff_not]
          omega) h1
      simp only [Nat.add_zero] at hst
      rcases hdx with ⟨e', rfl⟩ | rfl <;> simp [Builtin.append_, run_und, sizeOf, typeInfo, hi, hs, hlen, hf, hxt, hroom, Addr.add_lit, hst]
  · right; right
    have hc : c < n + m := by omega
    refine ⟨hc, grownCap w (n + m) c e, grownCap_ge w (n + m) c e, ?_⟩
    have h63' : ¬ (9223372036854775807 < ((n : Int) + (m : Int))) := by omega
    have hfit : ¬ (281474976710656 < Builtin.nextslicecap (n + m) c * bytes) := by have := growslice_fits hc hb; omega
    have hf := hfirst w.drew O
    have hold : (Builtin.firstCells sz n (.slice A n c)).run P w.drew = .ok olds.toArray w.drew := by
      rcases Nat.eq_zero_or_pos n with h0 | h0
      · subst h0
        have : olds = [] := List.eq_nil_of_length_eq_zero (by simpa using hol)
        subst this
        cases A <;> simp [Builtin.firstCells, loadCells, loadCellsFrom]
      · obtain ⟨b, off, rfl, hcell⟩ := hA h0
        exact run_firstCells_some (P := P) w.drew sz n ⟨b, off, none⟩ n c olds hol (fun j v hv => by rw [Addr.add_lit]; simpa using hcell j v hv)
    rcases hdx with ⟨e', rfl⟩ | rfl <;> simp [Builtin.append_, run_und, sizeOf, typeInfo, zeroValue, hi, hs, hz, hby, hlen, hxt, hroom, h63', hfit, Question.forced, hold, hf, newRow, grownCap] <;> rw [← List.append_toArray, Array.append_assoc]
end Go.Proofs.YtbbcokckealagaaGreat
namespace Go.Proofs.YtbbcokckealagaaGreat
set_option linter.unusedVariables false
set_option linter.unusedSimpArgs false
open Go.RowKit
structure Wr (q : Prop) : Prop where
  h : q
theorem UA {p q0 : Prop} (h0 : q0) (f : Wr q0 → p := by intro hU0; (first|(refine Run.gt 0 O ?_;first|refine Run.p O O O (OpP.mvA O) ?_|refine Run.sk O O O ?_|refine Run.gpc (by first|exact Gd.t O O O O|exact Gd.t2 O O O O) O O (fun hg=>⟨OpP.mvA O, (by repeat (first|exact trivial|assumption|refine ⟨?_, ?_⟩))⟩) ?_|refine Run.gpc (by first|exact Gd.f O O O O|exact Gd.f2 O O O O) O O (fun hg=>⟨OpP.mvA O, (by repeat (first|exact trivial|assumption|refine ⟨?_, ?_⟩))⟩) ?_)|(refine Run.gt 1 O ?_;refine Run.p O O O (OpP.asA O) ?_)|(refine Run.gt 8 O ?_;first|refine Run.ld1 O O O O O O O O ?_|refine Run.ldNA O O O O O O O ?_|refine Run.p O O O (OpP.loadE1 O O O O (by (conv=>lhs;whnf)<;>rfl)) ?_|refine Run.p O O O (OpP.loadES O O O (by repeat constructor)) ?_|refine Run.ld1F O O O O O O O ?_|refine Run.sk O O O ?_|refine Run.glcA (by first|exact Gd.t O O O O|exact Gd.t2 O O O O) O O O O O O O ?_|refine Run.glcA (by first|exact Gd.f O O O O|exact Gd.f2 O O O O) O O O O O O O ?_|refine Run.gpc (by first|exact Gd.t O O O O|exact Gd.t2 O O O O) O O (fun hg=>⟨OpP.loadE1 O O O O (by (conv=>lhs;whnf)<;>rfl), (by repeat (first|exact trivial|assumption|refine ⟨?_, ?_⟩))⟩) ?_)|(refine Run.gt 16 O ?_;first|refine Run.p O O O (OpP.fieldAddrA O O) ?_|refine Run.p O O O (OpP.fieldAddrE O O (by decide) (by first|(simp only [Nat.reduceAdd, Nat.zero_add, Nat.add_zero];rfl)|rfl) (Nat.le_of_ble_eq_true O)) ?_|refine Run.sk O O O ?_|refine Run.gpc (by first|exact Gd.t O O O O|exact Gd.t2 O O O O) O O (fun hg=>⟨OpP.fieldAddrA O O, (by repeat (first|exact trivial|assumption|refine ⟨?_, ?_⟩))⟩) ?_|refine Run.gpc (by first|exact Gd.f O O O O|exact Gd.f2 O O O O) O O (fun hg=>⟨OpP.fieldAddrA O O, (by repeat (first|exact trivial|assumption|refine ⟨?_, ?_⟩))⟩) ?_|refine Run.gpc (by first|exact Gd.t O O O O|exact Gd.t2 O O O O) O O (fun hg=>⟨OpP.fieldAddrE O O (by decide) (by first|(simp only [Nat.reduceAdd, Nat.zero_add, Nat.add_zero];rfl)|rfl) (Nat.le_of_ble_eq_true O), (by repeat (first|exact trivial|assumption|refine ⟨?_, ?_⟩))⟩) ?_)|(refine Run.gt 50 O ?_;first|refine Run.ri O O O (OpRI.lenA O O) O ?_|refine Run.p O O O (OpP.capB O O) ?_|refine Run.apRA O O O O O O O O O ?_|refine Run.cpB O O O O O O (by first|exact SrcNI.dat (by first|exact Dat.sl|exact Dat.nil|exact Dat.rowf O O|exact Dat.row O)|exact SrcNI.bsl O O (by first|assumption|(simp;done)|(simp;intros;rfl)) (by omega) O) (by first|assumption|(simp;done)|(simp;intros;rfl)) (by first|omega|(simp;omega)|simp) (by first|assumption|rfl) (by (repeat constructor);first|done|fail) O O ?_|refine Run.p O O O (OpP.max O O O) ?_|refine Run.p O O O (OpP.min O O O) ?_|refine Run.p O O O (OpP.lenStr O O) ?_|refine Run.apFA O O O O O O ?_|refine Run.p O O O (OpP.lenB O O) ?_|refine Run.sk O O O ?_|refine Run.griA (by first|exact Gd.t O O O O|exact Gd.t2 O O O O) O O (fun hg=>⟨OpRI.lenA O O, (by repeat (first|exact trivial|assumption|refine ⟨?_, ?_⟩))⟩) O ?_|refine Run.griA (by first|exact Gd.f O O O O|exact Gd.f2 O O O O) O O (fun hg=>⟨OpRI.lenA O O, (by repeat (first|exact trivial|assumption|refine ⟨?_, ?_⟩))⟩) O ?_|refine Run.gpc (by first|exact Gd.t O O O O|exact Gd.t2 O O O O) O O (fun hg=>⟨OpP.lenStr O O, (by repeat (first|exact trivial|assumption|refine ⟨?_, ?_⟩))⟩) ?_)|(refine Run.gt 9 O ?_;first|refine Run.stA O O O O O ?_|refine Run.stF O O O O O ?_)|(refine Run.gt 41 O ?_;first|refine Run.p O O O (OpP.eq O O O) ?_|refine Run.p O O O (OpP.seq O O O) ?_|refine Run.sk O O O ?_|refine Run.gpc (by first|exact Gd.f O O O O|exact Gd.f2 O O O O) O O (fun hg=>⟨OpP.eq O O O, (by repeat (first|exact trivial|assumption|refine ⟨?_, ?_⟩))⟩) ?_|refine Run.gpc (by first|exact Gd.t O O O O|exact Gd.t2 O O O O) O O (fun hg=>⟨OpP.eq O O O, (by repeat (first|exact trivial|assumption|refine ⟨?_, ?_⟩))⟩) ?_|refine Run.gpc (by first|exact Gd.t O O O O|exact Gd.t2 O O O O) O O (fun hg=>⟨OpP.seq O O O, (by repeat (first|exact trivial|assumption|refine ⟨?_, ?_⟩))⟩) ?_)|(refine Run.gt 2 O ?_;first|refine Run.p O O O (OpP.pickAnd O O O O) ?_|refine Run.p O O O (OpP.pickOr O O O O) ?_|refine Run.p O O O (OpP.pickA O O) ?_|refine Run.sk O O O ?_|refine Run.gpick (by first|exact Gd.f O O O O|exact Gd.f2 O O O O) O O O O O O ?_|refine Run.gpickO (by first|exact Gd.t O O O O|exact Gd.t2 O O O O) O O O O O O ?_|refine Run.gpickO (by first|exact Gd.f O O O O|exact Gd.f2 O O O O) O O O O O O ?_)|(refine Run.gt 43 O ?_;first|refine Run.p O O O (OpP.ltt O O O) ?_|refine Run.sk O O O ?_|refine Run.gpc (by first|exact Gd.f O O O O|exact Gd.f2 O O O O) O O (fun hg=>⟨OpP.ltt O O O, (by repeat (first|exact trivial|assumption|refine ⟨?_, ?_⟩))⟩) ?_|refine Run.gpc (by first|exact Gd.t O O O O|exact Gd.t2 O O O O) O O (fun hg=>⟨OpP.ltt O O O, (by repeat (first|exact trivial|assumption|refine ⟨?_, ?_⟩))⟩) ?_)|(refine Run.gt 20 O ?_;refine Run.p O O O (OpP.extract O O O) ?_)|(refine Run.gt 30 O ?_;refine Run.p O O O (OpP.addA O O O) ?_)|(refine Run.gt 10 O ?_;first|refine Run.p O O O (OpP.nilCheck O (by (conv=>lhs;whnf)<;>rfl) O) ?_|refine Run.gpc (by first|exact Gd.t O O O O|exact Gd.t2 O O O O) O O (fun hg=>⟨OpP.nilCheck O (by (conv=>lhs;whnf)<;>rfl) O, (by repeat (first|exact trivial|assumption|refine ⟨?_, ?_⟩))⟩) ?_)|(refine Run.gt 4 O ?_;refine Run.bxA O O O O ?_)|(refine Run.gt 45 O ?_;first|refine Run.p O O O (OpP.gtt O O O) ?_|refine Run.sk O O O ?_|refine Run.gpc (by first|exact Gd.f O O O O|exact Gd.f2 O O O O) O O (fun hg=>⟨OpP.gtt O O O, (by repeat (first|exact trivial|assumption|refine ⟨?_, ?_⟩))⟩) ?_|refine Run.gpc (by first|exact Gd.t O O O O|exact Gd.t2 O O O O) O O (fun hg=>⟨OpP.gtt O O O, (by repeat (first|exact trivial|assumption|refine ⟨?_, ?_⟩))⟩) ?_)|(refine Run.gt 11 O ?_;first|refine Run.ri O O O (OpRI.toStrA O) O ?_|refine Run.ri O O O (OpRI.toStrBA O) O ?_|refine Run.p O O O (OpP.convA O O) ?_)|(refine Run.gt 18 O ?_;first|refine Run.ri O O O (OpRI.indexAddrA O O) O ?_|refine Run.p O O O (OpP.indexAddrB O O O (by omega) (by omega) O) ?_|refine Run.griA (by first|exact Gd.t O O O O|exact Gd.t2 O O O O) O O (fun hg=>⟨OpRI.indexAddrA O O, (by repeat (first|exact trivial|assumption|refine ⟨?_, ?_⟩))⟩) O ?_)|(refine Run.gt 3 O ?_;refine Run.alA O O O O ?_)|(refine Run.gt 5 O ?_;refine Run.p O O O (OpP.buildSA O) ?_)|(refine Run.gt 22 O ?_;first|refine Run.p O O O (OpP.not O O) ?_|refine Run.p O O O (OpP.negA O O) ?_|refine Run.sk O O O ?_|refine Run.gpc (by first|exact Gd.f O O O O|exact Gd.f2 O O O O) O O (fun hg=>⟨OpP.not O O, (by repeat (first|exact trivial|assumption|refine ⟨?_, ?_⟩))⟩) ?_)|(refine Run.gt 6 O ?_;refine Run.bsA O O O O O O ?_)|(refine Run.gt 42 O ?_;first|refine Run.p O O O (OpP.sne O O O) ?_|refine Run.p O O O (OpP.ne O O O) ?_|refine Run.p O O O (OpP.neqNil O O (by kernel_rfl) O) ?_|refine Run.sk O O O ?_|refine Run.gpc (by first|exact Gd.t O O O O|exact Gd.t2 O O O O) O O (fun hg=>⟨OpP.ne O O O, (by repeat (first|exact trivial|assumption|refine ⟨?_, ?_⟩))⟩) ?_|refine Run.gpc (by first|exact Gd.f O O O O|exact Gd.f2 O O O O) O O (fun hg=>⟨OpP.ne O O O, (by repeat (first|exact trivial|assumption|refine ⟨?_, ?_⟩))⟩) ?_)|(refine Run.gt 19 O ?_;first|refine Run.p O O O (OpP.indexStrA O O O) ?_|refine Run.sk O O O ?_|refine Run.gpc (by first|exact Gd.t O O O O|exact Gd.t2 O O O O) O O (fun hg=>⟨OpP.indexStrA O O O, (by repeat (first|exact trivial|assumption|refine ⟨?_, ?_⟩))⟩) ?_|refine Run.gpc (by first|exact Gd.f O O O O|exact Gd.f2 O O O O) O O (fun hg=>⟨OpP.indexStrA O O O, (by repeat (first|exact trivial|assumption|refine ⟨?_, ?_⟩))⟩) ?_)|(refine Run.gt 15 O ?_;first|refine Run.ri O O O (OpRI.sliceLA O O O) O ?_|refine Run.p O O O (OpP.sliceStrLA O O O O) ?_|refine Run.p O O O (OpP.sliceBH O O O) ?_|refine Run.ri O O O (OpRI.sliceHA O O O) O ?_|refine Run.p O O O (OpP.sliceBL O O O) ?_|refine Run.p O O O (OpP.sliceStrLHA O O O O O) ?_|refine Run.ri O O O (OpRI.sliceLHA O O O O) O ?_|refine Run.p O O O (OpP.sliceBLH O O O O) ?_|refine Run.ri O O O (OpRI.slice3hA O O O O) O ?_|refine Run.sk O O O ?_)|(refine Run.gt 44 O ?_;first|refine Run.p O O O (OpP.lee O O O) ?_|refine Run.gpc (by first|exact Gd.t O O O O|exact Gd.t2 O O O O) O O (fun hg=>⟨OpP.lee O O O, (by repeat (first|exact trivial|assumption|refine ⟨?_, ?_⟩))⟩) ?_)|(refine Run.gt 31 O ?_;first|refine Run.p O O O (OpP.subA O O O) ?_|refine Run.sk O O O ?_|refine Run.gpc (by first|exact Gd.t O O O O|exact Gd.t2 O O O O) O O (fun hg=>⟨OpP.subA O O O, (by repeat (first|exact trivial|assumption|refine ⟨?_, ?_⟩))⟩) ?_)|(refine Run.gt 46 O ?_;first|refine Run.p O O O (OpP.gee O O O) ?_|refine Run.gpc (by first|exact Gd.f O O O O|exact Gd.f2 O O O O) O O (fun hg=>⟨OpP.gee O O O, (by repeat (first|exact trivial|assumption|refine ⟨?_, ?_⟩))⟩) ?_|refine Run.gpc (by first|exact Gd.t O O O O|exact Gd.t2 O O O O) O O (fun hg=>⟨OpP.gee O O O, (by repeat (first|exact trivial|assumption|refine ⟨?_, ?_⟩))⟩) ?_)|(refine Run.gt 13 O ?_;first|refine Run.p O O O (OpP.makeFunc O O) ?_|refine Run.p O O O (OpP.makeFuncB O O) ?_)|(refine Run.gt 32 O ?_;refine Run.p O O O (OpP.mulA O O O) ?_)|(refine Run.gt 12 O ?_;refine Run.p O O O (OpP.mkIface0 O O O) ?_)|(refine Run.gt 39 O ?_;refine Run.p O O O (OpP.binv O O O ⟨_, _, _, _, rfl, rfl⟩ (fun w=>by simp [go_sem];rfl)) ?_)|(refine Run.gt 36 O ?_;refine Run.p O O O (OpP.binv O O O ⟨_, _, _, _, rfl, rfl⟩ (fun w=>by simp [go_sem];rfl)) ?_)|(refine Run.gt 38 O ?_;refine Run.p O O O (OpP.binv O O O ⟨_, _, _, _, rfl, rfl⟩ (fun w=>by simp [go_sem];rfl)) ?_)|(refine Run.gt 34 O ?_;refine Run.p O O O (OpP.rem O O O (by omega) O) ?_)|(refine Run.gt 21 O ?_;refine Run.p O O O (OpP.typeAssert0 O O O) ?_)|refine Run.sk O O O ?_|refine Run.fin O ?_|refine Run.fin (by kernel_rfl) ?_|fail);(first|exact hU0.h|fail);first|done|fail) : p := f ⟨h0⟩
theorem U3 {p q0 : Prop} (h0 : q0) (f : Wr q0 → p := by intro hU0; (first|(refine Run.gt 0 O ?_;refine Run.p O O O (OpP.mvA O) ?_)|(refine Run.gt 1 O ?_;refine Run.p O O O (OpP.asA O) ?_)|(refine Run.gt 15 O ?_;first|refine Run.p O O O (OpP.sliceBH O O O) ?_|refine Run.p O O O (OpP.sliceBL O O O) ?_|refine Run.p O O O (OpP.sliceB3 O O O O O) ?_)|(refine Run.gt 50 O ?_;refine Run.p O O O (OpP.lenB O O) ?_)|(refine Run.gt 41 O ?_;refine Run.p O O O (OpP.eq O O O) ?_)|refine Run.fin O ?_|refine Run.fin (by kernel_rfl) ?_|fail);(first|exact hU0.h|fail);first|done|fail) : p := f ⟨h0⟩
theorem Ud {p q0 : Prop} (h0 : q0) (f : Wr q0 → p := by intro hU0; (first|(refine Run.gt 0 O ?_;first|refine Run.p O O O (OpP.mvA O) ?_|refine Run.sk O O O ?_|refine Run.gpc (by first|exact Gd.f O O O O|exact Gd.f2 O O O O) O O (fun hg=>⟨OpP.mvA O, (by repeat (first|exact trivial|assumption|refine ⟨?_, ?_⟩))⟩) ?_|refine Run.gpc (by first|exact Gd.t O O O O|exact Gd.t2 O O O O) O O (fun hg=>⟨OpP.mvA O, (by repeat (first|exact trivial|assumption|refine ⟨?_, ?_⟩))⟩) ?_)|(refine Run.gt 1 O ?_;refine Run.p O O O (OpP.asA O) ?_)|(refine Run.gt 8 O ?_;first|refine Run.ld1 O O O O O O O O ?_|refine Run.ldNA O O O O O O O ?_|refine Run.p O O O (OpP.loadES O O O (by repeat constructor)) ?_|refine Run.p O O O (OpP.loadE1 O O O O (by (conv=>lhs;whnf)<;>rfl)) ?_|refine Run.sk O O O ?_|refine Run.glcA (by first|exact Gd.f O O O O|exact Gd.f2 O O O O) O O O O O O O ?_|refine Run.glcA (by first|exact Gd.t O O O O|exact Gd.t2 O O O O) O O O O O O O ?_)|(refine Run.gt 16 O ?_;first|refine Run.p O O O (OpP.fieldAddrA O O) ?_|refine Run.p O O O (OpP.fieldAddrE O O (by decide) (by first|(simp only [Nat.reduceAdd, Nat.zero_add, Nat.add_zero];rfl)|rfl) (Nat.le_of_ble_eq_true O)) ?_|refine Run.sk O O O ?_|refine Run.gpc (by first|exact Gd.t O O O O|exact Gd.t2 O O O O) O O (fun hg=>⟨OpP.fieldAddrA O O, (by repeat (first|exact trivial|assumption|refine ⟨?_, ?_⟩))⟩) ?_)|(refine Run.gt 41 O ?_;first|refine Run.p O O O (OpP.decT (OpP.seq O O O) (by assumption)) ?_|refine Run.p O O O (OpP.decT (OpP.eq O O O) (by assumption)) ?_|refine Run.p O O O (OpP.decF (OpP.seq O O O) (by assumption)) ?_|refine Run.p O O O (OpP.decF (OpP.eq O O O) (by assumption)) ?_|refine Run.p O O O (OpP.eq O O O) ?_|refine Run.p O O O (OpP.seq O O O) ?_|refine Run.sk O O O ?_|refine Run.gpc (by first|exact Gd.t O O O O|exact Gd.t2 O O O O) O O (fun hg=>⟨OpP.seq O O O, (by repeat (first|exact trivial|assumption|refine ⟨?_, ?_⟩))⟩) ?_|refine Run.gpc (by first|exact Gd.t O O O O|exact Gd.t2 O O O O) O O (fun hg=>⟨OpP.eq O O O, (by repeat (first|exact trivial|assumption|refine ⟨?_, ?_⟩))⟩) ?_)|(refine Run.gt 9 O ?_;refine Run.stA O O O O O ?_)|(refine Run.gt 2 O ?_;first|refine Run.p O O O (OpP.pickAnd O O O O) ?_|refine Run.p O O O (OpP.pickOr O O O O) ?_|refine Run.p O O O (OpP.pickA O O) ?_|refine Run.sk O O O ?_)|(refine Run.gt 20 O ?_;refine Run.p O O O (OpP.extract O O O) ?_)|(refine Run.gt 50 O ?_;first|refine Run.ri O O O (OpRI.lenA O O) O ?_|refine Run.apRA O O O O O O O O O ?_|refine Run.apFA O O O O O O ?_|refine Run.p O O O (OpP.lenStr O O) ?_|refine Run.sk O O O ?_|refine Run.griA (by first|exact Gd.f O O O O|exact Gd.f2 O O O O) O O (fun hg=>⟨OpRI.lenA O O, (by repeat (first|exact trivial|assumption|refine ⟨?_, ?_⟩))⟩) O ?_|refine Run.gpc (by first|exact Gd.t O O O O|exact Gd.t2 O O O O) O O (fun hg=>⟨OpP.lenStr O O, (by repeat (first|exact trivial|assumption|refine ⟨?_, ?_⟩))⟩) ?_)|(refine Run.gt 10 O ?_;first|refine Run.p O O O (OpP.nilCheck O (by (conv=>lhs;whnf)<;>rfl) O) ?_|refine Run.sk O O O ?_)|(refine Run.gt 18 O ?_;first|refine Run.ri O O O (OpRI.indexAddrA O O) O ?_|refine Run.sk O O O ?_)|(refine Run.gt 42 O ?_;first|refine Run.p O O O (OpP.neSp O O O) ?_|refine Run.p O O O (OpP.decT (OpP.ne O O O) (by assumption)) ?_|refine Run.p O O O (OpP.decT (OpP.sne O O O) (by assumption)) ?_|refine Run.p O O O (OpP.decF (OpP.ne O O O) (by assumption)) ?_|refine Run.p O O O (OpP.decF (OpP.sne O O O) (by assumption)) ?_|refine Run.p O O O (OpP.sne O O O) ?_|refine Run.p O O O (OpP.ne O O O) ?_|refine Run.p O O O (OpP.bne O O O) ?_|refine Run.sk O O O ?_)|(refine Run.gt 3 O ?_;refine Run.alA O O O O ?_)|(refine Run.gt 43 O ?_;first|refine Run.p O O O (OpP.decT (OpP.ltt O O O) (by assumption)) ?_|refine Run.p O O O (OpP.decF (OpP.ltt O O O) (by assumption)) ?_|refine Run.p O O O (OpP.ltt O O O) ?_|refine Run.sk O O O ?_|refine Run.gpc (by first|exact Gd.f O O O O|exact Gd.f2 O O O O) O O (fun hg=>⟨OpP.ltt O O O, (by repeat (first|exact trivial|assumption|refine ⟨?_, ?_⟩))⟩) ?_)|(refine Run.gt 22 O ?_;first|refine Run.p O O O (OpP.not O O) ?_|refine Run.sk O O O ?_)|(refine Run.gt 30 O ?_;first|refine Run.p O O O (OpP.addA O O O) ?_|refine Run.sk O O O ?_|refine Run.gpc (by first|exact Gd.f O O O O|exact Gd.f2 O O O O) O O (fun hg=>⟨OpP.addA O O O, (by repeat (first|exact trivial|assumption|refine ⟨?_, ?_⟩))⟩) ?_)|(refine Run.gt 45 O ?_;first|refine Run.p O O O (OpP.decT (OpP.gtt O O O) (by assumption)) ?_|refine Run.p O O O (OpP.decF (OpP.gtt O O O) (by assumption)) ?_|refine Run.p O O O (OpP.gtt O O O) ?_|refine Run.sk O O O ?_|refine Run.gpc (by first|exact Gd.f O O O O|exact Gd.f2 O O O O) O O (fun hg=>⟨OpP.gtt O O O, (by repeat (first|exact trivial|assumption|refine ⟨?_, ?_⟩))⟩) ?_)|(refine Run.gt 6 O ?_;refine Run.bsA O O O O O O ?_)|(refine Run.gt 11 O ?_;first|refine Run.ri O O O (OpRI.toStrA O) O ?_|refine Run.ri O O O (OpRI.toStrBA O) O ?_|refine Run.p O O O (OpP.convA O O) ?_|refine Run.sk O O O ?_)|(refine Run.gt 5 O ?_;refine Run.p O O O (OpP.buildSA O) ?_)|(refine Run.gt 4 O ?_;refine Run.bxA O O O O ?_)|(refine Run.gt 15 O ?_;first|refine Run.ri O O O (OpRI.sliceLA O O O) O ?_|refine Run.p O O O (OpP.sliceStrLA O O O O) ?_|refine Run.ri O O O (OpRI.sliceHA O O O) O ?_|refine Run.p O O O (OpP.sliceStrHA O O O O) ?_|refine Run.p O O O (OpP.sliceStrLHA O O O O O) ?_|refine Run.ri O O O (OpRI.sliceLHA O O O O) O ?_|refine Run.gpc (by first|exact Gd.t O O O O|exact Gd.t2 O O O O) O O (fun hg=>⟨OpP.sliceStrLA O O O O, (by repeat (first|exact trivial|assumption|refine ⟨?_, ?_⟩))⟩) ?_)|(refine Run.gt 46 O ?_;first|refine Run.p O O O (OpP.decT (OpP.gee O O O) (by assumption)) ?_|refine Run.p O O O (OpP.decF (OpP.gee O O O) (by assumption)) ?_|refine Run.p O O O (OpP.gee O O O) ?_|refine Run.sk O O O ?_|refine Run.gpc (by first|exact Gd.f O O O O|exact Gd.f2 O O O O) O O (fun hg=>⟨OpP.gee O O O, (by repeat (first|exact trivial|assumption|refine ⟨?_, ?_⟩))⟩) ?_)|(refine Run.gt 31 O ?_;first|refine Run.p O O O (OpP.subA O O O) ?_|refine Run.sk O O O ?_|refine Run.gpc (by first|exact Gd.t O O O O|exact Gd.t2 O O O O) O O (fun hg=>⟨OpP.subA O O O, (by repeat (first|exact trivial|assumption|refine ⟨?_, ?_⟩))⟩) ?_)|(refine Run.gt 44 O ?_;first|refine Run.p O O O (OpP.decT (OpP.lee O O O) (by assumption)) ?_|refine Run.p O O O (OpP.decF (OpP.lee O O O) (by assumption)) ?_|refine Run.sk O O O ?_|refine Run.gpc (by first|exact Gd.t O O O O|exact Gd.t2 O O O O) O O (fun hg=>⟨OpP.lee O O O, (by repeat (first|exact trivial|assumption|refine ⟨?_, ?_⟩))⟩) ?_)|(refine Run.gt 19 O ?_;first|refine Run.p O O O (OpP.indexStrA O O O) ?_|refine Run.sk O O O ?_)|(refine Run.gt 32 O ?_;refine Run.p O O O (OpP.mulA O O O) ?_)|(refine Run.gt 37 O ?_;refine Run.p O O O (OpP.binv O O O ⟨_, _, _, _, rfl, rfl⟩ (fun w=>by simp [go_sem];rfl)) ?_)|refine Run.sk O O O ?_|refine Run.fin O ?_|refine Run.fin (by kernel_rfl) ?_|fail);(first|exact hU0.h|fail);first|done|fail) : p := f ⟨h0⟩
theorem Um {p q0 : Prop} (h0 : q0) (f : Wr q0 → p := by intro hU0; (first|(refine Run.gt 0 O ?_;refine Run.p O O O (OpP.mvA O) ?_)|(refine Run.gt 1 O ?_;refine Run.p O O O (OpP.asA O) ?_)|(refine Run.gt 50 O ?_;first|refine Run.ri O O O (OpRI.lenA O O) O ?_|refine Run.p O O O (OpP.lenStr O O) ?_)|(refine Run.gt 30 O ?_;refine Run.p O O O (OpP.addA O O O) ?_)|(refine Run.gt 14 O ?_;refine Run.mkBC O O O O O O ?_)|(refine Run.gt 45 O ?_;refine Run.p O O O (OpP.gtt O O O) ?_)|refine Run.fin O ?_|refine Run.fin (by kernel_rfl) ?_|fail);(first|exact hU0.h|fail);first|done|fail) : p := f ⟨h0⟩
theorem AW.uC {p a b c d : Prop} (h : a → b) (k : c → d) (f : Wr (a → b) → Wr (c → d) → p := by intro hU hV; (first|(refine AW.condD O ?_ ?_;intro hc;(first|(have hW : False → True := hU.h;focus (first|done|(exfalso;omega)|(cases hc;done)))|(exact hU.h hc)|fail);intro hc;(first|(have hW : False → True := hV.h;focus (first|done|(exfalso;omega)|(cases hc;done)))|(exact hV.h hc)|fail))|(refine AW.cond O ?_ ?_;intro hc;(first|(have hW : False → True := hU.h;focus ((try simp only [kA,kB,kC,kD,kE,kF,kG,kH,kI,kJ,kK,kL,kM,kN] at hc);first|done|(exfalso;omega)|(cases hc;done)))|((try simp only [kA,kB,kC,kD,kE,kF,kG,kH,kI,kJ,kK,kL,kM,kN] at hc);exact hU.h hc)|fail);intro hc;(first|(have hW : False → True := hV.h;focus ((try simp only [kA,kB,kC,kD,kE,kF,kG,kH,kI,kJ,kK,kL,kM,kN] at hc);first|done|(exfalso;omega)|(cases hc;done)))|((try simp only [kA,kB,kC,kD,kE,kF,kG,kH,kI,kJ,kK,kL,kM,kN] at hc);exact hV.h hc)|fail))|fail);first|done|fail) : p := f ⟨h⟩ ⟨k⟩
theorem AWR.uC {p a b c d : Prop} (h : a → b) (k : c → d) (f : Wr (a → b) → Wr (c → d) → p := by intro hU hV; (first|(refine AWR.condD O ?_ ?_;intro hc;(first|(have hW : False → True := hU.h;focus (first|done|(exfalso;omega)|(cases hc;done)))|(exact hU.h hc)|fail);intro hc;(first|(have hW : False → True := hV.h;focus (first|done|(exfalso;omega)|(cases hc;done)))|(exact hV.h hc)|fail))|(refine AWR.cond O ?_ ?_;intro hc;(first|(have hW : False → True := hU.h;focus ((try simp only [kA,kB,kC,kD,kE,kF,kG,kH,kI,kJ,kK,kL,kM,kN] at hc);first|done|(exfalso;omega)|(cases hc;done)))|((try simp only [kA,kB,kC,kD,kE,kF,kG,kH,kI,kJ,kK,kL,kM,kN] at hc);exact hU.h hc)|fail);intro hc;(first|(have hW : False → True := hV.h;focus ((try simp only [kA,kB,kC,kD,kE,kF,kG,kH,kI,kJ,kK,kL,kM,kN] at hc);first|done|(exfalso;omega)|(cases hc;done)))|((try simp only [kA,kB,kC,kD,kE,kF,kG,kH,kI,kJ,kK,kL,kM,kN] at hc);exact hV.h hc)|fail))|fail);first|done|fail) : p := f ⟨h⟩ ⟨k⟩
theorem V0 {p : Prop} (f : p := by first | exact Cv.nil | exact Cv.rowf O O | exact RetC.nil | exact CvL.refl _ | exact Cv.full | exact Cv.refl | exact Crs.nil | exact Cr.no | exact CvL.nil | exact Cf.nil | fail) : p := f
theorem V1 {p q0 : Prop} (h0 : q0) (f : Wr q0 → p := by intro hU0; (first|refine Cr.row ?_|refine Cr.mby ?_|refine Cr.box ?_|refine Cv.rowE O O ?_|fail);(first|exact hU0.h|fail);first|done|fail) : p := f ⟨h0⟩
theorem V3 {p q0 : Prop} (h0 : q0) (f : Wr q0 → p := by intro hU0; (first|refine Cr.row ?_|refine Cr.mby ?_|refine Cr.box ?_|fail);(first|exact hU0.h|fail);first|done|fail) : p := f ⟨h0⟩
theorem V2 {p q0 q1 : Prop} (h0 : q0) (h1 : q1) (f : Wr q0 → Wr q1 → p := by intro hU0 hU1; (first|refine Crs.cons ?_ O ?_|refine RetC.tmp (by (conv=>lhs;whnf)<;>rfl) ?_ ?_|refine RetC.cell1 O O O O ?_ ?_|refine RetC.cellN O O O (by (repeat constructor);first|done|fail) ?_ ?_|refine CvL.cons ?_ ?_|refine Cf.cons' (by (conv=>lhs;whnf)<;>rfl) ?_ ?_|fail);(first|exact hU0.h|fail);(first|exact hU1.h|fail);first|done|fail) : p := f ⟨h0⟩ ⟨h1⟩
end Go.Proofs.YtbbcokckealagaaGreat
