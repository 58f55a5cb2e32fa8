/-
  A walk over values without addresses. What a slot or a cell of memory holds is told by an abstract value: a slice by the list that it reads as, a local variable in memory by a number. Here: what such values mean in a world, what a step leaves of that, and renaming. Nothing of the dump is used; no condition.
-/
import Derived.WalkKit
import Derived.ProofKit
import Derived.Lib.Hide
import Derived.Deep.Draws
namespace Go.Proofs.Ytbbcokckealagaa
open Go.RowKit
/-- the tables of the library that the walks read: block, kind, numbers -/
def tabs : List (Nat × IntKind × List Int) := []
/-- data without addresses -/
inductive PV
  | v (x : Value)
  | sl (sz : Nat) (xs : List (List PV))
instance : Inhabited PV := ⟨.v default⟩
/-- what a slot holds -/
inductive AV
  | any
  | v (x : Value)
  | agg (cs : List AV)
  | tup (vs : List AV)
  | sl (sz : Nat) (xs : List (List PV)) (full : Bool)
  | row (t n : Nat)
  | ptr (k off : Nat)
  | bsl (k sz lo n C : Nat)
  | ep (ys : List PV) (j : Nat)
  | fn (f : FuncId) (cs : List AV)
  | ifb (b : Bool) (v : AV)
instance : Inhabited AV := ⟨.any⟩
/-- where a numbered thing lies -/
inductive CI
  | no
  | box (b : Nat)
  | row (xs : List (List PV)) (sz : Nat) (A : Option Addr) (c : Nat)
/-- what a numbered thing holds -/
inductive Res
  | no
  | box (cs : List AV)
  | row (sz : Nat) (xs : List (List PV))
  | mby (l : List UInt8)
instance : Inhabited Res := ⟨.no⟩

/-- v is the datum, in world w; it leans on no cell beyond the mask M -/
inductive RPV (M : Nat → Nat) (w : World) : Value → PV → Prop
  | v (x : Value) : RPV M w x (.v x)
  | sl {A : Option Addr} {n c sz : Nat} {xs : List (List PV)} (b off : Nat) (u : Nat → Value) (hn : xs.length = n) (hc : n ≤ c) (hz : ∀ ys ∈ xs, ys.length = sz)
      (hA : 0 < n → A = some ⟨b, off, none⟩) (hM : 0 < n → off + n * sz ≤ M b)
      (hcell : ∀ j, j < n * sz → w.cell? ⟨b, off + j, none⟩ = some (u j)) (h1 : ∀ j, j < n * sz → (u j).oneCell' = true)
      (hu : ∀ j p, xs.flatten[j]? = some p → RPV M w (u j) p) : RPV M w (.slice A n c) (.sl sz xs)

inductive Rp (I : Nat → CI) (M : Nat → Nat) (w : World) : Value → AV → Prop
  | any (x : Value) : Rp I M w x .any
  | v (x : Value) : Rp I M w x (.v x)
  | agg {vs : Array Value} {cs : List AV} (h : vs.size = cs.length) (h1 : ∀ (i : Nat) (v : Value), vs[i]? = some v → v.oneCell' = true) (hc : ∀ (i : Nat) (v : Value) (c : AV), vs[i]? = some v → cs[i]? = some c → Rp I M w v c) : Rp I M w (.agg vs) (.agg cs)
  | tup {vs : Array Value} {cs : List AV} (h : vs.size = cs.length) (hc : ∀ (i : Nat) (v : Value) (c : AV), vs[i]? = some v → cs[i]? = some c → Rp I M w v c) : Rp I M w (.tuple vs) (.tup cs)
  | sl {A : Option Addr} {n c sz : Nat} {xs : List (List PV)} {full : Bool} (h : RPV M w (.slice A n c) (.sl sz xs)) (hf : full = true → c = n) : Rp I M w (.slice A n c) (.sl sz xs full)
  | row {A A0 : Option Addr} {t n c c0 sz : Nat} {xs : List (List PV)} (hI : I t = .row xs sz A0 c0) (hn : n ≤ xs.length) (h : RPV M w (.slice A n c) (.sl sz (xs.take n)))
      (hk : n = xs.length → A = A0 ∧ c = c0) : Rp I M w (.slice A n c) (.row t n)
  | ptr {k off b : Nat} (hI : I k = .box b) : Rp I M w (.pointer (some ⟨b, off, none⟩)) (.ptr k off)
  | bsl {k sz lo n C b : Nat} {A : Option Addr} (hI : I k = .box b) (hn : lo + n ≤ C) (hA : lo < C → A = some ⟨b, lo * sz, none⟩) : Rp I M w (.slice A n (C - lo)) (.bsl k sz lo n C)
  | ep {b off j : Nat} {ys : List PV} (u : Nat → Value) (hj : j ≤ ys.length) (hM : off + ys.length ≤ M b)
      (hcell : ∀ i, i < ys.length → w.cell? ⟨b, off + i, none⟩ = some (u i)) (h1 : ∀ i, i < ys.length → (u i).oneCell' = true) (hu : ∀ i p, ys[i]? = some p → RPV M w (u i) p) : Rp I M w (.pointer (some ⟨b, off + j, none⟩)) (.ep ys j)
  | fn {f : FuncId} {vs : Array Value} {cs : List AV} (h : vs.size = cs.length) (hc : ∀ (i : Nat) (v : Value) (c : AV), vs[i]? = some v → cs[i]? = some c → Rp I M w v c) : Rp I M w (.func (.func f) #[] vs) (.fn f cs)
  | ifb {b : Bool} {x : Value} {v : AV} (h : b = true → Rp I M w x v) (hf : b = false → x = undef) : Rp I M w x (.ifb b v)

def CI.le : CI → CI → Prop
  | .no, _ => True
  | .box b, .box b' => b = b'
  | .row xs sz A c, .row xs' sz' A' c' => sz = sz' ∧ (∃ ys, xs' = xs ++ ys) ∧ (xs.length = xs'.length → A = A' ∧ c = c')
  | _, _ => False
theorem CI.le_refl (a : CI) : a.le a := by
  cases a with
  | no => trivial
  | box b => rfl
  | row xs sz A c => exact ⟨rfl, ⟨[], by simp⟩, fun _ => ⟨rfl, rfl⟩⟩
theorem CI.le_trans {a b c : CI} (h : a.le b) (k : b.le c) : a.le c := by
  cases a with
  | no => trivial
  | box b0 =>
    cases b with
    | box b1 => cases c with
      | box b2 => exact Eq.trans h k
      | _ => exact k.elim
    | _ => exact h.elim
  | row xs sz A c0 =>
    cases b with
    | row xs1 sz1 A1 c1 =>
      cases c with
      | row xs2 sz2 A2 c2 =>
        obtain ⟨h1, ⟨ys, rfl⟩, h3⟩ := h
        obtain ⟨k1, ⟨zs, rfl⟩, k3⟩ := k
        refine ⟨h1.trans k1, ⟨ys ++ zs, by simp⟩, fun e => ?_⟩
        rw [List.length_append, List.length_append] at e
        have e1 : ys.length = 0 := by omega
        have e2 : zs.length = 0 := by omega
        obtain ⟨a1, a2⟩ := h3 (by simp [e1])
        obtain ⟨b1, b2⟩ := k3 (by simp [e2])
        exact ⟨a1.trans b1, a2.trans b2⟩
      | _ => exact k.elim
    | _ => exact h.elim

/-- cells below the mask stay, the mask grows -/
structure Evo (M M' : Nat → Nat) (w w' : World) : Prop where
  size : w.heap.size ≤ w'.heap.size
  mask : ∀ b, M b ≤ M' b
  keep : ∀ b o v, o < M b → w.cell? ⟨b, o, none⟩ = some v → w'.cell? ⟨b, o, none⟩ = some v
theorem Evo.refl (M : Nat → Nat) (w : World) : Evo M M w w := ⟨Nat.le_refl _, fun _ => Nat.le_refl _, fun _ _ _ _ h => h⟩
theorem Evo.trans {M M' M'' : Nat → Nat} {w w' w'' : World} (h : Evo M M' w w') (k : Evo M' M'' w' w'') : Evo M M'' w w'' :=
  ⟨Nat.le_trans h.size k.size, fun b => Nat.le_trans (h.mask b) (k.mask b), fun b o v ho hv => k.keep b o v (Nat.lt_of_lt_of_le ho (h.mask b)) (h.keep b o v ho hv)⟩
theorem RPV.evo {M M' : Nat → Nat} {w w' : World} (e : Evo M M' w w') {x : Value} {p : PV} (h : RPV M w x p) : RPV M' w' x p := by
  induction h with
  | v x => exact .v x
  | sl b off u hn hc hz hA hM hcell h1 hu ih =>
    refine .sl b off u hn hc hz hA (fun h => Nat.le_trans (hM h) (e.mask b)) (fun j hj => e.keep b _ _ ?_ (hcell j hj)) h1 ih
    rename_i n c sz xs
    have h0 : 0 < n := by
      rcases Nat.eq_zero_or_pos n with h | h
      · subst h; omega
      · exact h
    have := hM h0
    omega
theorem Rp.evo {I I' : Nat → CI} {M M' : Nat → Nat} {w w' : World} (hI : ∀ k, (I k).le (I' k)) (e : Evo M M' w w') {x : Value} {p : AV} (h : Rp I M w x p) : Rp I' M' w' x p := by
  induction h with
  | any x => exact .any x
  | v x => exact .v x
  | agg h h1 hc ih => exact .agg h h1 ih
  | tup h hc ih => exact .tup h ih
  | sl h hf => exact .sl (h.evo e) hf
  | @row A A0 t n c c0 sz xs h1 hn h hk =>
    have h2 := hI t
    rw [h1] at h2
    cases h3 : I' t with
    | row xs' sz' A' c' =>
      rw [h3] at h2
      obtain ⟨rfl, ⟨ys, rfl⟩, h5⟩ := h2
      have ht : (xs ++ ys).take n = xs.take n := by rw [List.take_append_of_le_length hn]
      refine .row h3 (by simp; omega) (by rw [ht]; exact h.evo e) fun h6 => ?_
      have h7 : n = xs.length := by simp at h6; omega
      obtain ⟨a, b⟩ := hk h7
      obtain ⟨a', b'⟩ := h5 (by rw [← h6, h7])
      exact ⟨a.trans a', b.trans b'⟩
    | _ => rw [h3] at h2; exact h2.elim
  | @ptr k off b h1 =>
    have h2 := hI k
    rw [h1] at h2
    cases h3 : I' k with
    | box b' => rw [h3] at h2; obtain rfl : b = b' := h2; exact .ptr h3
    | _ => rw [h3] at h2; exact h2.elim
  | @bsl k sz lo n C b A h1 hn hA =>
    have h2 := hI k
    rw [h1] at h2
    cases h3 : I' k with
    | box b' => rw [h3] at h2; obtain rfl : b = b' := h2; exact .bsl h3 hn hA
    | _ => rw [h3] at h2; exact h2.elim
  | @ep b off j ys u hj hM hcell h1 hu =>
    exact .ep u hj (Nat.le_trans hM (e.mask b)) (fun i hi => e.keep _ _ _ (by omega) (hcell i hi)) h1 (fun i p hp => (hu i p hp).evo e)
  | fn h hc ih => exact .fn h ih
  | ifb h hf ih => exact .ifb ih hf

mutual
/-- other numbers for the numbered things -/
def AV.ren (ρ : Nat → Nat) : AV → AV
  | .agg cs => .agg (AV.rens ρ cs)
  | .tup cs => .tup (AV.rens ρ cs)
  | .fn f cs => .fn f (AV.rens ρ cs)
  | .row t n => .row (ρ t) n
  | .ptr k off => .ptr (ρ k) off
  | .bsl k sz lo n C => .bsl (ρ k) sz lo n C
  | .any => .any
  | .v x => .v x
  | .sl sz xs full => .sl sz xs full
  | .ep ys j => .ep ys j
  | .ifb b u => .ifb b (u.ren ρ)
def AV.rens (ρ : Nat → Nat) : List AV → List AV
  | [] => []
  | c :: cs => c.ren ρ :: AV.rens ρ cs
end
theorem AV.rens_map (ρ : Nat → Nat) (l : List AV) : AV.rens ρ l = l.map (AV.ren ρ) := by
  induction l with
  | nil => rfl
  | cons c cs ih => simp [AV.rens, ih]
mutual
/-- all numbers are below n -/
def AV.lt (n : Nat) : AV → Bool
  | .agg cs => AV.lts n cs
  | .tup cs => AV.lts n cs
  | .fn _ cs => AV.lts n cs
  | .row t _ => decide (t < n)
  | .ptr k _ => decide (k < n)
  | .bsl k _ _ _ _ => decide (k < n)
  | .ifb _ u => u.lt n
  | _ => true
def AV.lts (n : Nat) : List AV → Bool
  | [] => true
  | c :: cs => AV.lt n c && AV.lts n cs
end
theorem AV.lts_get {n : Nat} {l : List AV} (h : AV.lts n l = true) {i : Nat} {c : AV} (hc : l[i]? = some c) : c.lt n = true := by
  induction l generalizing i with
  | nil => cases hc
  | cons d r ih =>
    simp only [AV.lts, Bool.and_eq_true] at h
    cases i with
    | zero => obtain rfl : d = c := by simpa using hc
              exact h.1
    | succ i => exact ih h.2 (by simpa using hc)
section
variable {I I' : Nat → CI} {M : Nat → Nat} {w : World}
theorem Rp.rename {ρ : Nat → Nat} {x : Value} {p : AV} (h : Rp (fun i => I (ρ i)) M w x p) : Rp I M w x (p.ren ρ) := by
  induction h with
  | any x => exact .any x
  | v x => exact .v x
  | agg h h1 hc ih =>
    refine .agg (by rw [AV.rens_map]; simpa using h) h1 fun i v c hv hc' => ?_
    rw [AV.rens_map, List.getElem?_map] at hc'
    obtain ⟨c0, h0, rfl⟩ := Option.map_eq_some_iff.1 hc'
    exact ih i v c0 hv h0
  | tup h hc ih =>
    refine .tup (by rw [AV.rens_map]; simpa using h) fun i v c hv hc' => ?_
    rw [AV.rens_map, List.getElem?_map] at hc'
    obtain ⟨c0, h0, rfl⟩ := Option.map_eq_some_iff.1 hc'
    exact ih i v c0 hv h0
  | sl h hf => exact .sl h hf
  | row hI hn h hk => exact .row hI hn h hk
  | ptr hI => exact .ptr hI
  | bsl hI hn hA => exact .bsl hI hn hA
  | ep u hj hM hcell h1 hu => exact .ep u hj hM hcell h1 hu
  | fn h hc ih =>
    refine .fn (by rw [AV.rens_map]; simpa using h) fun i v c hv hc' => ?_
    rw [AV.rens_map, List.getElem?_map] at hc'
    obtain ⟨c0, h0, rfl⟩ := Option.map_eq_some_iff.1 hc'
    exact ih i v c0 hv h0
  | ifb h hf ih => exact .ifb ih hf
theorem Rp.unname {ρ : Nat → Nat} {x : Value} {q : AV} (h : Rp I M w x q) : ∀ p : AV, q = p.ren ρ → Rp (fun i => I (ρ i)) M w x p := by
  induction h with
  | any x => intro p e; cases p <;> simp only [AV.ren] at e <;> first | exact .any x | cases e
  | v x => intro p e; cases p <;> simp only [AV.ren] at e <;> first | (injection e with e; subst e; exact .v _) | cases e
  | agg h h1 hc ih =>
    intro p e
    cases p <;> simp only [AV.ren] at e <;> first | cases e | skip
    rename_i ds
    simp only [AV.rens_map] at *
    refine .agg (by simpa using h) h1 fun i v c hv hc' => ih i v (c.ren ρ) hv (by rw [List.getElem?_map, hc']; rfl) c rfl
  | tup h hc ih =>
    intro p e
    cases p <;> simp only [AV.ren] at e <;> first | cases e | skip
    rename_i ds
    simp only [AV.rens_map] at *
    refine .tup (by simpa using h) fun i v c hv hc' => ih i v (c.ren ρ) hv (by rw [List.getElem?_map, hc']; rfl) c rfl
  | sl h hf => intro p e; cases p <;> simp only [AV.ren] at e <;> first | (injection e with e1 e2 e3; subst e1 e2 e3; exact .sl h hf) | cases e
  | row hI hn h hk => intro p e; cases p <;> simp only [AV.ren] at e <;> first | (injection e with e1 e2; subst e1 e2; exact .row hI hn h hk) | cases e
  | ptr hI => intro p e; cases p <;> simp only [AV.ren] at e <;> first | (injection e with e1 e2; subst e1 e2; exact .ptr hI) | cases e
  | bsl hI hn hA => intro p e; cases p <;> simp only [AV.ren] at e <;> first | (injection e with e1 e2 e3 e4 e5; subst e1 e2 e3 e4 e5; exact .bsl hI hn hA) | cases e
  | ep u hj hM hcell h1 hu => intro p e; cases p <;> simp only [AV.ren] at e <;> first | (injection e with e1 e2; subst e1 e2; exact .ep u hj hM hcell h1 hu) | cases e
  | fn h hc ih =>
    intro p e
    cases p <;> simp only [AV.ren] at e <;> first | cases e | skip
    rename_i ds
    simp only [AV.rens_map] at *
    refine .fn (by simpa using h) fun i v c hv hc' => ih i v (c.ren ρ) hv (by rw [List.getElem?_map, hc']; rfl) c rfl
  | ifb h hf ih => intro p e; cases p <;> simp only [AV.ren] at e <;> first | (injection e with e1 e2; subst e1; exact .ifb (fun hb => ih hb _ e2) hf) | cases e
/-- numbers that do not occur may mean anything -/
theorem Rp.agree {n : Nat} (hI : ∀ k, k < n → I' k = I k) {x : Value} {p : AV} (h : Rp I M w x p) : p.lt n = true → Rp I' M w x p := by
  induction h with
  | any x => exact fun _ => .any x
  | v x => exact fun _ => .v x
  | agg h h1 hc ih => exact fun l => .agg h h1 fun i v c hv hc' => ih i v c hv hc' (AV.lts_get (by simpa [AV.lt] using l) hc')
  | tup h hc ih => exact fun l => .tup h fun i v c hv hc' => ih i v c hv hc' (AV.lts_get (by simpa [AV.lt] using l) hc')
  | sl h hf => exact fun _ => .sl h hf
  | row h1 hn h hk => exact fun l => .row (by rw [hI _ (by simpa [AV.lt] using l)]; exact h1) hn h hk
  | ptr h1 => exact fun l => .ptr (by rw [hI _ (by simpa [AV.lt] using l)]; exact h1)
  | bsl h1 hn hA => exact fun l => .bsl (by rw [hI _ (by simpa [AV.lt] using l)]; exact h1) hn hA
  | ep u hj hM hcell h1 hu => exact fun _ => .ep u hj hM hcell h1 hu
  | fn h hc ih => exact fun l => .fn h fun i v c hv hc' => ih i v c hv hc' (AV.lts_get (by simpa [AV.lt] using l) hc')
  | ifb h hf ih => exact fun l => .ifb (fun hb => ih hb (by simpa [AV.lt] using l)) hf
end

/-- the block that a numbered thing owns -/
def blkOf : CI → Res → Option Nat
  | .box b, .box _ => some b
  | .box b, .mby _ => some b
  | .row _ _ A c, .row _ xs => if c = xs.length then none else A.map (·.block)
  | _, _ => none
def Unfr (fr : Nat × Nat) (n : Nat) : Prop := ∀ o, o < n → ¬ (fr.1 ≤ o ∧ o < fr.2)
def Own1 (I : Nat → CI) (M : Nat → Nat) (w : World) (ci : CI) : Res → Prop
  | .no => True
  | .box cs => ∃ b cur e, ci = .box b ∧ w.heap[b]? = some (.cells cur e (0, 0)) ∧ M b = 0 ∧ cur.size = cs.length ∧ (∀ (i : Nat) (v : Value), cur[i]? = some v → v.oneCell' = true) ∧ ∀ (i : Nat) (v : Value) (c : AV), cur[i]? = some v → cs[i]? = some c → Rp I M w v c
  | .row sz xs => ∃ A c, ci = .row xs sz A c ∧ RPV M w (.slice A xs.length c) (.sl sz xs) ∧
      (c ≠ xs.length → ∃ g cur e fr, A = some ⟨g, 0, none⟩ ∧ w.heap[g]? = some (.cells cur e fr) ∧ cur.size = c * sz ∧ M g = xs.length * sz ∧ Unfr fr cur.size)
  | .mby l => ∃ b cur e fz, ci = .box b ∧ w.heap[b]? = some (.cells cur e fz) ∧ M b = 0 ∧ Unfr fz cur.size ∧ l.length ≤ cur.size ∧ ∀ (i : Nat) (c : UInt8), l[i]? = some c → cur[i]? = some (.int .u8 (c.toNat : Int))
/-- the table lies in its block, below the mask -/
def Tb (M : Nat → Nat) (w : World) (t : Nat × IntKind × List Int) : Prop :=
  ∃ e fr, w.heap[t.1]? = some (.cells (t.2.2.map fun z => Value.int t.2.1 z).toArray e fr) ∧ M t.1 = t.2.2.length ∧ 0 < t.2.2.length
structure Sto (I : Nat → CI) (M : Nat → Nat) (w : World) (σ : Nat → Res) : Prop where
  own : ∀ k, Own1 I M w (I k) (σ k)
  dis : ∀ k k' b, k ≠ k' → blkOf (I k) (σ k) = some b → blkOf (I k') (σ k') ≠ some b
  top : ∀ b, w.heap.size ≤ b → M b = 0
  tab : ∀ t ∈ tabs, Tb M w t
/-- a step: what it leaves of memory; it writes to blocks with 'own' alone -/
structure Ext (own : Nat → Prop) (I I' : Nat → CI) (M M' : Nat → Nat) (w w' : World) : Prop where
  os : w'.os = w.os
  tape : w'.tape = w.tape
  output : w'.output = w.output
  le : ∀ k, (I k).le (I' k)
  evo : Evo M M' w w'
  oth : ∀ b, b < w.heap.size → ¬ own b → w'.heap[b]? = w.heap[b]? ∧ M' b = M b
theorem Ext.refl (own : Nat → Prop) (I : Nat → CI) (M : Nat → Nat) (w : World) : Ext own I I M M w w :=
  ⟨rfl, rfl, rfl, fun _ => CI.le_refl _, Evo.refl _ _, fun _ _ _ => ⟨rfl, rfl⟩⟩
theorem Ext.wide {own own' : Nat → Prop} {I I' : Nat → CI} {M M' : Nat → Nat} {w w' : World} (h : Ext own I I' M M' w w') (ho : ∀ b, b < w.heap.size → own b → own' b) : Ext own' I I' M M' w w' :=
  ⟨h.os, h.tape, h.output, h.le, h.evo, fun b hb hn => h.oth b hb fun h => hn (ho b hb h)⟩
theorem Ext.trans {own own' : Nat → Prop} {I I' I'' : Nat → CI} {M M' M'' : Nat → Nat} {w w' w'' : World} (h : Ext own I I' M M' w w') (k : Ext own' I' I'' M' M'' w' w'') (ho : ∀ b, b < w.heap.size → own' b → own b) : Ext own I I'' M M'' w w'' :=
  ⟨k.os.trans h.os, k.tape.trans h.tape, k.output.trans h.output, fun i => CI.le_trans (h.le i) (k.le i), h.evo.trans k.evo, fun b hb hn => by
    obtain ⟨a1, a2⟩ := h.oth b hb hn
    obtain ⟨b1, b2⟩ := k.oth b (Nat.lt_of_lt_of_le hb h.evo.size) fun hh => hn (ho b hb hh)
    exact ⟨b1.trans a1, b2.trans a2⟩⟩
section
variable {I I' : Nat → CI} {M M' : Nat → Nat} {w w' : World} {σ σ' : Nat → Res} {own : Nat → Prop}
theorem Own1.blk {ci : CI} {r : Res} (h : Own1 I M w ci r) {b : Nat} (hb : blkOf ci r = some b) : ∃ cur e fr, w.heap[b]? = some (.cells cur e fr) := by
  cases r with
  | no => cases ci <;> cases hb
  | box cs =>
    obtain ⟨b', cur, e, rfl, h1, _⟩ := h
    obtain rfl : b' = b := by simpa [blkOf] using hb
    exact ⟨_, _, _, h1⟩
  | mby l =>
    obtain ⟨b', cur, e, fz, rfl, h1, _⟩ := h
    obtain rfl : b' = b := by simpa [blkOf] using hb
    exact ⟨_, _, _, h1⟩
  | row sz xs =>
    obtain ⟨A, c, rfl, _, h1⟩ := h
    simp only [blkOf] at hb
    split at hb
    · cases hb
    · rename_i hc
      obtain ⟨g, cur, e, fr, rfl, hg, _⟩ := h1 hc
      obtain rfl : g = b := by simpa using hb
      exact ⟨_, _, _, hg⟩
theorem Own1.lt {ci : CI} {r : Res} (h : Own1 I M w ci r) {b : Nat} (hb : blkOf ci r = some b) : b < w.heap.size := by
  obtain ⟨_, _, _, h1⟩ := h.blk hb
  exact (Array.getElem?_eq_some_iff.1 h1).1
/-- a numbered thing whose block was not written -/
theorem Own1.stay {ci : CI} {r : Res} (h : Own1 I M w ci r) (e : Ext own I I' M M' w w') (hb : ∀ b, blkOf ci r = some b → ¬ own b) : Own1 I' M' w' ci r := by
  cases r with
  | no => trivial
  | box cs =>
    obtain ⟨b, cur, t, rfl, h1, h2, h3, h5, h4⟩ := h
    obtain ⟨a1, a2⟩ := e.oth b (Array.getElem?_eq_some_iff.1 h1).1 (hb b rfl)
    exact ⟨b, cur, t, rfl, a1.trans h1, a2.trans h2, h3, h5, fun i v c hv hc => (h4 i v c hv hc).evo e.le e.evo⟩
  | mby l =>
    obtain ⟨b, cur, t, fz, rfl, h1, h2, h3⟩ := h
    obtain ⟨a1, a2⟩ := e.oth b (Array.getElem?_eq_some_iff.1 h1).1 (hb b rfl)
    exact ⟨b, cur, t, fz, rfl, a1.trans h1, a2.trans h2, h3⟩
  | row sz xs =>
    obtain ⟨A, c, rfl, h1, h2⟩ := h
    refine ⟨A, c, rfl, h1.evo e.evo, fun hc => ?_⟩
    obtain ⟨g, cur, t, fr, rfl, h3, h4, h5, h6⟩ := h2 hc
    obtain ⟨a1, a2⟩ := e.oth g (Array.getElem?_eq_some_iff.1 h3).1 (hb g (by simp [blkOf, hc]))
    exact ⟨g, cur, t, fr, rfl, a1.trans h3, h4, a2.trans h5, h6⟩
/-- no numbered thing owns a table -/
theorem Own1.noTb {ci : CI} {r : Res} (h : Own1 I M w ci r) {t : Nat × IntKind × List Int} (ht : Tb M w t) : blkOf ci r ≠ some t.1 := by
  intro hb
  obtain ⟨e, fr, t1, t2, t3⟩ := ht
  cases r with
  | no => cases ci <;> cases hb
  | box cs =>
    obtain ⟨b, cur, e', rfl, h1, h2, _⟩ := h
    obtain rfl : b = t.1 := by simpa [blkOf] using hb
    omega
  | mby l =>
    obtain ⟨b, cur, e', fz, rfl, h1, h2, _⟩ := h
    obtain rfl : b = t.1 := by simpa [blkOf] using hb
    omega
  | row sz xs =>
    obtain ⟨A, c, rfl, _, h1⟩ := h
    simp only [blkOf] at hb
    split at hb
    · cases hb
    · rename_i hc
      obtain ⟨g, cur, e', fr', rfl, hg, h2, h3, _⟩ := h1 hc
      obtain rfl : g = t.1 := by simpa using hb
      rw [t1] at hg
      injection hg with hg
      injection hg with hg _ _
      subst hg
      simp only [List.size_toArray, List.length_map] at h2
      have h4 : (c : Int) * sz = xs.length * sz := by exact_mod_cast (h2.symm.trans (t2.symm.trans h3))
      rcases Nat.eq_zero_or_pos sz with hz | hz
      · subst hz; omega
      · exact hc (Nat.eq_of_mul_eq_mul_right hz (by exact_mod_cast h4))
theorem Tb.lt {t : Nat × IntKind × List Int} (ht : Tb M w t) : t.1 < w.heap.size := by
  obtain ⟨e, fr, t1, _⟩ := ht
  exact (Array.getElem?_eq_some_iff.1 t1).1
theorem Tb.stay {t : Nat × IntKind × List Int} (ht : Tb M w t) (e : Ext own I I' M M' w w') (ho : ¬ own t.1) : Tb M' w' t := by
  obtain ⟨a, b⟩ := e.oth _ ht.lt ho
  obtain ⟨e, fr, t1, t2, t3⟩ := ht
  exact ⟨e, fr, a.trans t1, b.trans t2, t3⟩
/-- The numbered things after a step that touched those in ks alone. -/
theorem Sto.upd (h : Sto I M w σ) (ks : List Nat) (e : Ext own I I' M M' w w') (ho : ∀ b, own b → ∃ k ∈ ks, blkOf (I k) (σ k) = some b)
    (hI : ∀ k, k ∉ ks → I' k = I k) (hσ : ∀ k, k ∉ ks → σ' k = σ k) (h1 : ∀ k ∈ ks, Own1 I' M' w' (I' k) (σ' k))
    (hn : ∀ k ∈ ks, ∀ b, blkOf (I' k) (σ' k) = some b → w.heap.size ≤ b ∨ ∃ k0 ∈ ks, blkOf (I k0) (σ k0) = some b)
    (hd : ∀ k ∈ ks, ∀ k' ∈ ks, ∀ b, k ≠ k' → blkOf (I' k) (σ' k) = some b → blkOf (I' k') (σ' k') ≠ some b)
    (ht : ∀ b, w'.heap.size ≤ b → M' b = 0) : Sto I' M' w' σ' := by
  have far : ∀ k, k ∉ ks → ∀ b, blkOf (I k) (σ k) = some b → ¬ own b := by
    intro k hk b hb hob
    obtain ⟨k0, hk0, hb0⟩ := ho b hob
    exact h.dis k k0 b (fun e => hk (e ▸ hk0)) hb hb0
  refine ⟨fun k => ?_, fun k k' b hne hb hb' => ?_, ht, fun t htt => (h.tab t htt).stay e fun hob => by
    obtain ⟨k, _, hk⟩ := ho _ hob
    exact (h.own k).noTb (h.tab t htt) hk⟩
  · by_cases hk : k ∈ ks
    · exact h1 k hk
    · rw [hI k hk, hσ k hk]
      exact (h.own k).stay e (far k hk)
  · have side : ∀ k k', k ∈ ks → k' ∉ ks → blkOf (I' k) (σ' k) = some b → blkOf (I' k') (σ' k') = some b → False := by
      intro k k' hk hk' hb hb'
      rw [hI k' hk', hσ k' hk'] at hb'
      rcases hn k hk b hb with q | ⟨k0, hk0, hb0⟩
      · have := (h.own k').lt hb'; omega
      · exact h.dis k' k0 b (fun e => hk' (e ▸ hk0)) hb' hb0
    by_cases hk : k ∈ ks
    · by_cases hk' : k' ∈ ks
      · exact hd k hk k' hk' b hne hb hb'
      · exact side k k' hk hk' hb hb'
    · by_cases hk' : k' ∈ ks
      · exact side k' k hk' hk hb' hb
      · rw [hI k hk, hσ k hk] at hb
        rw [hI k' hk', hσ k' hk'] at hb'
        exact h.dis k k' b hne hb hb'
/-- a step that touched no numbered thing -/
theorem Sto.stay (h : Sto I M w σ) (e : Ext (fun _ => False) I I M M' w w') (ht : ∀ b, w'.heap.size ≤ b → M' b = 0) : Sto I M' w' σ :=
  h.upd [] e (fun _ h => h.elim) (fun _ _ => rfl) (fun _ _ => rfl) (fun _ h => by cases h) (fun _ h => by cases h) (fun _ h => by cases h) ht
end
end Go.Proofs.Ytbbcokckealagaa
