/-
  Plain lemmas for the walks of this seat: lists of bytes as cells, slices that read as lists, appends onto rows of the call's own. Nothing of the dump is used; no condition.
-/
import Derived.WalkKit
import Derived.ProofKit
import Derived.OpenShut
import Derived.Lib.Hide
import Derived.Deep.Draws
import Derived.Deep.AppendLies
import Derived.Maps.AppendAt
import Derived.Lib.AppendStr
import Derived.Lib.SlBytesConst
import Derived.Laws.BytesArg
namespace Go.Proofs.Ytbifgoaceolpoaa
open Go.RowKit

/-- bytes as cells -/
def bv (l : List UInt8) : List Value := l.map fun c => Value.int .u8 (c.toNat : Int)
theorem bv_length (l : List UInt8) : (bv l).length = l.length := by simp [bv]
theorem bv_append (l m : List UInt8) : bv (l ++ m) = bv l ++ bv m := by simp [bv]
theorem bv_get (l : List UInt8) (k : Nat) (h : k < l.length) : (bv l)[k]? = some (.int .u8 (l[k].toNat : Int)) := by
  simp [bv, h]
theorem bv_one (l : List UInt8) : ∀ u ∈ bv l, u.oneCell' = true := by
  intro u hu
  obtain ⟨c, _, rfl⟩ := List.mem_map.1 hu
  rfl

theorem add_blk (a : Addr) (n : Nat) : (a.add n).block = a.block := by unfold Addr.add; split <;> rfl
theorem add_add_ (a : Addr) (i j : Nat) : (a.add i).add j = a.add (i + j) := by
  unfold Addr.add
  by_cases hi : i = 0 <;> by_cases hj : j = 0 <;> simp [hi, hj, Nat.add_assoc]

/-- The slice '.slice A n _' holds the cells xs (size cells an element) in world w, in a block below B. -/
structure Rd (w : World) (B size : Nat) (A : Option Addr) (n : Nat) (xs : List Value) : Prop where
  len : xs.length = n * size
  at_ : 0 < n → ∃ b off, A = some ⟨b, off, none⟩ ∧ b < B ∧ ∀ j u, xs[j]? = some u → w.cell? ⟨b, off + j, none⟩ = some u

section
variable {w w' : World} {B B' size n : Nat} {A : Option Addr} {xs : List Value}
theorem Rd.nil (w : World) (B size : Nat) (A : Option Addr) : Rd w B size A 0 [] := ⟨by simp, fun h => absurd h (by omega)⟩
theorem Rd.keep (h : Rd w B size A n xs) (hk : ∀ p : Addr, p.block < B → w'.cell? p = w.cell? p) : Rd w' B size A n xs :=
  ⟨h.len, fun hn => by
    obtain ⟨b, off, e, hb, hc⟩ := h.at_ hn
    exact ⟨b, off, e, hb, fun j u hu => (hk _ hb).trans (hc j u hu)⟩⟩
theorem Rd.more (h : Rd w B size A n xs) (hB : B ≤ B') : Rd w B' size A n xs :=
  ⟨h.len, fun hn => by
    obtain ⟨b, off, e, hb, hc⟩ := h.at_ hn
    exact ⟨b, off, e, by omega, hc⟩⟩
theorem Rd.below (h : Rd w B size A n xs) (hb : Below B w w') : Rd w' B size A n xs := h.keep fun _ hp => hb.cell hp
theorem Rd.drewN (h : Rd w B size A n xs) (k : Nat) : Rd (w.drewN k) B size A n xs := ⟨h.len, h.at_⟩
theorem Rd.drew (h : Rd w B size A n xs) : Rd w.drew B size A n xs := ⟨h.len, h.at_⟩
theorem Rd.alloc (h : Rd w B size A n xs) (hB : B ≤ w.heap.size) (o : Obj) : Rd (w.alloc o) B size A n xs := h.keep fun p hp => World.cell?_alloc_lt w o p (by omega)
theorem Rd.setCell (h : Rd w B size A n xs) {p : Addr} (hB : B ≤ p.block) (u : Value) : Rd (w.setCell p u) B size A n xs :=
  h.keep fun q hq => World.cell?_setCell_other w p q u (fun e => by subst e; omega)
theorem Rd.grown (h : Rd w B size A n xs) {row : Option Nat} (hg : w.grownBy w' row) (hB : B ≤ w.heap.size) (hr : ∀ g, row = some g → B ≤ g) : Rd w' B size A n xs :=
  h.keep fun p hp => World.cell?_of_block (hg.block p.block (by omega) (fun e => by have := hr _ e.symm; omega))
theorem Rd.own {base : Nat} {e : TypeId} {c : Nat} (h : w.ownsRow base e size (.slice A n c) n xs) : Rd w w.heap.size size A n xs := by
  refine ⟨h.1, fun hn => ?_⟩
  obtain ⟨g, cap, hv, _, hlt⟩ := h.form hn
  have hA : A = some ⟨g, 0, none⟩ := by injection hv
  subst hA
  refine ⟨g, 0, rfl, hlt, fun j u hu => ?_⟩
  rw [← h.cells (g := g) rfl j u hu, Addr.add_lit]
theorem Rd.lit (w : World) (cs : List Value) (e : TypeId) (n size : Nat) (hl : cs.length = n * size) : Rd (w.alloc (.cells cs.toArray e)) (w.heap.size + 1) size (some ⟨w.heap.size, 0, none⟩) n cs :=
  ⟨hl, fun _ => ⟨_, _, rfl, by simp, fun j u hu => by
    rw [World.cell?_alloc_at _ _ _ _ rfl]
    simpa using hu⟩⟩
theorem Rd.litF (w : World) (cs : Array Value) (e : TypeId) (fr : Nat × Nat) (n size : Nat) (hl : cs.size = n * size) : Rd (w.alloc (.cells cs e fr)) (w.heap.size + 1) size (some ⟨w.heap.size, 0, none⟩) n cs.toList :=
  ⟨by simpa using hl, fun _ => ⟨_, _, rfl, by simp, fun j u hu => by
    simp only [World.cell?, World.alloc, Array.getElem?_push_size, Nat.zero_add]
    simpa using hu⟩⟩
/-- one byte's cell -/
theorem Rd.byte {l : List UInt8} {b off : Nat} (h : Rd w B 1 (some ⟨b, off, none⟩) n (bv l)) (k : Nat) (hk : k < l.length) : w.cell? ⟨b, off + k, none⟩ = some (.int .u8 (l[k].toNat : Int)) := by
  have hn : 0 < n := by have := h.len; rw [bv_length] at this; omega
  obtain ⟨b', off', e, hb, hc⟩ := h.at_ hn
  obtain ⟨rfl, rfl⟩ : b = b' ∧ off = off' := by simpa using e
  exact hc k _ (bv_get l k hk)
theorem Rd.some_ (h : Rd w B size A n xs) (hn : 0 < n) : ∃ b off, A = some ⟨b, off, none⟩ := by
  obtain ⟨b, off, e, _⟩ := h.at_ hn
  exact ⟨b, off, e⟩
theorem Rd.blen {l : List UInt8} (h : Rd w B 1 A n (bv l)) : l.length = n := by
  have := h.len
  rw [bv_length] at this
  omega
/-- the part from element k on -/
theorem Rd.cut (h : Rd w B size A n xs) {k cap : Nat} (hk : k ≤ n) (hc : n ≤ cap) :
    Rd w B size (if cap = k then A else A.map (·.add (k * size))) (n - k) (xs.drop (k * size)) := by
  refine ⟨by rw [List.length_drop, h.len, Nat.sub_mul], fun hn => ?_⟩
  obtain ⟨b, off, rfl, hb, hcell⟩ := h.at_ (by omega)
  rw [if_neg (by omega)]
  refine ⟨b, off + k * size, by simp [Addr.add_lit], hb, fun j u hu => ?_⟩
  rw [Nat.add_assoc]
  exact hcell _ u (by rw [← hu, List.getElem?_drop])
/-- the first k elements -/
theorem Rd.take (h : Rd w B size A n xs) {k : Nat} (hk : k ≤ n) : Rd w B size A k (xs.take (k * size)) := by
  refine ⟨by rw [List.length_take, h.len]; exact Nat.min_eq_left (Nat.mul_le_mul_right _ hk), fun hn => ?_⟩
  obtain ⟨b, off, rfl, hb, hcell⟩ := h.at_ (by omega)
  refine ⟨b, off, rfl, hb, fun j u hu => hcell j u ?_⟩
  rw [List.getElem?_take] at hu
  split at hu
  · exact hu
  · cases hu
end

/-- What is known of a slice type: its element type, its size in cells and bytes, its zero. -/
structure SlT (P : Program) (t e : TypeId) (size bytes : Nat) (z : Value) : Prop where
  und : P.underlying t = some (.slice e)
  info : (P.info? e).map (fun i => (i.zero, i.size, i.bytes)) = some (some z, size, bytes)
  zs : z.cells.size = size
  pos : 0 < size

/-- the block of a slice's address -/
def blk (A : Option Addr) : Option Nat := A.map (·.block)
theorem ownBlock_slice (A : Option Addr) (n c : Nat) : Value.ownBlock (.slice A n c) = blk A := by
  cases A <;> rfl

section
variable {P : Program} (w : World)
theorem run_app {t e : TypeId} {size bytes : Nat} {z : Value} (T : SlT P t e size bytes z) (ty base : TypeId)
    {A : Option Addr} {n c : Nat} {xs : List Value} (hown : w.ownsRow base e size (.slice A n c) n xs)
    {B : Nat} {A' : Option Addr} {m c' : Nat} {ys : List Value} (hr : Rd w B size A' m ys) (h1 : ∀ u ∈ ys, u.oneCell' = true)
    (hbytes : (n + m) * bytes ≤ 140737488355328) (h63 : n + m ≤ maxLen) (hbase : base ≤ w.heap.size) :
    ∃ A1 c1 w1, (Builtin.append_ #[t, t] ty #[.slice A n c, .slice A' m c']).run P w = .ok (.slice A1 (n + m) c1) w1 ∧
      w1.ownsRow base e size (.slice A1 (n + m) c1) (n + m) (xs ++ ys) ∧ w.grownBy w1 (blk A) ∧ (blk A1 = blk A ∨ blk A1 = some w.heap.size) := by
  obtain ⟨i, hi, hz, hs, hb⟩ := info_parts T.info
  by_cases hm : m = 0
  · subst hm
    have hy : ys = [] := List.eq_nil_of_length_eq_zero (by simpa using hr.len)
    subst hy
    refine ⟨A, c, w, ?_, by simpa using hown, World.grownBy.refl w _, .inl rfl⟩
    cases A' with
    | none =>
      rcases hown.2 with ⟨hv, _⟩ | ⟨g, cap, cur, hv, _, _, hnc, _⟩
      · obtain ⟨rfl, rfl, rfl⟩ : A = none ∧ n = 0 ∧ c = 0 := by simpa using hv
        simp [Builtin.append_, run_underlying T.und, sizeOf, typeInfo, hi, Builtin.lenOf, Builtin.firstCells]
      · obtain ⟨rfl, rfl⟩ : A = some ⟨g, 0, none⟩ ∧ c = cap := by simpa using hv
        simp [Builtin.append_, run_underlying T.und, sizeOf, typeInfo, hi, Builtin.lenOf, Builtin.firstCells, hnc, storeCells]
    | some ad =>
      rcases hown.2 with ⟨hv, _⟩ | ⟨g, cap, cur, hv, _, _, hnc, _⟩
      · obtain ⟨rfl, rfl, rfl⟩ : A = none ∧ n = 0 ∧ c = 0 := by simpa using hv
        simp [Builtin.append_, run_underlying T.und, sizeOf, typeInfo, hi, Builtin.lenOf, Builtin.firstCells, loadCells, loadCellsFrom]
      · obtain ⟨rfl, rfl⟩ : A = some ⟨g, 0, none⟩ ∧ c = cap := by simpa using hv
        simp [Builtin.append_, run_underlying T.und, sizeOf, typeInfo, hi, Builtin.lenOf, Builtin.firstCells, loadCells, loadCellsFrom, hnc, storeCells]
  · obtain ⟨b0, off0, rfl, _, hc⟩ := hr.at_ (by omega)
    obtain ⟨v', w', hrun, h2, h3, _, h5⟩ := run_append_own_at (P := P) w base t ty e i z size bytes T.und hi hz hs hb T.zs T.pos (.slice A n c) n xs hown ⟨b0, off0, none⟩ m c' ys hr.len (fun j u hu => by rw [Addr.add_lit]; exact hc j u hu) h1 h63 hbytes hbase
    obtain ⟨g, cap, rfl, _, _⟩ := h2.form (by omega)
    rw [ownBlock_slice] at h3
    exact ⟨_, _, w', hrun, h2, h3, by simpa [ownBlock_slice] using h5⟩

theorem wpList_do {ops : Array Oper} {rest : List Oper} {o : Oper} {a : Act} {Q : Exit → Act → World → Prop} {w : World} (hgd : Region.wanted o (yielded ops a.tmps) = true)
    (h : ∀ K : Act → World → Prop, (∀ a w, wpList P ops Q rest a w → K a w) → o.wp P a w K Q) : wpList P ops Q (o :: rest) a w :=
  wpList_step fun K hK => by rw [if_pos hgd]; exact h K hK

/-- append onto a slice of the call's own, at a plain region. -/
theorem wpList_app {ops : Array Oper} {rest : List Oper} {o : Oper} {a : Act} {Q : Exit → Act → World → Prop} (hgd : Region.wanted o (yielded ops a.tmps) = true) (s x : Operand) (t : TypeId)
    (ho : o.op = .call { callee := .builtin .append, args := #[s, x], argTypes := #[t, t] })
    {e : TypeId} {size bytes : Nat} {z : Value} (T : SlT P t e size bytes z) {base : TypeId}
    {A : Option Addr} {n c : Nat} {xs : List Value} (hs : a.eval s = .slice A n c) (hown : w.ownsRow base e size (.slice A n c) n xs)
    {B : Nat} {A' : Option Addr} {m c' : Nat} {ys : List Value} (hx : a.eval x = .slice A' m c') (hr : Rd w B size A' m ys) (h1 : ∀ u ∈ ys, u.oneCell' = true)
    (hbytes : (n + m) * bytes ≤ 140737488355328) (h63 : n + m ≤ maxLen) (hbase : base ≤ w.heap.size)
    (h : ∀ A1 c1 w1, w1.ownsRow base e size (.slice A1 (n + m) c1) (n + m) (xs ++ ys) → w.grownBy w1 (blk A) → (blk A1 = blk A ∨ blk A1 = some w.heap.size) →
      wpList P ops Q rest (a.put o.dst (.slice A1 (n + m) c1)) w1) : wpList P ops Q (o :: rest) a w := by
  refine wpList_do hgd fun K hK => ?_
  obtain ⟨A1, c1, w1, hrun, h2, h3, h4⟩ := run_app (P := P) w T o.type base hown (c' := c') hr h1 hbytes h63 hbase
  unfold Oper.wp execOp
  simp only [ho, resolve, invoke, builtin, Sem.run_bind, Sem.run_pure, Result.andThen_ok, List.map_toArray, List.map_cons, List.map_nil, hs, hx, hrun]
  exact hK _ _ (h A1 c1 w1 h2 h3 h4)
/-- append of a slice that reads as ys, onto a slice of the call's own; what lies below 'base' is kept. -/
theorem wpList_apb {ops : Array Oper} {rest : List Oper} {o : Oper} {a : Act} {Q : Exit → Act → World → Prop} (hgd : Region.wanted o (yielded ops a.tmps) = true) (s x : Operand) (t : TypeId)
    (ho : o.op = .call { callee := .builtin .append, args := #[s, x], argTypes := #[t, t] })
    {e : TypeId} {size bytes : Nat} {z : Value} (T : SlT P t e size bytes z) {base : TypeId} {w0 : World} (hbel : Below base w0 w)
    {A : Option Addr} {n c : Nat} {xs : List Value} (hs : a.eval s = .slice A n c) (hown : w.ownsRow base e size (.slice A n c) n xs)
    {B : Nat} {A' : Option Addr} {m c' : Nat} {ys : List Value} (hx : a.eval x = .slice A' m c') (hr : Rd w B size A' m ys) (h1 : ∀ u ∈ ys, u.oneCell' = true)
    (hbytes : (n + m) * bytes ≤ 140737488355328) (h63 : n + m ≤ maxLen) (hbase : base ≤ w.heap.size)
    (h : ∀ A1 c1 w1, w1.ownsRow base e size (.slice A1 (n + m) c1) (n + m) (xs ++ ys) → Below base w0 w1 → w.heap.size ≤ w1.heap.size →
      wpList P ops Q rest (a.put o.dst (.slice A1 (n + m) c1)) w1) : wpList P ops Q (o :: rest) a w :=
  wpList_app w hgd s x t ho T hs hown hx hr h1 hbytes h63 hbase fun A1 c1 w1 o1 g1 _ =>
    h A1 c1 w1 o1 (hbel.grown g1 hbase fun g hg => by
      rw [← ownBlock_slice A n c] at hg
      exact (hown.lt g hg).1) g1.size
/-- append of what was just built (some cells in a new block). -/
theorem wpList_ap1 {ops : Array Oper} {rest : List Oper} {o : Oper} {a : Act} {Q : Exit → Act → World → Prop} (hgd : Region.wanted o (yielded ops a.tmps) = true) (s x : Operand) (t : TypeId)
    (ho : o.op = .call { callee := .builtin .append, args := #[s, x], argTypes := #[t, t] })
    {e : TypeId} {size bytes : Nat} {z : Value} (T : SlT P t e size bytes z) {base : TypeId} {w0 : World} (hbel : Below base w0 w)
    {A : Option Addr} {n c : Nat} {xs : List Value} (hs : a.eval s = .slice A n c) (hown : w.ownsRow base e size (.slice A n c) n xs)
    {m c' : Nat} {cs : Array Value} {e' : TypeId} (hx : a.eval x = .slice (some ⟨w.heap.size, 0, none⟩) m c') (hm : cs.size = m * size) (h1 : ∀ u ∈ cs.toList, u.oneCell' = true)
    (hbytes : (n + m) * bytes ≤ 140737488355328) (h63 : n + m ≤ maxLen) (hbase : base ≤ w.heap.size)
    (h : ∀ A1 c1 w1, w1.ownsRow base e size (.slice A1 (n + m) c1) (n + m) (xs ++ cs.toList) → Below base w0 w1 → w.heap.size ≤ w1.heap.size →
      wpList P ops Q rest (a.put o.dst (.slice A1 (n + m) c1)) w1) : wpList P ops Q (o :: rest) a (w.alloc (.cells cs e')) := by
  have hr := Rd.lit w cs.toList e' m size (by simpa using hm)
  exact wpList_apb (w.alloc (.cells cs e')) hgd s x t ho T (hbel.alloc hbase _) hs (hown.alloc _) hx hr h1 hbytes h63 (Nat.le_trans hbase (by simp))
    fun A1 c1 w1 o1 b1 s1 => h A1 c1 w1 o1 b1 (by rw [World.size_alloc] at s1; omega)
/-- make with a length of nought, at a plain region. -/
theorem wpList_mk0 {ops : Array Oper} {rest : List Oper} {o : Oper} {a : Act} {Q : Exit → Act → World → Prop} (hgd : Region.wanted o (yielded ops a.tmps) = true) (l c : Operand) (t : TypeId)
    (ho : o.op = .makeSlice t l c) {e : TypeId} {size bytes : Nat} {z : Value} (T : SlT P t e size bytes z) {base : TypeId} {w0 : World} (hbel : Below base w0 w)
    {kl kc : IntKind} {C : Int} (n : Nat) (hl : a.eval l = .int kl 0) (hc : a.eval c = .int kc C) (hC : C = (n : Int)) (hb : n * bytes ≤ 140737488355328) (h63 : n ≤ maxLen) (hbase : base ≤ w.heap.size)
    (h : ∀ A1 w1, w1.ownsRow base e size (.slice A1 0 n) 0 [] → Below base w0 w1 → w.heap.size ≤ w1.heap.size →
      wpList P ops Q rest (a.put o.dst (.slice A1 0 n)) w1) : wpList P ops Q (o :: rest) a w := by
  obtain ⟨i, hi, hz, hs, hby⟩ := info_parts T.info
  refine wpList_do hgd fun K hK => ?_
  obtain ⟨w', hrun, r1, r2⟩ := run_make_own (P := P) w base t e i z size T.und hi hz hs kl kc n (by rw [hby, Nat.mul_comm]; omega) h63 hbase
  subst hC
  unfold Oper.wp
  simp [execOp, ho, hl, hc, hrun, Result.andThen]
  exact hK _ _ (h _ w' r1 (hbel.grown r2 hbase (fun _ h => by cases h)) r2.size)
end

/-- A goal at which the walk stands still. -/
structure Held (p : Prop) : Prop where
  out : p

section
variable {w : World} {base : Nat} {e : TypeId} {size n c : Nat} {A : Option Addr} {xs : List Value}
theorem own_form {v : Value} (h : w.ownsRow base e size v n xs) : ∃ A c, v = .slice A n c := by
  rcases h.2 with ⟨rfl, rfl⟩ | ⟨g, cap, cur, rfl, _⟩
  · exact ⟨_, _, rfl⟩
  · exact ⟨_, _, rfl⟩
theorem own_cap (h : w.ownsRow base e size (.slice A n c) n xs) : n ≤ c := by
  rcases h.2 with ⟨hv, rfl⟩ | ⟨g, cap, cur, hv, _, _, hnc, _⟩
  · omega
  · obtain ⟨_, rfl⟩ : A = some ⟨g, 0, none⟩ ∧ c = cap := by simpa using hv
    exact hnc
theorem own_blk (h : w.ownsRow base e size (.slice A n c) n xs) : ∀ g, blk A = some g → base ≤ g := by
  intro g hg
  rw [← ownBlock_slice A n c] at hg
  exact (h.lt g hg).1
theorem own_mono {base' : Nat} {v : Value} (h : w.ownsRow base e size v n xs) (hb : base' ≤ base) : w.ownsRow base' e size v n xs := by
  refine ⟨h.1, ?_⟩
  rcases h.2 with h2 | ⟨g, cap, cur, hv, hg, r⟩
  · exact .inl h2
  · exact .inr ⟨g, cap, cur, hv, by omega, r⟩
/-- what is owned from 'base' on is kept by whatever keeps what lies below B, where it lies below B -/
theorem own_below {w' : World} {v : Value} (h : w.ownsRow base e size v n xs) (hb : Below w.heap.size w w') : w'.ownsRow base e size v n xs := by
  refine ⟨h.1, ?_⟩
  rcases h.2 with h2 | ⟨g, cap, cur, hv, hg, hh, r⟩
  · exact .inl h2
  · exact .inr ⟨g, cap, cur, hv, hg, by rw [hb.block g (Array.getElem?_eq_some_iff.1 hh).1]; exact hh, r⟩
end

section
variable {P : Program} (w : World)
/-- append of a string's bytes. -/
theorem wpList_aps {ops : Array Oper} {rest : List Oper} {o : Oper} {a : Act} {Q : Exit → Act → World → Prop} (hgd : Region.wanted o (yielded ops a.tmps) = true) (s x : Operand) (t u : TypeId)
    (ho : o.op = .call { callee := .builtin .append, args := #[s, x], argTypes := #[t, u] })
    {e : TypeId} (T : SlT P t e 1 1 (.int .u8 0)) (hu : P.underlying u = some .string) {base : TypeId} {w0 : World} (hbel : Below base w0 w)
    {A : Option Addr} {n c : Nat} {l : List UInt8} (hs : a.eval s = .slice A n c) (hown : w.ownsRow base e 1 (.slice A n c) n (bv l))
    {str : ByteArray} (hx : a.eval x = .string str) (hbytes : n + str.size ≤ 140737488355328) (hbase : base ≤ w.heap.size)
    (h : ∀ A1 c1 w1, w1.ownsRow base e 1 (.slice A1 (n + str.size) c1) (n + str.size) (bv (l ++ str.data.toList)) → Below base w0 w1 → w.heap.size ≤ w1.heap.size →
      wpList P ops Q rest (a.put o.dst (.slice A1 (n + str.size) c1)) w1) : wpList P ops Q (o :: rest) a w := by
  refine wpList_do hgd fun K hK => ?_
  obtain ⟨i, hi, hz, hsz, hb⟩ := info_parts T.info
  obtain ⟨v', w', hrun, h2, h3, _⟩ := Lib.run_append_own_string (P := P) w base t u o.type e i T.und hu hi hz hsz hb _ n _ hown str (by simp only [maxLen]; omega) hbytes hbase
  obtain ⟨A1, c1, rfl⟩ := own_form h2
  unfold Oper.wp execOp
  simp only [ho, resolve, invoke, builtin, Sem.run_bind, Sem.run_pure, Result.andThen_ok, List.map_toArray, List.map_cons, List.map_nil, hs, hx, hrun]
  exact hK _ _ (h A1 c1 w' (by rw [bv_append]; exact h2) (hbel.grown h3 hbase fun g hg => (hown.lt g hg).1) h3.size)

theorem run_b2s (src dst e : TypeId) (hs : P.underlying src = some (.slice e)) (he : P.underlying e = some (.int .u8)) (hd : P.underlying dst = some .string)
    {B : Nat} {A : Option Addr} {n c : Nat} {l : List UInt8} (hr : Rd w B 1 A n (bv l)) : (convert src dst (.slice A n c)).run P w = .ok (.string ⟨l.toArray⟩) w := by
  have hl := hr.blen
  by_cases hn : n = 0
  · subst hn
    obtain rfl : l = [] := List.eq_nil_of_length_eq_zero hl
    cases A with
    | none => exact run_convert_bytes_nil w src e hs he 0 c dst hd
    | some ad =>
      rw [run_convert_bytes_string w src dst e _ 0 c hs he hd]
      simp [Conv.bytesToString, loadCells, loadCellsFrom, ByteArray.empty, ByteArray.emptyWithCapacity]
      rfl
  · obtain ⟨b, off, rfl, _, hc⟩ := hr.at_ (by omega)
    have := run_convert_bytes_arg (P := P) w src e hs he b off n c (l.map fun x => (x.toNat : Int)) (by simpa using hl) (fun i hi => by
      rw [hc i _ (bv_get l i (by omega))]
      simp [List.getD, show i < l.length by omega]) dst hd
    rw [this]
    simp only [strOfNums, List.map_map]
    rw [show ((fun n : Int => UInt8.ofNat n.toNat) ∘ fun x : UInt8 => (x.toNat : Int)) = id from by funext x; simp, List.map_id]
/-- string(b) -/
theorem wpList_b2s {ops : Array Oper} {rest : List Oper} {o : Oper} {a : Act} {Q : Exit → Act → World → Prop} (hgd : Region.wanted o (yielded ops a.tmps) = true) (x : Operand) (t u e : TypeId)
    (ho : o.op = .convert t u x) (ht : P.underlying t = some (.slice e)) (he : P.underlying e = some (.int .u8)) (hu : P.underlying u = some .string)
    {B : Nat} {A : Option Addr} {n c : Nat} {l : List UInt8} (hx : a.eval x = .slice A n c) (hr : Rd w B 1 A n (bv l))
    (h : wpList P ops Q rest (a.put o.dst (.string ⟨l.toArray⟩)) w) : wpList P ops Q (o :: rest) a w := by
  refine wpList_do hgd fun K hK => ?_
  unfold Oper.wp execOp
  simp only [ho, hx, Sem.run_bind, run_b2s w t u e ht he hu (c := c) hr, Result.andThen_ok, Sem.run_pure]
  exact hK _ _ h
/-- a load out of a cell -/
theorem wpList_ld {ops : Array Oper} {rest : List Oper} {o : Oper} {a : Act} {Q : Exit → Act → World → Prop} (h : Held (wpList P ops Q (⟨o.dst, .load o.type (.tmp 0), o.type, o.pos, o.after, o.guard⟩ :: rest) a w)) :
    wpList P ops Q (⟨o.dst, .load o.type (.tmp 0), o.type, o.pos, o.after, o.guard⟩ :: rest) a w := h.out
section
variable {ops : Array Oper} {rest : List Oper} {d : Option Tmp} {ty : TypeId} {pos : String} {af : Array Edge} {g : Option (Nat × Bool)} {a : Act} {Q : Exit → Act → World → Prop} {w : World}
/-- guards: the walk stands still at a conversion, a load, a store, a cut -/
theorem hold_conv {s t : TypeId} {x : Operand} (h : Held (wpList P ops Q (⟨d, .convert s t x, ty, pos, af, g⟩ :: rest) a w)) : wpList P ops Q (⟨d, .convert s t x, ty, pos, af, g⟩ :: rest) a w := h.out
theorem hold_load {t : TypeId} {x : Operand} (h : Held (wpList P ops Q (⟨d, .load t x, ty, pos, af, g⟩ :: rest) a w)) : wpList P ops Q (⟨d, .load t x, ty, pos, af, g⟩ :: rest) a w := h.out
theorem hold_store {t : TypeId} {x y : Operand} (h : Held (wpList P ops Q (⟨d, .store t x y, ty, pos, af, g⟩ :: rest) a w)) : wpList P ops Q (⟨d, .store t x y, ty, pos, af, g⟩ :: rest) a w := h.out
theorem hold_slice {t : TypeId} {x : Operand} {l hi m : Option Operand} (h : Held (wpList P ops Q (⟨d, .slice t x l hi m, ty, pos, af, g⟩ :: rest) a w)) : wpList P ops Q (⟨d, .slice t x l hi m, ty, pos, af, g⟩ :: rest) a w := h.out
end
/-- b[i:j] -/
theorem wpList_cut {ops : Array Oper} {rest : List Oper} {o : Oper} {a : Act} {Q : Exit → Act → World → Prop} (hgd : Region.wanted o (yielded ops a.tmps) = true) (x : Operand) (t : TypeId) (lo hi : Option Operand)
    (ho : o.op = .slice t x lo hi none) {e : TypeId} {size bytes : Nat} {z : Value} (T : SlT P t e size bytes z)
    {B : Nat} {A : Option Addr} {n c : Nat} {xs : List Value} (hx : a.eval x = .slice A n c) (hr : Rd w B size A n xs) (hnc : n ≤ c) (i j : Nat)
    (hlo : (∃ I, lo.map a.eval = some (.int .i64 I) ∧ I = (i : Int)) ∨ lo = none ∧ i = 0) (hhi : (∃ J, hi.map a.eval = some (.int .i64 J) ∧ J = (j : Int)) ∨ hi = none ∧ j = n) (hij : i ≤ j) (hjn : j ≤ n)
    (h : ∀ A1, Rd w B size A1 (j - i) ((xs.drop (i * size)).take ((j - i) * size)) → (j - i ≤ c - i) → wpList P ops Q rest (a.put o.dst (.slice A1 (j - i) (c - i))) w) : wpList P ops Q (o :: rest) a w := by
  refine wpList_do hgd fun K hK => ?_
  obtain ⟨i0, hi0, hz, hs, hby⟩ := info_parts T.info
  have hr2 := (hr.cut (k := i) (by omega) hnc).take (k := j - i) (by omega)
  have hrun : (Instr.sliceAt t (.slice A n c) (lo.map a.eval) (hi.map a.eval) none).run P w = .ok (.slice (if c = i then A else A.map (·.add (i * size))) (j - i) (c - i)) w := by
    have b1 : (0 : Int) ≤ j ∧ (j : Int) ≤ c := by omega
    have b2 : (0 : Int) ≤ i ∧ (i : Int) ≤ j := by omega
    rcases hlo with ⟨_, hlo, rfl⟩ | ⟨rfl, rfl⟩ <;> rcases hhi with ⟨_, hhi, rfl⟩ | ⟨rfl, rfl⟩ <;>
      simp [Instr.sliceAt, Instr.slice, Instr.sliceBounds, Instr.sliceBound, run_underlying T.und, sizeOf, typeInfo, asIntOf, *]
    all_goals (intro hcj; omega)
  unfold Oper.wp execOp
  simp only [ho, hx, Sem.run_bind, Option.map_none, hrun, Result.andThen_ok, Sem.run_pure]
  exact hK _ _ (h _ hr2 (by omega))
end
/-- to the next world -/
theorem Rd.nx {w w' : World} {size n : Nat} {A : Option Addr} {xs : List Value} (h : Rd w w.heap.size size A n xs) (b : Below w.heap.size w w') : Rd w' w'.heap.size size A n xs :=
  (h.below b).more b.size
theorem below_nx {B : Nat} {w0 w w' : World} (h : Below B w0 w) (hB : B ≤ w.heap.size) (b : Below w.heap.size w w') : Below B w0 w' := h.trans (b.mono hB)
/-- what the shells say of a slice of bytes that came in -/
theorem rd_bytes {w : World} {a : Option Addr} {len cap : Nat} {zs : List Int}
    (h : (a = none ∧ len = 0 ∧ cap = 0 ∧ zs = []) ∨ ∃ x, a = some x ∧ len ≤ cap ∧ cap ≤ maxLen ∧ zs.length = cap ∧ (∀ i, i < zs.length → w.cell? (x.add i) = some (.int .u8 (zs.getD i 0))) ∧ ∀ n ∈ zs, (Lit.int .u8 n).wf = true) :
    ∃ l, Rd w w.heap.size 1 a len (bv l) ∧ len ≤ cap := by
  rcases h with ⟨rfl, rfl, rfl, rfl⟩ | ⟨x, rfl, hlc, hcm, hz, hc, hwf⟩
  · exact ⟨[], Rd.nil _ _ _ _, Nat.le_refl _⟩
  · refine ⟨(zs.take len).map fun z => UInt8.ofNat z.toNat, ⟨by simp [bv]; omega, fun hn => ?_⟩, hlc⟩
    have h0 := hc 0 (by omega)
    have hx : x.add 0 = x := by simp [Addr.add]
    have hsp : x.spot = none := by
      rw [hx] at h0
      unfold World.cell? at h0
      split at h0
      · split at h0
        · cases h0
        · rename_i h; simpa using h
      · cases h0
    have hb : x.block < w.heap.size := by
      have := World.block_lt_of_cell? w _ h0
      rwa [hx] at this
    obtain ⟨b, off, sp⟩ := x
    simp only at hsp hb
    subst hsp
    refine ⟨b, off, rfl, hb, fun j u hu => ?_⟩
    have hj : j < len := by
      have := (List.getElem?_eq_some_iff.1 hu).1
      simp [bv] at this
      omega
    have hcj := hc j (by omega)
    rw [Addr.add_lit] at hcj
    rw [hcj, ← hu]
    have hw := hwf (zs[j]'(by omega)) (List.getElem_mem _)
    have hr : 0 ≤ zs[j]'(by omega) ∧ zs[j]'(by omega) ≤ 255 := by simpa [Lit.wf, IntKind.min, IntKind.max, IntKind.signed, IntKind.bits] using hw
    have e : (bv ((zs.take len).map fun z => UInt8.ofNat z.toNat))[j]? = some (.int .u8 (((UInt8.ofNat (zs[j]'(by omega)).toNat).toNat : Nat) : Int)) := by
      simp [bv, hj, show j < zs.length by omega]
    rw [e]
    congr 2
    simp [List.getD, show j < zs.length by omega]
    omega
end Go.Proofs.Ytbifgoaceolpoaa
