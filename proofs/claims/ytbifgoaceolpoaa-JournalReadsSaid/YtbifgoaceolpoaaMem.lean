/-
  Plain lemmas for the walks: slices that lie in blocks of a known element type (so that rows of different types never share a block), appends onto what the call owns, slices of slices. No dump; no condition.
-/
import Derived.Test.YtbifgoaceolpoaaLib
namespace Go.Proofs.Ytbifgoaceolpoaa
open Go.RowKit
/-- The slice '.slice A n _' holds the cells xs, in a block of element type e, from block L on. -/
structure Rt (w : World) (L : Nat) (e : TypeId) (size : Nat) (A : Option Addr) (n : Nat) (xs : List Value) : Prop where
  len : xs.length = n * size
  at_ : 0 < n → ∃ b off cur fr, A = some ⟨b, off, none⟩ ∧ L ≤ b ∧ w.heap[b]? = some (.cells cur e fr) ∧ ∀ j u, xs[j]? = some u → cur[off + j]? = some u
section
variable {w w' : World} {L L' B size n c : Nat} {e e' : TypeId} {A A' : Option Addr} {xs : List Value}
theorem Rt.rd (h : Rt w L e size A n xs) : Rd w w.heap.size size A n xs :=
  ⟨h.len, fun hn => by
    obtain ⟨b, off, cur, fr, rfl, _, hb, hc⟩ := h.at_ hn
    refine ⟨b, off, rfl, (Array.getElem?_eq_some_iff.1 hb).1, fun j u hu => ?_⟩
    rw [cell_of_row w b (off + j) cur e fr hb]
    exact hc j u hu⟩
theorem Rt.keep (h : Rt w L e size A n xs) (hk : ∀ b cur fr, L ≤ b → w.heap[b]? = some (.cells cur e fr) → w'.heap[b]? = w.heap[b]?) : Rt w' L e size A n xs :=
  ⟨h.len, fun hn => by
    obtain ⟨b, off, cur, fr, rfl, hL, hb, hc⟩ := h.at_ hn
    exact ⟨b, off, cur, fr, rfl, hL, by rw [hk b cur fr hL hb]; exact hb, hc⟩⟩
theorem Rt.nx (h : Rt w L e size A n xs) (b : Below w.heap.size w w') : Rt w' L e size A n xs :=
  h.keep fun k _ _ _ hk => b.block k (Array.getElem?_eq_some_iff.1 hk).1
theorem Rt.low (h : Rt w L e size A n xs) (hL : L' ≤ L) : Rt w L' e size A n xs :=
  ⟨h.len, fun hn => by
    obtain ⟨b, off, cur, fr, rfl, hLb, hb, hc⟩ := h.at_ hn
    exact ⟨b, off, cur, fr, rfl, by omega, hb, hc⟩⟩
theorem Rt.alloc (h : Rt w L e size A n xs) (o : Obj) : Rt (w.alloc o) L e size A n xs :=
  h.keep fun k _ _ _ hk => Below.heap_alloc w o k (Array.getElem?_eq_some_iff.1 hk).1
theorem Rt.drewN (h : Rt w L e size A n xs) (k : Nat) : Rt (w.drewN k) L e size A n xs := ⟨h.len, h.at_⟩
theorem Rt.nil (w : World) (L : Nat) (e : TypeId) (size : Nat) (A : Option Addr) : Rt w L e size A 0 [] := ⟨by simp, fun h => absurd h (by omega)⟩
/-- written: a row of the call's own whose elements are of another type -/
theorem Rt.grown {base k m : Nat} {ys : List Value} (h : Rt w L e size A n xs) (ho : w.ownsRow base e' k (.slice A' m c) m ys) (hne : e ≠ e') (g : w.grownBy w' (blk A')) : Rt w' L e size A n xs :=
  h.keep fun b cur fr _ hb => g.block b (Array.getElem?_eq_some_iff.1 hb).1 (by
    intro hbk
    rcases ho.2 with ⟨hv, _⟩ | ⟨g', cap, cur', hv, _, hh, _⟩
    · obtain ⟨rfl, _⟩ : A' = none ∧ _ := by simpa using hv
      simp [blk] at hbk
    · obtain ⟨rfl, _⟩ : A' = some ⟨g', 0, none⟩ ∧ _ := by simpa using hv
      have : b = g' := by simpa [blk] using hbk
      subst this
      rw [hb] at hh
      injection hh with hh
      injection hh with _ hh2
      exact hne hh2)
/-- written: one block below L -/
theorem Rt.far {g : Nat} (h : Rt w L e size A n xs) (hg : g < L) (gr : w.grownBy w' (some g)) : Rt w' L e size A n xs :=
  h.keep fun b _ _ hL hb => gr.block b (Array.getElem?_eq_some_iff.1 hb).1 (fun hh => by
    have h2 : b = g := by simpa using hh
    omega)
theorem Rt.own {base : Nat} (h : w.ownsRow base e size (.slice A n c) n xs) : Rt w base e size A n xs := by
  refine ⟨h.1, fun hn => ?_⟩
  rcases h.2 with ⟨_, h0⟩ | ⟨g, cap, cur, hv, hb, hh, hnc, _, hsz, ht⟩
  · omega
  · obtain ⟨rfl, rfl⟩ : A = some ⟨g, 0, none⟩ ∧ c = cap := by simpa using hv
    refine ⟨g, 0, cur, (0, 0), rfl, hb, hh, fun j u hu => ?_⟩
    rw [← ht, List.getElem?_take] at hu
    split at hu
    · simpa using hu
    · cases hu
theorem Rt.cut (h : Rt w L e size A n xs) {k cap : Nat} (hk : k ≤ n) (hc : n ≤ cap) :
    Rt w L e size (if cap = k then A else A.map (·.add (k * size))) (n - k) (xs.drop (k * size)) := by
  refine ⟨by rw [List.length_drop, h.len, Nat.sub_mul], fun hn => ?_⟩
  obtain ⟨b, off, cur, fr, rfl, hL, hb, hcell⟩ := h.at_ (by omega)
  rw [if_neg (by omega)]
  refine ⟨b, off + k * size, cur, fr, by simp [Addr.add_lit], hL, hb, fun j u hu => ?_⟩
  rw [Nat.add_assoc]
  exact hcell _ u (by rw [← hu, List.getElem?_drop])
theorem Rt.take (h : Rt w L e size A n xs) {k : Nat} (hk : k ≤ n) : Rt w L e size A k (xs.take (k * size)) := by
  refine ⟨by rw [List.length_take, h.len]; exact Nat.min_eq_left (Nat.mul_le_mul_right _ hk), fun hn => ?_⟩
  obtain ⟨b, off, cur, fr, rfl, hL, hb, hcell⟩ := h.at_ (by omega)
  refine ⟨b, off, cur, fr, rfl, hL, hb, fun j u hu => hcell j u ?_⟩
  rw [List.getElem?_take] at hu
  split at hu
  · exact hu
  · cases hu
end

/-- A list of byte slices: the cells vs are slices that read as the lists ls. -/
def Each (w : World) (L : Nat) (e : TypeId) (vs : List Value) (ls : List (List UInt8)) : Prop :=
  vs.length = ls.length ∧ ∀ (i : Nat) (v : Value) (l : List UInt8), vs[i]? = some v → ls[i]? = some l → ∃ A c, v = .slice A l.length c ∧ l.length ≤ c ∧ Rt w L e 1 A l.length (bv l)
section
variable {w w' : World} {L : Nat} {e : TypeId} {vs : List Value} {ls : List (List UInt8)}
theorem Each.nil (w : World) (L : Nat) (e : TypeId) : Each w L e [] [] := ⟨rfl, fun i v l h => by simp at h⟩
theorem Each.map (h : Each w L e vs ls) (hk : ∀ A n (xs : List Value), Rt w L e 1 A n xs → Rt w' L e 1 A n xs) : Each w' L e vs ls :=
  ⟨h.1, fun i v l hv hl => by
    obtain ⟨A, c, h1, h2, h3⟩ := h.2 i v l hv hl
    exact ⟨A, c, h1, h2, hk _ _ _ h3⟩⟩
theorem Each.snoc (h : Each w L e vs ls) {A : Option Addr} {c : Nat} {l : List UInt8} (hc : l.length ≤ c) (hr : Rt w L e 1 A l.length (bv l)) : Each w L e (vs ++ [Value.slice A l.length c]) (ls ++ [l]) := by
  refine ⟨by simp [h.1], fun i v m hv hm => ?_⟩
  rw [List.getElem?_append] at hv hm
  split at hv
  · rename_i hi
    rw [if_pos (by rw [← h.1]; exact hi)] at hm
    exact h.2 i v m hv hm
  · rename_i hi
    rw [if_neg (by rw [← h.1]; exact hi)] at hm
    have hi0 : i - vs.length = 0 := by
      have := (List.getElem?_eq_some_iff.1 hv).1
      simp at this
      omega
    rw [← h.1, hi0] at hm
    rw [hi0] at hv
    obtain rfl : Value.slice A l.length c = v := by simpa using hv
    obtain rfl : l = m := by simpa using hm
    exact ⟨A, c, rfl, hc, hr⟩
theorem Each.take (h : Each w L e vs ls) (k : Nat) : Each w L e (vs.take k) (ls.take k) :=
  ⟨by simp [h.1], fun i v l hv hl => by
    rw [List.getElem?_take] at hv hl
    split at hv
    · rename_i hi
      rw [if_pos hi] at hl
      exact h.2 i v l hv hl
    · cases hv⟩
theorem Each.one (h : Each w L e vs ls) : ∀ u ∈ vs, u.oneCell' = true := by
  intro u hu
  obtain ⟨i, hi, rfl⟩ := List.getElem_of_mem hu
  obtain ⟨A, c, hv, _⟩ := h.2 i vs[i] (ls[i]'(by rw [← h.1]; exact hi)) (by simp [hi]) (by simp [← h.1, hi])
  rw [hv]; rfl
end
section
variable {w : World} {base : Nat} {e : TypeId} {size n c k : Nat} {A : Option Addr} {xs : List Value}
/-- s[:k] of what is owned -/
theorem own_take (h : w.ownsRow base e size (.slice A n c) n xs) (hk : k ≤ n) (hkc : 0 < c) : w.ownsRow base e size (.slice A k c) k (xs.take (k * size)) := by
  refine ⟨by rw [List.length_take, h.1]; exact Nat.min_eq_left (Nat.mul_le_mul_right _ hk), ?_⟩
  rcases h.2 with ⟨hv, _⟩ | ⟨g, cap, cur, hv, hb, hh, hnc, hm, hs, ht⟩
  · have : c = 0 := by simpa using (by simpa using hv : A = none ∧ n = 0 ∧ c = 0).2.2
    omega
  · obtain ⟨rfl, rfl⟩ : A = some ⟨g, 0, none⟩ ∧ c = cap := by simpa using hv
    refine .inr ⟨g, c, cur, rfl, hb, hh, by omega, hm, hs, ?_⟩
    rw [← ht, List.take_take, Nat.min_eq_left (Nat.mul_le_mul_right _ hk)]
end
section
variable {P : Program} (w : World)
theorem run_apz {t ti e : TypeId} {bytes : Nat} {z : Value} (T : SlT P t e 1 bytes z) (hi : P.underlying ti = some (.int .i64)) (hz1 : z.cells = #[z]) (ty base : TypeId) (n : Nat) (hn : 0 < n) (hb : n * bytes ≤ 140737488355328) (h63 : n ≤ maxLen) (hbase : base ≤ w.heap.size) :
    ∃ c1 w1, (Builtin.append_ #[t, ti] ty #[.slice none 0 0, .int .i64 n]).run P w = .ok (.slice (some ⟨w.heap.size, 0, none⟩) n c1) w1 ∧ w1.ownsRow base e 1 (.slice (some ⟨w.heap.size, 0, none⟩) n c1) n (List.replicate n z) ∧ w.grownBy w1 none := by
  obtain ⟨i, hii, hz, hs, hby⟩ := info_parts T.info
  have hn0 : n ≠ 0 := by omega
  have hm : n ≤ 9223372036854775807 := by simp only [maxLen] at h63; omega
  have hw : IntKind.i64.wrap (n : Int) = n := IntWalk.i64_in _ (by omega)
  have hneg : ¬ ((n : Int) < 0) := by omega
  have h48 : ¬ (281474976710656 < (n : Int) * (i.bytes : Int)) := by
    rw [hby]
    have : ((n * bytes : Nat) : Int) ≤ 140737488355328 := by omega
    rw [Int.natCast_mul] at this
    omega
  have h63' : ¬ (9223372036854775807 < (n : Int)) := by omega
  have h48' : ¬ (281474976710656 < Builtin.nextslicecap n 0 * i.bytes) := by rw [nextslicecap_zero (by omega), hby]; omega
  have hge := grownCap_ge w n 0 e
  have hcm : grownCap w n 0 e ≤ maxLen := grownCap_le_maxLen w n 0 e h63
  have hzc : ∀ m, (Builtin.zeroCells z.cells m).toList = List.replicate m z := by
    intro m
    rw [hz1]
    apply List.ext_getElem <;> simp [Builtin.zeroCells, Nat.mod_one]
  refine ⟨grownCap w n 0 e, w.drew.alloc (.cells (Builtin.zeroCells z.cells n ++ Builtin.zeroCells z.cells (grownCap w n 0 e - n)) e), ?_, ?_, ?_⟩
  · simp [Builtin.append_, run_underlying T.und, run_underlying hi, sizeOf, typeInfo, zeroValue, hii, hz, hs, asInt, asIntOf, hw, hneg, h48, hn0, h63', h48', Question.forced, run_firstCells_none, newRow, grownCap]
  · refine ⟨by simp, .inr ⟨w.heap.size, _, _, rfl, hbase, heap_alloc_new w.drew _, hge, hcm, ?_, ?_⟩⟩
    · rw [Array.size_append, ← Array.length_toList, ← Array.length_toList, hzc, hzc]; simp; omega
    · rw [Array.toList_append, hzc, hzc, Nat.mul_one, List.take_left' (by simp)]
  · exact ⟨rfl, rfl, rfl, by simp, fun k hk _ => Below.heap_alloc w.drew _ k hk⟩
/-- append(s, make([]T, n)...) onto nil -/
theorem wpList_apz {ops : Array Oper} {rest : List Oper} {o : Oper} {a : Act} {Q : Exit → Act → World → Prop} (hgd : Region.wanted o (yielded ops a.tmps) = true) (s x : Operand) (t ti : TypeId)
    (ho : o.op = .call { callee := .builtin .append, args := #[s, x], argTypes := #[t, ti] })
    {e : TypeId} {bytes : Nat} {z : Value} (T : SlT P t e 1 bytes z) (hi : P.underlying ti = some (.int .i64)) (hz1 : z.cells = #[z]) {base : TypeId} {w0 : World} (hbel : Below base w0 w)
    (hs : a.eval s = .slice none 0 0) {N : Int} (n : Nat) (hx : a.eval x = .int .i64 N) (hN : N = n) (hn : 0 < n) (hb : n * bytes ≤ 140737488355328) (h63 : n ≤ maxLen) (hbase : base ≤ w.heap.size)
    (h : ∀ g c1 w1, w1.ownsRow base e 1 (.slice (some ⟨g, 0, none⟩) n c1) n (List.replicate n z) → Below base w0 w1 → w.heap.size ≤ w1.heap.size →
      wpList P ops Q rest (a.put o.dst (.slice (some ⟨g, 0, none⟩) n c1)) w1) : wpList P ops Q (o :: rest) a w := by
  refine wpList_do hgd fun K hK => ?_
  obtain ⟨c1, w1, hrun, h2, h3⟩ := run_apz (P := P) w T hi hz1 o.type base n hn hb h63 hbase
  subst hN
  unfold Oper.wp execOp
  simp only [ho, resolve, invoke, builtin, Sem.run_bind, Sem.run_pure, Result.andThen_ok, List.map_toArray, List.map_cons, List.map_nil, hs, hx, hrun]
  exact hK _ _ (h _ c1 w1 h2 (hbel.grown h3 hbase (fun _ h => by cases h)) h3.size)
end
/-- slices of bytes, wherever they lie -/
def EachR (w : World) (vs : List Value) (ls : List (List UInt8)) : Prop :=
  vs.length = ls.length ∧ ∀ (i : Nat) (l : List UInt8), ls[i]? = some l → ∃ A c, vs[i]? = some (Value.slice A l.length c) ∧ l.length ≤ c ∧ Rd w w.heap.size 1 A l.length (bv l)
theorem EachR.nx {w w' : World} {vs : List Value} {ls : List (List UInt8)} (h : EachR w vs ls) (b : Below w.heap.size w w') : EachR w' vs ls :=
  ⟨h.1, fun i l hl => by
    obtain ⟨A, c, h1, h2, h3⟩ := h.2 i l hl
    exact ⟨A, c, h1, h2, h3.nx b⟩⟩
theorem Each.toR {w : World} {L : Nat} {e : TypeId} {vs : List Value} {ls : List (List UInt8)} (h : Each w L e vs ls) : EachR w vs ls :=
  ⟨h.1, fun i l hl => by
    have hi : i < vs.length := by rw [h.1]; exact (List.getElem?_eq_some_iff.1 hl).1
    obtain ⟨A, c, h1, h2, h3⟩ := h.2 i vs[i] l (by simp [hi]) hl
    exact ⟨A, c, by rw [← h1]; simp [hi], h2, h3.rd⟩⟩
theorem EachR.two {w : World} {A A' : Option Addr} {c c' : Nat} {l m : List UInt8} (hc : l.length ≤ c) (hc' : m.length ≤ c') (h : Rd w w.heap.size 1 A l.length (bv l)) (h' : Rd w w.heap.size 1 A' m.length (bv m)) :
    EachR w [.slice A l.length c, .slice A' m.length c'] [l, m] :=
  ⟨rfl, fun i k hk => by
    match i, hk with
    | 0, hk => obtain rfl : l = k := by simpa using hk
               exact ⟨A, c, rfl, hc, h⟩
    | 1, hk => obtain rfl : m = k := by simpa using hk
               exact ⟨A', c', rfl, hc', h'⟩⟩
/-- the cell of one element, elements of one cell -/
theorem Rd.cell1 {w : World} {B b off n : Nat} {xs : List Value} (h : Rd w B 1 (some ⟨b, off, none⟩) n xs) {k : Nat} {u : Value} (hu : xs[k]? = some u) : w.cell? ⟨b, off + k, none⟩ = some u := by
  have hk := (List.getElem?_eq_some_iff.1 hu).1
  have hn : 0 < n := by have := h.len; omega
  obtain ⟨b', off', e, _, hc⟩ := h.at_ hn
  obtain ⟨rfl, rfl⟩ : b = b' ∧ off = off' := by simpa using e
  exact hc k u hu
theorem flat_snoc (ls : List (List UInt8)) (k : Nat) (h : k < ls.length) : (ls.take (k + 1)).flatten = (ls.take k).flatten ++ ls[k] := by
  rw [List.take_succ_eq_append_getElem h, List.flatten_append, List.flatten_cons, List.flatten_nil, List.append_nil]
theorem flat_le (ls : List (List UInt8)) (k : Nat) : (ls.take k).flatten.length ≤ ls.flatten.length := by
  have h : ls.flatten = (ls.take k).flatten ++ (ls.drop k).flatten := by rw [← List.flatten_append, List.take_append_drop]
  rw [h, List.length_append]; omega
theorem results4 {fn : Func} {t u v x : Tmp} (h : fn.results = #[.tmp t, .tmp u, .tmp v, .tmp x]) (tmps : Array Value) (P : Program) (w : World) :
    (results fn tmps).run P w = .ok (.tuple #[tmps.getD t undef, tmps.getD u undef, tmps.getD v undef, tmps.getD x undef]) w := by
  simp [results, h]
theorem results5 {fn : Func} {t u v x y : Tmp} (h : fn.results = #[.tmp t, .tmp u, .tmp v, .tmp x, .tmp y]) (tmps : Array Value) (P : Program) (w : World) :
    (results fn tmps).run P w = .ok (.tuple #[tmps.getD t undef, tmps.getD u undef, tmps.getD v undef, tmps.getD x undef, tmps.getD y undef]) w := by
  simp [results, h]
theorem Rd.litS (w : World) (cs : List Value) (e : TypeId) (n size : Nat) (hl : cs.length = n * size) : Rd (w.alloc (.cells cs.toArray e)) (w.alloc (.cells cs.toArray e)).heap.size size (some ⟨w.heap.size, 0, none⟩) n cs :=
  (Rd.lit w cs e n size hl).more (by simp)
theorem below_alloc (w : World) (o : Obj) : Below w.heap.size w (w.alloc o) := (Below.refl _ _).alloc (Nat.le_refl _) o
theorem Each.low {w : World} {L L' : Nat} {e : TypeId} {vs : List Value} {ls : List (List UInt8)} (h : Each w L e vs ls) (hL : L' ≤ L) : Each w L' e vs ls :=
  ⟨h.1, fun i v l hv hl => by
    obtain ⟨A, c, h1, h2, h3⟩ := h.2 i v l hv hl
    exact ⟨A, c, h1, h2, h3.low hL⟩⟩
end Go.Proofs.Ytbifgoaceolpoaa
