/-
  Arrays that are written in place, over values without addresses: the cells of a slice of the call's own lie in a numbered variable. Nothing of the dump is used; no condition.
-/
import Derived.Test.YthogjnckkmfhnaaDoorBaB
import Derived.Lib.Overlaps
import Derived.Scope
namespace Go.Proofs.YthogjnckkmfhnaaDoor
open Go.RowKit
set_option linter.unusedVariables false
set_option linter.unusedSimpArgs false
/-- the cells of a list of elements -/
def bxs (xs : List (List PV)) : List AV := xs.flatten.map PV.av
theorem bx_len {sz : Nat} {xs : List (List PV)} (hz : ∀ ys ∈ xs, ys.length = sz) : (bxs xs).length = xs.length * sz := by rw [bxs, List.length_map, flat_len hz]
theorem bx_nil : bxs [] = [] := rfl
theorem bx_append (xs ys : List (List PV)) : bxs (xs ++ ys) = bxs xs ++ bxs ys := by simp [bxs]
theorem bx_take {sz : Nat} {xs : List (List PV)} (hz : ∀ ys ∈ xs, ys.length = sz) (k : Nat) : bxs (xs.take k) = (bxs xs).take (k * sz) := by rw [bxs, flat_take hz, bxs, List.map_take]
theorem bx_drop {sz : Nat} {xs : List (List PV)} (hz : ∀ ys ∈ xs, ys.length = sz) (k : Nat) : bxs (xs.drop k) = (bxs xs).drop (k * sz) := by rw [bxs, flat_drop hz, bxs, List.map_drop]
theorem Rp.rpv {I : Nat → CI} {M : Nat → Nat} {w : World} {x : Value} {p : PV} (h : Rp I M w x p.av) : RPV M w x p := by
  cases p with
  | v y =>
    have := h.val
    subst this
    exact .v _
  | sl sz xs =>
    simp only [PV.av] at h
    cases h with
    | sl h _ => exact h
section
variable {I : Nat → CI} {M : Nat → Nat} {w : World} {σ : Nat → Res} {P : Program} {o : Oper} {ρ : Operand → AV}
theorem zbx_get (zs : List PV) (m i : Nat) : (bxs (List.replicate m zs))[i]? = if i < m * zs.length then (zs[i % zs.length]?).map PV.av else none := by
  have : ∀ (m i : Nat), (List.replicate m zs).flatten[i]? = if i < m * zs.length then zs[i % zs.length]? else none := by
    intro m
    induction m with
    | zero => intro i; simp
    | succ m ih =>
      intro i
      rw [List.replicate_succ, List.flatten_cons]
      rcases Nat.lt_or_ge i zs.length with h | h
      · rw [List.getElem?_append_left h, if_pos (by rw [Nat.add_mul]; omega), Nat.mod_eq_of_lt h]
      · rw [List.getElem?_append_right h, ih]
        have e : i % zs.length = (i - zs.length) % zs.length := by rw [← Nat.mod_eq_sub_mod h]
        rw [e]
        by_cases h2 : i - zs.length < m * zs.length
        · rw [if_pos h2, if_pos (by rw [Nat.add_mul]; omega)]
        · rw [if_neg h2, if_neg (by rw [Nat.add_mul]; omega)]
  rw [bxs, List.getElem?_map, this]
  split <;> simp
/-- make: a row of zeros, in a variable of its own -/
theorem OpS.makeB {t e : TypeId} {x y : Operand} {kl kc : IntKind} {m k : Nat} {a : Int} {z : Value} {sz bytes : Nat} [Und P t (.slice e)] [TyI P e z sz bytes] (ho : o.op = .makeSlice t x y) (hx : ρ x = .v (.int kl a)) (hy : ρ y = .v (.int kc a)) (ha : a = (m : Int))
    (hz : z.cells.toList.all (·.oneCell') = true) (hzs : z.cells.size = sz) (hb : m * bytes ≤ 140737488355328) (h63 : m ≤ maxLen) :
    OpS P o ρ [] (.bsl k sz 0 m m) [(k, .box (bxs (List.replicate m (z.cells.toList.map .v))))] := by
  intro I M w ac σ K Q hop hs _ hk hK
  obtain ⟨hk1, hk2⟩ := (hk k (by simp [keys])).resolve_left (by simp [keys])
  have q1 := (hx ▸ hop x (by simp [ho, Op.operands])).val
  have q2 := (hy ▸ hop y (by simp [ho, Op.operands])).val
  subst ha
  let zero : Array Value := if m * sz = 0 then #[] else z.cells
  let cur : Array Value := (Array.range (m * sz)).map (zero[· % zero.size]!)
  have hget : ∀ (i : Nat) (v : Value), cur[i]? = some v → i < m * sz ∧ z.cells[i % sz]? = some v := by
    intro i v hv
    have hi : i < m * sz := by have := (Array.getElem?_eq_some_iff.1 hv).1; simpa [cur] using this
    have h0 : ¬ m * sz = 0 := by omega
    have hsz : 0 < sz := by
      rcases Nat.eq_zero_or_pos sz with h | h
      · subst h; simp at h0
      · exact h
    have hlt : i % sz < z.cells.size := by rw [hzs]; exact Nat.mod_lt _ hsz
    refine ⟨hi, ?_⟩
    have : cur[i]? = some (z.cells[i % sz]!) := by simp [cur, zero, h0, hi, hzs]
    rw [this] at hv
    rw [← hv]; simp [hlt]
  have hone : ∀ (i : Nat) (v : Value), cur[i]? = some v → v.oneCell' = true := by
    intro i v hv
    obtain ⟨_, h⟩ := hget i v hv
    exact List.all_eq_true.1 hz v (by simpa using Array.mem_of_getElem? h)
  let cs := bxs (List.replicate m (z.cells.toList.map PV.v))
  have hlen : cs.length = m * sz := by
    have := bx_len (sz := sz) (xs := List.replicate m (z.cells.toList.map PV.v)) (fun ys h => by rw [(List.mem_replicate.1 h).2]; simp [hzs])
    simpa [cs] using this
  have hRp : Rp I M w (.agg cur) (.agg cs) := by
    refine .agg (by simp [cur, hlen]) hone fun i v c hv hc => ?_
    obtain ⟨hi, h⟩ := hget i v hv
    simp only [cs, zbx_get, List.length_map, Array.length_toList, hzs] at hc
    rw [if_pos hi, List.getElem?_map, Array.getElem?_toList, h] at hc
    obtain rfl : AV.v v = c := by simpa [PV.av] using hc
    exact .v _
  obtain ⟨r1, r2, r3, r4⟩ := newVar_ok (t := e) hs hRp rfl k hk1 hk2
  obtain ⟨i, hi, hz', hs', hby, hti, hzv, hsz⟩ := run_typeInfo (P := P) (t := e) w
  have hm : (m : Int) ≤ 9223372036854775807 := by simp only [maxLen] at h63; omega
  have hw : IntKind.i64.wrap (m : Int) = m := IntWalk.i64_in _ (by omega)
  have hbm : bytes * (m : Int) ≤ 2 ^ 47 := by
    have : m * bytes = bytes * m := Nat.mul_comm _ _
    rw [this] at hb
    exact_mod_cast hb
  have hrun : (execOp ac.eval o).run P w = .ok (.value (.slice (some ⟨w.heap.size, 0, none⟩) m m)) (w.alloc (.cells cur e)) := by
    have n1 : ¬ (281474976710656 < (bytes : Int) * (m : Int)) := by omega
    have n3 : ¬ ((m : Int) < 0) := by omega
    have n2 : ¬ (140737488355328 < m * bytes) := by omega
    simp only [execOp, ho, q1, q2, Instr.makeSlice]
    by_cases h0 : m * sz = 0
    · simp [run_und, asInt, asIntOf, hti, hi, hw, hby, n1, n3, hsz, h0, newRow, askRoom, roomBytes, n2, cur, zero]
    · simp [run_und, asInt, asIntOf, hti, hi, hw, hby, n1, n3, hsz, h0, hzv, newRow, askRoom, roomBytes, n2, cur, zero]
  unfold Oper.wp
  rw [hrun]
  have hI : (if k = k then CI.box w.heap.size else I k) = .box w.heap.size := by simp
  refine hK _ _ M _ (.bsl (b := w.heap.size) (lo := 0) (C := m) (by simp) (by omega) (fun _ => by simp)) r2 (r3.wide fun _ _ h => h.elim) (fun i hi => r4 i (by simpa [keys] using hi)) fun i hi b hb => ?_
  obtain rfl : i = k := by simpa [keys] using hi
  simp only [updS, if_true, blkOf] at hb
  injection hb with hb
  exact .inl (by omega)
theorem OpP.lenB {x : Operand} {t e : TypeId} {k sz lo n C : Nat} [Und P t (.slice e)] (ho : o.op = .call { callee := .builtin .len, args := #[x], argTypes := #[t] }) (hx : ρ x = .bsl k sz lo n C) : OpP P o ρ (.v (.int .i64 n)) := by
  intro I M w a h
  have h1 := h x (by simp [ho, Op.operands, Call.operands])
  rw [hx] at h1
  generalize hv : a.eval x = xv at h1
  cases h1 with
  | bsl hI hn hA => exact ⟨_, by simp [execOp, ho, hv, resolve, invoke, builtin, Builtin.len_, run_und, goInt], .v _⟩
theorem OpP.capB {x : Operand} {t e : TypeId} {k sz lo n C : Nat} [Und P t (.slice e)] (ho : o.op = .call { callee := .builtin .cap, args := #[x], argTypes := #[t] }) (hx : ρ x = .bsl k sz lo n C) : OpP P o ρ (.v (.int .i64 ((C - lo : Nat) : Int))) := by
  intro I M w a h
  have h1 := h x (by simp [ho, Op.operands, Call.operands])
  rw [hx] at h1
  generalize hv : a.eval x = xv at h1
  cases h1 with
  | bsl hI hn hA => exact ⟨_, by simp [execOp, ho, hv, resolve, invoke, builtin, Builtin.cap_, run_und, goInt], .v _⟩
theorem OpP.indexAddrB {t e : TypeId} {x y : Operand} {kk : IntKind} {i : Int} {k sz lo n C off : Nat} {z : Value} {by_ : Nat} [Und P t (.slice e)] [TyI P e z sz by_]
    (ho : o.op = .indexAddr t x y) (hx : ρ x = .bsl k sz lo n C) (hy : ρ y = .v (.int kk i)) (h0 : 0 ≤ i) (h1 : i < (n : Int)) (hr : lo * sz + i.toNat * sz = off) : OpP P o ρ (.ptr k off) := by
  intro I M w a h
  have q1 := h x (by simp [ho, Op.operands])
  have q2 := h y (by simp [ho, Op.operands])
  rw [hy] at q2
  rw [hx] at q1
  generalize hv : a.eval x = xv at q1
  cases q1 with
  | bsl hI hn hA =>
    obtain rfl := hA (by omega)
    obtain ⟨_, _, _, _, _, _, _, hsz⟩ := run_typeInfo (P := P) (t := e) w
    subst hr
    exact ⟨_, by simp [execOp, ho, hv, q2.val, Instr.indexAt, run_und, asIntOf, h0, h1, hsz, Addr.add_lit], .ptr hI⟩
/-- slices of an array of the call's own -/
theorem OpP.sliceB {t e : TypeId} {x : Operand} {lo hi mx : Option Operand} {l h m : Option Nat} {k sz b0 n C bytes : Nat} {z : Value} [Und P t (.slice e)] [TyI P e z sz bytes]
    (ho : o.op = .slice t x lo hi mx) (hx : ρ x = .bsl k sz b0 n C) (hl : OpI ρ lo l) (hh : OpI ρ hi h) (hm : OpI ρ mx m) (hmh : m.isSome = true → h.isSome = true) {L H E : Nat} (eL : l.getD 0 = L) (eH : h.getD n = H) (eE : m.getD (C - b0) = E) (h1 : L ≤ H) (h2 : H ≤ E) (h3 : E ≤ C - b0) :
    OpP P o ρ (.bsl k sz (b0 + L) (H - L) (b0 + E)) := by
  intro I M w a hop
  have q1 := hop x (by simp [ho, Op.operands])
  rw [hx] at q1
  obtain ⟨_, _, _, _, _, _, _, hsz⟩ := run_typeInfo (P := P) (t := e) w
  have vl : ∀ (y : Operand) (n : Nat), y ∈ o.op.operands.toList → (∃ k i, ρ y = .v (.int k i) ∧ i = (n : Int)) → ∃ k, a.eval y = .int k (n : Int) := by
    rintro y n hy ⟨k, i, r1, rfl⟩
    have := hop y hy
    rw [r1] at this
    exact ⟨k, this.val⟩
  generalize e1 : a.eval x = xv at q1
  cases q1 with
  | @bsl _ _ _ _ _ b A hI hn hA =>
    have run : (execOp a.eval o).run P w = .ok (.value (.slice (if E = L then A else A.map (·.add (L * sz))) (H - L) (E - L))) w := by
      have bl : ∀ code, lo = none ∧ L = 0 ∨ ∃ y, lo = some y ∧ (Instr.sliceBound (a.eval y) H code).run P w = .ok L w := by
        intro code
        cases lo with
        | none => cases l with
          | none => left; exact ⟨rfl, by simpa using eL.symm⟩
          | some k => exact hl.elim
        | some y => cases l with
          | none => exact hl.elim
          | some k =>
            right
            obtain rfl : k = L := by simpa using eL
            exact ⟨y, rfl, run_bound (vl y k (by simp [ho, Op.operands]) hl) h1 code w⟩
      cases mx with
      | none =>
        cases m with
        | some k => exact hm.elim
        | none =>
          obtain rfl : C - b0 = E := by simpa using eE
          have bh : ∀ code, hi = none ∧ H = n ∨ ∃ y, hi = some y ∧ (Instr.sliceBound (a.eval y) (C - b0) code).run P w = .ok H w := by
            intro code
            cases hi with
            | none => cases h with
              | none => left; exact ⟨rfl, by simpa using eH.symm⟩
              | some k => exact hh.elim
            | some y => cases h with
              | none => exact hh.elim
              | some k =>
                right
                obtain rfl : k = H := by simpa using eH
                exact ⟨y, rfl, run_bound (vl y k (by simp [ho, Op.operands]) hh) h2 code w⟩
          rcases bh .sliceAcap with ⟨rfl, rH⟩ | ⟨y2, rfl, bh1⟩ <;> rcases bl .sliceB with ⟨rfl, rL⟩ | ⟨y1, rfl, bl1⟩
          · subst rH rL
            simp [execOp, ho, e1, Instr.sliceAt, run_und, Instr.slice, Instr.sliceBounds, hsz]
          · subst rH
            simp [execOp, ho, e1, Instr.sliceAt, run_und, Instr.slice, Instr.sliceBounds, hsz, bl1]
          · subst rL
            simp [execOp, ho, e1, Instr.sliceAt, run_und, Instr.slice, Instr.sliceBounds, hsz, bh1]
          · simp [execOp, ho, e1, Instr.sliceAt, run_und, Instr.slice, Instr.sliceBounds, hsz, bh1, bl1]
      | some y3 =>
        cases m with
        | none => exact hm.elim
        | some k =>
          obtain rfl : k = E := by simpa using eE
          have bm := run_bound (P := P) (vl y3 k (by simp [ho, Op.operands]) hm) h3 .slice3Acap w
          cases hi with
          | none => cases h with
            | none => simp at hmh
            | some k => exact hh.elim
          | some y2 => cases h with
            | none => exact hh.elim
            | some k2 =>
              obtain rfl : k2 = H := by simpa using eH
              have bh := run_bound (P := P) (vl y2 k2 (by simp [ho, Op.operands]) hh) h2 .slice3B w
              rcases bl .slice3C with ⟨rfl, rL⟩ | ⟨y1, rfl, bl1⟩
              · subst rL
                simp [execOp, ho, e1, Instr.sliceAt, run_und, Instr.slice, Instr.sliceBounds, hsz, bh, bm]
              · simp [execOp, ho, e1, Instr.sliceAt, run_und, Instr.slice, Instr.sliceBounds, hsz, bh, bm, bl1]
    refine ⟨_, run, ?_⟩
    have hc : E - L = b0 + E - (b0 + L) := by omega
    rw [hc]
    refine .bsl hI (by omega) fun hlt => ?_
    rw [if_neg (by omega), hA (by omega)]
    simp [Addr.add_lit, Nat.add_mul]
end
end Go.Proofs.YthogjnckkmfhnaaDoor
/-
  Arrays that are written in place: copy, and what is written no more. Nothing of the dump is used; no condition.
-/
namespace Go.Proofs.YthogjnckkmfhnaaDoor
open Go.RowKit
set_option linter.unusedVariables false
set_option linter.unusedSimpArgs false
section
variable {I : Nat → CI} {M : Nat → Nat} {w : World} {σ σ0 : Nat → Res} {P : Program} {o : Oper} {ρ : Operand → AV}
/-- cells written into a variable -/
theorem box_write (hs : Sto I M w σ) {k b off : Nat} {cs cs' new : List AV} {vs : List Value} (hk : σ k = .box cs) (hI : I k = .box b) (hl : vs.length = new.length) (h1 : ∀ v ∈ vs, v.oneCell' = true)
    (hr : ∀ (i : Nat) (v : Value) (c : AV), vs[i]? = some v → new[i]? = some c → Rp I M w v c) (hb : off + new.length ≤ cs.length) (hc : cs.take off ++ (new ++ cs.drop (off + new.length)) = cs') :
    (storeCells ⟨b, off, none⟩ vs 0).run P w = .ok () (w.setCells b off vs) ∧ Sto I M (w.setCells b off vs) (updS σ [(k, .box cs')]) ∧ Ext (fun b' => b' = b) I I M M w (w.setCells b off vs) := by
  have own := hs.own k
  rw [hk] at own
  obtain ⟨b', cur, e, e1, e2, e3, e4, e5, e6⟩ := own
  obtain rfl : b = b' := by rw [hI] at e1; injection e1
  have hst := run_storeCells_cells (P := P) b off vs 0 w (fun j hj => by
      rw [cell_of_row w b _ cur e (0, 0) e2]
      have : off + j < cur.size := by omega
      simp [this]) (fun j hj => by simp [World.frozen?, e2]) h1
  simp only [Nat.add_zero] at hst
  obtain ⟨a1, a2, a3, a4, a5, a6⟩ := heap_setCells w b cur e (0, 0) vs off e2
  have hext : Ext (fun b' => b' = b) I I M M w (w.setCells b off vs) := ⟨a4, a5, a6, fun _ => CI.le_refl _, ⟨by omega, fun _ => Nat.le_refl _, fun b' o' u ho' hu => by
      have hne : b' ≠ b := by rintro rfl; omega
      rw [World.cell?_of_block (a2 b' hne)]; exact hu⟩, fun b' _ hne => ⟨a2 b' hne, rfl⟩⟩
  refine ⟨hst, hs.upd [k] hext (fun b' h => ⟨k, by simp, by rw [hI, hk]; simp [blkOf, h]⟩) (fun _ _ => rfl) (fun i hi => updS_other _ _ _ (by simpa [keys] using hi)) (fun i hi' => ?_) (fun i hi' b' hb' => ?_) (fun i hi j hj b hne => ?_) (fun b hb => hs.top b (by omega)), hext⟩
  · obtain rfl : i = k := by simpa using hi'
    simp only [updS, if_true, hI]
    have hcl : cs'.length = cs.length := by rw [← hc]; simp; omega
    refine ⟨b, _, e, rfl, a1, e3, by rw [setArr_size, hcl]; exact e4, fun j u hu => ?_, fun j u c hu hcc => ?_⟩
    · rw [setArr_get _ _ _ (by omega)] at hu
      split at hu
      · exact h1 u (List.mem_of_getElem? hu)
      · exact e5 j u hu
    · rw [setArr_get _ _ _ (by omega)] at hu
      rw [← hc] at hcc
      split at hu
      · rename_i hj
        rw [List.getElem?_append_right (by simp; omega), List.length_take, Nat.min_eq_left (by omega), List.getElem?_append_left (by omega)] at hcc
        exact (hr (j - off) u c hu hcc).evo hext.le hext.evo
      · rename_i hj
        refine (e6 j u c hu ?_).evo hext.le hext.evo
        rcases Nat.lt_or_ge j off with h1 | h1
        · rw [List.getElem?_append_left (by simp; omega), List.getElem?_take, if_pos h1] at hcc
          exact hcc
        · rw [List.getElem?_append_right (by simp; omega), List.length_take, Nat.min_eq_left (by omega), List.getElem?_append_right (by omega), List.getElem?_drop] at hcc
          rw [← hcc]; congr 1; omega
  · obtain rfl : i = k := by simpa using hi'
    refine .inr ⟨i, by simp, ?_⟩
    simp only [updS, if_true, hI, blkOf] at hb'
    rw [hI, hk]
    exact hb'
  · obtain rfl : i = k := by simpa using hi
    obtain rfl : j = i := by simpa using hj
    exact absurd rfl hne
/-- what is copied or appended, and its beginnings -/
def SrcN (P : Program) (av : AV) (sz : Nat) (ys : List (List PV)) (ins : Upds) : Prop :=
  ∀ (I : Nat → CI) (M : Nat → Nat) (w : World) (σ : Nat → Res) (v : Value), Rp I M w v av → Sto I M w σ → (∀ q ∈ ins, σ q.1 = q.2) →
    ∃ news : List Value, (∀ w : World, (Builtin.lenOf v).run P w = .ok ys.length w) ∧ (∀ y ∈ ys, y.length = sz) ∧ news.length = ys.length * sz ∧ (∀ u ∈ news, u.oneCell' = true) ∧
      (∀ m, m ≤ ys.length → ∀ w1 : World, w1.heap = w.heap → (Builtin.firstCells sz m v).run P w1 = .ok (news.take (m * sz)).toArray w1) ∧ ∀ (j : Nat) (p : PV), ys.flatten[j]? = some p → ∃ u, news[j]? = some u ∧ RPV M w u p
theorem SrcN.src {av : AV} {sz : Nat} {ys : List (List PV)} {ins : Upds} (h : SrcN P av sz ys ins) : Src P av sz ys ins := by
  intro I M w σ v hv hs hi
  obtain ⟨news, h1, h2, h3, h4, h5, h6⟩ := h I M w σ v hv hs hi
  refine ⟨news, h1, h2, h3, h4, fun w1 hw => ?_, h6⟩
  rw [h5 _ (Nat.le_refl _) w1 hw, ← h3, List.take_length]
theorem first_prefix {w1 : World} {sz m n c b off : Nat} {news : List Value} (hn : news.length = n * sz) (hm : m ≤ n) (hcell : ∀ (j : Nat) (x : Value), news[j]? = some x → w1.cell? ⟨b, off + j, none⟩ = some x) :
    (Builtin.firstCells sz m (.slice (some ⟨b, off, none⟩) n c)).run P w1 = .ok (news.take (m * sz)).toArray w1 := by
  have hl : (news.take (m * sz)).length = m * sz := by
    rw [List.length_take, hn]
    exact Nat.min_eq_left (Nat.mul_le_mul_right _ hm)
  refine run_firstCells_some (P := P) w1 sz m ⟨b, off, none⟩ n c _ hl fun j x hx => ?_
  rw [Addr.add_lit]
  have hj : j < m * sz := by rw [← hl]; exact (List.getElem?_eq_some_iff.1 hx).1
  rw [List.getElem?_take, if_pos hj] at hx
  exact hcell j x hx
theorem first_none {w1 : World} {sz m n c : Nat} {A : Option Addr} (hm : m * sz = 0) : (Builtin.firstCells sz m (.slice A n c)).run P w1 = .ok #[] w1 := by
  cases A <;> simp [Builtin.firstCells, loadCells, loadCellsFrom, hm]
theorem SrcN.dat {av : AV} {sz : Nat} {ys : List (List PV)} {ins : Upds} (d : Dat σ0 av sz ys ins) : SrcN P av sz ys ins := by
  intro I M w σ v hv hs hi
  obtain ⟨A, c, rfl, r⟩ := d.rpv hi hs hv
  cases r with
  | sl b off u hn hc hz hA hM hcell h1 hu =>
    let news := (List.range (ys.length * sz)).map u
    have hnl : news.length = ys.length * sz := by simp [news]
    have hget : ∀ j, j < ys.length * sz → news[j]? = some (u j) := fun j hj => by simp [news, hj]
    refine ⟨news, fun w => by simp [Builtin.lenOf], hz, hnl, fun x hx => ?_, fun m hm w1 hw => ?_, fun j p hp => ?_⟩
    · obtain ⟨j, hj, rfl⟩ := List.mem_map.1 hx
      exact h1 j (by simpa using hj)
    · rcases Nat.eq_zero_or_pos ys.length with h0 | h0
      · have : m = 0 := by omega
        subst this
        rw [first_none (by simp)]; simp
      · rw [hA h0]
        refine first_prefix hnl hm fun j x hx => ?_
        have hj : j < ys.length * sz := by rw [← hnl]; exact (List.getElem?_eq_some_iff.1 hx).1
        rw [hget j hj] at hx
        injection hx with hx
        subst hx
        rw [World.cell?_of_block (w := w) (by rw [hw])]
        exact hcell j hj
    · have hj : j < ys.length * sz := by rw [← flat_len hz]; exact (List.getElem?_eq_some_iff.1 hp).1
      exact ⟨u j, hget j hj, hu j p hp⟩
theorem SrcN.bsl {av : AV} {k sz lo n C : Nat} {cs : List AV} {xs : List (List PV)} (hav : av = .bsl k sz lo n C) (hcs : (cs.drop (lo * sz)).take (n * sz) = bxs xs) (hz : ∀ ys ∈ xs, ys.length = sz) (hn : xs.length = n) : SrcN P av sz xs [(k, .box cs)] := by
  intro I M w σ v hv hs hi
  subst hav
  have own := hs.own k
  rw [hi _ (List.mem_singleton.2 rfl)] at own
  obtain ⟨b, cur, e, e1, e2, e3, e4, e5, e6⟩ := own
  cases hv with
  | @bsl _ _ _ _ _ b' A hI hn' hA =>
    obtain rfl : b' = b := by rw [hI] at e1; injection e1
    let news := (cur.toList.drop (lo * sz)).take (n * sz)
    have hlx := bx_len hz
    have hll : n * sz ≤ cs.length - lo * sz := by
      have := congrArg List.length hcs
      rw [hlx, hn, List.length_take, List.length_drop] at this
      omega
    have hnl : news.length = n * sz := by
      simp only [news, List.length_take, List.length_drop, Array.length_toList, e4]
      omega
    have hget : ∀ (j : Nat) (x : Value), news[j]? = some x → cur[lo * sz + j]? = some x := by
      intro j x hx
      have hj : j < n * sz := by rw [← hnl]; exact (List.getElem?_eq_some_iff.1 hx).1
      simp only [news, List.getElem?_take, if_pos hj, List.getElem?_drop, Array.getElem?_toList] at hx
      exact hx
    subst hn
    refine ⟨news, fun w => by simp [Builtin.lenOf], hz, hnl, fun x hx => ?_, fun m hm w1 hw => ?_, fun j p hp => ?_⟩
    · obtain ⟨j, hj⟩ := List.getElem?_of_mem hx
      exact e5 _ _ (hget j x hj)
    · rcases Nat.eq_zero_or_pos xs.length with h0 | h0
      · have : m = 0 := by omega
        subst this
        rw [first_none (by simp)]; simp
      · obtain rfl := hA (by omega)
        refine first_prefix hnl hm fun j x hx => ?_
        rw [World.cell?_of_block (w := w) (by rw [hw]), cell_of_row w b' _ cur e (0, 0) e2]
        exact hget j x hx
    · have hj : j < xs.length * sz := by rw [← flat_len hz]; exact (List.getElem?_eq_some_iff.1 hp).1
      obtain ⟨u, hu⟩ : ∃ u, news[j]? = some u := ⟨news[j]'(by omega), List.getElem?_eq_getElem (by omega)⟩
      refine ⟨u, hu, Rp.rpv (I := I) (e6 _ u p.av (hget j u hu) ?_)⟩
      have : (bxs xs)[j]? = some p.av := by rw [bxs, List.getElem?_map, hp]; rfl
      rw [← hcs, List.getElem?_take, if_pos hj, List.getElem?_drop] at this
      exact this
/-- copy into an array of the call's own -/
theorem OpS.copyB {x y : Operand} {td ts e : TypeId} {k sz lo n C : Nat} {cs cs' : List AV} {ys : List (List PV)} {insy : Upds} {z : Value} {bytes : Nat} [Und P td (.slice e)] [TyI P e z sz bytes]
    (ho : o.op = .call { callee := .builtin .copy, args := #[x, y], argTypes := #[td, ts] }) (hx : ρ x = .bsl k sz lo n C) (hy : SrcN P (ρ y) sz ys insy) (hC : (lo + n) * sz ≤ cs.length)
    (hc : cs.take (lo * sz) ++ (bxs (ys.take n) ++ cs.drop (lo * sz + (bxs (ys.take n)).length)) = cs') :
    OpS P o ρ ((k, .box cs) :: insy) (.v (.int .i64 ((min ys.length n : Nat) : Int))) [(k, .box cs')] := by
  intro I M w a σ K Q hop hs hi _ hK
  have q1 := hop x (by simp [ho, Op.operands, Call.operands])
  have q2 := hop y (by simp [ho, Op.operands, Call.operands])
  rw [hx] at q1
  have hk := hi _ List.mem_cons_self
  have own := hs.own k
  simp only at hk
  rw [hk] at own
  obtain ⟨b, cur, e', e1, e2, e3, e4, e5, e6⟩ := own
  obtain ⟨news, s1, s2, s3, s4, s5, s6⟩ := hy I M w σ _ q2 hs (fun q hq => hi q (List.mem_cons_of_mem _ hq))
  obtain ⟨_, _, _, _, _, _, _, hsz⟩ := run_typeInfo (P := P) (t := e) w
  generalize eq0 : a.eval x = xv at q1
  generalize eq1 : a.eval y = yv at *
  cases q1 with
  | @bsl _ _ _ _ _ b' A hI hn hA =>
    obtain rfl : b' = b := by rw [hI] at e1; injection e1
    have hz2 : ∀ y ∈ ys.take n, y.length = sz := fun y h => s2 y (List.mem_of_mem_take h)
    have hbl : (bxs (ys.take n)).length = min ys.length n * sz := by rw [bx_len hz2, List.length_take, Nat.min_comm]
    let m := min ys.length n
    have hm : m ≤ ys.length := Nat.min_le_left _ _
    have hmn : m ≤ n := Nat.min_le_right _ _
    let vs := news.take (m * sz)
    have hvl : vs.length = (bxs (ys.take n)).length := by
      rw [hbl]
      simp only [vs, List.length_take, s3]
      exact Nat.min_eq_left (Nat.mul_le_mul_right _ hm)
    have hfit : lo * sz + (bxs (ys.take n)).length ≤ cs.length := by
      rw [hbl]
      show lo * sz + m * sz ≤ cs.length
      have : m * sz ≤ n * sz := Nat.mul_le_mul_right _ hmn
      rw [Nat.add_mul] at hC
      omega
    obtain ⟨w1, w2, w3⟩ := box_write (P := P) hs (off := lo * sz) (vs := vs) (new := bxs (ys.take n)) hk hI hvl (fun v hv => s4 v (List.mem_of_mem_take hv)) (fun i v c hv hcc => by
      have hi' : i < m * sz := by
        have := (List.getElem?_eq_some_iff.1 hcc).1
        rw [hbl] at this; exact this
      simp only [vs, List.getElem?_take, if_pos hi'] at hv
      rw [bxs, flat_take s2, List.map_take, List.getElem?_take] at hcc
      split at hcc
      · rw [List.getElem?_map] at hcc
        obtain ⟨p, hp, rfl⟩ := Option.map_eq_some_iff.1 hcc
        obtain ⟨u, hu, hr⟩ := s6 i p hp
        rw [hv] at hu; injection hu with hu; subst hu
        exact hr.rp
      · cases hcc) hfit hc
    have hf := s5 m hm w rfl
    have hrun : (execOp a.eval o).run P w = .ok (.value (.int .i64 (m : Int))) (w.setCells b' (lo * sz) vs) := by
      rcases Nat.eq_zero_or_pos m with h0 | h0
      · have hv0 : vs = [] := by simp [vs, h0]
        rw [hv0]
        have hm0 : Nat.min ys.length n = 0 := h0
        rw [h0] at hf
        simp only [Nat.zero_mul, List.take_zero] at hf
        cases A with
        | none => simp [execOp, ho, resolve, invoke, builtin, eq0, eq1, Builtin.copy_, run_und, s1, hsz, hm0, hf, goInt, h0, World.setCells]
        | some A => simp [execOp, ho, resolve, invoke, builtin, eq0, eq1, Builtin.copy_, run_und, s1, hsz, hm0, hf, goInt, h0, World.setCells, storeCells]
      · obtain rfl := hA (by omega)
        have hmm : Nat.min ys.length n = m := rfl
        simp [execOp, ho, resolve, invoke, builtin, eq0, eq1, Builtin.copy_, run_und, s1, hsz, hmm, hf, goInt]
        have : (storeCells ⟨b', lo * sz, none⟩ (List.take (m * sz) news) 0).run P w = .ok () (w.setCells b' (lo * sz) vs) := w1
        simp [this]
    unfold Oper.wp
    rw [hrun]
    refine hK _ I M _ (.v _) w2 (w3.wide fun b h => ?_) (fun _ _ => rfl) (fun i hi' b hb => ?_)
    · intro h2; exact ⟨k, by simp [keys], by rw [hI, hk]; simp [blkOf, h2]⟩
    · obtain rfl : i = k := by simpa [keys] using hi'
      refine .inr ⟨i, by simp [keys], ?_⟩
      simp only [updS, if_true, hI, blkOf] at hb
      rw [hI, hk]
      exact hb
end
end Go.Proofs.YthogjnckkmfhnaaDoor
/-
  Arrays that are written no more: they become slices that are read, or rows that are appended to. Nothing of the dump is used; no condition.
-/
namespace Go.Proofs.YthogjnckkmfhnaaDoor
open Go.RowKit
set_option linter.unusedVariables false
set_option linter.unusedSimpArgs false
/-- the values behind the change: t, where it is given, is the row's number -/
inductive Fz (k sz : Nat) (xs : List (List PV)) (t : Option (Nat × Nat)) : AV → AV → Prop
  | row {n C T : Nat} (h : t = some (T, C)) (hn : n = xs.length) : Fz k sz xs t (.bsl k sz 0 n C) (.row T n)
  | all {n C : Nat} (hn : n = xs.length) : Fz k sz xs t (.bsl k sz 0 n C) (.sl sz xs false)
  | sl {lo m C : Nat} (h : lo + m ≤ xs.length) : Fz k sz xs t (.bsl k sz lo m C) (.sl sz ((xs.drop lo).take m) false)
  | same {v : AV} : Fz k sz xs t v v
inductive FzF (k sz : Nat) (xs : List (List PV)) (t : Option (Nat × Nat)) : Fr → Fr → Prop
  | refl {l : Fr} : FzF k sz xs t l l
  | cons {i : Nat} {v v' : AV} {l l' : Fr} (h : Fz k sz xs t v v') (hs : FzF k sz xs t l l') : FzF k sz xs t ((i, v) :: l) ((i, v') :: l')
inductive FzL (k sz : Nat) (xs : List (List PV)) (t : Option (Nat × Nat)) : List AV → List AV → Prop
  | refl {l : List AV} : FzL k sz xs t l l
  | cons {v v' : AV} {l l' : List AV} (h : Fz k sz xs t v v') (hs : FzL k sz xs t l l') : FzL k sz xs t (v :: l) (v' :: l')
inductive FzS (k sz : Nat) (xs : List (List PV)) (t : Option (Nat × Nat)) : Nat → List Res → List Res → Prop
  | nil {i : Nat} : FzS k sz xs t i [] []
  | here {i : Nat} {r : Res} {l l' : List Res} (h : i = k) (hs : FzS k sz xs t (i + 1) l l') : FzS k sz xs t i (r :: l) (.no :: l')
  | box {i : Nat} {cs cs' : List AV} {l l' : List Res} (h : i ≠ k) (hc : FzL k sz xs t cs cs') (hs : FzS k sz xs t (i + 1) l l') : FzS k sz xs t i (.box cs :: l) (.box cs' :: l')
  | same {i : Nat} {r : Res} {l l' : List Res} (h : i ≠ k) (hs : FzS k sz xs t (i + 1) l l') : FzS k sz xs t i (r :: l) (r :: l')
section
variable {k sz : Nat} {xs : List (List PV)} {t : Option (Nat × Nat)}
theorem FzF.get {fr fr' : Fr} (h : FzF k sz xs t fr fr') (i : Nat) : Fz k sz xs t (fr.get i) (fr'.get i) := by
  induction h with
  | refl => exact .same
  | @cons j v v' l l' h hs ih =>
    simp only [Fr.get]
    cases Nat.beq i j with
    | true => exact h
    | false => exact ih
theorem FzL.get {l l' : List AV} (h : FzL k sz xs t l l') : l'.length = l.length ∧ ∀ (i : Nat) (c' : AV), l'[i]? = some c' → ∃ c, l[i]? = some c ∧ Fz k sz xs t c c' := by
  induction h with
  | refl => exact ⟨rfl, fun i c h => ⟨c, h, .same⟩⟩
  | cons h hs ih =>
    refine ⟨by simp [ih.1], fun i c' hc => ?_⟩
    cases i with
    | zero => obtain rfl : _ = c' := by simpa using hc
              exact ⟨_, rfl, h⟩
    | succ i => exact ih.2 i c' (by simpa using hc)
/-- what a numbered thing is behind the change -/
inductive FzR (k sz : Nat) (xs : List (List PV)) (t : Option (Nat × Nat)) : Res → Res → Prop
  | box {cs cs' : List AV} (h : FzL k sz xs t cs cs') : FzR k sz xs t (.box cs) (.box cs')
  | same {r : Res} : FzR k sz xs t r r
theorem FzS.get {j : Nat} {l l' : List Res} (h : FzS k sz xs t j l l') : l'.length = l.length ∧ ∀ i, (j + i = k → i < l.length → sto l' i = .no) ∧ (j + i ≠ k → FzR k sz xs t (sto l i) (sto l' i)) := by
  induction h with
  | nil => exact ⟨rfl, fun i => ⟨fun _ h => by simp at h, fun _ => .same⟩⟩
  | @here j r l l' h hs ih =>
    refine ⟨by simp [ih.1], fun i => ?_⟩
    cases i with
    | zero => exact ⟨fun _ _ => rfl, fun hne => absurd (by omega) hne⟩
    | succ i =>
      have := ih.2 i
      exact ⟨fun h1 h2 => this.1 (by omega) (by simpa using h2), fun h1 => this.2 (by omega)⟩
  | @box j cs cs' l l' h hc hs ih =>
    refine ⟨by simp [ih.1], fun i => ?_⟩
    cases i with
    | zero => exact ⟨fun h1 _ => absurd (by omega) h, fun _ => .box hc⟩
    | succ i =>
      have := ih.2 i
      exact ⟨fun h1 h2 => this.1 (by omega) (by simpa using h2), fun h1 => this.2 (by omega)⟩
  | @same j r l l' h hs ih =>
    refine ⟨by simp [ih.1], fun i => ?_⟩
    cases i with
    | zero => exact ⟨fun h1 _ => absurd (by omega) h, fun _ => .same⟩
    | succ i =>
      have := ih.2 i
      exact ⟨fun h1 h2 => this.1 (by omega) (by simpa using h2), fun h1 => this.2 (by omega)⟩
/-- an array is written no more: what is read of it -/
theorem Sto.freeze {I : Nat → CI} {M : Nat → Nat} {w : World} {σ σ' : Nat → Res} (hs : Sto I M w σ) {cs : List AV} (hk : σ k = .box cs) (hcs : cs.take (xs.length * sz) = bxs xs) (hz : ∀ ys ∈ xs, ys.length = sz) (hσk : σ' k = .no) (hσ : ∀ i, i ≠ k → FzR k sz xs none (σ i) (σ' i)) :
    ∃ M', Sto I M' w σ' ∧ Ext (fun b => I k = .box b) I I M M' w w ∧ ∀ v p q, Fz k sz xs none p q → Rp I M w v p → Rp I M' w v q := by
  have own := hs.own k
  rw [hk] at own
  obtain ⟨b, cur, e, e1, e2, e3, e4, e5, e6⟩ := own
  have hlx := bx_len hz
  have hfit : xs.length * sz ≤ cs.length := by
    have := congrArg List.length hcs
    rw [hlx, List.length_take] at this
    omega
  let M' : Nat → Nat := fun i => if i = b then xs.length * sz else M i
  have hmask : ∀ i, M i ≤ M' i := by
    intro i
    simp only [M']
    split
    · rename_i h; rw [h, e3]; exact Nat.zero_le _
    · exact Nat.le_refl _
  have hM' : ∀ i, i ≠ b → M' i = M i := fun i h => by simp [M', h]
  have hMb : M' b = xs.length * sz := by simp [M']
  have hev : Evo M M' w w := ⟨Nat.le_refl _, hmask, fun _ _ _ _ h => h⟩
  have hblt : b < w.heap.size := (Array.getElem?_eq_some_iff.1 e2).1
  have hext : Ext (fun b => I k = .box b) I I M M' w w := ⟨rfl, rfl, rfl, fun _ => CI.le_refl _, hev, fun b' _ hne => ⟨rfl, hM' b' (by rintro rfl; exact hne e1)⟩⟩
  have hcell : ∀ j, j < xs.length * sz → w.cell? ⟨b, j, none⟩ = some (cur.getD j undef) := by
    intro j hj
    rw [cell_of_row w b j cur e (0, 0) e2]
    simp [show j < cur.size by omega]
  have hone : ∀ j, j < xs.length * sz → (cur.getD j undef).oneCell' = true := by
    intro j hj
    exact e5 j _ (by simp [show j < cur.size by omega])
  have hel : ∀ j p, xs.flatten[j]? = some p → RPV M w (cur.getD j undef) p := by
    intro j p hp
    have hj : j < xs.length * sz := by rw [← flat_len hz]; exact (List.getElem?_eq_some_iff.1 hp).1
    refine Rp.rpv (I := I) (e6 j _ p.av (by simp [show j < cur.size by omega]) ?_)
    have : (bxs xs)[j]? = some p.av := by rw [bxs, List.getElem?_map, hp]; rfl
    rw [← hcs, List.getElem?_take, if_pos hj] at this
    exact this
  have rd : ∀ lo m C A, lo + m ≤ xs.length → (0 < m → A = some ⟨b, lo * sz, none⟩) → m ≤ C → RPV M' w (.slice A m C) (.sl sz ((xs.drop lo).take m)) := by
    intro lo m C A hlm hA hmC
    have hml : m * sz + lo * sz ≤ xs.length * sz := by rw [← Nat.add_mul]; exact Nat.mul_le_mul_right _ (by omega)
    have hz1 : ∀ ys ∈ xs.drop lo, ys.length = sz := fun ys h => hz ys (List.mem_of_mem_drop h)
    refine .sl b (lo * sz) (fun j => cur.getD (lo * sz + j) undef) (by simp; omega) hmC (fun ys h => hz1 ys (List.mem_of_mem_take h)) hA (fun _ => by rw [hMb]; omega) (fun j hj => hcell _ (by omega)) (fun j hj => hone _ (by omega)) (fun j p hp => ?_)
    rw [flat_take hz1, flat_drop hz, List.getElem?_take] at hp
    split at hp
    · rw [List.getElem?_drop] at hp
      exact (hel _ p hp).evo hev
    · cases hp
  have conv : ∀ v p q, Fz k sz xs none p q → Rp I M w v p → Rp I M' w v q := by
    intro v p q h hv
    cases h with
    | row h => cases h
    | same => exact hv.evo (fun _ => CI.le_refl _) hev
    | @all n C hn =>
      cases hv with
      | @bsl _ _ _ _ _ b' A hI hn' hA =>
        obtain rfl : b' = b := by rw [hI] at e1; injection e1
        subst hn
        refine .sl ?_ (by simp)
        have := rd 0 xs.length (C - 0) A (by omega) (fun h => hA (by omega)) (by omega)
        rw [List.drop_zero, List.take_length] at this
        exact this
    | @sl lo m C h =>
      cases hv with
      | @bsl _ _ _ _ _ b' A hI hn' hA =>
        obtain rfl : b' = b := by rw [hI] at e1; injection e1
        exact .sl (rd lo m _ A h (fun h => hA (by omega)) (by omega)) (by simp)
  have blk : ∀ i b', blkOf (I i) (σ' i) = some b' → i ≠ k ∧ blkOf (I i) (σ i) = some b' := by
    intro i b' h
    by_cases hi : i = k
    · subst hi; rw [hσk] at h; cases h1 : I i <;> rw [h1] at h <;> cases h
    · refine ⟨hi, ?_⟩
      have q := hσ i hi
      generalize σ i = r at q
      generalize σ' i = r' at q h
      cases q with
      | box _ => cases h1 : I i <;> rw [h1] at h <;> first | exact h | cases h
      | same => exact h
  have nb : ∀ i b', i ≠ k → blkOf (I i) (σ i) = some b' → b' ≠ b := by
    rintro i b' hi h rfl
    exact hs.dis i k b' hi h (by rw [e1, hk]; rfl)
  refine ⟨M', ⟨fun i => ?_, fun i i' b' hne h1 h2 => hs.dis i i' b' hne (blk i b' h1).2 (blk i' b' h2).2, fun b' hb' => by rw [hM' b' (by omega)]; exact hs.top b' hb', fun tt htt => ?_⟩, hext, conv⟩
  · by_cases hi : i = k
    · subst hi; rw [hσk]; trivial
    · have q := hσ i hi
      have o := hs.own i
      have hb := fun b' => nb i b' hi
      generalize hri : σ i = r at q o hb
      generalize hri' : σ' i = r' at q
      cases q with
      | @box l l' hl =>
        obtain ⟨b', cur', e', f1, f2, f3, f4, f5, f6⟩ := o
        obtain ⟨g1, g2⟩ := hl.get
        refine ⟨b', cur', e', f1, f2, ?_, by rw [g1]; exact f4, f5, fun j v c' hv hc' => ?_⟩
        · rw [hM' b' (hb b' (by rw [f1]; rfl))]; exact f3
        · obtain ⟨c, hc, hf⟩ := g2 j c' hc'
          exact conv v c c' hf (f6 j v c hv hc)
      | same =>
        cases r with
        | no => trivial
        | box l =>
          obtain ⟨b', cur', e', f1, f2, f3, f4, f5, f6⟩ := o
          refine ⟨b', cur', e', f1, f2, ?_, f4, f5, fun j v c hv hc => conv v c c .same (f6 j v c hv hc)⟩
          rw [hM' b' (hb b' (by rw [f1]; rfl))]; exact f3
        | row sz' ys =>
          obtain ⟨A, c, f1, f2, f3⟩ := o
          refine ⟨A, c, f1, f2.evo hev, fun hc => ?_⟩
          obtain ⟨g, cur', e', fr', g1, g2, g3, g4, g5⟩ := f3 hc
          refine ⟨g, cur', e', fr', g1, g2, g3, ?_, g5⟩
          rw [hM' g (hb g (by rw [f1, g1]; simp [blkOf, hc]))]; exact g4
        | mby l =>
          obtain ⟨b', cur', e', fz', f1, f2, f3, f4⟩ := o
          refine ⟨b', cur', e', fz', f1, f2, ?_, f4⟩
          rw [hM' b' (hb b' (by rw [f1]; rfl))]; exact f3
  · obtain ⟨e', fr', t1, t2, t3⟩ := hs.tab tt htt
    refine ⟨e', fr', t1, ?_, t3⟩
    rw [hM' _ (by rintro rfl; exact (hs.own k).noTb (hs.tab tt htt) (by rw [e1, hk]; rfl))]
    exact t2
end
/-- an array is written no more -/
theorem AW.freeze {P : Program} {g : Ent} {c : Code} {Q : Exit → State → Prop} {fr fr' : Fr} {σ σ' : List Res} {cs : List AV} (k sz : Nat) (xs : List (List PV)) (hk : sto σ k = .box cs) (hcs : cs.take (xs.length * sz) = bxs xs) (hz : ∀ ys ∈ xs, ys.length = sz)
    (hf : FzF k sz xs none fr fr') (hσ : FzS k sz xs none 0 σ σ') (h : AW P g c Q ⟨fr', σ'⟩) : AW P g c Q ⟨fr, σ⟩ := by
  refine AW.conv (fun I M w a hst => ?_) h
  obtain ⟨g1, g2⟩ := hσ.get
  have hkl : k < σ.length := by
    rcases Nat.lt_or_ge k σ.length with h | h
    · exact h
    · have : sto σ k = .no := by simp [sto, List.getElem?_eq_none h]
      rw [this] at hk; cases hk
  have own := hst.st.own k
  simp only [hk] at own
  obtain ⟨b, cur, e, e1, e2, _⟩ := own
  obtain ⟨M', m1, m2, m3⟩ := Sto.freeze hst.st hk hcs hz ((g2 k).1 (by omega) hkl) (fun i hi => (g2 i).2 (by omega))
  have hini : ∀ b', I k = .box b' → g.w.heap.size ≤ b' ∨ g.own b' := fun b' hb => hst.ini k b' (by simp only [hk, hb]; rfl)
  refine ⟨I, M', ⟨hst.fr.1, fun t => m3 _ _ _ (hf.get t) (hst.fr.2 t)⟩, hst.df, m1, by have := hst.len; simp only at this ⊢; omega, fun i hi => hst.no i (by simp only at hi ⊢; omega), hst.ext.trans m2 (fun b' hb ho => (hini b' ho).resolve_left (by omega)), fun i b' hb => ?_, hst.gno⟩
  by_cases hi : i = k
  · subst hi
    simp only at hb
    rw [(g2 i).1 (by omega) hkl] at hb
    cases h1 : I i <;> rw [h1] at hb <;> cases hb
  · refine hst.ini i b' ?_
    have q := (g2 i).2 (by omega)
    simp only at hb ⊢
    generalize sto σ i = r at q
    generalize sto σ' i = r' at q hb
    cases q with
    | box _ => cases h1 : I i <;> rw [h1] at hb <;> first | exact hb | cases hb
    | same => exact hb
/-- an array becomes a row that is appended to -/
theorem AW.freezeR {P : Program} {g : Ent} {c : Code} {Q : Exit → State → Prop} {fr fr' : Fr} {σ σ' : List Res} {cs : List AV} (k sz : Nat) (xs : List (List PV)) (C : Nat) (hk : sto σ k = .box cs) (hcs : cs.take (xs.length * sz) = bxs xs) (hz : ∀ ys ∈ xs, ys.length = sz)
    (hC : cs.length = C * sz) (hC0 : 0 < C) (hxC : xs.length ≤ C) (hf : ∀ t, fr.get t = fr'.get t ∨ (fr.get t = .bsl k sz 0 xs.length C ∧ fr'.get t = .row σ.length xs.length)) (hσ : PutAt σ k .no σ') (h : AW P g c Q ⟨fr', σ' ++ [.row sz xs]⟩) : AW P g c Q ⟨fr, σ⟩ := by
  refine AW.conv (fun I M w a hst => ?_) h
  obtain ⟨p1, p2⟩ := hσ.spec
  have hkl : k < σ.length := by
    rcases Nat.lt_or_ge k σ.length with h | h
    · exact h
    · have : sto σ k = .no := by simp [sto, List.getElem?_eq_none h]
      rw [this] at hk; cases hk
  have hlen : σ'.length = σ.length := by rw [← p2, putR_len _ _ _ p1, if_neg (by omega)]
  have hs := hst.st
  simp only at hs
  have hno : I σ.length = .no := hst.no _ (Nat.le_refl _)
  have own := hs.own k
  rw [hk] at own
  obtain ⟨b, cur, e, e1, e2, e3, e4, e5, e6⟩ := own
  have hlx := bx_len hz
  have hfit : xs.length * sz ≤ cs.length := by rw [hC]; exact Nat.mul_le_mul_right _ hxC
  let M' : Nat → Nat := fun i => if i = b then xs.length * sz else M i
  let I' : Nat → CI := fun i => if i = σ.length then CI.row xs sz (some ⟨b, 0, none⟩) C else I i
  have hmask : ∀ i, M i ≤ M' i := by
    intro i
    simp only [M']
    split
    · rename_i h; rw [h, e3]; exact Nat.zero_le _
    · exact Nat.le_refl _
  have hM' : ∀ i, i ≠ b → M' i = M i := fun i h => by simp [M', h]
  have hMb : M' b = xs.length * sz := by simp [M']
  have hle : ∀ i, (I i).le (I' i) := by
    intro i
    by_cases hi : i = σ.length
    · rw [hi, hno]; trivial
    · simp only [I', if_neg hi]; exact CI.le_refl _
  have hIT : I' σ.length = CI.row xs sz (some ⟨b, 0, none⟩) C := by simp [I']
  have hIk : I' k = .box b := by simp only [I', if_neg (show k ≠ σ.length by omega)]; exact e1
  have hev : Evo M M' w w := ⟨Nat.le_refl _, hmask, fun _ _ _ _ h => h⟩
  have hblt : b < w.heap.size := (Array.getElem?_eq_some_iff.1 e2).1
  have hext : Ext (fun b => I k = .box b) I I' M M' w w := ⟨rfl, rfl, rfl, hle, hev, fun b' _ hne => ⟨rfl, hM' b' (by rintro rfl; exact hne e1)⟩⟩
  have hel : ∀ j p, xs.flatten[j]? = some p → RPV M' w (cur.getD j undef) p := by
    intro j p hp
    have hj : j < xs.length * sz := by rw [← flat_len hz]; exact (List.getElem?_eq_some_iff.1 hp).1
    refine (Rp.rpv (I := I) (M := M) (e6 j _ p.av (by simp [show j < cur.size by omega]) ?_)).evo hev
    have : (bxs xs)[j]? = some p.av := by rw [bxs, List.getElem?_map, hp]; rfl
    rw [← hcs, List.getElem?_take, if_pos hj] at this
    exact this
  have hr : RPV M' w (.slice (some ⟨b, 0, none⟩) xs.length C) (.sl sz xs) := by
    refine .sl b 0 (fun j => cur.getD j undef) rfl hxC hz (fun _ => rfl) (fun _ => by rw [hMb]; omega) (fun j hj => ?_) (fun j hj => e5 j _ (by simp [show j < cur.size by omega])) hel
    rw [Nat.zero_add, cell_of_row w b j cur e (0, 0) e2]
    simp [show j < cur.size by omega]
  have hsto : sto (σ' ++ [.row sz xs]) = updS (sto σ) [(k, .no), (σ.length, .row sz xs)] := by
    funext i
    have q := sto_putR σ k .no p1 i
    rw [p2] at q
    simp only [updS]
    rcases Nat.lt_trichotomy i σ.length with hi | hi | hi
    · rw [if_neg (show ¬ i = σ.length by omega), ← q]
      simp only [sto, List.getD_eq_getElem?_getD]; rw [List.getElem?_append_left (by omega)]
    · subst hi
      rw [if_neg (by omega), if_pos rfl]
      simp [sto, List.getD_eq_getElem?_getD, ← hlen]
    · rw [if_neg (by omega), if_neg (by omega)]
      have : sto σ i = .no := by simp [sto, List.getElem?_eq_none (show σ.length ≤ i by omega)]
      rw [this]
      simp [sto, List.getD_eq_getElem?_getD, List.getElem?_eq_none (show (σ' ++ [Res.row sz xs]).length ≤ i by simp; omega)]
  have hbT : ∀ b', blkOf (I' σ.length) (.row sz xs) = some b' → b' = b := by
    intro b' h
    rw [hIT] at h
    simp only [blkOf] at h
    split at h
    · cases h
    · simpa using h.symm
  have hST : Sto I' M' w (sto (σ' ++ [.row sz xs])) := by
    rw [hsto]
    have hne : k ≠ σ.length := by omega
    have uk : updS (sto σ) [(k, .no), (σ.length, .row sz xs)] k = .no := by simp [updS]
    have uT : updS (sto σ) [(k, .no), (σ.length, .row sz xs)] σ.length = .row sz xs := by simp [updS, hne.symm]
    refine hs.upd [k, σ.length] hext (fun b' h => ⟨k, by simp, by rw [hk, h]; rfl⟩) (fun i hi => ?_) (fun i hi => updS_other _ _ _ (by simpa [keys] using hi)) (fun i hi => ?_) (fun i hi b' hb' => ?_) (fun i hi j hj b' hij hb' hb2 => ?_) (fun b' hb' => by rw [hM' b' (by omega)]; exact hs.top b' hb')
    · simp only [List.mem_cons, List.not_mem_nil, or_false, not_or] at hi
      simp only [I', if_neg hi.2]
    · simp only [List.mem_cons, List.not_mem_nil, or_false] at hi
      rcases hi with rfl | rfl
      · rw [uk]; trivial
      · rw [uT]
        refine ⟨some ⟨b, 0, none⟩, C, hIT, hr, fun _ => ⟨b, cur, e, (0, 0), rfl, e2, by omega, hMb, fun o ho h => by simp at h⟩⟩
    · simp only [List.mem_cons, List.not_mem_nil, or_false] at hi
      rcases hi with rfl | rfl
      · rw [uk, hIk] at hb'; cases hb'
      · rw [uT] at hb'
        have := hbT b' hb'
        subst this
        exact .inr ⟨k, by simp, by rw [hk, e1]; rfl⟩
    · simp only [List.mem_cons, List.not_mem_nil, or_false] at hi hj
      rcases hi with rfl | rfl
      · rw [uk, hIk] at hb'; cases hb'
      · rcases hj with rfl | rfl
        · rw [uk, hIk] at hb2; cases hb2
        · exact hij rfl
  have hini : ∀ b', I k = .box b' → g.w.heap.size ≤ b' ∨ g.own b' := fun b' hb => hst.ini k b' (by simp only [hk, hb]; rfl)
  refine ⟨I', M', ⟨hst.fr.1, fun t => ?_⟩, hst.df, hST, by have := hst.len; simp at this ⊢; omega, fun i hi => ?_, hst.ext.trans hext (fun b' hb ho => (hini b' ho).resolve_left (by omega)), fun i b' hb => ?_, hst.gno⟩
  · have hv := hst.fr.2 t
    simp only at hv ⊢
    rcases hf t with q | ⟨q1, q2⟩
    · rw [q] at hv; exact hv.evo hle hev
    · rw [q1] at hv
      rw [q2]
      generalize a.tmps.getD t undef = x at hv
      cases hv with
      | @bsl _ _ _ _ _ b' A hI hn hA =>
        obtain rfl : b' = b := by rw [hI] at e1; injection e1
        obtain rfl := hA hC0
        have : (⟨b', 0 * sz, none⟩ : Addr) = ⟨b', 0, none⟩ := by simp
        rw [this]
        exact .row hIT (Nat.le_refl _) (by rw [List.take_length]; exact hr) fun _ => ⟨rfl, rfl⟩
  · simp only [List.length_append, List.length_cons, List.length_nil] at hi
    simp only [I', if_neg (show i ≠ σ.length by omega)]
    exact hst.no i (by simp only; omega)
  · simp only at hb
    rw [hsto] at hb
    by_cases h1 : i = k
    · subst h1
      simp only [updS, if_true, hIk] at hb
      cases hb
    · by_cases h2 : i = σ.length
      · subst h2
        simp only [updS, if_neg h1, if_true] at hb
        have := hbT b' hb
        subst this
        exact hini _ e1
      · simp only [updS, if_neg h1, if_neg h2, I'] at hb
        exact hst.ini i b' hb
end Go.Proofs.YthogjnckkmfhnaaDoor
/-
  append of zeros (make), and append to a slice without spare places that is written in place afterwards. Nothing of the dump is used; no condition.
-/
namespace Go.Proofs.YthogjnckkmfhnaaDoor
open Go.RowKit
set_option linter.unusedVariables false
set_option linter.unusedSimpArgs false
set_option maxHeartbeats 1000000 in
theorem run_appz_core {P : Program} {t tx e ty : TypeId} {k1 k2 : IntKind} {z : Value} {sz bytes : Nat} [Und P t (.slice e)] [Und P tx (.int k1)] [TyI P e z sz bytes] (hzs : z.cells.size = sz) (hz1 : z.cells.toList.all (·.oneCell') = true)
    {w : World} {A : Option Addr} {n c m : Nat} {olds : List Value}
    (hol : olds.length = n * sz) (hA : 0 < n → ∃ b off, A = some ⟨b, off, none⟩ ∧ ∀ (j : Nat) (u : Value), olds[j]? = some u → w.cell? ⟨b, off + j, none⟩ = some u)
    (hin : n + m ≤ c → 0 < m → ∃ g cur e fr, A = some ⟨g, 0, none⟩ ∧ w.heap[g]? = some (.cells cur e fr) ∧ cur.size = c * sz ∧ Unfr fr cur.size)
    (hb : (n + m) * bytes ≤ 140737488355328) (h63 : n + m ≤ maxLen) :
    App3 P t tx ty e z sz w A n c m (.int k2 (m : Int)) (Builtin.zeroCells z.cells m).toList olds := by
  obtain ⟨i, hi, hz, hs, hby, hti, hzv, hsz⟩ := run_typeInfo (P := P) (t := e) w
  have hxt : ∀ w : World, (underlying tx).run P w = .ok (.int k1) w := fun w => run_und w
  have hm : n + m ≤ 9223372036854775807 := by simp only [maxLen] at h63; omega
  have hw : IntKind.i64.wrap (m : Int) = m := IntWalk.i64_in _ (by omega)
  have m0 : ¬ ((m : Int) < 0) := by omega
  have mb0 : m * bytes ≤ (n + m) * bytes := Nat.mul_le_mul_right _ (by omega)
  have mb : ¬ (281474976710656 < (m : Int) * (bytes : Int)) := by
    have : (m : Int) * (bytes : Int) = ((m * bytes : Nat) : Int) := by simp
    rw [this]; omega
  have happ : ∀ w : World, (if m * sz = 0 then pure #[] else do pure (Builtin.zeroCells (← zeroValue e).cells m) : Sem (Array Value)).run P w = .ok (Builtin.zeroCells z.cells m) w := by
    intro w
    by_cases h0 : m * sz = 0
    · rw [if_pos h0]
      have : Builtin.zeroCells z.cells m = #[] := by simp [Builtin.zeroCells, hzs, h0]
      rw [this]; simp
    · rw [if_neg h0]; simp [zeroValue, typeInfo, hi, hz]
  have hzl : (Builtin.zeroCells z.cells m).toList.length = m * sz := by simp [size_zeroCells, hzs]
  unfold App3
  by_cases hroom : n + m ≤ c
  · rcases Nat.eq_zero_or_pos m with hm0 | hm0
    · left
      subst hm0
      refine ⟨hroom, rfl, ?_⟩
      have hw0 : IntKind.i64.wrap 0 = 0 := rfl
      cases A <;> simp [Builtin.append_, run_und, sizeOf, typeInfo, hi, hs, hby, hxt, asInt, asIntOf, hw0, storeCells, show n ≤ c from hroom]
    · right; left
      refine ⟨hroom, hm0, ?_⟩
      obtain ⟨g, cur, e', fr, rfl, hg, hcs, hun⟩ := hin hroom hm0
      refine ⟨g, rfl, ?_⟩
      have hle : n * sz + (Builtin.zeroCells z.cells m).toList.length ≤ cur.size := by rw [hzl, hcs, ← Nat.add_mul]; exact Nat.mul_le_mul_right _ hroom
      have h1 : ∀ v ∈ (Builtin.zeroCells z.cells m).toList, v.oneCell' = true := by
        intro v hv
        simp only [Builtin.zeroCells, Array.toList_map, List.mem_map] at hv
        obtain ⟨j, hj, rfl⟩ := hv
        have hj' : j < m * z.cells.size := by simpa using hj
        have hpos : 0 < z.cells.size := by
          rcases Nat.eq_zero_or_pos z.cells.size with h | h
          · rw [h] at hj'; omega
          · exact h
        have hlt := Nat.mod_lt j hpos
        simp only [hlt, getElem!_pos]
        exact List.all_eq_true.1 hz1 _ (by simp)
      have hst := run_storeCells_cells (P := P) g (n * sz) (Builtin.zeroCells z.cells m).toList 0 w (fun j hj => by
          rw [cell_of_row w g _ cur e' fr hg]
          have : n * sz + j < cur.size := by omega
          simp [this]) (fun j hj => by
          have := hun (n * sz + 0 + j) (by omega)
          simp only [World.frozen?, hg, Bool.and_eq_false_iff, decide_eq_false_iff_not]
          omega) h1
      simp only [Nat.add_zero] at hst
      have ha := happ w
      by_cases h0 : m * sz = 0
      · rw [if_pos h0] at ha
        simp at ha
        simp [Builtin.append_, run_und, sizeOf, typeInfo, hi, hs, hby, hxt, asInt, asIntOf, hw, m0, mb, hroom, Addr.add_lit, h0]
        simp [ha, storeCells, World.setCells]
      · simp [Builtin.append_, run_und, sizeOf, typeInfo, hi, hs, hby, hxt, asInt, asIntOf, hw, m0, mb, hroom, Addr.add_lit, h0, zeroValue, hz, hst]
  · right; right
    have hc : c < n + m := by omega
    refine ⟨hc, grownCap w (n + m) c e, grownCap_ge w (n + m) c e, ?_⟩
    have h63' : ¬ (9223372036854775807 < ((n : Int) + (m : Int))) := by omega
    have hfit : ¬ (281474976710656 < Builtin.nextslicecap (n + m) c * bytes) := by have := growslice_fits hc hb; omega
    have hold : (Builtin.firstCells sz n (.slice A n c)).run P w.drew = .ok olds.toArray w.drew := by
      rcases Nat.eq_zero_or_pos n with h0 | h0
      · subst h0
        have : olds = [] := List.eq_nil_of_length_eq_zero (by simpa using hol)
        subst this
        cases A <;> simp [Builtin.firstCells, loadCells, loadCellsFrom]
      · obtain ⟨b, off, rfl, hcell⟩ := hA h0
        exact run_firstCells_some (P := P) w.drew sz n ⟨b, off, none⟩ n c olds hol (fun j v hv => by rw [Addr.add_lit]; simpa using hcell j v hv)
    have ha := happ w
    by_cases h0 : m * sz = 0
    · rw [if_pos h0] at ha
      simp at ha
      simp [Builtin.append_, run_und, sizeOf, typeInfo, zeroValue, hi, hs, hz, hby, hxt, asInt, asIntOf, hw, m0, mb, hroom, h63', hfit, Question.forced, hold, newRow, grownCap, h0]
      simp [ha]
    · simp [Builtin.append_, run_und, sizeOf, typeInfo, zeroValue, hi, hs, hz, hby, hxt, asInt, asIntOf, hw, m0, mb, hroom, h63', hfit, Question.forced, hold, newRow, grownCap, h0]
theorem zeroCells_get (cs : Array Value) (m j : Nat) : (Builtin.zeroCells cs m)[j]? = if j < m * cs.size then some (cs[j % cs.size]!) else none := by
  by_cases h : j < m * cs.size
  · rw [if_pos h]; simp [Builtin.zeroCells, h]
  · rw [if_neg h]; simp [Builtin.zeroCells, h]
theorem zrep_get (zs : List PV) : ∀ (m i : Nat), (List.replicate m zs).flatten[i]? = if i < m * zs.length then zs[i % zs.length]? else none := by
  intro m
  induction m with
  | zero => intro i; simp
  | succ m ih =>
    intro i
    rw [List.replicate_succ, List.flatten_cons]
    rcases Nat.lt_or_ge i zs.length with h | h
    · rw [List.getElem?_append_left h, if_pos (by rw [Nat.add_mul]; omega), Nat.mod_eq_of_lt h]
    · rw [List.getElem?_append_right h, ih]
      have e : i % zs.length = (i - zs.length) % zs.length := by rw [← Nat.mod_eq_sub_mod h]
      rw [e]
      by_cases h2 : i - zs.length < m * zs.length
      · rw [if_pos h2, if_pos (by rw [Nat.add_mul]; omega)]
      · rw [if_neg h2, if_neg (by rw [Nat.add_mul]; omega)]
/-- zeros -/
theorem SrcG.zeros {P : Program} {t tx e : TypeId} {k1 k2 : IntKind} {z : Value} {sz bytes m : Nat} {a : Int} {av : AV} [Und P t (.slice e)] [Und P tx (.int k1)] [TyI P e z sz bytes] (hzs : z.cells.size = sz) (hz1 : z.cells.toList.all (·.oneCell') = true) (hav : av = .v (.int k2 a)) (ha : a = (m : Int)) :
    SrcG P t tx e z bytes av sz (List.replicate m (z.cells.toList.map PV.v)) [] := by
  intro I M w σ v hv hs hi
  subst hav ha
  obtain rfl := hv.val
  have hl : (List.replicate m (z.cells.toList.map PV.v)).length = m := by simp
  refine ⟨(Builtin.zeroCells z.cells m).toList, fun y hy => by rw [(List.mem_replicate.1 hy).2]; simp [hzs], by simp [size_zeroCells, hzs], fun v hv => ?_, fun j p hp => ?_, fun ty A n c olds h1 h2 h3 h4 h5 => ?_⟩
  · obtain ⟨j, hj⟩ := List.getElem?_of_mem hv
    rw [Array.getElem?_toList, zeroCells_get] at hj
    split at hj
    · rename_i hlt
      injection hj with hj
      have hpos : 0 < z.cells.size := by
        rcases Nat.eq_zero_or_pos z.cells.size with h | h
        · rw [h] at hlt; omega
        · exact h
      have hm := Nat.mod_lt j hpos
      simp only [hm, getElem!_pos] at hj
      rw [← hj]
      exact List.all_eq_true.1 hz1 _ (by simp)
    · cases hj
  · rw [zrep_get] at hp
    simp only [List.length_map, Array.length_toList] at hp
    split at hp
    · rename_i hlt
      rw [List.getElem?_map] at hp
      obtain ⟨u, hu, rfl⟩ := Option.map_eq_some_iff.1 hp
      refine ⟨u, ?_, .v _⟩
      rw [Array.getElem?_toList, zeroCells_get, if_pos hlt]
      rw [Array.getElem?_toList] at hu
      have := (Array.getElem?_eq_some_iff.1 hu).1
      simp only [this, getElem!_pos]
      rw [Array.getElem?_eq_getElem this] at hu
      exact hu
    · cases hp
  · rw [hl] at h3 h4 h5 ⊢
    exact run_appz_core hzs hz1 h1 h2 h3 h4 h5
end Go.Proofs.YthogjnckkmfhnaaDoor
/-
  Rules of a walk for arrays that are written in place. Nothing of the dump is used; no condition.
-/
namespace Go.Proofs.YthogjnckkmfhnaaDoor
open Go.RowKit
set_option linter.unusedVariables false
set_option linter.unusedSimpArgs false
section
variable {P : Program} {n : Nat} {ops : List Oper} {chk : List FP → Bool} {K : State → Prop} {rest : List Oper} {o : Oper} {fr : Fr} {σ : List Res} {acc : List FP} {ρ : Operand → AV} {σ0 : Nat → Res}
theorem putEnd (σ : List Res) (r : Res) : PutAt σ σ.length r (σ ++ [r]) := by
  induction σ with
  | nil => exact PutAt.new
  | cons q l ih => exact PutAt.there ih
theorem nat_of {a : Int} (h : 0 ≤ a) : a = (a.toNat : Int) := (Int.toNat_of_nonneg h).symm
theorem Run.mkB {d t e k m sz bytes : Nat} {x y : Operand} {kl kc : IntKind} {a : Int} {z : Value} {σ' : List Res} [Und P t (.slice e)] [TyI P e z sz bytes] (ho : o.dst = some d) (hop : o.op = .makeSlice t x y) (hw : wantA ops fr o = some true) (hd : Nat.blt d n = true)
    (hx : evA fr x = .v (.int kl a)) (hy : evA fr y = .v (.int kc a)) (hr : Run P n ops chk K rest ⟨(d, .bsl k sz 0 m m) :: fr, σ'⟩ (acc ++ [([], [k])])) (ha : a = (m : Int) := by (first | assumption | rfl | exact nat_of (by omega))) (he : Ends σ k := by ((repeat constructor); first | done | fail))
    (hz : z.cells.toList.all (·.oneCell') = true := by rfl) (hzs : z.cells.size = sz := by rfl) (hb : m * bytes ≤ 140737488355328 := by (first | omega | (simp [maxLen]; omega))) (h63 : m ≤ maxLen := by (simp only [maxLen]; omega))
    (hσ : PutAt σ k (.box (bxs (List.replicate m (z.cells.toList.map .v)))) σ' := by ((repeat constructor); first | done | fail)) : Run P n ops chk K (o :: rest) ⟨fr, σ⟩ acc :=
  .op (ins := []) (outs := [(k, .box (bxs (List.replicate m (z.cells.toList.map .v))))]) (v := .bsl k sz 0 m m) hw (by rw [ho]; exact hd) (OpS.makeB hop hx hy ha hz hzs hb h63) (fun _ h => by cases h) (okU_one hσ).1 (fun k' hk => by
    obtain rfl : k' = k := by simpa [keys] using hk
    exact .inr (Nat.le_of_eq he.spec.symm)) (by rw [ho, (okU_one hσ).2]; exact hr)
/-- what is copied, and that it is there -/
def SrcNI (P : Program) (av : AV) (σ : List Res) (sz : Nat) (ys : List (List PV)) (ins : Upds) : Prop := SrcN P av sz ys ins ∧ ∀ q ∈ ins, sto σ q.1 = q.2
theorem SrcNI.dat {av : AV} {sz : Nat} {ys : List (List PV)} {ins : Upds} (d : Dat (sto σ) av sz ys ins) : SrcNI P av σ sz ys ins := ⟨SrcN.dat d, d.ins⟩
theorem SrcNI.bsl {av : AV} {k sz lo m C : Nat} {xs ys : List (List PV)} (hav : av = .bsl k sz lo m C) (hk : sto σ k = .box (bxs xs)) (hz : ∀ y ∈ xs, y.length = sz) (hn : lo + m ≤ xs.length) (hy : (xs.drop lo).take m = ys) : SrcNI P av σ sz ys [(k, .box (bxs xs))] := by
  subst hy
  have hz1 : ∀ y ∈ xs.drop lo, y.length = sz := fun y h => hz y (List.mem_of_mem_drop h)
  exact ⟨SrcN.bsl hav (by rw [bx_take hz1, bx_drop hz]) (fun y h => hz1 y (List.mem_of_mem_take h)) (by simp; omega), one_in hk⟩
theorem Run.cpB {d td ts e k lo m C sz bytes : Nat} {x y : Operand} {z : Value} {xs ys zs : List (List PV)} {insy : Upds} {ks : List Nat} {r : Int} {σ' : List Res} [Und P td (.slice e)] [TyI P e z sz bytes] (ho : o.dst = some d) (hop : o.op = .call { callee := .builtin .copy, args := #[x, y], argTypes := #[td, ts] })
    (hw : wantA ops fr o = some true) (hd : Nat.blt d n = true) (hx : evA fr x = .bsl k sz lo m C) (hk : sto σ k = .box (bxs xs)) (hy : SrcNI P (evA fr y) σ sz ys insy) (hsx : ∀ y ∈ xs, y.length = sz) (hC : lo + m ≤ xs.length)
    (hz : xs.take lo ++ (ys.take m ++ xs.drop (lo + (ys.take m).length)) = zs) (hσ : PutAt σ k (.box (bxs zs)) σ') (hks : k :: keys insy = ks) (hrr : ((min ys.length m : Nat) : Int) = r)
    (hr : Run P n ops chk K rest ⟨(d, .v (.int .i64 r)) :: fr, σ'⟩ (acc ++ [(ks, [k])])) : Run P n ops chk K (o :: rest) ⟨fr, σ⟩ acc := by
  subst hrr hz
  obtain ⟨hy1, hy2⟩ := hy
  have hys : ∀ w : World, True := fun _ => trivial
  refine .op (ins := (k, .box (bxs xs)) :: insy) (outs := [(k, .box (bxs (xs.take lo ++ (ys.take m ++ xs.drop (lo + (ys.take m).length)))))]) (v := .v (.int .i64 ((min ys.length m : Nat) : Int))) hw (by rw [ho]; exact hd) ?_ (fun q hq => by
    rcases List.mem_cons.1 hq with rfl | hq
    · exact hk
    · exact hy2 q hq) (okU_one hσ).1 (fun k' hk' => .inl (by
      obtain rfl : k' = k := by simpa [keys] using hk'
      simp [keys])) (by
      have : keys ((k, Res.box (bxs xs)) :: insy) = ks := by rw [← hks]; rfl
      rw [ho, (okU_one hσ).2, this]; exact hr)
  intro I M w a σ1 K1 Q1 hop1 hs1 hi1 hn1 hK1
  -- the sizes of what is copied
  have q2 := hop1 y (by simp [hop, Op.operands, Call.operands])
  obtain ⟨news, s1, s2, _⟩ := hy1 I M w σ1 _ q2 hs1 (fun q hq => hi1 q (List.mem_cons_of_mem _ hq))
  have hz2 : ∀ y ∈ ys.take m, y.length = sz := fun y h => s2 y (List.mem_of_mem_take h)
  refine OpS.copyB (o := o) (ρ := evA fr) (k := k) (cs := bxs xs) (cs' := bxs (xs.take lo ++ (ys.take m ++ xs.drop (lo + (ys.take m).length)))) hop hx hy1 (by rw [bx_len hsx]; exact Nat.mul_le_mul_right _ hC) ?_ I M w a σ1 K1 Q1 hop1 hs1 hi1 hn1 hK1
  rw [bx_append, bx_append, bx_take hsx, bx_drop hsx, bx_len hz2, Nat.add_mul]
/-- append of zeros to a row -/
theorem Run.apRZ {d k nn m sz bytes : Nat} {s x : Operand} {t tx e : TypeId} {k1 k2 : IntKind} {a : Int} {z : Value} {xs zs : List (List PV)} {σ' : List Res} [Und P t (.slice e)] [Und P tx (.int k1)] [TyI P e z sz bytes] (ho : o.dst = some d) (hop : o.op = .call { callee := .builtin .append, args := #[s, x], argTypes := #[t, tx] })
    (hw : wantA ops fr o = some true) (hd : Nat.blt d n = true) (hsv : evA fr s = .row k nn) (hk : sto σ k = .row sz xs) (hn : nn = xs.length) (hx : evA fr x = .v (.int k2 a)) (hr : Run P n ops chk K rest ⟨(d, .row k zs.length) :: fr, σ'⟩ (acc ++ [([k], [k])]))
    (ha : a = (m : Int) := by (first | assumption | rfl | exact nat_of (by omega))) (hz : xs ++ List.replicate m (z.cells.toList.map PV.v) = zs := by (first | assumption | rfl)) (hzs : z.cells.size = sz := by rfl) (hz1 : z.cells.toList.all (·.oneCell') = true := by rfl)
    (hb : zs.length * bytes ≤ 140737488355328 := by (first | omega | (simp only [List.length_append, List.length_replicate, maxLen]; omega) | (simp [maxLen]; omega))) (h63 : zs.length ≤ maxLen := by (first | (simp only [maxLen]; omega) | (simp only [List.length_append, List.length_replicate, maxLen]; omega) | (simp [maxLen]; omega)))
    (hσ : PutAt σ k (.row sz zs) σ' := by ((repeat constructor); first | done | fail)) : Run P n ops chk K (o :: rest) ⟨fr, σ⟩ acc := by
  subst hz
  have hx' := SrcG.zeros (P := P) (t := t) (tx := tx) (e := e) (k1 := k1) (bytes := bytes) hzs hz1 hx ha
  exact .op (ins := [(k, .row sz xs)]) (outs := [(k, .row sz (xs ++ List.replicate m (z.cells.toList.map PV.v)))]) (v := .row k (xs ++ List.replicate m (z.cells.toList.map PV.v)).length) hw (by rw [ho]; exact hd) (OpS.appRowG hop hzs hsv hn hx' (by rw [hn, List.length_append]) hb h63) (one_in hk) (okU_one hσ).1 (fun k' hk' => .inl (by
      obtain rfl : k' = k := by simpa [keys] using hk'
      simp [keys])) (by rw [ho, (okU_one hσ).2]; exact hr)
/-- append of zeros to nothing, or to a slice without spare places -/
theorem Run.apFZ {d k m sz bytes : Nat} {s x : Operand} {t tx e : TypeId} {k1 k2 : IntKind} {a : Int} {z : Value} {xs zs : List (List PV)} {σ' : List Res} [Und P t (.slice e)] [Und P tx (.int k1)] [TyI P e z sz bytes] (ho : o.dst = some d) (hop : o.op = .call { callee := .builtin .append, args := #[s, x], argTypes := #[t, tx] })
    (hw : wantA ops fr o = some true) (hd : Nat.blt d n = true) (hsv : evA fr s = .sl sz xs true ∨ evA fr s = .v (.slice none 0 0) ∧ xs = []) (hx : evA fr x = .v (.int k2 a)) (hr : Run P n ops chk K rest ⟨(d, .row k zs.length) :: fr, σ'⟩ (acc ++ [([], [k])]))
    (ha : a = (m : Int) := by (first | assumption | rfl | exact nat_of (by omega))) (hz : xs ++ List.replicate m (z.cells.toList.map PV.v) = zs := by (first | assumption | rfl)) (hzs : z.cells.size = sz := by rfl) (hz1 : z.cells.toList.all (·.oneCell') = true := by rfl) (he : Ends σ k := by ((repeat constructor); first | done | fail))
    (hb : zs.length * bytes ≤ 140737488355328 := by (first | omega | (simp only [List.length_append, List.length_replicate, maxLen]; omega) | (simp [maxLen]; omega))) (h63 : zs.length ≤ maxLen := by (first | (simp only [maxLen]; omega) | (simp only [List.length_append, List.length_replicate, maxLen]; omega) | (simp [maxLen]; omega)))
    (hσ : PutAt σ k (.row sz zs) σ' := by ((repeat constructor); first | done | fail)) : Run P n ops chk K (o :: rest) ⟨fr, σ⟩ acc := by
  subst hz
  have hx' := SrcG.zeros (P := P) (t := t) (tx := tx) (e := e) (k1 := k1) (bytes := bytes) hzs hz1 hx ha
  exact .op (ins := []) (outs := [(k, .row sz (xs ++ List.replicate m (z.cells.toList.map PV.v)))]) (v := .row k (xs ++ List.replicate m (z.cells.toList.map PV.v)).length) hw (by rw [ho]; exact hd) (OpS.appFullG k hop hzs hsv hx' (by rw [List.length_append]) (by simp [keys]) hb h63) ins_nil (okU_one hσ).1 (fun k' hk' => .inr (by
      obtain rfl : k' = k := by simpa [keys] using hk'
      exact Nat.le_of_eq he.spec.symm)) (by rw [ho, (okU_one hσ).2]; exact hr)
theorem OpP.capNil {x : Operand} {t e : TypeId} [Und P t (.slice e)] (ho : o.op = .call { callee := .builtin .cap, args := #[x], argTypes := #[t] }) (hx : ρ x = .v (.slice none 0 0)) : OpP P o ρ (.v (.int .i64 0)) := by
  intro I M w a h
  have h1 := h x (by simp [ho, Op.operands, Call.operands])
  rw [hx] at h1
  exact ⟨_, by simp [execOp, ho, resolve, invoke, builtin, h1.val, Builtin.cap_, run_und, goInt], .v _⟩
/-- a load out of an array whose cell is told by a fact -/
theorem Run.ld1F {d t x k off : _} {D : TypeDesc} {cs : List AV} {c : AV} [Und P t D] (ho : o.dst = some d) (hop : o.op = .load t x) (hw : wantA ops fr o = some true) (hd : Nat.blt d n = true) (hx : evA fr x = .ptr k off) (hD : isAggD D = false) (hk : sto σ k = .box cs)
    (hr : Run P n ops chk K rest ⟨(d, c) :: fr, σ⟩ (acc ++ [([k], [])])) (hc : cs[off]? = some c := by assumption) : Run P n ops chk K (o :: rest) ⟨fr, σ⟩ acc := Run.ld1 ho hop hw hd hx hD hk hc hr
theorem Run.ldNF {d t x k off : _} {D : TypeDesc} {z : Value} {sz bytes : Nat} {cs l : List AV} [Und P t D] [TyI P t z sz bytes] (ho : o.dst = some d) (hop : o.op = .load t x) (hw : wantA ops fr o = some true) (hd : Nat.blt d n = true) (hx : evA fr x = .ptr k off) (hD : isAggD D = true) (hk : sto σ k = .box cs)
    (hr : Run P n ops chk K rest ⟨(d, .agg l) :: fr, σ⟩ (acc ++ [([k], [])])) (hc : Sub cs off sz l := by assumption) : Run P n ops chk K (o :: rest) ⟨fr, σ⟩ acc := Run.ldN ho hop hw hd hx hD hk hc hr
theorem Run.stF {t x y k off : _} {v : AV} {z : Value} {sz bytes : Nat} {cs new cs' : List AV} {σ' : List Res} [TyI P t z sz bytes] (ho : o.dst = none) (hop : o.op = .store t x y) (hw : wantA ops fr o = some true) (hx : evA fr x = .ptr k off) (hk : sto σ k = .box cs) (hr : Run P n ops chk K rest ⟨fr, σ'⟩ (acc ++ [([k], [k])]))
    (hy : evA fr y = v := by ((conv => lhs; whnf) <;> rfl)) (hc : Cells v new := by (first | exact Cells.agg | exact Cells.one rfl)) (hl : Nat.beq new.length sz = true := by rfl) (hcs : Over cs off new cs' := by assumption) (hσ : PutAt σ k (.box cs') σ' := by ((repeat constructor); first | done | fail)) : Run P n ops chk K (o :: rest) ⟨fr, σ⟩ acc :=
  Run.st ho hop hw hx hy hc hl hk hcs hσ hr
theorem Rp.bslLe {I : Nat → CI} {M : Nat → Nat} {w : World} {v : Value} {k sz lo n C : Nat} (h : Rp I M w v (.bsl k sz lo n C)) : lo + n ≤ C := by cases h; assumption
theorem OpP.sliceBH {t e : TypeId} {x y : Operand} {kk : IntKind} {h : Int} {k sz b0 n0 C bytes : Nat} {z : Value} [Und P t (.slice e)] [TyI P e z sz bytes] (ho : o.op = .slice t x none (some y) none) (hx : ρ x = .bsl k sz b0 n0 C) (hy : ρ y = .v (.int kk h))
    (h0 : 0 ≤ h := by omega) (hh : b0 + h.toNat ≤ C := by omega) : OpP P o ρ (.bsl k sz b0 h.toNat C) := by
  intro I M w a hop
  have q := Rp.bslLe (hx ▸ hop x (by simp [ho, Op.operands]))
  have := OpP.sliceB (P := P) (o := o) (ρ := ρ) (l := none) (h := some h.toNat) (m := none) ho hx OpI.no (OpI.so hy (nat_of h0)) OpI.no (by simp) (L := 0) rfl rfl rfl (Nat.zero_le _) (by simp only [Option.getD_some, Option.getD_none]; omega) (Nat.le_refl _) I M w a hop
  simp only [Option.getD_some, Option.getD_none, Nat.add_zero, Nat.sub_zero, show b0 + (C - b0) = C by omega] at this
  exact this
theorem OpP.sliceBL {t e : TypeId} {x y : Operand} {kk : IntKind} {l : Int} {k sz b0 n0 C lo bytes : Nat} {z : Value} [Und P t (.slice e)] [TyI P e z sz bytes] (ho : o.op = .slice t x (some y) none none) (hx : ρ x = .bsl k sz b0 n0 C) (hy : ρ y = .v (.int kk l))
    (h0 : 0 ≤ l := by omega) (hh : l.toNat ≤ n0 := by omega) (hlo : b0 + l.toNat = lo := by first | ((conv => lhs; simp only [Nat.zero_add]); first | done | rfl) | rfl) : OpP P o ρ (.bsl k sz lo (n0 - l.toNat) C) := by
  subst hlo
  intro I M w a hop
  have q := Rp.bslLe (hx ▸ hop x (by simp [ho, Op.operands]))
  have := OpP.sliceB (P := P) (o := o) (ρ := ρ) (l := some l.toNat) (h := none) (m := none) ho hx (OpI.so hy (nat_of h0)) OpI.no OpI.no (by simp) rfl rfl rfl (by simp only [Option.getD_some, Option.getD_none]; omega) (by simp only [Option.getD_some, Option.getD_none]; omega) (Nat.le_refl _) I M w a hop
  simp only [Option.getD_some, Option.getD_none, show b0 + (C - b0) = C by omega] at this
  exact this
theorem OpP.sliceBLH {t e : TypeId} {x y y2 : Operand} {kk k2 : IntKind} {l h : Int} {k sz b0 n0 C lo bytes : Nat} {z : Value} [Und P t (.slice e)] [TyI P e z sz bytes] (ho : o.op = .slice t x (some y) (some y2) none) (hx : ρ x = .bsl k sz b0 n0 C) (hy : ρ y = .v (.int kk l)) (hy2 : ρ y2 = .v (.int k2 h))
    (h0 : 0 ≤ l := by omega) (h1 : l ≤ h := by omega) (hh : b0 + h.toNat ≤ C := by omega) (hlo : b0 + l.toNat = lo := by first | ((conv => lhs; simp only [Nat.zero_add]); first | done | rfl) | rfl) : OpP P o ρ (.bsl k sz lo (h.toNat - l.toNat) C) := by
  subst hlo
  intro I M w a hop
  have q := Rp.bslLe (hx ▸ hop x (by simp [ho, Op.operands]))
  have := OpP.sliceB (P := P) (o := o) (ρ := ρ) (l := some l.toNat) (h := some h.toNat) (m := none) ho hx (OpI.so hy (nat_of h0)) (OpI.so hy2 (nat_of (by omega))) OpI.no (by simp) rfl rfl rfl (by simp only [Option.getD_some, Option.getD_none]; omega) (by simp only [Option.getD_some, Option.getD_none]; omega) (Nat.le_refl _) I M w a hop
  simp only [Option.getD_some, Option.getD_none, show b0 + (C - b0) = C by omega] at this
  exact this
theorem OpP.sliceNilH {t e : TypeId} {x y : Operand} {kk : IntKind} {sz bytes : Nat} {z : Value} [Und P t (.slice e)] [TyI P e z sz bytes] (ho : o.op = .slice t x none (some y) none) (hx : ρ x = .v (.slice none 0 0)) (hy : ρ y = .v (.int kk 0)) : OpP P o ρ (.v (.slice none 0 0)) := by
  intro I M w a hop
  have q1 := hop x (by simp [ho, Op.operands])
  have q2 := hop y (by simp [ho, Op.operands])
  rw [hx] at q1
  rw [hy] at q2
  obtain ⟨_, _, _, _, _, _, _, hsz⟩ := run_typeInfo (P := P) (t := e) w
  exact ⟨_, by simp [execOp, ho, q1.val, q2.val, Instr.sliceAt, run_und, Instr.slice, Instr.sliceBounds, Instr.sliceBound, asIntOf, hsz], .v _⟩
/-- append to a slice without spare places, whose new row is written afterwards: how many places it has is open -/
theorem OpSN.appB {s x : Operand} {t tx e : TypeId} {z : Value} {sz bytes : Nat} [Und P t (.slice e)] [TyI P e z sz bytes] (k : Nat) (ho : o.op = .call { callee := .builtin .append, args := #[s, x], argTypes := #[t, tx] })
    (hzs : z.cells.size = sz) (hz1 : z.cells.toList.all (·.oneCell') = true) {m : Nat} {ys xs : List (List PV)} {insx : Upds} (hsv : ρ s = .sl sz xs true ∨ ρ s = .v (.slice none 0 0) ∧ xs = []) (hx : SrcG P t tx e z bytes (ρ x) sz ys insx) (hm : xs.length + ys.length = m) (hpos : 0 < ys.length) (hkin : k ∉ keys insx) (hb : m * bytes ≤ 140737488355328) (h63 : m ≤ maxLen) :
    OpSN P o ρ insx (ι := Nat) (fun d => .bsl k sz 0 m (m + d)) (fun d => [(k, .box (bxs (xs ++ ys ++ List.replicate d (z.cells.toList.map PV.v))))]) := by
  intro I M w a σ1 K1 Q hop hs hi hnew hK
  subst hm
  have h1 := hop s (by simp [ho, Op.operands, Call.operands])
  have h2 := hop x (by simp [ho, Op.operands, Call.operands])
  have hs0 : ∃ A, a.eval s = .slice A xs.length xs.length ∧ RPV M w (.slice A xs.length xs.length) (.sl sz xs) := by
    rcases hsv with hsv | ⟨hsv, rfl⟩
    · rw [hsv] at h1
      generalize eq0 : a.eval s = sv at h1
      cases h1 with
      | sl h hf =>
        have := hf rfl
        subst this
        have := h.len.1
        subst this
        exact ⟨_, rfl, h⟩
    · rw [hsv] at h1
      exact ⟨none, h1.val, .nil _ _ _ _ _⟩
  obtain ⟨A, eq0, r0⟩ := hs0
  obtain ⟨hk1, hk2⟩ := (hnew 0 k (by simp [keys])).resolve_left hkin
  obtain ⟨news, n2, n3, n4, n6, ncore⟩ := hx I M w σ1 _ h2 hs hi
  cases r0 with
  | sl b off u hn hc' hz' hA hM hcell h11 hu =>
  let olds := (List.range (xs.length * sz)).map u
  have hol : olds.length = xs.length * sz := by simp [olds]
  have hog : ∀ j, j < xs.length * sz → olds[j]? = some (u j) := fun j hj => by simp [olds, hj]
  have core := ncore o.type A xs.length xs.length olds hol
    (fun h0 => ⟨b, off, hA h0, fun j v hv => by
      have hj : j < xs.length * sz := by rw [← hol]; exact (List.getElem?_eq_some_iff.1 hv).1
      rw [hog j hj] at hv
      injection hv with hv; subst hv
      exact hcell j hj⟩) (fun h _ => by omega) hb h63
  rcases core with ⟨hr, _⟩ | ⟨hr, _⟩ | ⟨hr, c1, hc1, hrun⟩
  · omega
  · omega
  · obtain ⟨d, rfl⟩ : ∃ d, c1 = xs.length + ys.length + d := ⟨c1 - (xs.length + ys.length), by omega⟩
    rw [Nat.add_sub_cancel_left] at hrun
    let zs : List PV := z.cells.toList.map PV.v
    let cur : Array Value := olds.toArray ++ news.toArray ++ Builtin.zeroCells z.cells d
    let cs := bxs (xs ++ ys ++ List.replicate d zs)
    have hxl : (bxs xs).length = xs.length * sz := bx_len hz'
    have hyl : (bxs ys).length = ys.length * sz := bx_len n2
    have hzsl : zs.length = sz := by simp [zs, hzs]
    have hzl : (bxs (List.replicate d zs)).length = d * sz := by
      have := bx_len (sz := sz) (xs := List.replicate d zs) (fun y h => by rw [(List.mem_replicate.1 h).2]; exact hzsl)
      simpa using this
    have hcs : cs = bxs xs ++ (bxs ys ++ bxs (List.replicate d zs)) := by simp only [cs, bx_append, List.append_assoc]
    have hlen : cs.length = cur.size := by
      rw [hcs]
      simp only [List.length_append, hxl, hyl, hzl, cur, Array.size_append, List.size_toArray, hol, n3, size_zeroCells, hzs]
      omega
    have hcur : cur.toList = olds ++ (news ++ (Builtin.zeroCells z.cells d).toList) := by simp [cur]
    have hone : ∀ (i : Nat) (v : Value), cur[i]? = some v → v.oneCell' = true ∧ ∀ c, cs[i]? = some c → Rp I M w v c := by
      intro i v hv
      rw [← Array.getElem?_toList, hcur] at hv
      rw [hcs]
      rcases Nat.lt_or_ge i (xs.length * sz) with q | q
      · rw [List.getElem?_append_left (by omega), hog i q] at hv
        injection hv with hv; subst hv
        refine ⟨h11 i q, fun c hc => ?_⟩
        rw [List.getElem?_append_left (by omega), bxs, List.getElem?_map] at hc
        obtain ⟨p, hp, rfl⟩ := Option.map_eq_some_iff.1 hc
        exact (hu i p hp).rp
      · rw [List.getElem?_append_right (by omega), hol] at hv
        rcases Nat.lt_or_ge (i - xs.length * sz) (ys.length * sz) with q2 | q2
        · rw [List.getElem?_append_left (by omega)] at hv
          refine ⟨n4 v (List.mem_of_getElem? hv), fun c hc => ?_⟩
          rw [List.getElem?_append_right (by omega), hxl, List.getElem?_append_left (by omega), bxs, List.getElem?_map] at hc
          obtain ⟨p, hp, rfl⟩ := Option.map_eq_some_iff.1 hc
          obtain ⟨u', hu', hr'⟩ := n6 _ p hp
          rw [hv] at hu'; injection hu' with hu'; subst hu'
          exact hr'.rp
        · rw [List.getElem?_append_right (by omega), n3, Array.getElem?_toList, zeroCells_get] at hv
          split at hv
          · rename_i hlt
            injection hv with hv
            have hposz : 0 < z.cells.size := by
              rcases Nat.eq_zero_or_pos z.cells.size with h | h
              · rw [h] at hlt; omega
              · exact h
            have hmod := Nat.mod_lt (i - xs.length * sz - ys.length * sz) hposz
            simp only [hmod, getElem!_pos] at hv
            refine ⟨by rw [← hv]; exact List.all_eq_true.1 hz1 _ (by simp), fun c hc => ?_⟩
            rw [List.getElem?_append_right (by omega), hxl, List.getElem?_append_right (by omega), hyl, zbx_get] at hc
            simp only [hzsl] at hc
            rw [hzs] at hlt hmod
            rw [if_pos hlt, List.getElem?_map] at hc
            simp only [Array.getElem?_toList, hzs, List.getElem?_map, Option.map_map, zs] at hc
            rw [Array.getElem?_eq_getElem (by rw [hzs]; exact hmod)] at hc
            have : AV.v v = c := by
              rw [← hv]
              simpa [PV.av, hzs] using hc
            subst this
            exact .v _
          · cases hv
    have hsd : Sto I M w.drew σ1 := hs.stay ⟨rfl, rfl, rfl, fun _ => CI.le_refl _, ⟨Nat.le_refl _, fun _ => Nat.le_refl _, fun _ _ _ _ h => h⟩, fun _ _ _ => ⟨rfl, rfl⟩⟩ hs.top
    have hRp : Rp I M w.drew (.agg cur) (.agg cs) := .agg hlen.symm (fun i v hv => (hone i v hv).1) fun i v c hv hc => ((hone i v hv).2 c hc).evo (fun _ => CI.le_refl _) (show Evo M M w w.drew from ⟨Nat.le_refl _, fun _ => Nat.le_refl _, fun _ _ _ _ h => h⟩)
    obtain ⟨r1, r2, r3, r4⟩ := newVar_ok (t := e) hsd hRp rfl k hk1 hk2
    have hx3 : Ext (fun _ => False) I (fun i => if i = k then CI.box w.heap.size else I i) M M w (w.drew.alloc (.cells cur e)) := ⟨r3.os, r3.tape, r3.output, r3.le, ⟨r3.evo.size, r3.evo.mask, r3.evo.keep⟩, r3.oth⟩
    unfold Oper.wp execOp
    simp only [ho, resolve, invoke, builtin, Sem.run_bind, Sem.run_pure, Result.andThen_ok, List.map_toArray, List.map_cons, List.map_nil, eq0, hrun]
    refine hK d _ (fun i => if i = k then CI.box w.heap.size else I i) M _ (.bsl (b := w.heap.size) (lo := 0) (C := xs.length + ys.length + d) (by simp) (by omega) (fun _ => by simp)) r2 (hx3.wide fun _ _ h => h.elim) (fun i hi => r4 i (by simpa [keys] using hi)) fun i hi b hb => ?_
    obtain rfl : i = k := by simpa [keys] using hi
    simp only [updS, if_true, blkOf] at hb
    injection hb with hb
    exact .inl (by omega)
/-- append of zeros to nothing, in plain regions; the row is written afterwards -/
theorem Run.apBZ {d k m sz bytes : Nat} {s x : Operand} {t tx e : TypeId} {k1 k2 : IntKind} {a : Int} {z : Value} {xs : List (List PV)} [Und P t (.slice e)] [Und P tx (.int k1)] [TyI P e z sz bytes] (hall : ∀ acc, chk acc = true) (ho : o.dst = some d) (hop : o.op = .call { callee := .builtin .append, args := #[s, x], argTypes := #[t, tx] })
    (hw : wantA ops fr o = some true) (hd : Nat.blt d n = true) (hsv : evA fr s = .sl sz xs true ∨ evA fr s = .v (.slice none 0 0) ∧ xs = []) (hx : evA fr x = .v (.int k2 a)) (ha : a = (m : Int)) (hpos : 0 < m) (hzs : z.cells.size = sz) (hz1 : z.cells.toList.all (·.oneCell') = true) (hb : (xs.length + m) * bytes ≤ 140737488355328) (h63 : xs.length + m ≤ maxLen) (hk : k = σ.length)
    (hr : ∀ d', Run P n ops chk K rest ⟨(d, .bsl k sz 0 (xs.length + m) (xs.length + m + d')) :: fr, σ ++ [.box (bxs (xs ++ List.replicate m (z.cells.toList.map PV.v) ++ List.replicate d' (z.cells.toList.map PV.v)))]⟩ acc) : Run P n ops chk K (o :: rest) ⟨fr, σ⟩ acc := by
  subst hk
  have hx' := SrcG.zeros (P := P) (t := t) (tx := tx) (e := e) (k1 := k1) (bytes := bytes) hzs hz1 hx ha
  have hO := OpSN.appB σ.length hop hzs hz1 hsv hx' (m := xs.length + m) (by simp) (by simpa using hpos) (by simp [keys]) hb h63
  have hput : ∀ r, okU σ.length [(σ.length, r)] = true ∧ updL σ [(σ.length, r)] = σ ++ [r] := fun r => okU_one (putEnd σ r)
  exact .opN hall hw (by rw [ho]; exact hd) hO ins_nil (fun d' => (hput _).1) (fun d' k' hk' => .inr (by
    obtain rfl : k' = σ.length := by simpa [keys] using hk'
    exact Nat.le_refl _)) (fun d' => by rw [ho, (hput _).2]; exact hr d')
end
/-- the slots, where an array has become a row -/
inductive FzW (k sz n C T : Nat) : Fr → Fr → Prop
  | refl {l : Fr} : FzW k sz n C T l l
  | row {i n' C' : Nat} {l l' : Fr} (hn : n' = n) (hC : C' = C) (hs : FzW k sz n C T l l') : FzW k sz n C T ((i, .bsl k sz 0 n' C') :: l) ((i, .row T n) :: l')
  | same {i : Nat} {v : AV} {l l' : Fr} (hs : FzW k sz n C T l l') : FzW k sz n C T ((i, v) :: l) ((i, v) :: l')
theorem FzW.get {k sz n C T : Nat} {fr fr' : Fr} (h : FzW k sz n C T fr fr') (t : Nat) : fr.get t = fr'.get t ∨ (fr.get t = .bsl k sz 0 n C ∧ fr'.get t = .row T n) := by
  induction h with
  | refl => exact .inl rfl
  | @row i n' C' l l' hn hC hs ih =>
    subst hn hC
    simp only [Fr.get]
    cases Nat.beq t i with
    | true => exact .inr ⟨rfl, rfl⟩
    | false => exact ih
  | @same i v l l' hs ih =>
    simp only [Fr.get]
    cases Nat.beq t i with
    | true => exact .inl rfl
    | false => exact ih
theorem AW.freezeA {P : Program} {g : Ent} {c : Code} {Q : Exit → State → Prop} {fr fr' : Fr} {σ σ' : List Res} {ys : List (List PV)} (k sz : Nat) (xs zs : List (List PV)) (hk : sto σ k = .box (bxs ys)) (hys : ys = xs ++ zs) (hz : ∀ y ∈ xs, y.length = sz) (h : AW P g c Q ⟨fr', σ'⟩)
    (hf : FzF k sz xs none fr fr' := by ((repeat (first | apply FzF.cons | (apply Fz.all; (focus (first | assumption | rfl | (simp; done)))) | exact Fz.same | exact FzF.refl)); first | done | fail))
    (hσ : FzS k sz xs none 0 σ σ' := by ((repeat (first | (apply FzS.here; (focus rfl)) | (apply FzS.box; (focus decide)) | (apply FzS.same; (focus decide)) | exact FzS.nil | apply FzL.cons | (apply Fz.all; (focus (first | assumption | rfl | (simp; done)))) | exact Fz.same | exact FzL.refl)); first | done | fail)) : AW P g c Q ⟨fr, σ⟩ := by
  subst hys
  refine AW.freeze k sz xs hk ?_ hz hf hσ h
  rw [bx_append, ← bx_len hz, List.take_left']
  rfl
theorem AW.freezeW {P : Program} {g : Ent} {c : Code} {Q : Exit → State → Prop} {fr fr' : Fr} {σ σ' : List Res} {ys : List (List PV)} (k sz : Nat) (xs zs : List (List PV)) (C : Nat) (hk : sto σ k = .box (bxs ys)) (hys : ys = xs ++ zs) (hz : ∀ y ∈ ys, y.length = sz)
    (hC : ys.length = C) (hC0 : 0 < C) (h : AW P g c Q ⟨fr', σ' ++ [.row sz xs]⟩) (hf : FzW k sz xs.length C σ.length fr fr' := by ((repeat (first | (apply FzW.row; (focus (first | rfl | (simp; done))); (focus (first | rfl | (simp; done)))) | apply FzW.same | exact FzW.refl)); first | done | fail)) (hσ : PutAt σ k .no σ' := by ((repeat constructor); first | done | fail)) : AW P g c Q ⟨fr, σ⟩ := by
  subst hys
  have hzx : ∀ y ∈ xs, y.length = sz := fun y hy => hz y (List.mem_append_left _ hy)
  refine AW.freezeR k sz xs C hk ?_ hzx (by rw [bx_len hz, hC]) hC0 (by rw [← hC]; simp) (fun t => hf.get t) hσ h
  rw [bx_append, ← bx_len hzx, List.take_left']
  rfl
section
end
end Go.Proofs.YthogjnckkmfhnaaDoor
/-
  Calls of which only a choice of results is known. Nothing of the dump is used; no condition.
-/
namespace Go.Proofs.YthogjnckkmfhnaaDoor
open Go.RowKit
set_option linter.unusedVariables false
set_option linter.unusedSimpArgs false
/-- what a call of f with these arguments gives: one of these -/
def ACallsN (P : Program) (f : FuncId) (args : List AV) (σ : List Res) {ι : Type} (r : ι → AV) (σ' : ι → List Res) : Prop :=
  ∀ (I : Nat → CI) (M : Nat → Nat) (w : World) (cargs : Array Value), cargs.size = args.length → (∀ (i : Nat) (v : Value) (c : AV), cargs[i]? = some v → args[i]? = some c → Rp I M w v c) → Sto I M w (sto σ) → (∀ k, σ.length ≤ k → I k = .no) →
    Calls P f cargs w fun e w' => ∃ q cv I' M', e = .returned cv ∧ Rp I' M' w' cv (r q) ∧ Sto I' M' w' (sto (σ' q)) ∧ (∀ k, (σ' q).length ≤ k → I' k = .no) ∧ Ext (fun b => ∃ k, blkOf (I k) (sto σ k) = some b) I I' M M' w w' ∧
      ∀ k b, blkOf (I' k) (sto (σ' q) k) = some b → w.heap.size ≤ b ∨ ∃ k', blkOf (I k') (sto σ k') = some b
/-- how a function ends, in one of some ways -/
def RetOkN (P : Program) (fn : Func) {ι : Type} (r : ι → AV) (σ' : ι → List Res) (g : Ent) (e : Exit) (s : State) : Prop := ∃ q, RetOk P fn (r q) (σ' q) g e s
theorem RetOkN.mk {P : Program} {fn : Func} {ι : Type} {r : ι → AV} {σ' : ι → List Res} {g : Ent} {e : Exit} {s : State} (q : ι) (h : RetOk P fn (r q) (σ' q) g e s) : RetOkN P fn r σ' g e s := ⟨q, h⟩
theorem ACallsN.of {P : Program} {f : FuncId} {fn : Func} {c : Code} {args : List AV} {σ : List Res} {ι : Type} {r : ι → AV} {σ' : ι → List Res} (hf : P.funcs[f]? = some fn) (hb : fn.body = some c) (hn' : Nat.ble args.length fn.ntmps = true)
    {N : Nat} (hN : fn.ntmps = N) (h : ∀ (I : Nat → CI) (M : Nat → Nat) (w : World) (own : Nat → Prop), AW P ⟨N, σ.length, I, M, w, own⟩ c (RetOkN P fn r σ' ⟨N, σ.length, I, M, w, own⟩) ⟨argFr args 0, σ⟩) : ACallsN P f args σ r σ' := by
  have hn := Nat.le_of_ble_eq_true hn'
  intro I M w cargs ha hav hs hno
  refine calls_of_wp hf hb ?_
  let g : Ent := ⟨fn.ntmps, σ.length, I, M, w, fun b => ∃ k, blkOf (I k) (sto σ k) = some b⟩
  subst hN
  refine wp_mono (h I M w g.own I M w _ ⟨⟨by simp [ha, g]; omega, fun t => ?_⟩, rfl, hs, Nat.le_refl _, hno, Ext.refl _ _ _ _, fun k b hb => .inr ⟨k, hb⟩, hno⟩) fun e a' w' ⟨I', M', s', h1, h2⟩ => ?_
  · rw [argFr_get]
    simp only [Nat.zero_le, if_true, Nat.sub_zero]
    cases hc : args[t]? with
    | none => exact .any _
    | some v =>
      have ht : t < cargs.size := by rw [ha]; exact (List.getElem?_eq_some_iff.1 hc).1
      refine hav t _ v ?_ hc
      have h2 : (cargs ++ Array.replicate (fn.ntmps - cargs.size) undef)[t]? = some cargs[t] := by rw [Array.getElem?_append_left ht]; simp [ht]
      have h3 : (cargs ++ Array.replicate (fn.ntmps - cargs.size) undef).getD t undef = cargs[t] := by simp [Array.getD_eq_getD_getElem?, h2]
      rw [h3]; simp [ht]
  · have fin : RetOkN P fn r σ' g .ret s' → a'.defers = [] ∧ ∃ v, (results fn a'.tmps).run P w' = .ok v w' ∧ ∃ q cv I' M', Ending.returned v = .returned cv ∧ Rp I' M' w' cv (r q) ∧ Sto I' M' w' (sto (σ' q)) ∧ (∀ k, (σ' q).length ≤ k → I' k = .no) ∧ Ext (fun b => ∃ k, blkOf (I k) (sto σ k) = some b) I I' M M' w w' ∧
        ∀ k b, blkOf (I' k) (sto (σ' q) k) = some b → w.heap.size ≤ b ∨ ∃ k', blkOf (I k') (sto σ k') = some b := by
      rintro ⟨q, vs, S, q1, q2, q3, q4, q5, q6, q7⟩
      obtain ⟨us, u1, u2, u3⟩ := q1.run h1.fr h1.st
      refine ⟨h1.df, _, run_results u1, ?_⟩
      have hv : Rp I' M' w' (resVal us) (resV vs) := by
        match us, vs, u2, u3 with
        | [], [], _, _ => exact .tup rfl (fun i v c h => by simp at h)
        | [u], [v], _, u3 => exact u3 0 u v rfl rfl
        | u :: u' :: r, v :: v' :: r', u2, u3 => exact .tup (by simpa using u2) (fun i x c hx hc => u3 i x c (by simpa using hx) hc)
      obtain ⟨c1, c2, c3⟩ := h1.st.conv q2 q7
      have hSl := q7.get.1
      refine ⟨q, _, _, M', rfl, c2 _ _ q6 (q5 I' M' w' _ h1.st hv), c1, fun k hk => by simp [show ¬ k < (σ' q).length by omega], ⟨h1.ext.os, h1.ext.tape, h1.ext.output, fun k => ?_, h1.ext.evo, h1.ext.oth⟩, fun k b hb => h1.ini _ _ (c3 k b hb).2⟩
      rcases Nat.lt_or_ge k σ.length with hk | hk
      · simp only [fixB, List.all_eq_true] at q3
        have h1' : renL S k = k := Nat.eq_of_beq_eq_true (q3 k (List.mem_range.2 hk))
        have : k < (σ' q).length := by have : g.p = σ.length := rfl; omega
        simp only [this, if_true, h1']
        exact h1.ext.le k
      · rw [hno k hk]; trivial
    cases e with
    | ret => exact fin h2
    | normal => exact fin h2
    | _ => exact h2.elim fun _ h => h.elim
theorem OpSN.call {P : Program} {o : Oper} {ρ : Operand → AV} {x : Operand} {ops : Array Operand} {ts : Array TypeId} {f : FuncId} {caps args0 : List AV} {σc : List Res} {ι : Type} {σc' : ι → List Res} {r0 : ι → AV} {ins : Upds} [CallI P f] (S : List Nat) (nx : Nat) (hc : ACallsN P f args0 σc r0 σc')
    (ho : o.op = .call { callee := .value x, args := ops, argTypes := ts }) (hx : ρ x = .fn f caps) (hargs : AV.rens (renC S nx) args0 = ops.toList.map ρ ++ caps) (hnd : nodupB S = true) (hnx : S.all (fun k => Nat.blt k nx) = true) (hl : Nat.beq S.length σc.length = true) (hl' : ∀ q, Nat.ble σc.length (σc' q).length = true)
    (hlt : ∀ q, (σc' q).all (Res.lt (σc' q).length) = true) (hrl : ∀ q, (r0 q).lt (σc' q).length = true) (hlt0 : σc.all (Res.lt σc.length) = true) (hal : AV.lts σc.length args0 = true) (hins : insOf S (renC S nx) σc = ins) : OpSN P o ρ ins (fun q => (r0 q).ren (renC S nx)) (fun q => outsOf (renC S nx) 0 (σc' q)) := by
  intro I M w a σ K Q hop hs hi hnew hK
  subst hins
  have hl := Nat.eq_of_beq_eq_true hl
  have hinj : ∀ a b, renC S nx a = renC S nx b → a = b := by
    intro a b h
    have hS : ∀ i, i < S.length → S.getD i 0 < nx := by
      intro i hi
      have := (List.all_eq_true.1 hnx) (S.getD i 0) (by rw [List.getD_eq_getElem?_getD, List.getElem?_eq_getElem hi]; exact List.getElem_mem _)
      rwa [Nat.blt_eq] at this
    have bl : ∀ i, (i < S.length ∧ renC S nx i = S.getD i 0) ∨ (S.length ≤ i ∧ renC S nx i = nx + (i - S.length)) := by
      intro i
      unfold renC
      cases hb : Nat.blt i S.length with
      | true => left; rw [Nat.blt_eq] at hb; exact ⟨hb, rfl⟩
      | false =>
        right
        have : ¬ i < S.length := by rw [← Nat.blt_eq, hb]; simp
        exact ⟨by omega, rfl⟩
    rcases bl a with ⟨a1, a2⟩ | ⟨a1, a2⟩ <;> rcases bl b with ⟨b1, b2⟩ | ⟨b1, b2⟩
    · rw [a2, b2] at h
      rcases Nat.lt_trichotomy a b with q | q | q
      · exact absurd h (nodupB_spec hnd a b q b1)
      · exact q
      · exact absurd h.symm (nodupB_spec hnd b a q a1)
    · have := hS a a1; rw [a2, b2] at h; omega
    · have := hS b b1; rw [a2, b2] at h; omega
    · rw [a2, b2] at h; omega
  have rlow : ∀ i, i < σc.length → renC S nx i = S.getD i 0 := by
    intro i hi
    have : Nat.blt i S.length = true := by rw [Nat.blt_eq]; omega
    simp [renC, this]
  have hkeys : keys (insOf S (renC S nx) σc) = S := keys_insOf _ _ _ hl
  -- what the callee is given
  let Ic : Nat → CI := fun i => if i < σc.length then I (renC S nx i) else .no
  have hsto : ∀ i r, σc[i]? = some r → σ (renC S nx i) = r.ren (renC S nx) := by
    intro i r hr
    have hlt := (List.getElem?_eq_some_iff.1 hr).1
    have := hi _ (insOf_get (renC S nx) S σc hl i r hr)
    rw [rlow i hlt]; exact this
  have hblk : ∀ i b, blkOf (Ic i) (sto σc i) = some b → i < σc.length ∧ blkOf (I (renC S nx i)) (σ (renC S nx i)) = some b := by
    intro i b hb
    rcases Nat.lt_or_ge i σc.length with h | h
    · have h1 : sto σc i = σc[i] := by simp [sto, List.getD, h]
      rw [h1] at hb
      simp only [Ic, if_pos h] at hb
      rw [hsto i σc[i] (by simp [h]), blk_ren]
      exact ⟨h, hb⟩
    · simp only [Ic, if_neg (show ¬ i < σc.length by omega)] at hb
      cases hq : sto σc i <;> rw [hq] at hb <;> cases hb
  have rpc : ∀ v p, p.lt σc.length = true → Rp I M w v (p.ren (renC S nx)) → Rp Ic M w v p := fun v p hp h =>
    Rp.agree (I := fun i => I (renC S nx i)) (n := σc.length) (fun k hk => by simp [Ic, hk]) (Rp.unname h p rfl) hp
  have hsc : Sto Ic M w (sto σc) := by
    refine ⟨fun k => ?_, fun k k' b hne hb hb' => ?_, hs.top, hs.tab⟩
    · rcases Nat.lt_or_ge k σc.length with h | h
      · have h1 : sto σc k = σc[k] := by simp [sto, List.getD, h]
        have hI : Ic k = I (renC S nx k) := by simp [Ic, h]
        have ho := hs.own (renC S nx k)
        rw [hsto k σc[k] (by simp [h])] at ho
        rw [h1, hI]
        have hlt1 := (List.all_eq_true.1 hlt0) σc[k] (List.getElem_mem _)
        generalize σc[k] = q at ho hlt1
        cases q with
        | no => trivial
        | row sz xs => exact ho
        | mby l => exact ho
        | box cs =>
          obtain ⟨b, cur, e, e1, e2, e3, e4, e5, e6⟩ := ho
          refine ⟨b, cur, e, e1, e2, e3, by rw [e4, AV.rens_map]; simp, e5, fun i v c hv hc => ?_⟩
          exact rpc v c (AV.lts_get hlt1 hc) (e6 i v _ hv (by rw [AV.rens_map, List.getElem?_map, hc]; rfl))
      · have : sto σc k = .no := by simp [sto, List.getElem?_eq_none h]
        rw [this]; trivial
    · obtain ⟨a1, a2⟩ := hblk k b hb
      obtain ⟨b1, b2⟩ := hblk k' b hb'
      exact hs.dis _ _ b (fun e => hne (hinj _ _ e)) a2 b2
  have hxv := hop x (by simp [ho, Op.operands, Call.operands])
  rw [hx] at hxv
  generalize hxe : a.eval x = xv at hxv
  cases hxv with
  | @fn _ vs _ hvs hcs =>
  have hcall := hc Ic M w (ops.map a.eval ++ vs) (by
      have := congrArg List.length hargs
      rw [AV.rens_map] at this
      simp at this ⊢; omega) (fun i v c hv hc' => by
      refine rpc v c (AV.lts_get hal hc') ?_
      have h1 : (AV.rens (renC S nx) args0)[i]? = some (c.ren (renC S nx)) := by rw [AV.rens_map, List.getElem?_map, hc']; rfl
      rw [hargs] at h1
      rcases Nat.lt_or_ge i ops.size with h | h
      · rw [Array.getElem?_append_left (by simpa using h), Array.getElem?_map] at hv
        rw [List.getElem?_append_left (by simpa using h), List.getElem?_map] at h1
        obtain ⟨y, hy, rfl⟩ := Option.map_eq_some_iff.1 hv
        obtain ⟨y', hy', h2⟩ := Option.map_eq_some_iff.1 h1
        rw [Array.getElem?_toList, hy] at hy'
        injection hy' with hy'
        subst hy'
        rw [← h2]
        refine hop y ?_
        simp only [ho, Op.operands, Call.operands, Array.toList_append, List.mem_append]
        exact .inr (by simpa using Array.mem_of_getElem? hy)
      · rw [Array.getElem?_append_right (by simpa using h)] at hv
        rw [List.getElem?_append_right (by simpa using h)] at h1
        exact hcs _ v _ (by simpa using hv) (by simpa using h1)) hsc (fun k hk => by simp [Ic, show ¬ k < σc.length by omega])
  have hfn : ∃ fn, P.funcs[f]? = some fn ∧ (fn.name == "runtime.NumGoroutine") = false ∧ fn.body.isNone = false := by
    have := CallI.eq (P := P) (f := f)
    cases hq : P.funcs[f]? with
    | none => rw [hq] at this; cases this
    | some fn =>
      rw [hq] at this
      simp only [Option.map_some, Option.some.injEq, Prod.mk.injEq] at this
      exact ⟨fn, rfl, this⟩
  obtain ⟨fn, hf1, hf2, hf3⟩ := hfn
  have hexec : (execOp a.eval o).run P w = .ok (.enter f (ops.map a.eval ++ vs)) w := by
    have hf3' : ¬ fn.body = none := by intro h; rw [h] at hf3; cases hf3
    have hf2' : ¬ fn.name = "runtime.NumGoroutine" := by intro h; rw [h] at hf2; simp at hf2
    simp [execOp, ho, resolve, hxe, Deferred.ofValue, invoke, callFunc, hf1, hf2', hf3']
  unfold Oper.wp
  rw [hexec, Oper.upon_enter]
  refine Calls.mono hcall ?_
  rintro e w' ⟨q, cv, I', M', rfl, g1, g2, g3, g4, g5⟩
  have hl' := Nat.le_of_ble_eq_true (hl' q)
  have hlt := hlt q
  have hrl := hrl q
  have hK := hK q
  have hnew := hnew q
  simp only
  -- the callee's numbers as ours
  let Iw : Nat → CI := fun k => if h : ∃ i, i < (σc' q).length ∧ k = renC S nx i then I' (Classical.choose h) else I k
  have hIw : ∀ i, i < (σc' q).length → Iw (renC S nx i) = I' i := by
    intro i hi
    have hex : ∃ j, j < (σc' q).length ∧ renC S nx i = renC S nx j := ⟨i, hi, rfl⟩
    simp only [Iw, dif_pos hex]
    rw [← hinj _ _ (Classical.choose_spec hex).2]
  have hIn : ∀ k, k ∉ keys (outsOf (renC S nx) 0 (σc' q)) → Iw k = I k := by
    intro k hk
    have hne : ¬ ∃ i, i < (σc' q).length ∧ k = renC S nx i := fun ⟨i, hi, he⟩ => hk ((outsOf_key _ _ _ _).2 ⟨i, hi, by rw [Nat.zero_add]; exact he⟩)
    simp only [Iw, dif_neg hne]
  have hle : ∀ k, (I k).le (Iw k) := by
    intro k
    by_cases hk : k ∈ keys (outsOf (renC S nx) 0 (σc' q))
    · obtain ⟨i, hi, rfl⟩ := (outsOf_key _ _ _ _).1 hk
      rw [Nat.zero_add, hIw i hi]
      rcases Nat.lt_or_ge i σc.length with h | h
      · have := g4.le i
        simpa only [Ic, if_pos h] using this
      · rcases hnew _ hk with p | ⟨_, p⟩
        · rw [hkeys, Nat.zero_add] at p
          have := (List.all_eq_true.1 hnx) _ p
          rw [Nat.blt_eq] at this
          have : Nat.blt i S.length = false := by
            cases hb : Nat.blt i S.length with
            | false => rfl
            | true => rw [Nat.blt_eq] at hb; omega
          simp only [renC, this] at *
          omega
        · rw [Nat.zero_add] at p; rw [p]; trivial
    · rw [hIn k hk]; exact CI.le_refl _
  have rpw : ∀ v p, p.lt (σc' q).length = true → Rp I' M' w' v p → Rp Iw M' w' v (p.ren (renC S nx)) := fun v p hp h =>
    Rp.rename (Rp.agree (I' := fun i => Iw (renC S nx i)) (n := (σc' q).length) (fun k hk => hIw k hk) h hp)
  have own_in : ∀ b, (∃ k, blkOf (Ic k) (sto σc k) = some b) → ∃ k ∈ S, blkOf (I k) (σ k) = some b := by
    rintro b ⟨k, hb⟩
    obtain ⟨h1, h2⟩ := hblk k b hb
    rw [rlow k h1] at h2
    exact ⟨S.getD k 0, by rw [List.getD_eq_getElem?_getD, List.getElem?_eq_getElem (by omega)]; exact List.getElem_mem _, h2⟩
  have hext : Ext (fun b => ∃ k ∈ S, blkOf (I k) (σ k) = some b) I Iw M M' w w' := by
    have := g4.wide (own' := fun b => ∃ k ∈ S, blkOf (I k) (σ k) = some b) (fun b _ h => own_in b h)
    exact ⟨this.os, this.tape, this.output, hle, this.evo, this.oth⟩
  have hupd : ∀ i r, (σc' q)[i]? = some r → updS σ (outsOf (renC S nx) 0 (σc' q)) (renC S nx i) = r.ren (renC S nx) := by
    intro i r hr
    have := outsOf_get (σ := σ) (renC S nx) (σc' q) 0 (fun a b _ _ h => hinj a b h) i r hr
    rwa [Nat.zero_add] at this
  have hbw : ∀ i b, i < (σc' q).length → blkOf (Iw (renC S nx i)) (updS σ (outsOf (renC S nx) 0 (σc' q)) (renC S nx i)) = some b → w.heap.size ≤ b ∨ ∃ k ∈ S, blkOf (I k) (σ k) = some b := by
    intro i b hi hb
    rw [hIw i hi, hupd i (σc' q)[i] (by simp [hi]), blk_ren] at hb
    rcases g5 i b (by simpa [sto, List.getD, hi] using hb) with p | p
    · exact .inl p
    · exact .inr (own_in b p)
  refine hK cv Iw M' w' (rpw cv (r0 q) hrl g1) ?_ (by rw [hkeys]; exact hext) hIn fun k hk b hb => ?_
  · refine hs.upd (keys (outsOf (renC S nx) 0 (σc' q))) hext (fun b ⟨k, hk, hb⟩ => ⟨k, (outsOf_key _ _ _ _).2 ?_, hb⟩) hIn (fun k hk => updS_other _ _ _ hk) (fun k hk => ?_) (fun k hk b hb => ?_) (fun k hk k' hk' b hne hb hb' => ?_) g2.top
    · obtain ⟨i, hi, rfl⟩ := List.getElem_of_mem hk
      refine ⟨i, by omega, ?_⟩
      rw [Nat.zero_add, rlow i (by omega)]
      simp [List.getD, hi]
    · obtain ⟨i, hi, rfl⟩ := (outsOf_key _ _ _ _).1 hk
      rw [Nat.zero_add, hIw i hi, hupd i (σc' q)[i] (by simp [hi])]
      have ho := g2.own i
      have h1 : sto (σc' q) i = (σc' q)[i] := by simp [sto, List.getD, hi]
      rw [h1] at ho
      have hlt1 := (List.all_eq_true.1 hlt) (σc' q)[i] (List.getElem_mem _)
      generalize (σc' q)[i] = p at ho hlt1
      cases p with
      | no => trivial
      | row sz xs => exact ho
      | mby l => exact ho
      | box cs =>
        obtain ⟨b, cur, e, e1, e2, e3, e4, e5, e6⟩ := ho
        refine ⟨b, cur, e, e1, e2, e3, by rw [e4, AV.rens_map]; simp, e5, fun j v c hv hc => ?_⟩
        rw [AV.rens_map, List.getElem?_map] at hc
        obtain ⟨c0, hc0, rfl⟩ := Option.map_eq_some_iff.1 hc
        exact rpw v c0 (AV.lts_get hlt1 hc0) (e6 j v c0 hv hc0)
    · obtain ⟨i, hi, rfl⟩ := (outsOf_key _ _ _ _).1 hk
      rw [Nat.zero_add] at hb
      rcases hbw i b hi hb with p | ⟨k, hk, p⟩
      · exact .inl p
      · right
        obtain ⟨j, hj, rfl⟩ := List.getElem_of_mem hk
        refine ⟨_, (outsOf_key _ _ _ _).2 ⟨j, by omega, ?_⟩, p⟩
        rw [Nat.zero_add, rlow j (by omega)]
        simp [List.getD, hj]
    · obtain ⟨i, hi, rfl⟩ := (outsOf_key _ _ _ _).1 hk
      obtain ⟨j, hj, rfl⟩ := (outsOf_key _ _ _ _).1 hk'
      rw [Nat.zero_add] at hb hb' hne
      rw [hIw i hi, hupd i (σc' q)[i] (by simp [hi]), blk_ren] at hb
      rw [hIw j hj, hupd j (σc' q)[j] (by simp [hj]), blk_ren] at hb'
      exact g2.dis i j b (fun e => hne (by rw [e, Nat.zero_add])) (by simpa [sto, List.getD, hi] using hb) (by simpa [sto, List.getD, hj] using hb')
  · obtain ⟨i, hi, rfl⟩ := (outsOf_key _ _ _ _).1 hk
    rw [Nat.zero_add] at hb
    rw [hkeys]
    exact hbw i b hi hb
section
variable {P : Program} {n : Nat} {ops : List Oper} {chk : List FP → Bool} {K : State → Prop} {rest : List Oper} {o : Oper} {fr : Fr} {σ : List Res} {acc : List FP}
theorem Run.cN {d nx : Nat} {x : Operand} {os : Array Operand} {ts : Array TypeId} {f : FuncId} {caps args0 : List AV} {σc : List Res} {ι : Type} {σc' σ' : ι → List Res} {r0 r : ι → AV} {outs : ι → Upds} {k2 : List Nat} (S : List Nat) (hc : ACallsN P f args0 σc r0 σc') (hall : ∀ acc, chk acc = true) (ho : o.dst = some d) (hop : o.op = .call { callee := .value x, args := os, argTypes := ts }) (hw : wantA ops fr o = some true) (hd : Nat.blt d n = true)
    [CallI P f] (hx : evA fr x = .fn f caps) (hS : nodupB S = true) (hl : Nat.beq S.length σc.length = true) (hl' : ∀ q, Nat.ble σc.length (σc' q).length = true) (hlt : ∀ q, (σc' q).all (Res.lt (σc' q).length) = true) (hrl : ∀ q, (r0 q).lt (σc' q).length = true)
    (hlt0 : σc.all (Res.lt σc.length) = true) (hal : AV.lts σc.length args0 = true) (he : Ends σ nx) (hargs : RenLs (renC S nx) args0 (os.toList.map (evA fr) ++ caps)) (hi : InsI σ (renC S nx) S σc) (hSn : S.all (fun k => Nat.blt k nx) = true)
    (hr0 : ∀ q, RenR (renC S nx) (r0 q) (r q)) (hou : ∀ q, OutI (renC S nx) 0 (σc' q) (outs q)) (hok : ∀ q, okU σ.length (outs q) = true) (hpu : ∀ q, Puts σ (outs q) (σ' q)) (hk2 : ∀ q, keys (outs q) = k2) (hnew : k2.all (fun k => S.any (Nat.beq k) || Nat.ble nx k) = true)
    (hr : ∀ q, Run P n ops chk K rest ⟨(d, r q) :: fr, σ' q⟩ acc) : Run P n ops chk K (o :: rest) ⟨fr, σ⟩ acc := by
  refine .opN hall hw (by rw [ho]; exact hd) (OpSN.call S nx hc hop hx hargs.spec hS hSn hl hl' hlt hrl hlt0 hal rfl) hi.spec (fun q => by rw [(hou q).spec]; exact hok q) (fun q k hk => ?_) (fun q => by rw [ho, (hou q).spec, (hpu q).spec, (hr0 q).spec]; exact hr q)
  rw [(hou q).spec, hk2 q] at hk
  have h1 := (List.all_eq_true.1 hnew) k hk
  rw [Bool.or_eq_true] at h1
  rcases h1 with h1 | h1
  · left
    rw [keys_insOf _ _ _ (Nat.eq_of_beq_eq_true hl)]
    obtain ⟨k', hk', he'⟩ := List.any_eq_true.1 h1
    rw [Nat.eq_of_beq_eq_true he']; exact hk'
  · right
    rw [← he.spec]; exact Nat.le_of_ble_eq_true h1
end
end Go.Proofs.YthogjnckkmfhnaaDoor
/-
  Appending in place to an array of the call's own, or out of it when it is full; clear; overlaps. Nothing of the dump is used; no condition.
-/
namespace Go.Proofs.YthogjnckkmfhnaaDoor
open Go.RowKit
set_option linter.unusedVariables false
set_option linter.unusedSimpArgs false
theorem avl_lt (n : Nat) : ∀ l : List PV, AV.lts n (l.map PV.av) = true
  | [] => rfl
  | .v _ :: l => by simp only [List.map_cons, AV.lts, PV.av, AV.lt, avl_lt n l, Bool.and_self]
  | .sl .. :: l => by simp only [List.map_cons, AV.lts, PV.av, AV.lt, avl_lt n l, Bool.and_self]
theorem bxs_lt (n : Nat) (xs : List (List PV)) : AV.lts n (bxs xs) = true := avl_lt n _
theorem avl_rens (ρ : Nat → Nat) : ∀ l : List PV, AV.rens ρ (l.map PV.av) = l.map PV.av
  | [] => rfl
  | .v _ :: l => by simp only [List.map_cons, AV.rens, PV.av, AV.ren, avl_rens ρ l]
  | .sl .. :: l => by simp only [List.map_cons, AV.rens, PV.av, AV.ren, avl_rens ρ l]
theorem bxs_rens (ρ : Nat → Nat) (xs : List (List PV)) : AV.rens ρ (bxs xs) = bxs xs := avl_rens ρ _
section
variable {P : Program} {o : Oper} {ρ : Operand → AV}
theorem updS_same {σ : Nat → Res} {k : Nat} {r : Res} (h : σ k = r) : updS σ [(k, r)] = σ := by
  funext i
  simp only [updS]
  split
  · rename_i e; rw [e, h]
  · rfl
theorem SrcN.g {t tx e : TypeId} {dx : TypeDesc} {z : Value} {sz bytes : Nat} [Und P t (.slice e)] [Und P tx dx] [TyI P e z sz bytes] (hdx : (∃ e', dx = .slice e') ∨ dx = .string) (hzs : z.cells.size = sz) {av : AV} {ys : List (List PV)} {ins : Upds} (h : SrcN P av sz ys ins) : SrcG P t tx e z bytes av sz ys ins := SrcG.of hdx hzs h.src
theorem OpP.sliceB3 {t e : TypeId} {x y y2 y3 : Operand} {kk k2 k3 : IntKind} {l h m : Int} {k sz b0 n0 C lo bytes : Nat} {z : Value} [Und P t (.slice e)] [TyI P e z sz bytes] (ho : o.op = .slice t x (some y) (some y2) (some y3)) (hx : ρ x = .bsl k sz b0 n0 C) (hy : ρ y = .v (.int kk l)) (hy2 : ρ y2 = .v (.int k2 h)) (hy3 : ρ y3 = .v (.int k3 m))
    (h0 : 0 ≤ l := by omega) (h1 : l ≤ h := by omega) (h2 : h ≤ m := by omega) (hh : b0 + m.toNat ≤ C := by omega) (hlo : b0 + l.toNat = lo := by first | ((conv => lhs; simp only [Nat.zero_add]); first | done | rfl) | rfl) : OpP P o ρ (.bsl k sz lo (h.toNat - l.toNat) (b0 + m.toNat)) := by
  subst hlo
  intro I M w a hop
  have q := Rp.bslLe (hx ▸ hop x (by simp [ho, Op.operands]))
  exact OpP.sliceB (P := P) (o := o) (ρ := ρ) (l := some l.toNat) (h := some h.toNat) (m := some m.toNat) ho hx (OpI.so hy (nat_of h0)) (OpI.so hy2 (nat_of (by omega))) (OpI.so hy3 (nat_of (by omega))) (by simp) rfl rfl rfl (by simp only [Option.getD_some]; omega) (by simp only [Option.getD_some]; omega) (by simp only [Option.getD_some]; omega) I M w a hop
/-- append in place -/
theorem OpS.apB {s x : Operand} {t tx e : TypeId} {z : Value} {sz bytes : Nat} [Und P t (.slice e)] [TyI P e z sz bytes] (ho : o.op = .call { callee := .builtin .append, args := #[s, x], argTypes := #[t, tx] })
    {k n C m : Nat} {xs ys zs : List (List PV)} {insx : Upds} (hsv : ρ s = .bsl k sz 0 n C) (hx : SrcG P t tx e z bytes (ρ x) sz ys insx) (hC : xs.length = C) (hsx : ∀ y ∈ xs, y.length = sz) (hm : n + ys.length = m) (hle : m ≤ C) (hr : xs.take n ++ (ys ++ xs.drop m) = zs) (hb : m * bytes ≤ 140737488355328) (h63 : m ≤ maxLen) :
    OpS P o ρ ((k, .box (bxs xs)) :: insx) (.bsl k sz 0 m C) [(k, .box (bxs zs))] := by
  intro I M w a σ K Q hop hs hi _ hK
  subst hm hC
  have h1 := hop s (by simp [ho, Op.operands, Call.operands])
  have h2 := hop x (by simp [ho, Op.operands, Call.operands])
  rw [hsv] at h1
  have hk := hi _ List.mem_cons_self
  have own := hs.own k
  simp only at hk
  rw [hk] at own
  obtain ⟨b, cur, e', e1, e2, e3, e4, e5, e6⟩ := own
  obtain ⟨news, n2, n3, n4, n6, ncore⟩ := hx I M w σ _ h2 hs (fun q hq => hi q (List.mem_cons_of_mem _ hq))
  generalize eq0 : a.eval s = sv at h1
  cases h1 with
  | @bsl _ _ _ _ _ b' A hI hn hA =>
    obtain rfl : b' = b := by rw [hI] at e1; injection e1
    have hxl := bx_len hsx
    have hyl := bx_len n2
    have hmul : (n + ys.length) * sz ≤ xs.length * sz := Nat.mul_le_mul_right _ hle
    rw [Nat.add_mul] at hmul
    let olds := cur.toList.take (n * sz)
    have hol : olds.length = n * sz := by
      simp only [olds, List.length_take, Array.length_toList, e4, hxl]
      omega
    have hog : ∀ (j : Nat) (u : Value), olds[j]? = some u → cur[j]? = some u := by
      intro j u hu
      simp only [olds, List.getElem?_take] at hu
      split at hu
      · simpa using hu
      · cases hu
    have core := ncore o.type A n (xs.length - 0) olds hol
      (fun h0 => ⟨b', 0 * sz, hA (by omega), fun j u hu => by
        rw [Nat.zero_mul, Nat.zero_add, cell_of_row w b' j cur e' (0, 0) e2]
        exact hog j u hu⟩)
      (fun h h0 => ⟨b', cur, e', (0, 0), by rw [hA (by omega), Nat.zero_mul], e2, by rw [e4, hxl, Nat.sub_zero], fun o' _ h => by simp at h⟩) hb h63
    have hput : ∀ w', Sto I M w' (updS σ [(k, .box (bxs zs))]) → Ext (fun b => b = b') I I M M w w' → K (a.put o.dst (.slice A (n + ys.length) (xs.length - 0))) w' := by
      intro w' g1 g2
      refine hK _ I M w' (.bsl hI (by omega) hA) g1 (g2.wide fun b h => ?_) (fun _ _ => rfl) (fun i hi' b hb => ?_)
      · intro h2; exact ⟨k, by simp [keys], by rw [hI, hk]; simp [blkOf, h2]⟩
      · obtain rfl : i = k := by simpa [keys] using hi'
        refine .inr ⟨i, by simp [keys], ?_⟩
        simp only [updS, if_true, hI, blkOf] at hb
        rw [hI, hk]
        exact hb
    rcases core with ⟨_, h0, hrun⟩ | ⟨_, h0, g, hg, hrun⟩ | ⟨hlt, _⟩
    · have hy0 : ys = [] := List.eq_nil_of_length_eq_zero h0
      subst hy0
      have hz : zs = xs := by rw [← hr]; simp
      subst hz
      have := hput w (by rw [updS_same hk]; exact hs) (Ext.refl _ _ _ _)
      unfold Oper.wp execOp
      simp only [ho, resolve, invoke, builtin, Sem.run_bind, Sem.run_pure, Result.andThen_ok, List.map_toArray, List.map_cons, List.map_nil, eq0, hrun]
      exact this
    · have hgb : g = b' := by
        have := hA (by omega)
        rw [hg] at this
        injection this with this
        injection this
      subst hgb
      have hc : (bxs xs).take (n * sz) ++ (bxs ys ++ (bxs xs).drop (n * sz + (bxs ys).length)) = bxs zs := by
        rw [← hr, bx_append, bx_append, bx_take hsx, bx_drop hsx, hyl, Nat.add_mul]
      obtain ⟨w1, w2, w3⟩ := box_write (P := P) hs (off := n * sz) (vs := news) (new := bxs ys) hk hI (by rw [n3, hyl]) n4 (fun i v c hv hcc => by
        rw [bxs, List.getElem?_map] at hcc
        obtain ⟨p, hp, rfl⟩ := Option.map_eq_some_iff.1 hcc
        obtain ⟨u, hu, hr⟩ := n6 i p hp
        rw [hv] at hu; injection hu with hu; subst hu
        exact hr.rp) (by rw [hxl, hyl]; omega) hc
      unfold Oper.wp execOp
      simp only [ho, resolve, invoke, builtin, Sem.run_bind, Sem.run_pure, Result.andThen_ok, List.map_toArray, List.map_cons, List.map_nil, eq0, hrun]
      exact hput _ w2 w3
    · omega
/-- append to an array of the call's own that is full: a new array -/
theorem OpSN.apBB {s x : Operand} {t tx e : TypeId} {z : Value} {sz bytes : Nat} [Und P t (.slice e)] [TyI P e z sz bytes] (k : Nat) (ho : o.op = .call { callee := .builtin .append, args := #[s, x], argTypes := #[t, tx] })
    (hzs : z.cells.size = sz) (hz1 : z.cells.toList.all (·.oneCell') = true) {k0 n C m : Nat} {ys xs0 : List (List PV)} {insx : Upds} (hsv : ρ s = .bsl k0 sz 0 n C) (hx : SrcG P t tx e z bytes (ρ x) sz ys insx) (hC : xs0.length = C) (hsx : ∀ y ∈ xs0, y.length = sz) (hm : n + ys.length = m) (hlt : C < m) (hnk : k ≠ k0) (hkin : k ∉ keys insx) (hb : m * bytes ≤ 140737488355328) (h63 : m ≤ maxLen) :
    OpSN P o ρ ((k0, .box (bxs xs0)) :: insx) (ι := Nat) (fun d => .bsl k sz 0 m (m + d)) (fun d => [(k, .box (bxs (xs0.take n ++ ys ++ List.replicate d (z.cells.toList.map PV.v))))]) := by
  intro I M w a σ1 K1 Q hop hs hi hnew hK
  subst hm hC
  have h1 := hop s (by simp [ho, Op.operands, Call.operands])
  have h2 := hop x (by simp [ho, Op.operands, Call.operands])
  rw [hsv] at h1
  have hk0 := hi _ List.mem_cons_self
  have own := hs.own k0
  simp only at hk0
  rw [hk0] at own
  obtain ⟨b, cur0, e', e1, e2, e3, e4, e5, e6⟩ := own
  obtain ⟨hk1, hk2⟩ := (hnew 0 k (by simp [keys])).resolve_left (by simp only [keys, List.map_cons, List.mem_cons, not_or]; exact ⟨hnk, hkin⟩)
  obtain ⟨news, n2, n3, n4, n6, ncore⟩ := hx I M w σ1 _ h2 hs (fun q hq => hi q (List.mem_cons_of_mem _ hq))
  generalize eq0 : a.eval s = sv at h1
  cases h1 with
  | @bsl _ _ _ _ _ b' A hI hn hA =>
  obtain rfl : b' = b := by rw [hI] at e1; injection e1
  have hz' : ∀ y ∈ xs0.take n, y.length = sz := fun y h => hsx y (List.mem_of_mem_take h)
  have hxl0 := bx_len hsx
  have hnle : n * sz ≤ xs0.length * sz := Nat.mul_le_mul_right _ (by omega)
  have htl : (xs0.take n).length = n := by rw [List.length_take]; omega
  let olds := cur0.toList.take (n * sz)
  have hol : olds.length = n * sz := by
    simp only [olds, List.length_take, Array.length_toList, e4, hxl0]
    omega
  have hog : ∀ (j : Nat) (u : Value), olds[j]? = some u → cur0[j]? = some u := by
    intro j u hu
    simp only [olds, List.getElem?_take] at hu
    split at hu
    · simpa using hu
    · cases hu
  have core := ncore o.type A n (xs0.length - 0) olds hol
    (fun h0 => ⟨b', 0 * sz, hA (by omega), fun j u hu => by
      rw [Nat.zero_mul, Nat.zero_add, cell_of_row w b' j cur0 e' (0, 0) e2]
      exact hog j u hu⟩) (fun h _ => by omega) hb h63
  rcases core with ⟨hr, _⟩ | ⟨hr, _⟩ | ⟨hr, c1, hc1, hrun⟩
  · omega
  · omega
  · obtain ⟨d, rfl⟩ : ∃ d, c1 = n + ys.length + d := ⟨c1 - (n + ys.length), by omega⟩
    rw [Nat.add_sub_cancel_left] at hrun
    let zs : List PV := z.cells.toList.map PV.v
    let cur : Array Value := olds.toArray ++ news.toArray ++ Builtin.zeroCells z.cells d
    let cs := bxs (xs0.take n ++ ys ++ List.replicate d zs)
    have hxl : (bxs (xs0.take n)).length = n * sz := by rw [bx_len hz', htl]
    have hyl : (bxs ys).length = ys.length * sz := bx_len n2
    have hzsl : zs.length = sz := by simp [zs, hzs]
    have hzl : (bxs (List.replicate d zs)).length = d * sz := by
      have := bx_len (sz := sz) (xs := List.replicate d zs) (fun y h => by rw [(List.mem_replicate.1 h).2]; exact hzsl)
      simpa using this
    have hcs : cs = bxs (xs0.take n) ++ (bxs ys ++ bxs (List.replicate d zs)) := by simp only [cs, bx_append, List.append_assoc]
    have hlen : cs.length = cur.size := by
      rw [hcs]
      simp only [List.length_append, hxl, hyl, hzl, cur, Array.size_append, List.size_toArray, hol, n3, size_zeroCells, hzs]
      omega
    have hcur : cur.toList = olds ++ (news ++ (Builtin.zeroCells z.cells d).toList) := by simp [cur]
    have hone : ∀ (i : Nat) (v : Value), cur[i]? = some v → v.oneCell' = true ∧ ∀ c, cs[i]? = some c → Rp I M w v c := by
      intro i v hv
      rw [← Array.getElem?_toList, hcur] at hv
      rw [hcs]
      rcases Nat.lt_or_ge i (n * sz) with q | q
      · rw [List.getElem?_append_left (by omega)] at hv
        refine ⟨e5 i v (hog i v hv), fun c hc => ?_⟩
        rw [List.getElem?_append_left (by omega), bx_take hsx, List.getElem?_take, if_pos q] at hc
        exact e6 i v c (hog i v hv) hc
      · rw [List.getElem?_append_right (by omega), hol] at hv
        rcases Nat.lt_or_ge (i - n * sz) (ys.length * sz) with q2 | q2
        · rw [List.getElem?_append_left (by omega)] at hv
          refine ⟨n4 v (List.mem_of_getElem? hv), fun c hc => ?_⟩
          rw [List.getElem?_append_right (by omega), hxl, List.getElem?_append_left (by omega), bxs, List.getElem?_map] at hc
          obtain ⟨p, hp, rfl⟩ := Option.map_eq_some_iff.1 hc
          obtain ⟨u', hu', hr'⟩ := n6 _ p hp
          rw [hv] at hu'; injection hu' with hu'; subst hu'
          exact hr'.rp
        · rw [List.getElem?_append_right (by omega), n3, Array.getElem?_toList, zeroCells_get] at hv
          split at hv
          · rename_i hlt
            injection hv with hv
            have hposz : 0 < z.cells.size := by
              rcases Nat.eq_zero_or_pos z.cells.size with h | h
              · rw [h] at hlt; omega
              · exact h
            have hmod := Nat.mod_lt (i - n * sz - ys.length * sz) hposz
            simp only [hmod, getElem!_pos] at hv
            refine ⟨by rw [← hv]; exact List.all_eq_true.1 hz1 _ (by simp), fun c hc => ?_⟩
            rw [List.getElem?_append_right (by omega), hxl, List.getElem?_append_right (by omega), hyl, zbx_get] at hc
            simp only [hzsl] at hc
            rw [hzs] at hlt hmod
            rw [if_pos hlt, List.getElem?_map] at hc
            simp only [Array.getElem?_toList, hzs, List.getElem?_map, Option.map_map, zs] at hc
            rw [Array.getElem?_eq_getElem (by rw [hzs]; exact hmod)] at hc
            have : AV.v v = c := by
              rw [← hv]
              simpa [PV.av, hzs] using hc
            subst this
            exact .v _
          · cases hv
    have hsd : Sto I M w.drew σ1 := hs.stay ⟨rfl, rfl, rfl, fun _ => CI.le_refl _, ⟨Nat.le_refl _, fun _ => Nat.le_refl _, fun _ _ _ _ h => h⟩, fun _ _ _ => ⟨rfl, rfl⟩⟩ hs.top
    have hRp : Rp I M w.drew (.agg cur) (.agg cs) := .agg hlen.symm (fun i v hv => (hone i v hv).1) fun i v c hv hc => ((hone i v hv).2 c hc).evo (fun _ => CI.le_refl _) (show Evo M M w w.drew from ⟨Nat.le_refl _, fun _ => Nat.le_refl _, fun _ _ _ _ h => h⟩)
    obtain ⟨r1, r2, r3, r4⟩ := newVar_ok (t := e) hsd hRp rfl k hk1 hk2
    have hx3 : Ext (fun _ => False) I (fun i => if i = k then CI.box w.heap.size else I i) M M w (w.drew.alloc (.cells cur e)) := ⟨r3.os, r3.tape, r3.output, r3.le, ⟨r3.evo.size, r3.evo.mask, r3.evo.keep⟩, r3.oth⟩
    unfold Oper.wp execOp
    simp only [ho, resolve, invoke, builtin, Sem.run_bind, Sem.run_pure, Result.andThen_ok, List.map_toArray, List.map_cons, List.map_nil, eq0, hrun]
    refine hK d _ (fun i => if i = k then CI.box w.heap.size else I i) M _ (.bsl (b := w.heap.size) (lo := 0) (C := n + ys.length + d) (by simp) (by omega) (fun _ => by simp)) r2 (hx3.wide fun _ _ h => h.elim) (fun i hi => r4 i (by simpa [keys] using hi)) fun i hi b hb => ?_
    obtain rfl : i = k := by simpa [keys] using hi
    simp only [updS, if_true, blkOf] at hb
    injection hb with hb
    exact .inl (by omega)
/-- clear of a part of an array of the call's own -/
theorem OpS.clB {x : Operand} {t e : TypeId} {z : Value} {sz bytes : Nat} [Und P t (.slice e)] [TyI P e z sz bytes] (ho : o.op = .call { callee := .builtin .clear, args := #[x], argTypes := #[t] })
    (hzs : z.cells.size = sz) (hz1 : z.cells.toList.all (·.oneCell') = true) {k lo n C : Nat} {xs zs : List (List PV)} (hxv : ρ x = .bsl k sz lo n C) (hC : lo + n ≤ xs.length) (hsx : ∀ y ∈ xs, y.length = sz) (hr : xs.take lo ++ (List.replicate n (z.cells.toList.map PV.v) ++ xs.drop (lo + n)) = zs) :
    OpS P o ρ [(k, .box (bxs xs))] (.v (.tuple #[])) [(k, .box (bxs zs))] := by
  intro I M w a σ K Q hop hs hi _ hK
  have h1 := hop x (by simp [ho, Op.operands, Call.operands])
  rw [hxv] at h1
  have hk := hi _ List.mem_cons_self
  have own := hs.own k
  simp only at hk
  rw [hk] at own
  obtain ⟨b, cur, e', e1, e2, e3, e4, e5, e6⟩ := own
  obtain ⟨_, _, _, _, _, _, hzv, hsz⟩ := run_typeInfo (P := P) (t := e) w
  generalize eq0 : a.eval x = sv at h1
  cases h1 with
  | @bsl _ _ _ _ _ b' A hI hn hA =>
    obtain rfl : b' = b := by rw [hI] at e1; injection e1
    have hxl := bx_len hsx
    have hput : ∀ w', Sto I M w' (updS σ [(k, .box (bxs zs))]) → Ext (fun b => b = b') I I M M w w' → K (a.put o.dst (.tuple #[])) w' := by
      intro w' g1 g2
      refine hK _ I M w' (.v _) g1 (g2.wide fun b h => ?_) (fun _ _ => rfl) (fun i hi' b hb => ?_)
      · intro h2; exact ⟨k, by simp [keys], by rw [hI, hk]; simp [blkOf, h2]⟩
      · obtain rfl : i = k := by simpa [keys] using hi'
        refine .inr ⟨i, by simp [keys], ?_⟩
        simp only [updS, if_true, hI, blkOf] at hb
        rw [hI, hk]
        exact hb
    rcases Nat.eq_zero_or_pos n with h0 | h0
    · subst h0
      have hz : zs = xs := by rw [← hr]; simp
      subst hz
      have := hput w (by rw [updS_same hk]; exact hs) (Ext.refl _ _ _ _)
      unfold Oper.wp
      have hrun : (execOp a.eval o).run P w = .ok (.value (.tuple #[])) w := by
        cases A with
        | none => simp [execOp, ho, resolve, invoke, builtin, eq0, Builtin.clear_, run_und]
        | some A => simp [execOp, ho, resolve, invoke, builtin, eq0, Builtin.clear_, run_und]
      rw [hrun]
      exact this
    · obtain rfl := hA (by omega)
      have hnz : (Builtin.zeroCells z.cells n).toList.length = (bxs (List.replicate n (z.cells.toList.map PV.v))).length := by
        rw [bx_len (sz := sz) (fun y h => by rw [(List.mem_replicate.1 h).2]; simp [hzs]), Array.length_toList, size_zeroCells, List.length_replicate, hzs]
      have hbl : (bxs (List.replicate n (z.cells.toList.map PV.v))).length = n * sz := by
        rw [bx_len (sz := sz) (fun y h => by rw [(List.mem_replicate.1 h).2]; simp [hzs]), List.length_replicate]
      have hc : (bxs xs).take (lo * sz) ++ (bxs (List.replicate n (z.cells.toList.map PV.v)) ++ (bxs xs).drop (lo * sz + (bxs (List.replicate n (z.cells.toList.map PV.v))).length)) = bxs zs := by
        rw [← hr, bx_append, bx_append, bx_take hsx, bx_drop hsx, hbl, Nat.add_mul]
      have hzc : ∀ (i : Nat) (v : Value), (Builtin.zeroCells z.cells n).toList[i]? = some v → v.oneCell' = true ∧ ∀ c, (bxs (List.replicate n (z.cells.toList.map PV.v)))[i]? = some c → Rp I M w v c := by
        intro i v hv
        rw [Array.getElem?_toList, zeroCells_get] at hv
        split at hv
        · rename_i hlt
          injection hv with hv
          have hposz : 0 < z.cells.size := by
            rcases Nat.eq_zero_or_pos z.cells.size with h | h
            · rw [h] at hlt; omega
            · exact h
          have hmod := Nat.mod_lt i hposz
          simp only [hmod, getElem!_pos] at hv
          refine ⟨by rw [← hv]; exact List.all_eq_true.1 hz1 _ (by simp), fun c hc => ?_⟩
          have hzsl : (z.cells.toList.map PV.v).length = sz := by simp [hzs]
          rw [zbx_get] at hc
          simp only [hzsl] at hc
          rw [hzs] at hlt hmod
          rw [if_pos hlt, List.getElem?_map] at hc
          simp only [Array.getElem?_toList, hzs, List.getElem?_map, Option.map_map] at hc
          rw [Array.getElem?_eq_getElem (by rw [hzs]; exact hmod)] at hc
          have : AV.v v = c := by
            rw [← hv]
            simpa [PV.av, hzs] using hc
          subst this
          exact .v _
        · cases hv
      have hmul : (lo + n) * sz ≤ xs.length * sz := Nat.mul_le_mul_right _ hC
      rw [Nat.add_mul] at hmul
      obtain ⟨w1, w2, w3⟩ := box_write (P := P) hs (off := lo * sz) (vs := (Builtin.zeroCells z.cells n).toList) (new := bxs (List.replicate n (z.cells.toList.map PV.v))) hk hI hnz (fun v hv => by
        obtain ⟨i, hi⟩ := List.getElem?_of_mem hv
        exact (hzc i v hi).1) (fun i v c hv hcc => (hzc i v hv).2 c hcc) (by rw [hxl, hbl]; omega) hc
      have hrun : (execOp a.eval o).run P w = .ok (.value (.tuple #[])) (w.setCells b' (lo * sz) (Builtin.zeroCells z.cells n).toList) := by
        obtain ⟨n, rfl⟩ : ∃ q, n = q + 1 := ⟨n - 1, by omega⟩
        simp [execOp, ho, resolve, invoke, builtin, eq0, Builtin.clear_, run_und, hzv]
        simp [w1]
      unfold Oper.wp
      rw [hrun]
      exact hput _ w2 w3
/-- two slices of which one is a part of an array of the call's own do not overlap -/
theorem OpR.ovl {x y xf : Operand} {f : FuncId} {fn : Func} {tS e : TypeId} {ts ps rs : Array TypeId} {z : Value} {sz bytes : Nat} [Und P tS (.slice e)] [TyI P e z sz bytes] (ho : o.op = .call { callee := .value xf, args := #[x, y], argTypes := ts })
    (hf : P.funcs[f]? = some fn) (hname : (fn.name == "runtime.NumGoroutine") = false) (hbd : fn.body.isNone = true) (hnx : Extern.findNext fn = none) (he : Extern.find fn = some (Extern.SlicesOverlaps.overlaps ps rs)) (hps : ps[0]? = some tS)
    {k lo n C sx : Nat} {full : Bool} {xs : List (List PV)} {cs : List AV} (hxf : ρ xf = .fn f []) (hxv : ρ x = .sl sx xs full) (hyv : ρ y = .bsl k sz lo n C) (hsx : 0 < sx) (hlo : n = 0 ∨ lo < C) : OpR P o ρ [(k, .box cs)] (.v (.bool false)) := by
  intro I M w a σ hop hs hi
  have h0 := hop xf (by simp [ho, Op.operands, Call.operands])
  have h1 := hop x (by simp [ho, Op.operands, Call.operands])
  have h2 := hop y (by simp [ho, Op.operands, Call.operands])
  rw [hxf] at h0
  rw [hxv] at h1
  rw [hyv] at h2
  have hk := hi _ List.mem_cons_self
  have own := hs.own k
  simp only at hk
  rw [hk] at own
  obtain ⟨b, cur, e', e1, e2, e3, e4, e5, e6⟩ := own
  obtain ⟨_, _, _, _, _, _, hzv, hsz⟩ := run_typeInfo (P := P) (t := e) w
  refine ⟨.bool false, ?_, .v _⟩
  generalize eq0 : a.eval xf = fv at h0
  generalize eq1 : a.eval x = xv at h1
  generalize eq2 : a.eval y = yv at h2
  cases h0 with
  | @fn _ vs _ hvs hcs =>
  obtain rfl : vs = #[] := Array.eq_empty_of_size_eq_zero (by simpa using hvs)
  cases h2 with
  | @bsl _ _ _ _ _ b' B hI hn hA =>
  obtain rfl : b' = b := by rw [hI] at e1; injection e1
  cases h1 with
  | @sl A n1 c1 _ _ _ hr _ =>
  have key : (Extern.SlicesOverlaps.overlaps ps rs #[.slice A n1 c1, .slice B n (C - lo)]).run P w = .ok (.bool false) w := by
    obtain ⟨G, s1, s2, base, hG⟩ : ∃ (G : Addr → Addr → Nat → Sem Value) (s1 s2 : String), (∀ ps rs : Array TypeId, Extern.SlicesOverlaps.overlaps ps rs #[.slice A n1 c1, .slice B n (C - lo)] = (do
        let some t := ps[0]? | stuck s1
        let .slice elem ← underlying t | stuck s2
        let size ← sizeOf elem
        match A, B with
        | some a, some b => if n1 = 0 ∨ n = 0 ∨ size = 0 then pure (Value.bool false) else G a b size
        | _, _ => pure (Value.bool false))) ∧
        ∀ (b1 o1 b2 o2 size q m : Nat) (T1 T2 : TypeId), b1 ≠ b2 → w.shape? b1 = some (T1, q + 1) → w.shape? b2 = some (T2, m) → (∀ off, w.frozen? ⟨b2, off, none⟩ = false) → Sem.run P (G ⟨b1, o1, none⟩ ⟨b2, o2, none⟩ size) w = .ok (.bool false) w := by
      refine ⟨_, _, _, fun _ _ => rfl, fun b1 o1 b2 o2 size q m T1 T2 hne hsa hsb hfb => ?_⟩
      have hnb : (b1 != b2) = true := by simpa using hne
      have hnb' : (b1 == b2) = false := by simpa using hne
      cases hfa : w.frozen? ⟨b1, o1, none⟩ <;> cases hfe : w.frozen? ⟨b1, q + 1, none⟩ <;>
        simp [hnb, hnb', frozen, noView, viewAt, mayBeOne, stringish, shape, Sem.run, hsa, hsb, hfb, hfa, hfe]
    rw [base]
    cases A with
    | none => cases B <;> simp [hps, run_und, hsz]
    | some A => cases B with
      | none => simp [hps, run_und, hsz]
      | some B =>
        by_cases hz0 : n1 = 0 ∨ n = 0 ∨ sz = 0
        · simp [hps, run_und, hsz, hz0]
        · have hB := hA (by omega)
          injection hB with hB
          subst hB
          cases hr with
          | sl b1 off1 u hn1 hc' hz' hA1 hM1 hcell h11 hu =>
            have hA1' := hA1 (by omega)
            injection hA1' with hA1'
            subst hA1'
            have hpos : 0 < n1 * sx := Nat.mul_pos (by omega) hsx
            have hne : b1 ≠ b' := by
              rintro rfl
              have := hM1 (by omega)
              omega
            have hc0 := hcell 0 hpos
            obtain ⟨c, ec, fr, hcb, hcs0⟩ : ∃ c ec fr, w.heap[b1]? = some (.cells c ec fr) ∧ c.size ≠ 0 := by
              simp only [World.cell?] at hc0
              split at hc0
              · rename_i c ec fr hh
                refine ⟨c, ec, fr, hh, ?_⟩
                intro h
                simp at hc0
                have := (Array.getElem?_eq_some_iff.1 hc0).1
                omega
              · cases hc0
            have hsa : w.shape? b1 = some (ec, c.size) := by simp [World.shape?, hcb]
            have hsb : w.shape? b' = some (e', cur.size) := by simp [World.shape?, e2]
            have hfb : ∀ off, w.frozen? ⟨b', off, none⟩ = false := fun off => by simp [World.frozen?, e2]
            cases hsz0 : c.size with
            | zero => exact absurd hsz0 hcs0
            | succ q =>
              rw [hsz0] at hsa
              have hg := hG b1 off1 b' (lo * sz) sz q _ _ _ hne hsa hsb hfb
              simp [hps, run_und, hsz, hz0, hg]
  have := run_callFunc_extern hf hname hbd hnx he #[.slice A n1 c1, .slice B n (C - lo)] w
  rw [key] at this
  simp [execOp, ho, resolve, eq0, eq1, eq2, Deferred.ofValue, invoke, this]
end
section
variable {P : Program} {n : Nat} {ops : List Oper} {chk : List FP → Bool} {K : State → Prop} {rest : List Oper} {o : Oper} {fr : Fr} {σ : List Res} {acc : List FP}
theorem Run.apB {d k m C mm sz bytes : Nat} {s x : Operand} {t tx e : TypeId} {dx : TypeDesc} {z : Value} {xs ys zs : List (List PV)} {insx : Upds} {ks : List Nat} {σ' : List Res} [Und P t (.slice e)] [Und P tx dx] [TyI P e z sz bytes] (ho : o.dst = some d) (hop : o.op = .call { callee := .builtin .append, args := #[s, x], argTypes := #[t, tx] })
    (hw : wantA ops fr o = some true) (hd : Nat.blt d n = true) (hdx : (∃ e', dx = .slice e') ∨ dx = .string) (hzs : z.cells.size = sz) (hsv : evA fr s = .bsl k sz 0 m C) (hk : sto σ k = .box (bxs xs)) (hy : SrcNI P (evA fr x) σ sz ys insx) (hsx : ∀ y ∈ xs, y.length = sz) (hC : xs.length = C) (hm : m + ys.length = mm) (hle : mm ≤ C)
    (hz : xs.take m ++ (ys ++ xs.drop mm) = zs) (hb : mm * bytes ≤ 140737488355328) (h63 : mm ≤ maxLen) (hσ : PutAt σ k (.box (bxs zs)) σ') (hks : k :: keys insx = ks)
    (hr : Run P n ops chk K rest ⟨(d, .bsl k sz 0 mm C) :: fr, σ'⟩ (acc ++ [(ks, [k])])) : Run P n ops chk K (o :: rest) ⟨fr, σ⟩ acc := by
  subst hks
  refine .op (ins := (k, .box (bxs xs)) :: insx) hw (by rw [ho]; exact hd) (OpS.apB hop hsv (hy.1.g hdx hzs) hC hsx hm hle hz hb h63) (fun q hq => by
    rcases List.mem_cons.1 hq with rfl | hq
    · exact hk
    · exact hy.2 q hq) (okU_one hσ).1 (fun k' hk' => .inl (by
      obtain rfl : k' = k := by simpa [keys] using hk'
      simp [keys])) (by rw [ho, (okU_one hσ).2]; exact hr)
theorem Run.clB {k lo m C sz bytes : Nat} {x : Operand} {t e : TypeId} {z : Value} {xs zs : List (List PV)} {σ' : List Res} [Und P t (.slice e)] [TyI P e z sz bytes] (ho : o.dst = none) (hop : o.op = .call { callee := .builtin .clear, args := #[x], argTypes := #[t] })
    (hw : wantA ops fr o = some true) (hzs : z.cells.size = sz) (hz1 : z.cells.toList.all (·.oneCell') = true) (hsv : evA fr x = .bsl k sz lo m C) (hk : sto σ k = .box (bxs xs)) (hsx : ∀ y ∈ xs, y.length = sz) (hC : lo + m ≤ xs.length)
    (hz : xs.take lo ++ (List.replicate m (z.cells.toList.map PV.v) ++ xs.drop (lo + m)) = zs) (hσ : PutAt σ k (.box (bxs zs)) σ')
    (hr : Run P n ops chk K rest ⟨fr, σ'⟩ (acc ++ [([k], [k])])) : Run P n ops chk K (o :: rest) ⟨fr, σ⟩ acc :=
  .op (ins := [(k, .box (bxs xs))]) hw (by rw [ho]; rfl) (OpS.clB hop hzs hz1 hsv hC hsx hz) (one_in hk) (okU_one hσ).1 (fun k' hk' => .inl (by
      obtain rfl : k' = k := by simpa [keys] using hk'
      simp [keys])) (by rw [ho, (okU_one hσ).2]; exact hr)
theorem Run.apBB {d k k0 m C mm sz bytes : Nat} {s x : Operand} {t tx e : TypeId} {k1 k2 : IntKind} {a : Int} {q : Nat} {z : Value} {xs : List (List PV)} [Und P t (.slice e)] [Und P tx (.int k1)] [TyI P e z sz bytes] (hall : ∀ acc, chk acc = true) (ho : o.dst = some d) (hop : o.op = .call { callee := .builtin .append, args := #[s, x], argTypes := #[t, tx] })
    (hw : wantA ops fr o = some true) (hd : Nat.blt d n = true) (hzs : z.cells.size = sz) (hz1 : z.cells.toList.all (·.oneCell') = true) (hsv : evA fr s = .bsl k0 sz 0 m C) (hx : evA fr x = .v (.int k2 a)) (ha : a = (q : Int)) (hk0 : sto σ k0 = .box (bxs xs)) (hsx : ∀ y ∈ xs, y.length = sz) (hC : xs.length = C) (hm : m + q = mm) (hlt : C < mm) (hk : k = σ.length) (hkl : k0 < σ.length) (hb : mm * bytes ≤ 140737488355328) (h63 : mm ≤ maxLen)
    (hr : ∀ d', Run P n ops chk K rest ⟨(d, .bsl k sz 0 mm (mm + d')) :: fr, σ ++ [.box (bxs (xs.take m ++ List.replicate q (z.cells.toList.map PV.v) ++ List.replicate d' (z.cells.toList.map PV.v)))]⟩ acc) : Run P n ops chk K (o :: rest) ⟨fr, σ⟩ acc := by
  subst hk
  have hx' := SrcG.zeros (P := P) (t := t) (tx := tx) (e := e) (k1 := k1) (bytes := bytes) hzs hz1 hx ha
  have hO := OpSN.apBB σ.length hop hzs hz1 hsv hx' hC hsx (by simpa using hm) hlt (by omega) (by simp [keys]) hb h63
  have hput : ∀ r, okU σ.length [(σ.length, r)] = true ∧ updL σ [(σ.length, r)] = σ ++ [r] := fun r => okU_one (putEnd σ r)
  exact .opN hall hw (by rw [ho]; exact hd) hO (one_in hk0) (fun d' => (hput _).1) (fun d' k' hk' => .inr (by
    obtain rfl : k' = σ.length := by simpa [keys] using hk'
    exact Nat.le_refl _)) (fun d' => by rw [ho, (hput _).2]; exact hr d')
theorem Run.ovl {d k lo m C sz sx bytes : Nat} {x y xf : Operand} {f : FuncId} {fn : Func} {tS tS2 e : TypeId} {ps rs : Array TypeId} {z : Value} {full : Bool} {xs : List (List PV)} {cs : List AV} [Und P tS (.slice e)] [TyI P e z sz bytes] (ho : o.dst = some d) (hop : o.op = .call { callee := .value xf, args := #[x, y], argTypes := #[tS, tS2] })
    (hw : wantA ops fr o = some true) (hd : Nat.blt d n = true) (hf : P.funcs[f]? = some fn) (hname : (fn.name == "runtime.NumGoroutine") = false) (hbd : fn.body.isNone = true) (hnx : Extern.findNext fn = none) (he : Extern.find fn = some (Extern.SlicesOverlaps.overlaps ps rs)) (hps : ps[0]? = some tS)
    (hxf : evA fr xf = .fn f []) (hxv : evA fr x = .sl sx xs full) (hyv : evA fr y = .bsl k sz lo m C) (hsx : 0 < sx) (hlo : m = 0 ∨ lo < C) (hk : sto σ k = .box cs)
    (hr : Run P n ops chk K rest ⟨(d, .v (.bool false)) :: fr, σ⟩ (acc ++ [([k], [])])) : Run P n ops chk K (o :: rest) ⟨fr, σ⟩ acc :=
  .op (ins := [(k, .box cs)]) (outs := []) (v := .v (.bool false)) hw (by rw [ho]; exact hd) (OpR.ovl hop hf hname hbd hnx he hps hxf hxv hyv hsx hlo).s (one_in hk) rfl (fun _ h => by cases h) (by rw [ho]; exact hr)
theorem Cr.bxs {σ : Nat → Res} {ρ : Nat → Nat} {xs ys : List (List PV)} (h : xs = ys) : Cr σ ρ (.box (bxs xs)) (.box (bxs ys)) := by
  subst h
  refine .box ?_
  rw [bxs_rens]
  exact CvL.refl _
theorem bxs_lt' (n : Nat) (xs : List (List PV)) : Res.lt n (.box (bxs xs)) = true := bxs_lt n xs
theorem bxs_all (n : Nat) (xs : List (List PV)) : [Res.box (bxs xs)].all (Res.lt n) = true := by simp [Res.lt, bxs_lt]
theorem RenLs.of {ρ : Nat → Nat} : ∀ (l : List PV), RenLs ρ (l.map PV.av) (l.map PV.av)
  | [] => .nil
  | .v _ :: l => .cons .v (RenLs.of l)
  | .sl .. :: l => .cons .sl (RenLs.of l)
theorem RenLs.bxs {ρ : Nat → Nat} (xs : List (List PV)) : RenLs ρ (bxs xs) (bxs xs) := RenLs.of _
theorem Run.apBS {d k m sz bytes : Nat} {s x : Operand} {t tx e : TypeId} {dx : TypeDesc} {z : Value} {xs ys : List (List PV)} {insx : Upds} [Und P t (.slice e)] [Und P tx dx] [TyI P e z sz bytes] (hall : ∀ acc, chk acc = true) (ho : o.dst = some d) (hop : o.op = .call { callee := .builtin .append, args := #[s, x], argTypes := #[t, tx] })
    (hw : wantA ops fr o = some true) (hd : Nat.blt d n = true) (hdx : (∃ e', dx = .slice e') ∨ dx = .string) (hzs : z.cells.size = sz) (hz1 : z.cells.toList.all (·.oneCell') = true) (hsv : evA fr s = .sl sz xs true ∨ evA fr s = .v (.slice none 0 0) ∧ xs = []) (hy : SrcNI P (evA fr x) σ sz ys insx) (hm : xs.length + ys.length = m) (hpos : 0 < ys.length) (hb : m * bytes ≤ 140737488355328) (h63 : m ≤ maxLen) (hk : k = σ.length) (hki : k ∉ keys insx)
    (hr : ∀ d', Run P n ops chk K rest ⟨(d, .bsl k sz 0 m (m + d')) :: fr, σ ++ [.box (bxs (xs ++ ys ++ List.replicate d' (z.cells.toList.map PV.v)))]⟩ acc) : Run P n ops chk K (o :: rest) ⟨fr, σ⟩ acc := by
  subst hk
  have hO := OpSN.appB σ.length hop hzs hz1 hsv (hy.1.g hdx hzs) hm hpos hki hb h63
  have hput : ∀ r, okU σ.length [(σ.length, r)] = true ∧ updL σ [(σ.length, r)] = σ ++ [r] := fun r => okU_one (putEnd σ r)
  exact .opN hall hw (by rw [ho]; exact hd) hO hy.2 (fun d' => (hput _).1) (fun d' k' hk' => .inr (by
    obtain rfl : k' = σ.length := by simpa [keys] using hk'
    exact Nat.le_refl _)) (fun d' => by rw [ho, (hput _).2]; exact hr d')
/-- nothing is appended -/
theorem OpS.ap0 {s x : Operand} {t tx e : TypeId} {dx : TypeDesc} {z : Value} {sz bytes : Nat} {ρ : Operand → AV} [Und P t (.slice e)] [Und P tx dx] [TyI P e z sz bytes] (ho : o.op = .call { callee := .builtin .append, args := #[s, x], argTypes := #[t, tx] })
    (hdx : (∃ e', dx = .slice e') ∨ dx = .string) (hzs : z.cells.size = sz) {xs : List (List PV)} {f : Bool} {insx : Upds} (hsv : ρ s = .sl sz xs f) (hx : SrcN P (ρ x) sz [] insx) (hb : xs.length * bytes ≤ 140737488355328) (h63 : xs.length ≤ maxLen) : OpS P o ρ insx (.sl sz xs f) [] := by
  intro I M w a σ K Q hop hs hi _ hK
  have h1 := hop s (by simp [ho, Op.operands, Call.operands])
  have h2 := hop x (by simp [ho, Op.operands, Call.operands])
  rw [hsv] at h1
  obtain ⟨news, n2, n3, n4, n6, ncore⟩ := (hx.g (t := t) (tx := tx) (e := e) (bytes := bytes) hdx hzs) I M w σ _ h2 hs hi
  generalize eq0 : a.eval s = sv at h1
  have hv := h1
  cases h1 with
  | @sl A n1 c1 _ _ _ r0 hf =>
  cases r0 with
  | sl b off u hn hc' hz' hA hM hcell h11 hu =>
  subst hn
  let olds := (List.range (xs.length * sz)).map u
  have core := ncore o.type A xs.length c1 olds (by simp [olds])
    (fun h0 => ⟨b, off, hA h0, fun j v hv => by
      have hj : j < xs.length * sz := by have := (List.getElem?_eq_some_iff.1 hv).1; simpa [olds] using this
      simp only [olds, List.getElem?_map, List.getElem?_range hj, Option.map_some, Option.some.injEq] at hv
      subst hv
      exact hcell j hj⟩) (fun _ h => by simp at h) (by simpa using hb) (by simpa using h63)
  rcases core with ⟨_, _, hrun⟩ | ⟨_, h0, _⟩ | ⟨hlt, _⟩
  · unfold Oper.wp execOp
    simp only [ho, resolve, invoke, builtin, Sem.run_bind, Sem.run_pure, Result.andThen_ok, List.map_toArray, List.map_cons, List.map_nil, eq0, hrun]
    exact hK _ I M w hv hs (Ext.refl _ _ _ _) (fun _ _ => rfl) (fun _ h => by cases h)
  · simp at h0
  · simp at hlt; omega
theorem Run.ap0 {d sz bytes : Nat} {s x : Operand} {t tx e : TypeId} {dx : TypeDesc} {z : Value} {xs : List (List PV)} {insx : Upds} {ks : List Nat} {f : Bool} [Und P t (.slice e)] [Und P tx dx] [TyI P e z sz bytes] (ho : o.dst = some d) (hop : o.op = .call { callee := .builtin .append, args := #[s, x], argTypes := #[t, tx] })
    (hw : wantA ops fr o = some true) (hd : Nat.blt d n = true) (hdx : (∃ e', dx = .slice e') ∨ dx = .string) (hzs : z.cells.size = sz) (hsv : evA fr s = .sl sz xs f) (hy : SrcNI P (evA fr x) σ sz [] insx) (hb : xs.length * bytes ≤ 140737488355328) (h63 : xs.length ≤ maxLen) (hks : keys insx = ks)
    (hr : Run P n ops chk K rest ⟨(d, .sl sz xs f) :: fr, σ⟩ (acc ++ [(ks, [])])) : Run P n ops chk K (o :: rest) ⟨fr, σ⟩ acc := by
  subst hks
  exact .op (ins := insx) (outs := []) hw (by rw [ho]; exact hd) (OpS.ap0 hop hdx hzs hsv hy.1 hb h63) hy.2 rfl (fun _ h => by cases h) (by rw [ho]; exact hr)
end
end Go.Proofs.YthogjnckkmfhnaaDoor
/-
  Fresh memory that is appended to: a string's bytes as a row. Nothing of the dump is used; no condition.
-/
namespace Go.Proofs.YthogjnckkmfhnaaDoor
open Go.RowKit
set_option linter.unusedVariables false
set_option linter.unusedSimpArgs false
section
variable {P : Program} {o : Oper} {ρ : Operand → AV}
theorem OpS.freshRow {ins : Upds} {sz : Nat} {xs : List (List PV)} (k : Nat) (hkin : k ∉ keys ins)
    (hrun : ∀ (I : Nat → CI) (M : Nat → Nat) (w : World) (a : Act) (σ : Nat → Res), (∀ x ∈ o.op.operands.toList, Rp I M w (a.eval x) (ρ x)) → Sto I M w σ → (∀ q ∈ ins, σ q.1 = q.2) →
      ∃ (w1 : World) (cur : Array Value) (e : TypeId) (fr : Nat × Nat) (c : Nat), w1.heap = w.heap ∧ w1.os = w.os ∧ w1.tape = w.tape ∧ w1.output = w.output ∧ (∀ ys ∈ xs, ys.length = sz) ∧ xs.length ≤ c ∧ xs.length * sz ≤ cur.size ∧ (c ≠ xs.length → cur.size = c * sz ∧ Unfr fr cur.size) ∧
        (∀ (j : Nat) (p : PV), xs.flatten[j]? = some p → ∃ u : Value, cur[j]? = some u ∧ u.oneCell' = true ∧ RPV M w u p) ∧ (execOp a.eval o).run P w = .ok (.value (.slice (some ⟨w.heap.size, 0, none⟩) xs.length c)) (w1.alloc (.cells cur e fr))) :
    OpS P o ρ ins (.row k xs.length) [(k, .row sz xs)] := by
  intro I M w a σ K Q hx hs hi hnew hK
  obtain ⟨w1, cur, e, fr, c, e1, e2, e3, e4, hz, hc, hl, hsp, hfl, hr⟩ := hrun I M w a σ hx hs hi
  obtain ⟨hk1, hk2⟩ := (hnew k (by simp [keys])).resolve_left hkin
  obtain ⟨_, r1, r2, r3⟩ := fresh_ok hs e1 e2 e3 e4 (e := e) (fr := fr) hz hc hl hfl
  have hw' : (w1.alloc (.cells cur e fr)).heap[w.heap.size]? = some (.cells cur e fr) := by
    show (w1.heap.push _)[w.heap.size]? = _
    rw [e1]; simp
  have hle : ∀ i, (I i).le (if i = k then CI.row xs sz (some ⟨w.heap.size, 0, none⟩) c else I i) := by
    intro i
    split
    · rename_i h; rw [h, hk2]; trivial
    · exact CI.le_refl _
  unfold Oper.wp
  rw [hr]
  have hext : Ext (fun _ => False) I (fun i => if i = k then CI.row xs sz (some ⟨w.heap.size, 0, none⟩) c else I i) M (fun b => if b = w.heap.size then xs.length * sz else M b) w (w1.alloc (.cells cur e fr)) := ⟨r3.os, r3.tape, r3.output, hle, r3.evo, r3.oth⟩
  have hblk : ∀ b, blkOf (CI.row xs sz (some ⟨w.heap.size, 0, none⟩) c) (.row sz xs) = some b → w.heap.size ≤ b := by
    intro b hb
    simp only [blkOf] at hb
    split at hb
    · cases hb
    · simp only [Option.map_some, Option.some.injEq] at hb
      omega
  refine hK _ (fun i => if i = k then CI.row xs sz (some ⟨w.heap.size, 0, none⟩) c else I i) _ _ (.row (sz := sz) (xs := xs) (c0 := c) (A0 := some ⟨w.heap.size, 0, none⟩) (by simp) (Nat.le_refl _) (by rw [List.take_length]; exact r1) (fun _ => ⟨rfl, rfl⟩)) ?_ (hext.wide fun _ _ h => h.elim) (fun i hi => ?_) (fun i hi b hb => ?_)
  · refine hs.upd [k] hext (fun _ h => h.elim) (fun i hi => ?_) (fun i hi => updS_other _ _ _ (by simpa [keys] using hi)) (fun i hi => ?_) (fun i hi b hb => ?_) (fun i hi j hj b hne => ?_) r2.top
    · have : i ≠ k := by simpa using hi
      simp [this]
    · obtain rfl : i = k := by simpa using hi
      simp only [updS, if_true]
      refine ⟨some ⟨w.heap.size, 0, none⟩, c, rfl, r1, fun hne => ?_⟩
      obtain ⟨q1, q2⟩ := hsp hne
      exact ⟨w.heap.size, cur, e, fr, rfl, hw', q1, by simp, q2⟩
    · obtain rfl : i = k := by simpa using hi
      simp only [updS, if_true] at hb
      exact .inl (hblk b hb)
    · obtain rfl : i = k := by simpa using hi
      obtain rfl : j = i := by simpa using hj
      exact absurd rfl hne
  · have : i ≠ k := by simpa [keys] using hi
    simp [this]
  · obtain rfl : i = k := by simpa [keys] using hi
    simp only [updS, if_true] at hb
    exact .inl (hblk b hb)
/-- a string's bytes, in new memory that is appended to -/
theorem OpS.toBytesR {s d e : TypeId} {x : Operand} {l : List UInt8} (k : Nat) [Und P s .string] [Und P d (.slice e)] [Und P e (.int .u8)] (ho : o.op = .convert s d x) (hx : ρ x = .v (.string (bs l))) (hl : l.length ≤ maxLen) : OpS P o ρ [] (.row k (bsP l).length) [(k, .row 1 (bsP l))] := by
  refine OpS.freshRow k (by simp [keys]) fun I M w a σ hop hs hi => ?_
  have h1 := hop x (by simp [ho, Op.operands])
  rw [hx] at h1
  let cap := grownCap w (bs l).size 0 e
  have hsz := bs_size l
  have hcap : l.length ≤ cap := by have := grownCap_ge w (bs l).size 0 e; omega
  have hcur : ∀ (j : Nat) (c : UInt8), l[j]? = some c → (bytesRow (bs l) cap)[j]? = some (Value.int .u8 (c.toNat : Int)) := by
    intro j c hc
    have hj := (List.getElem?_eq_some_iff.1 hc).1
    unfold bytesRow
    rw [Array.getElem?_append_left (by simpa using hj)]
    simp [hc]
  have hcs : (bytesRow (bs l) cap).size = cap := by
    unfold bytesRow
    have : (bs l).data.size = l.length := by simp
    simp only [Array.size_append, Array.size_map, Array.size_replicate, this]
    rw [hsz]
    omega
  refine ⟨w.drew, bytesRow (bs l) cap, e, ((bytesRow (bs l) cap).size, (bytesRow (bs l) cap).size + 1), cap, rfl, rfl, rfl, rfl, by simp, by simpa using hcap, by simp [hcs]; exact hcap, fun _ => ⟨by rw [hcs, Nat.mul_one], fun o ho h => by simp only at h; omega⟩, fun j p hp => ?_, ?_⟩
  · rw [bsP_flat, List.getElem?_map] at hp
    obtain ⟨c, hc, rfl⟩ := Option.map_eq_some_iff.1 hp
    exact ⟨_, hcur j c hc, rfl, .v _⟩
  · have hlen : (bsP l).length = (bs l).size := by rw [hsz]; simp
    have := run_bytes_of_string (P := P) w s d e (bs l) Und.und Und.und Und.und
    simp only [execOp, ho, h1.val, Sem.run_bind, this, Result.andThen_ok, Sem.run_pure, hlen]
    rfl
end
section
variable {P : Program} {n : Nat} {ops : List Oper} {chk : List FP → Bool} {K : State → Prop} {rest : List Oper} {o : Oper} {fr : Fr} {σ : List Res} {acc : List FP}
theorem Run.tbR {d k : Nat} {s dd e : TypeId} {x : Operand} {l : List UInt8} {σ' : List Res} [Und P s .string] [Und P dd (.slice e)] [Und P e (.int .u8)] (ho : o.dst = some d) (hop : o.op = .convert s dd x) (hw : wantA ops fr o = some true) (hd : Nat.blt d n = true) (hx : evA fr x = .v (.string (Go.Proofs.YthogjnckkmfhnaaDoor.bs l))) (hl : l.length ≤ maxLen) (he : Ends σ k) (hσ : PutAt σ k (.row 1 (bsP l)) σ')
    (hr : Run P n ops chk K rest ⟨(d, .row k (bsP l).length) :: fr, σ'⟩ (acc ++ [([], [k])])) : Run P n ops chk K (o :: rest) ⟨fr, σ⟩ acc := by
  refine .op (ins := []) hw (by rw [ho]; exact hd) (OpS.toBytesR k hop hx hl) ins_nil (okU_one hσ).1 (fun k' hk' => .inr ?_) (by rw [ho, (okU_one hσ).2]; exact hr)
  obtain rfl : k' = k := by simpa [keys] using hk'
  rw [← he.spec]; exact Nat.le_refl _
end
/-- a scope that is not jumped in -/
abbrev noG (Q : Exit → State → Prop) : Exit → State → Prop
  | .goto _, _ => False
  | e, s => Q e s
theorem AW.scope {P : Program} {g : Ent} {c : Code} {Q : Exit → State → Prop} {s : State} (h : AW P g c (noG Q) s) : AW P g (.scope c) Q s := by
  intro I M w a hst
  refine wp_scope_straight (wp_mono (h I M w a hst) fun e a' w' ⟨I', M', s', h1, h2⟩ => ?_)
  cases e with
  | goto _ => exact h2.elim
  | _ => exact ⟨I', M', s', h1, h2⟩
theorem AW.label {P : Program} {g : Ent} {l : Nat} {Q : Exit → State → Prop} {s : State} (h : Q .normal s) : AW P g (.label l) Q s := fun I M w a hst => wp_label ⟨I, M, s, hst, h⟩
/-- two ways that come together -/
theorem AW.join {P : Program} {g : Ent} {c1 c2 : Code} {Q : Exit → State → Prop} {s : State} {X : Type} (F : X → State) (C : X → Prop) (h : AW P g c1 (thenA (fun s' => ∃ x, C x ∧ Conv g s' (F x)) Q) s) (hy : ∀ x, C x → AW P g c2 Q (F x)) : AW P g (.seq c1 c2) Q s := by
  refine AW.seq_k fun K hK => ?_
  intro I M w a hst
  refine wp_mono (h I M w a hst) fun e a' w' ⟨I', M', s', h1, h2⟩ => ?_
  cases e with
  | normal =>
    obtain ⟨x, hx, hc⟩ := h2
    exact ⟨I', M', s', h1, hK _ (AW.conv hc (hy x hx))⟩
  | _ => exact ⟨I', M', s', h1, h2⟩
theorem AW.join3 {P : Program} {g : Ent} {c1 c2 c3 : Code} {Q : Exit → State → Prop} {s : State} {K : State → Prop} (hK : ∀ s, AW P g (.seq c2 c3) Q s → K s) {X : Type} (F : X → State) (C : X → Prop)
    (h : AW P g c1 (thenA (fun s' => AW P g c2 (thenA (fun s'' => ∃ x, C x ∧ Conv g s'' (F x)) Q) s') Q) s) (hy : ∀ x, C x → AW P g c3 Q (F x)) : AW P g c1 (thenA K Q) s := by
  intro I M w a hst
  refine wp_mono (h I M w a hst) fun e a' w' ⟨I', M', s', h1, h2⟩ => ?_
  cases e with
  | normal => exact ⟨I', M', s', h1, hK _ (AW.join F C h2 hy)⟩
  | _ => exact ⟨I', M', s', h1, h2⟩
theorem over_set (p : PV) : ∀ (xs : List (List PV)) (i : Nat), (∀ y ∈ xs, y.length = 1) → i < xs.length → Over (bxs xs) i [p.av] (bxs (xs.set i [p]))
  | [], _, _, h => by simp at h
  | y :: t, i, hz, h => by
    obtain ⟨q, rfl⟩ : ∃ q, y = [q] := List.length_eq_one_iff.1 (hz y (List.mem_cons_self ..))
    cases i with
    | zero => exact .at_ (.cons .nil)
    | succ i => exact .skip (over_set p t i (fun y hy => hz y (List.mem_cons_of_mem _ hy)) (by simpa using h))
end Go.Proofs.YthogjnckkmfhnaaDoor
/-
  A literal's array as an array of the call's own, and its conversion to bytes, which marks it. Nothing of the dump is used; no condition.
-/
namespace Go.Proofs.YthogjnckkmfhnaaDoor
open Go.RowKit
set_option linter.unusedVariables false
set_option linter.unusedSimpArgs false
section
variable {P : Program} {o : Oper} {ρ : Operand → AV}
theorem OpS.freshBox {ins : Upds} {sz : Nat} {xs : List (List PV)} (k : Nat) (hkin : k ∉ keys ins)
    (hrun : ∀ (I : Nat → CI) (M : Nat → Nat) (w : World) (a : Act) (σ : Nat → Res), (∀ x ∈ o.op.operands.toList, Rp I M w (a.eval x) (ρ x)) → Sto I M w σ → (∀ q ∈ ins, σ q.1 = q.2) →
      ∃ (cur : Array Value) (e : TypeId), (∀ ys ∈ xs, ys.length = sz) ∧ cur.size = xs.length * sz ∧
        (∀ (j : Nat) (p : PV), xs.flatten[j]? = some p → ∃ u : Value, cur[j]? = some u ∧ u.oneCell' = true ∧ RPV M w u p) ∧ (execOp a.eval o).run P w = .ok (.value (.slice (some ⟨w.heap.size, 0, none⟩) xs.length xs.length)) (w.alloc (.cells cur e (0, 0)))) :
    OpS P o ρ ins (.bsl k sz 0 xs.length xs.length) [(k, .box (bxs xs))] := by
  intro I M w a σ K Q hx hs hi hnew hK
  obtain ⟨cur, e, hz, hc, hfl, hr⟩ := hrun I M w a σ hx hs hi
  obtain ⟨hk1, hk2⟩ := (hnew k (by simp [keys])).resolve_left hkin
  have hlen : cur.size = (bxs xs).length := by rw [bx_len hz, hc]
  have hat : ∀ (i : Nat) (v : Value), cur[i]? = some v → v.oneCell' = true ∧ ∀ c, (bxs xs)[i]? = some c → Rp I M w v c := by
    intro i v hv
    have hi : i < xs.flatten.length := by rw [flat_len hz, ← hc]; exact (Array.getElem?_eq_some_iff.1 hv).1
    obtain ⟨u, h1, h2, h3⟩ := hfl i xs.flatten[i] (by simp [hi])
    rw [hv] at h1
    injection h1 with h1
    subst h1
    refine ⟨h2, fun c hcc => ?_⟩
    rw [bxs, List.getElem?_map, List.getElem?_eq_getElem hi] at hcc
    injection hcc with hcc
    subst hcc
    exact h3.rp
  have hRp : Rp I M w (.agg cur) (.agg (bxs xs)) := .agg hlen (fun i v hv => (hat i v hv).1) fun i v c hv hcc => (hat i v hv).2 c hcc
  obtain ⟨r1, r2, r3, r4⟩ := newVar_ok (t := e) hs hRp rfl k hk1 hk2
  unfold Oper.wp
  rw [hr]
  refine hK _ _ _ _ (.bsl (b := w.heap.size) (lo := 0) (C := xs.length) (by simp) (by omega) (fun _ => by simp)) r2 (r3.wide fun _ _ h => h.elim) (fun i hi => r4 i (by simpa [keys] using hi)) fun i hi b hb => ?_
  obtain rfl : i = k := by simpa [keys] using hi
  simp only [updS, if_true, blkOf] at hb
  injection hb with hb
  exact .inl (by omega)
theorem OpS.buildSliceB {t e : TypeId} {n : Nat} {parts : Array (Nat × Operand)} {z : Value} {sz bytes : Nat} {xs : List (List PV)} {ins : Upds} {σ0 : Nat → Res} (k : Nat) (hkin : k ∉ keys ins) [Und P t (.slice e)] [TyI P e z sz bytes] (ho : o.op = .buildSlice t n parts) (hn : parts.size = n) (hz : z.cells.size = sz) (hsm : n * sz ≤ 16777216)
    (hx : Elems ρ σ0 sz 0 parts.toList xs ins) : OpS P o ρ ins (.bsl k sz 0 xs.length xs.length) [(k, .box (bxs xs))] := by
  refine OpS.freshBox k hkin fun I M w a σ hop hs hi => ?_
  have hop' : ∀ q ∈ parts.toList, Rp I M w (a.eval q.2) (ρ q.2) := fun q hq => hop q.2 (by rw [ho]; simp only [Op.operands]; exact List.mem_map.2 ⟨q, hq, rfl⟩)
  obtain ⟨i1, i2, i3, i4, i5⟩ := hx.spec hi hs hop'
  have hlen : parts.toList.length = n := by simpa using hn
  obtain ⟨_, _, _, _, _, _, hzv, hsz⟩ := run_typeInfo (P := P) (t := e) w
  let vs := parts.toList.map fun q => a.eval q.2
  obtain ⟨r, r1, r2⟩ := fill_seq sz vs 0 ((Array.range (n * sz)).map fun j => (if n * sz = 0 then (#[] : Array Value) else z.cells)[j % (if n * sz = 0 then (#[] : Array Value) else z.cells).size]!) i3 (by simp [vs, hlen])
  have hrl : r.size = n * sz := by
    rw [← Array.length_toList, r2]
    simp only [Nat.zero_mul, List.take_zero, List.nil_append]
    have : ∀ l : List Value, (∀ v ∈ l, v.cells.size = sz) → ((l.map fun v => v.cells.toList).flatten).length = l.length * sz := by
      intro l
      induction l with
      | nil => simp
      | cons v l ih => intro h; simp [ih (fun u hu => h u (List.mem_cons_of_mem _ hu)), h v (by simp), Nat.add_mul]; omega
    rw [this vs i3]; simp [vs, hlen]
  refine ⟨r, e, i2, by rw [hrl, ← i1, hlen], fun j p hp => ?_, ?_⟩
  · obtain ⟨v, h1, h2⟩ := i5 j p hp
    refine ⟨v, ?_, h2⟩
    rw [← Array.getElem?_toList, r2]
    simp only [Nat.zero_mul, List.take_zero, List.nil_append]
    exact h1
  · have hparts : (parts.map fun q => (q.1, a.eval q.2)).toList = (vs.zipIdx 0).map (fun p => (p.2, p.1)) := by rw [Array.toList_map]; exact i4
    have hmm : (parts.map fun (i, x) => (i, a.eval x)) = parts.map fun q => (q.1, a.eval q.2) := rfl
    rw [← i1, hlen]
    have h24 : ¬ (n * sz > 2 ^ 24) := by omega
    have hgo : execOp a.eval o = (do pure (.value (← Instr.buildSlice t n (parts.map fun q => (q.1, a.eval q.2))))) := by simp only [execOp, ho]
    rw [hgo]
    unfold Instr.buildSlice
    rw [hparts]
    by_cases h0 : n * sz = 0
    · rw [if_pos h0, h0] at r1
      have r1' : Instr.fill (fun i => some (i * sz, sz)) (Array.map (fun x => default) (Array.range 0)) (List.map (fun p => (p.snd, p.fst)) vs.zipIdx) = some r := by rw [← r1]; simp
      simp [run_und, hsz, h0, newRow]
      rw [r1']
      simp
    · rw [if_neg h0] at r1
      simp [run_und, hsz, h0, hzv, newRow, h24]
      simp [r1]
/-- bytes of a literal, converted: the array is marked, and written no more -/
theorem OpS.convMk {s e : TypeId} {x : Operand} {k sz n : Nat} {xs : List (List PV)} [Und P s (.slice e)] [Und P e (.int .u8)] (ho : o.op = .convert s s x) (hx : ρ x = .bsl k sz 0 n n) (hn : xs.length = n) (h0 : 0 < n) (hz : ∀ ys ∈ xs, ys.length = sz) :
    OpS P o ρ [(k, .box (bxs xs))] (.sl sz xs true) [(k, .no)] := by
  intro I M w a σ K Q hop hs hi _ hK
  subst hn
  have h1 := hop x (by simp [ho, Op.operands])
  rw [hx] at h1
  have hk := hi _ (List.mem_singleton.2 rfl)
  have own := hs.own k
  simp only at hk
  rw [hk] at own
  obtain ⟨b, cur, e', e1, e2, e3, e4, e5, e6⟩ := own
  generalize eq0 : a.eval x = sv at h1
  cases h1 with
  | @bsl _ _ _ _ _ b' A hI hn hA =>
    obtain rfl : b' = b := by rw [hI] at e1; injection e1
    obtain rfl := hA h0
    have hxl := bx_len hz
    let w' := w.freeze ⟨b', cur.size, none⟩ 1
    have hw : w' = { w with heap := w.heap.modify b' fun
      | .cells c elem (lo, hi) => .cells c elem (if lo == hi then (cur.size, cur.size + 1) else (min lo cur.size, max hi (cur.size + 1)))
      | o => o } := rfl
    have hblt : b' < w.heap.size := (Array.getElem?_eq_some_iff.1 e2).1
    have hhb : w'.heap[b']? = some (.cells cur e' (cur.size, cur.size + 1)) := by
      rw [hw]
      simp only [Array.getElem?_modify, if_true, e2, Option.map_some]
      rfl
    have hho : ∀ i, i ≠ b' → w'.heap[i]? = w.heap[i]? := by
      intro i hi
      rw [hw]
      simp only [Array.getElem?_modify]
      rw [if_neg (fun h => hi h.symm)]
    have hsize : w'.heap.size = w.heap.size := by rw [hw]; simp
    let M' : Nat → Nat := fun i => if i = b' then xs.length * sz else M i
    have hMne : ∀ i, i ≠ b' → M' i = M i := fun i h => by simp [M', h]
    have hMb : M' b' = xs.length * sz := by simp [M']
    have hmask : ∀ i, M i ≤ M' i := by
      intro i
      simp only [M']
      split
      · rename_i h; rw [h, e3]; exact Nat.zero_le _
      · exact Nat.le_refl _
    have hext : Ext (fun i => i = b') I I M M' w w' := ⟨rfl, rfl, rfl, fun _ => CI.le_refl _, ⟨by rw [hsize]; exact Nat.le_refl _, hmask, fun i o' v ho' hv => by
      have hne : i ≠ b' := by rintro rfl; omega
      rw [World.cell?_of_block (w := w) (hho i hne)]; exact hv⟩, fun i _ hne => ⟨hho i hne, hMne i hne⟩⟩
    have hsto : Sto I M' w' (updS σ [(k, .no)]) := by
      refine hs.upd [k] hext (fun i h => ⟨k, by simp, by rw [hI, hk, h]; rfl⟩) (fun _ _ => rfl) (fun i hi => updS_other _ _ _ (by simpa [keys] using hi)) (fun i hi => ?_) (fun i hi b hb => ?_) (fun i hi j hj b hne => ?_) (fun i hi => ?_)
      · obtain rfl : i = k := by simpa using hi
        simp only [updS, if_true]; trivial
      · obtain rfl : i = k := by simpa using hi
        simp only [updS, if_true] at hb
        rw [hI] at hb; cases hb
      · obtain rfl : i = k := by simpa using hi
        obtain rfl : j = i := by simpa using hj
        exact absurd rfl hne
      · rw [hMne i (by omega)]; exact hs.top i (by omega)
    have hcell : ∀ j, j < xs.length * sz → w'.cell? ⟨b', j, none⟩ = some (cur.getD j undef) := by
      intro j hj
      rw [cell_of_row w' b' j cur e' (cur.size, cur.size + 1) hhb]
      have : j < cur.size := by omega
      simp [this]
    have hrp : RPV M' w' (.slice (some ⟨b', 0 * sz, none⟩) xs.length (xs.length - 0)) (.sl sz xs) := by
      refine .sl b' (0 * sz) (fun j => cur.getD j undef) rfl (by omega) hz (fun _ => rfl) (fun _ => by rw [hMb]; omega) (fun j hj => by rw [Nat.zero_mul, Nat.zero_add]; exact hcell j hj) (fun j hj => ?_) (fun j p hp => ?_)
      · exact e5 j _ (by have : j < cur.size := by omega
                         simp [this])
      · have hj : j < xs.length * sz := by rw [← flat_len hz]; exact (List.getElem?_eq_some_iff.1 hp).1
        have hlt : j < cur.size := by omega
        refine (Rp.rpv (I := I) (e6 j _ p.av (by simp [hlt]) ?_)).evo hext.evo
        rw [bxs, List.getElem?_map, hp]; rfl
    have hrun : (execOp a.eval o).run P w = .ok (.value (.slice (some ⟨b', 0 * sz, none⟩) xs.length (xs.length - 0))) w' := by
      simp [execOp, ho, eq0, convert, run_und, markStringish, shape, Sem.run, World.shape?, e2]
      rfl
    unfold Oper.wp
    rw [hrun]
    refine hK _ I M' w' (.sl hrp (fun _ => by omega)) hsto (hext.wide fun i _ h => ⟨k, by simp [keys], by rw [hI, hk, h]; rfl⟩) (fun _ _ => rfl) (fun i hi b hb => ?_)
    obtain rfl : i = k := by simpa [keys] using hi
    simp only [updS, if_true] at hb
    rw [hI] at hb; cases hb
end
section
variable {P : Program} {n : Nat} {ops : List Oper} {chk : List FP → Bool} {K : State → Prop} {rest : List Oper} {o : Oper} {fr : Fr} {σ : List Res} {acc : List FP}
theorem Run.bsB {d k t e nn : _} {parts : Array (Nat × Operand)} {z : Value} {sz bytes : Nat} {xs : List (List PV)} {ins : Upds} {ks : List Nat} {σ' : List Res} [Und P t (.slice e)] [TyI P e z sz bytes] (ho : o.dst = some d) (hop : o.op = .buildSlice t nn parts) (hw : wantA ops fr o = some true) (hd : Nat.blt d n = true) (hn : parts.size = nn) (hz : z.cells.size = sz) (hsm : nn * sz ≤ 16777216)
    (hx : Elems (evA fr) (sto σ) sz 0 parts.toList xs ins) (hi : ∀ q ∈ ins, sto σ q.1 = q.2) (he : Ends σ k) (hki : k ∉ keys ins) (hσ : PutAt σ k (.box (bxs xs)) σ') (hk : keys ins = ks) (hr : Run P n ops chk K rest ⟨(d, .bsl k sz 0 xs.length xs.length) :: fr, σ'⟩ (acc ++ [(ks, [k])])) : Run P n ops chk K (o :: rest) ⟨fr, σ⟩ acc := by
  subst hk
  refine .op (ins := ins) hw (by rw [ho]; exact hd) (OpS.buildSliceB k hki hop hn hz hsm hx) hi (okU_one hσ).1 (fun k' hk' => .inr ?_) (by rw [ho, (okU_one hσ).2]; exact hr)
  obtain rfl : k' = k := by simpa [keys] using hk'
  rw [← he.spec]; exact Nat.le_refl _
theorem Run.cvM {d k sz m : Nat} {s e : TypeId} {x : Operand} {xs : List (List PV)} {σ' : List Res} [Und P s (.slice e)] [Und P e (.int .u8)] (ho : o.dst = some d) (hop : o.op = .convert s s x) (hw : wantA ops fr o = some true) (hd : Nat.blt d n = true) (hx : evA fr x = .bsl k sz 0 m m) (hk : sto σ k = .box (bxs xs)) (hn : xs.length = m) (h0 : 0 < m) (hz : ∀ ys ∈ xs, ys.length = sz) (hσ : PutAt σ k .no σ')
    (hr : Run P n ops chk K rest ⟨(d, .sl sz xs true) :: fr, σ'⟩ (acc ++ [([k], [k])])) : Run P n ops chk K (o :: rest) ⟨fr, σ⟩ acc :=
  .op (ins := [(k, .box (bxs xs))]) hw (by rw [ho]; exact hd) (OpS.convMk hop hx hn h0 hz) (one_in hk) (okU_one hσ).1 (fun k' hk' => .inl (by
      obtain rfl : k' = k := by simpa [keys] using hk'
      simp [keys])) (by rw [ho, (okU_one hσ).2]; exact hr)
theorem Run.bsBA {d k t e nn : _} {parts : Array (Nat × Operand)} {z : Value} {sz bytes : Nat} {xs : List (List PV)} {ins : Upds} {ks : List Nat} {σ' : List Res} [Und P t (.slice e)] [TyI P e z sz bytes] (ho : o.dst = some d) (hop : o.op = .buildSlice t nn parts) (hw : wantA ops fr o = some true) (hd : Nat.blt d n = true) (hn : parts.size = nn) (hk : keys ins = ks) (hr : Run P n ops chk K rest ⟨(d, .bsl k sz 0 xs.length xs.length) :: fr, σ'⟩ (acc ++ [(ks, [k])])) (hz : z.cells.size = sz := by rfl) (hsm : nn * sz ≤ 16777216 := by decide) (hx : Elems (evA fr) (sto σ) sz 0 parts.toList xs ins := by ((repeat (first | exact Elems.nil | apply Elems.cons | exact ToPs.nil | apply ToPs.cons | exact ToP.sl | exact ToP.rowf rfl rfl | exact ToP.row rfl | exact ToP.nil | exact ToP.v rfl | ((conv => lhs; whnf) <;> rfl) | rfl)); first | done | fail)) (hi : ∀ q ∈ ins, sto σ q.1 = q.2 := by ((repeat (first | exact ins_nil | refine ins_cons rfl ?_)); first | done | fail)) (he : Ends σ k := by ((repeat constructor); first | done | fail)) (hki : k ∉ keys ins := by (simp [keys])) (hσ : PutAt σ k (.box (bxs xs)) σ' := by ((repeat constructor); first | done | fail)) : Run P n ops chk K (o :: rest) ⟨fr, σ⟩ acc :=
  Run.bsB ho hop hw hd hn hz hsm hx hi he hki hσ hk hr
end
theorem Conv.freeze {g : Ent} {fr fr' : Fr} {σ σ' : List Res} {cs : List AV} (k sz : Nat) (xs : List (List PV)) (hk : sto σ k = .box cs) (hcs : cs.take (xs.length * sz) = bxs xs) (hz : ∀ ys ∈ xs, ys.length = sz)
    (hf : FzF k sz xs none fr fr') (hσ : FzS k sz xs none 0 σ σ') : Conv g ⟨fr, σ⟩ ⟨fr', σ'⟩ := by
  intro I M w a hst
  obtain ⟨g1, g2⟩ := hσ.get
  have hkl : k < σ.length := by
    rcases Nat.lt_or_ge k σ.length with h | h
    · exact h
    · have : sto σ k = .no := by simp [sto, List.getElem?_eq_none h]
      rw [this] at hk; cases hk
  have own := hst.st.own k
  simp only [hk] at own
  obtain ⟨b, cur, e, e1, e2, _⟩ := own
  obtain ⟨M', m1, m2, m3⟩ := Sto.freeze hst.st hk hcs hz ((g2 k).1 (by omega) hkl) (fun i hi => (g2 i).2 (by omega))
  have hini : ∀ b', I k = .box b' → g.w.heap.size ≤ b' ∨ g.own b' := fun b' hb => hst.ini k b' (by simp only [hk, hb]; rfl)
  refine ⟨I, M', ⟨hst.fr.1, fun t => m3 _ _ _ (hf.get t) (hst.fr.2 t)⟩, hst.df, m1, by have := hst.len; simp only at this ⊢; omega, fun i hi => hst.no i (by simp only at hi ⊢; omega), hst.ext.trans m2 (fun b' hb ho => (hini b' ho).resolve_left (by omega)), fun i b' hb => ?_, hst.gno⟩
  by_cases hi : i = k
  · subst hi
    simp only at hb
    rw [(g2 i).1 (by omega) hkl] at hb
    cases h1 : I i <;> rw [h1] at hb <;> cases hb
  · refine hst.ini i b' ?_
    have q := (g2 i).2 (by omega)
    simp only at hb ⊢
    generalize sto σ i = r at q
    generalize sto σ' i = r' at q hb
    cases q with
    | box _ => cases h1 : I i <;> rw [h1] at hb <;> first | exact hb | cases hb
    | same => exact hb
theorem Conv.freezeA {g : Ent} {s' : State} {fr fr' : Fr} {σ σ' : List Res} {ys : List (List PV)} (k sz : Nat) (xs zs : List (List PV)) (hk : sto σ k = .box (bxs ys)) (hys : ys = xs ++ zs) (hz : ∀ y ∈ xs, y.length = sz) (h : Conv g ⟨fr', σ'⟩ s')
    (hf : FzF k sz xs none fr fr' := by ((repeat (first | apply FzF.cons | (apply Fz.all; (focus (first | assumption | rfl | (simp; done)))) | exact Fz.same | exact FzF.refl)); first | done | fail))
    (hσ : FzS k sz xs none 0 σ σ' := by ((repeat (first | (apply FzS.here; (focus rfl)) | (apply FzS.box; (focus decide)) | (apply FzS.same; (focus decide)) | exact FzS.nil | apply FzL.cons | (apply Fz.all; (focus (first | assumption | rfl | (simp; done)))) | exact Fz.same | exact FzL.refl)); first | done | fail)) : Conv g ⟨fr, σ⟩ s' := by
  subst hys
  refine Conv.trans (Conv.freeze k sz xs hk ?_ hz hf hσ) h
  rw [bx_append, ← bx_len hz, List.take_left']
  rfl
end Go.Proofs.YthogjnckkmfhnaaDoor
