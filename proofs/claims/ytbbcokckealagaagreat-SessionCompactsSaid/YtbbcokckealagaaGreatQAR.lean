/-
  Arrays that are written in place, over values without addresses: the cells of a slice of the call's own lie in a numbered variable. Nothing of the dump is used; no condition.
-/
import Derived.Test.YtbbcokckealagaaGreatQAD
namespace Go.Proofs.YtbbcokckealagaaGreat
set_option linter.unusedVariables false
set_option linter.unusedSimpArgs false
open Go.RowKit
def bxs (xs : List (List PV)) : List AV := xs.flatten.map PV.av
theorem bx_len {sz : Nat} {xs : List (List PV)} (hz : ∀ ys ∈ xs, ys.length = sz) : (bxs xs).length = xs.length * sz := by rw [bxs, List.length_map, flat_len hz]
theorem bx_append (xs ys : List (List PV)) : bxs (xs ++ ys) = bxs xs ++ bxs ys := by simp [bxs]
theorem bx_take {sz : Nat} {xs : List (List PV)} (hz : ∀ ys ∈ xs, ys.length = sz) (k : Nat) : bxs (xs.take k) = (bxs xs).take (k * sz) := by rw [bxs, flat_take hz, bxs, List.map_take]
theorem bx_drop {sz : Nat} {xs : List (List PV)} (hz : ∀ ys ∈ xs, ys.length = sz) (k : Nat) : bxs (xs.drop k) = (bxs xs).drop (k * sz) := by rw [bxs, flat_drop hz, bxs, List.map_drop]
theorem Rp.rpv {I : Nat → CI} {M : Nat → Nat} {w : World} {x : Value} {p : PV} (h : Rp I M w x p.av) : RPV M w x p := by
  cases p with
  | v y =>
    have := h.val
    subst this
    exact .v _
  | sl sz xs =>
    simp only [PV.av] at h
    cases h with
    | sl h _ => exact h
section
variable {I : Nat → CI} {M : Nat → Nat} {w : World} {σ : Nat → Res} {P : Program} {o : Oper} {ρ : Operand → AV}
theorem zbx_get (zs : List PV) (m i : Nat) : (bxs (List.replicate m zs))[i]? = if i < m * zs.length then (zs[i % zs.length]?).map PV.av else none := by
  have : ∀ (m i : Nat), (List.replicate m zs).flatten[i]? = if i < m * zs.length then zs[i % zs.length]? else none := by
    intro m
    induction m with
    | zero => intro i; simp
    | succ m ih =>
      intro i
      rw [List.replicate_succ, List.flatten_cons]
      rcases Nat.lt_or_ge i zs.length with h | h
      · rw [List.getElem?_append_left h, if_pos (by rw [Nat.add_mul]; omega), Nat.mod_eq_of_lt h]
      · rw [List.getElem?_append_right h, ih]
        have e : i % zs.length = (i - zs.length) % zs.length := by rw [← Nat.mod_eq_sub_mod h]
        rw [e]
        by_cases h2 : i - zs.length < m * zs.length
        · rw [if_pos h2, if_pos (by rw [Nat.add_mul]; omega)]
        · rw [if_neg h2, if_neg (by rw [Nat.add_mul]; omega)]
  rw [bxs, List.getElem?_map, this]
  split <;> simp
theorem OpP.lenB {x : Operand} {t e : TypeId} {k sz lo n C : Nat} [Und P t (.slice e)] (ho : o.op = .call { callee := .builtin .len, args := #[x], argTypes := #[t] }) (hx : ρ x = .bsl k sz lo n C) : OpP P o ρ (.v (.int .i64 n)) := by
  intro I M w a h
  have h1 := h x (by simp [ho, Op.operands, Call.operands])
  rw [hx] at h1
  generalize hv : a.eval x = xv at h1
  cases h1 with
  | bsl hI hn hA => exact ⟨_, by simp [execOp, ho, hv, resolve, invoke, builtin, Builtin.len_, run_und, goInt], .v _⟩
theorem OpP.capB {x : Operand} {t e : TypeId} {k sz lo n C : Nat} [Und P t (.slice e)] (ho : o.op = .call { callee := .builtin .cap, args := #[x], argTypes := #[t] }) (hx : ρ x = .bsl k sz lo n C) : OpP P o ρ (.v (.int .i64 ((C - lo : Nat) : Int))) := by
  intro I M w a h
  have h1 := h x (by simp [ho, Op.operands, Call.operands])
  rw [hx] at h1
  generalize hv : a.eval x = xv at h1
  cases h1 with
  | bsl hI hn hA => exact ⟨_, by simp [execOp, ho, hv, resolve, invoke, builtin, Builtin.cap_, run_und, goInt], .v _⟩
theorem OpP.indexAddrB {t e : TypeId} {x y : Operand} {kk : IntKind} {i : Int} {k sz lo n C off : Nat} {z : Value} {by_ : Nat} [Und P t (.slice e)] [TyI P e z sz by_]
    (ho : o.op = .indexAddr t x y) (hx : ρ x = .bsl k sz lo n C) (hy : ρ y = .v (.int kk i)) (h0 : 0 ≤ i) (h1 : i < (n : Int)) (hr : lo * sz + i.toNat * sz = off) : OpP P o ρ (.ptr k off) := by
  intro I M w a h
  have q1 := h x (by simp [ho, Op.operands])
  have q2 := h y (by simp [ho, Op.operands])
  rw [hy] at q2
  rw [hx] at q1
  generalize hv : a.eval x = xv at q1
  cases q1 with
  | bsl hI hn hA =>
    obtain rfl := hA (by omega)
    obtain ⟨_, _, _, _, _, _, _, hsz⟩ := run_typeInfo (P := P) (t := e) w
    subst hr
    exact ⟨_, by simp [execOp, ho, hv, q2.val, Instr.indexAt, run_und, asIntOf, h0, h1, hsz, Addr.add_lit], .ptr hI⟩
theorem run_sliceX {t e : TypeId} {x : Operand} {lo hi mx : Option Operand} {l h m : Option Nat} {n c bytes sz : Nat} {z : Value} [Und P t (.slice e)] [TyI P e z sz bytes] {I : Nat → CI} {M : Nat → Nat} {w : World} {a : Act} {A : Option Addr}
    (ho : o.op = .slice t x lo hi mx) (hop : ∀ y ∈ o.op.operands.toList, Rp I M w (a.eval y) (ρ y)) (e1 : a.eval x = .slice A n c) (hl : OpI ρ lo l) (hh : OpI ρ hi h) (hm : OpI ρ mx m) (hmh : m.isSome = true → h.isSome = true) {L H E : Nat} (eL : l.getD 0 = L) (eH : h.getD n = H) (eE : m.getD c = E) (h1 : L ≤ H) (h2 : H ≤ E) (h3 : E ≤ c) :
    (execOp a.eval o).run P w = .ok (.value (.slice (if E = L then A else A.map (·.add (L * sz))) (H - L) (E - L))) w := by
  obtain ⟨_, _, _, _, _, _, _, hsz⟩ := run_typeInfo (P := P) (t := e) w
  have vl : ∀ (y : Operand) (n : Nat), y ∈ o.op.operands.toList → (∃ k i, ρ y = .v (.int k i) ∧ i = (n : Int)) → ∃ k, a.eval y = .int k (n : Int) := by
    rintro y n hy ⟨k, i, r1, rfl⟩
    have := hop y hy
    rw [r1] at this
    exact ⟨k, this.val⟩
  have bl : ∀ code, lo = none ∧ L = 0 ∨ ∃ y, lo = some y ∧ (Instr.sliceBound (a.eval y) H code).run P w = .ok L w := by
    intro code
    cases lo with
    | none => cases l with
      | none => left; exact ⟨rfl, by simpa using eL.symm⟩
      | some k => exact hl.elim
    | some y => cases l with
      | none => exact hl.elim
      | some k =>
        right
        obtain rfl : k = L := by simpa using eL
        exact ⟨y, rfl, run_bound (vl y k (by simp [ho, Op.operands]) hl) h1 code w⟩
  cases mx with
  | none =>
    cases m with
    | some k => exact hm.elim
    | none =>
      obtain rfl : c = E := by simpa using eE
      have bh : ∀ code, hi = none ∧ H = n ∨ ∃ y, hi = some y ∧ (Instr.sliceBound (a.eval y) c code).run P w = .ok H w := by
        intro code
        cases hi with
        | none => cases h with
          | none => left; exact ⟨rfl, by simpa using eH.symm⟩
          | some k => exact hh.elim
        | some y => cases h with
          | none => exact hh.elim
          | some k =>
            right
            obtain rfl : k = H := by simpa using eH
            exact ⟨y, rfl, run_bound (vl y k (by simp [ho, Op.operands]) hh) h2 code w⟩
      rcases bh .sliceAcap with ⟨rfl, rH⟩ | ⟨y2, rfl, bh1⟩ <;> rcases bl .sliceB with ⟨rfl, rL⟩ | ⟨y1, rfl, bl1⟩
      · subst rH rL
        simp [execOp, ho, e1, Instr.sliceAt, run_und, Instr.slice, Instr.sliceBounds, hsz]
      · subst rH
        simp [execOp, ho, e1, Instr.sliceAt, run_und, Instr.slice, Instr.sliceBounds, hsz, bl1]
      · subst rL
        simp [execOp, ho, e1, Instr.sliceAt, run_und, Instr.slice, Instr.sliceBounds, hsz, bh1]
      · simp [execOp, ho, e1, Instr.sliceAt, run_und, Instr.slice, Instr.sliceBounds, hsz, bh1, bl1]
  | some y3 =>
    cases m with
    | none => exact hm.elim
    | some k =>
      obtain rfl : k = E := by simpa using eE
      have bm := run_bound (P := P) (vl y3 k (by simp [ho, Op.operands]) hm) h3 .slice3Acap w
      cases hi with
      | none => cases h with
        | none => simp at hmh
        | some k => exact hh.elim
      | some y2 => cases h with
        | none => exact hh.elim
        | some k2 =>
          obtain rfl : k2 = H := by simpa using eH
          have bh := run_bound (P := P) (vl y2 k2 (by simp [ho, Op.operands]) hh) h2 .slice3B w
          rcases bl .slice3C with ⟨rfl, rL⟩ | ⟨y1, rfl, bl1⟩
          · subst rL
            simp [execOp, ho, e1, Instr.sliceAt, run_und, Instr.slice, Instr.sliceBounds, hsz, bh, bm]
          · simp [execOp, ho, e1, Instr.sliceAt, run_und, Instr.slice, Instr.sliceBounds, hsz, bh, bm, bl1]
theorem OpP.sliceB {t e : TypeId} {x : Operand} {lo hi mx : Option Operand} {l h m : Option Nat} {k sz b0 n C bytes : Nat} {z : Value} [Und P t (.slice e)] [TyI P e z sz bytes]
    (ho : o.op = .slice t x lo hi mx) (hx : ρ x = .bsl k sz b0 n C) (hl : OpI ρ lo l) (hh : OpI ρ hi h) (hm : OpI ρ mx m) (hmh : m.isSome = true → h.isSome = true) {L H E : Nat} (eL : l.getD 0 = L) (eH : h.getD n = H) (eE : m.getD (C - b0) = E) (h1 : L ≤ H) (h2 : H ≤ E) (h3 : E ≤ C - b0) :
    OpP P o ρ (.bsl k sz (b0 + L) (H - L) (b0 + E)) := by
  intro I M w a hop
  have q1 := hop x (by simp [ho, Op.operands])
  rw [hx] at q1
  generalize e1 : a.eval x = xv at q1
  cases q1 with
  | @bsl _ _ _ _ _ b A hI hn hA =>
    refine ⟨_, run_sliceX ho hop e1 hl hh hm hmh eL eH eE h1 h2 h3, ?_⟩
    have hc : E - L = b0 + E - (b0 + L) := by omega
    rw [hc]
    refine .bsl hI (by omega) fun hlt => ?_
    rw [if_neg (by omega), hA (by omega)]
    simp [Addr.add_lit, Nat.add_mul]
end
end Go.Proofs.YtbbcokckealagaaGreat
namespace Go.Proofs.YtbbcokckealagaaGreat
set_option linter.unusedVariables false
set_option linter.unusedSimpArgs false
open Go.RowKit
section
variable {I : Nat → CI} {M : Nat → Nat} {w : World} {σ σ0 : Nat → Res} {P : Program} {o : Oper} {ρ : Operand → AV}
theorem box_write (hs : Sto I M w σ) {k b off : Nat} {cs cs' new : List AV} {vs : List Value} (hk : σ k = .box cs) (hI : I k = .box b) (hl : vs.length = new.length) (h1 : ∀ v ∈ vs, v.oneCell' = true)
    (hr : ∀ (i : Nat) (v : Value) (c : AV), vs[i]? = some v → new[i]? = some c → Rp I M w v c) (hb : off + new.length ≤ cs.length) (hc : cs.take off ++ (new ++ cs.drop (off + new.length)) = cs') :
    (storeCells ⟨b, off, none⟩ vs 0).run P w = .ok () (w.setCells b off vs) ∧ Sto I M (w.setCells b off vs) (updS σ [(k, .box cs')]) ∧ Ext (fun b' => b' = b) I I M M w (w.setCells b off vs) := by
  have own := hs.own k
  rw [hk] at own
  obtain ⟨b', cur, e, e1, e2, e3, e4, e5, e6⟩ := own
  obtain rfl : b = b' := by rw [hI] at e1; injection e1
  have hst := run_storeCells_cells (P := P) b off vs 0 w (fun j hj => by
      rw [cell_of_row w b _ cur e (0, 0) e2]
      have : off + j < cur.size := by omega
      simp [this]) (fun j hj => by simp [World.frozen?, e2]) h1
  simp only [Nat.add_zero] at hst
  obtain ⟨a1, a2, a3, a4, a5, a6⟩ := heap_setCells w b cur e (0, 0) vs off e2
  have hext : Ext (fun b' => b' = b) I I M M w (w.setCells b off vs) := ⟨a4, a5, a6, fun _ => CI.le_refl _, ⟨by omega, fun _ => Nat.le_refl _, fun b' o' u ho' hu => by
      have hne : b' ≠ b := by rintro rfl; omega
      rw [World.cell?_of_block (a2 b' hne)]; exact hu, ety_one e2 a1 a2 (setArr_size _ _ _)⟩, fun b' _ hne => ⟨a2 b' hne, rfl⟩⟩
  refine ⟨hst, hs.upd [k] hext (fun b' h => ⟨k, by simp, by rw [hI, hk]; simp [blkOf, h]⟩) (fun _ _ => rfl) (fun i hi => updS_other _ _ _ (by simpa [keys] using hi)) (fun i hi' => ?_) (fun i hi' b' hb' => ?_) (fun i hi j hj b hne => ?_) (fun b hb => hs.top b (by omega)), hext⟩
  · obtain rfl : i = k := by simpa using hi'
    simp only [updS, if_true, hI]
    have hcl : cs'.length = cs.length := by rw [← hc]; simp; omega
    refine ⟨b, _, e, rfl, a1, e3, by rw [setArr_size, hcl]; exact e4, fun j u hu => ?_, fun j u c hu hcc => ?_⟩
    · rw [setArr_get _ _ _ (by omega)] at hu
      split at hu
      · exact h1 u (List.mem_of_getElem? hu)
      · exact e5 j u hu
    · rw [setArr_get _ _ _ (by omega)] at hu
      rw [← hc] at hcc
      split at hu
      · rename_i hj
        rw [List.getElem?_append_right (by simp; omega), List.length_take, Nat.min_eq_left (by omega), List.getElem?_append_left (by omega)] at hcc
        exact (hr (j - off) u c hu hcc).evo hext.le hext.evo
      · rename_i hj
        refine (e6 j u c hu ?_).evo hext.le hext.evo
        rcases Nat.lt_or_ge j off with h1 | h1
        · rw [List.getElem?_append_left (by simp; omega), List.getElem?_take, if_pos h1] at hcc
          exact hcc
        · rw [List.getElem?_append_right (by simp; omega), List.length_take, Nat.min_eq_left (by omega), List.getElem?_append_right (by omega), List.getElem?_drop] at hcc
          rw [← hcc]; congr 1; omega
  · obtain rfl : i = k := by simpa using hi'
    refine .inr ⟨i, by simp, ?_⟩
    simp only [updS, if_true, hI, blkOf] at hb'
    rw [hI, hk]
    exact hb'
  · obtain rfl : i = k := by simpa using hi
    obtain rfl : j = i := by simpa using hj
    exact absurd O hne
def SrcN (P : Program) (av : AV) (sz : Nat) (ys : List (List PV)) (ins : Upds) : Prop :=
  ∀ (I : Nat → CI) (M : Nat → Nat) (w : World) (σ : Nat → Res) (v : Value), Rp I M w v av → Sto I M w σ → (∀ q ∈ ins, σ q.1 = q.2) →
    ∃ news : List Value, (∀ w : World, (Builtin.lenOf v).run P w = .ok ys.length w) ∧ (∀ y ∈ ys, y.length = sz) ∧ news.length = ys.length * sz ∧ (∀ u ∈ news, u.oneCell' = true) ∧
      (∀ m, m ≤ ys.length → ∀ w1 : World, w1.heap = w.heap → (Builtin.firstCells sz m v).run P w1 = .ok (news.take (m * sz)).toArray w1) ∧ ∀ (j : Nat) (p : PV), ys.flatten[j]? = some p → ∃ u, news[j]? = some u ∧ RPV M w u p
theorem SrcN.src {av : AV} {sz : Nat} {ys : List (List PV)} {ins : Upds} (h : SrcN P av sz ys ins) : Src P av sz ys ins := by
  intro I M w σ v hv hs hi
  obtain ⟨news, h1, h2, h3, h4, h5, h6⟩ := h I M w σ v hv hs hi
  refine ⟨news, h1, h2, h3, h4, fun w1 hw => ?_, h6⟩
  rw [h5 _ (Nat.le_refl _) w1 hw, ← h3, List.take_length]
theorem first_prefix {w1 : World} {sz m n c b off : Nat} {news : List Value} (hn : news.length = n * sz) (hm : m ≤ n) (hcell : ∀ (j : Nat) (x : Value), news[j]? = some x → w1.cell? ⟨b, off + j, none⟩ = some x) :
    (Builtin.firstCells sz m (.slice (some ⟨b, off, none⟩) n c)).run P w1 = .ok (news.take (m * sz)).toArray w1 := by
  have hl : (news.take (m * sz)).length = m * sz := by
    rw [List.length_take, hn]
    exact Nat.min_eq_left (Nat.mul_le_mul_right _ hm)
  refine run_firstCells_some (P := P) w1 sz m ⟨b, off, none⟩ n c _ hl fun j x hx => ?_
  rw [Addr.add_lit]
  have hj : j < m * sz := by rw [← hl]; exact (List.getElem?_eq_some_iff.1 hx).1
  rw [List.getElem?_take, if_pos hj] at hx
  exact hcell j x hx
theorem first_none {w1 : World} {sz m n c : Nat} {A : Option Addr} (hm : m * sz = 0) : (Builtin.firstCells sz m (.slice A n c)).run P w1 = .ok #[] w1 := by
  cases A <;> simp [Builtin.firstCells, loadCells, loadCellsFrom, hm]
theorem SrcN.dat {av : AV} {sz : Nat} {ys : List (List PV)} {ins : Upds} (d : Dat σ0 av sz ys ins) : SrcN P av sz ys ins := by
  intro I M w σ v hv hs hi
  obtain ⟨A, c, rfl, r⟩ := d.rpv hi hs hv
  cases r with
  | sl b off u hn hc hz hA hM hcell h1 hu =>
    let news := (List.range (ys.length * sz)).map u
    have hnl : news.length = ys.length * sz := by simp [news]
    have hget : ∀ j, j < ys.length * sz → news[j]? = some (u j) := fun j hj => by simp [news, hj]
    refine ⟨news, fun w => by simp [Builtin.lenOf], hz, hnl, fun x hx => ?_, fun m hm w1 hw => ?_, fun j p hp => ?_⟩
    · obtain ⟨j, hj, rfl⟩ := List.mem_map.1 hx
      exact h1 j (by simpa using hj)
    · rcases Nat.eq_zero_or_pos ys.length with h0 | h0
      · have : m = 0 := by omega
        subst this
        rw [first_none (by simp)]; simp
      · rw [hA h0]
        refine first_prefix hnl hm fun j x hx => ?_
        have hj : j < ys.length * sz := by rw [← hnl]; exact (List.getElem?_eq_some_iff.1 hx).1
        rw [hget j hj] at hx
        injection hx with hx
        subst hx
        rw [World.cell?_of_block (w := w) (by rw [hw])]
        exact hcell j hj
    · have hj : j < ys.length * sz := by rw [← flat_len hz]; exact (List.getElem?_eq_some_iff.1 hp).1
      exact ⟨u j, hget j hj, hu j p hp⟩
theorem SrcN.bsl {av : AV} {k sz lo n C : Nat} {cs : List AV} {xs : List (List PV)} (hav : av = .bsl k sz lo n C) (hcs : (cs.drop (lo * sz)).take (n * sz) = bxs xs) (hz : ∀ ys ∈ xs, ys.length = sz) (hn : xs.length = n) : SrcN P av sz xs [(k, .box cs)] := by
  intro I M w σ v hv hs hi
  subst hav
  have own := hs.own k
  rw [hi _ (List.mem_singleton.2 O)] at own
  obtain ⟨b, cur, e, e1, e2, e3, e4, e5, e6⟩ := own
  cases hv with
  | @bsl _ _ _ _ _ b' A hI hn' hA =>
    obtain rfl : b' = b := by rw [hI] at e1; injection e1
    let news := (cur.toList.drop (lo * sz)).take (n * sz)
    have hlx := bx_len hz
    have hll : n * sz ≤ cs.length - lo * sz := by
      have := congrArg List.length hcs
      rw [hlx, hn, List.length_take, List.length_drop] at this
      omega
    have hnl : news.length = n * sz := by
      simp only [news, List.length_take, List.length_drop, Array.length_toList, e4]
      omega
    have hget : ∀ (j : Nat) (x : Value), news[j]? = some x → cur[lo * sz + j]? = some x := by
      intro j x hx
      have hj : j < n * sz := by rw [← hnl]; exact (List.getElem?_eq_some_iff.1 hx).1
      simp only [news, List.getElem?_take, if_pos hj, List.getElem?_drop, Array.getElem?_toList] at hx
      exact hx
    subst hn
    refine ⟨news, fun w => by simp [Builtin.lenOf], hz, hnl, fun x hx => ?_, fun m hm w1 hw => ?_, fun j p hp => ?_⟩
    · obtain ⟨j, hj⟩ := List.getElem?_of_mem hx
      exact e5 _ _ (hget j x hj)
    · rcases Nat.eq_zero_or_pos xs.length with h0 | h0
      · have : m = 0 := by omega
        subst this
        rw [first_none (by simp)]; simp
      · obtain rfl := hA (by omega)
        refine first_prefix hnl hm fun j x hx => ?_
        rw [World.cell?_of_block (w := w) (by rw [hw]), cell_of_row w b' _ cur e (0, 0) e2]
        exact hget j x hx
    · have hj : j < xs.length * sz := by rw [← flat_len hz]; exact (List.getElem?_eq_some_iff.1 hp).1
      obtain ⟨u, hu⟩ : ∃ u, news[j]? = some u := ⟨news[j]'(by omega), List.getElem?_eq_getElem (by omega)⟩
      refine ⟨u, hu, Rp.rpv (I := I) (e6 _ u p.av (hget j u hu) ?_)⟩
      have : (bxs xs)[j]? = some p.av := by rw [bxs, List.getElem?_map, hp]; rfl
      rw [← hcs, List.getElem?_take, if_pos hj, List.getElem?_drop] at this
      exact this
theorem OpS.copyB {x y : Operand} {td ts e : TypeId} {k sz lo n C : Nat} {cs cs' : List AV} {ys : List (List PV)} {insy : Upds} {z : Value} {bytes : Nat} [Und P td (.slice e)] [TyI P e z sz bytes]
    (ho : o.op = .call { callee := .builtin .copy, args := #[x, y], argTypes := #[td, ts] }) (hx : ρ x = .bsl k sz lo n C) (hy : SrcN P (ρ y) sz ys insy) (hC : (lo + n) * sz ≤ cs.length)
    (hc : cs.take (lo * sz) ++ (bxs (ys.take n) ++ cs.drop (lo * sz + (bxs (ys.take n)).length)) = cs') :
    OpS P o ρ ((k, .box cs) :: insy) (.v (.int .i64 ((min ys.length n : Nat) : Int))) [(k, .box cs')] := by
  intro I M w a σ K Q hop hs hi _ hK
  have q1 := hop x (by simp [ho, Op.operands, Call.operands])
  have q2 := hop y (by simp [ho, Op.operands, Call.operands])
  rw [hx] at q1
  have hk := hi _ List.mem_cons_self
  have own := hs.own k
  simp only at hk
  rw [hk] at own
  obtain ⟨b, cur, e', e1, e2, e3, e4, e5, e6⟩ := own
  obtain ⟨news, s1, s2, s3, s4, s5, s6⟩ := hy I M w σ _ q2 hs (fun q hq => hi q (List.mem_cons_of_mem _ hq))
  obtain ⟨_, _, _, _, _, _, _, hsz⟩ := run_typeInfo (P := P) (t := e) w
  generalize eq0 : a.eval x = xv at q1
  generalize eq1 : a.eval y = yv at *
  cases q1 with
  | @bsl _ _ _ _ _ b' A hI hn hA =>
    obtain rfl : b' = b := by rw [hI] at e1; injection e1
    have hz2 : ∀ y ∈ ys.take n, y.length = sz := fun y h => s2 y (List.mem_of_mem_take h)
    have hbl : (bxs (ys.take n)).length = min ys.length n * sz := by rw [bx_len hz2, List.length_take, Nat.min_comm]
    let m := min ys.length n
    have hm : m ≤ ys.length := Nat.min_le_left _ _
    have hmn : m ≤ n := Nat.min_le_right _ _
    let vs := news.take (m * sz)
    have hvl : vs.length = (bxs (ys.take n)).length := by
      rw [hbl]
      simp only [vs, List.length_take, s3]
      exact Nat.min_eq_left (Nat.mul_le_mul_right _ hm)
    have hfit : lo * sz + (bxs (ys.take n)).length ≤ cs.length := by
      rw [hbl]
      show lo * sz + m * sz ≤ cs.length
      have : m * sz ≤ n * sz := Nat.mul_le_mul_right _ hmn
      rw [Nat.add_mul] at hC
      omega
    obtain ⟨w1, w2, w3⟩ := box_write (P := P) hs (off := lo * sz) (vs := vs) (new := bxs (ys.take n)) hk hI hvl (fun v hv => s4 v (List.mem_of_mem_take hv)) (fun i v c hv hcc => by
      have hi' : i < m * sz := by
        have := (List.getElem?_eq_some_iff.1 hcc).1
        rw [hbl] at this; exact this
      simp only [vs, List.getElem?_take, if_pos hi'] at hv
      rw [bxs, flat_take s2, List.map_take, List.getElem?_take] at hcc
      split at hcc
      · rw [List.getElem?_map] at hcc
        obtain ⟨p, hp, rfl⟩ := Option.map_eq_some_iff.1 hcc
        obtain ⟨u, hu, hr⟩ := s6 i p hp
        rw [hv] at hu; injection hu with hu; subst hu
        exact hr.rp
      · cases hcc) hfit hc
    have hf := s5 m hm w O
    have hrun : (execOp a.eval o).run P w = .ok (.value (.int .i64 (m : Int))) (w.setCells b' (lo * sz) vs) := by
      rcases Nat.eq_zero_or_pos m with h0 | h0
      · have hv0 : vs = [] := by simp [vs, h0]
        rw [hv0]
        have hm0 : Nat.min ys.length n = 0 := h0
        rw [h0] at hf
        simp only [Nat.zero_mul, List.take_zero] at hf
        cases A with
        | none => simp [execOp, ho, resolve, invoke, builtin, eq0, eq1, Builtin.copy_, run_und, s1, hsz, hm0, hf, goInt, h0, World.setCells]
        | some A => simp [execOp, ho, resolve, invoke, builtin, eq0, eq1, Builtin.copy_, run_und, s1, hsz, hm0, hf, goInt, h0, World.setCells, storeCells]
      · obtain rfl := hA (by omega)
        have hmm : Nat.min ys.length n = m := rfl
        simp [execOp, ho, resolve, invoke, builtin, eq0, eq1, Builtin.copy_, run_und, s1, hsz, hmm, hf, goInt]
        have : (storeCells ⟨b', lo * sz, none⟩ (List.take (m * sz) news) 0).run P w = .ok () (w.setCells b' (lo * sz) vs) := w1
        simp [this]
    unfold Oper.wp
    rw [hrun]
    refine hK _ I M _ (.v _) w2 (w3.wide fun b h => ?_) (fun _ _ => rfl) (fun i hi' b hb => ?_)
    · intro h2; exact ⟨k, by simp [keys], by rw [hI, hk]; simp [blkOf, h2]⟩
    · obtain rfl : i = k := by simpa [keys] using hi'
      refine .inr ⟨i, by simp [keys], ?_⟩
      simp only [updS, if_true, hI, blkOf] at hb
      rw [hI, hk]
      exact hb
end
end Go.Proofs.YtbbcokckealagaaGreat
