/-
  A string's bytes in an array of the call's own, written in place. Nothing of the dump is used; no condition.
-/
import Derived.Test.YthogjnckkmfhnaaDoorBaC
namespace Go.Proofs.YthogjnckkmfhnaaDoor
open Go.RowKit
set_option linter.unusedVariables false
set_option linter.unusedSimpArgs false
section
variable {k sz : Nat} {xs : List (List PV)} {t : Option (Nat × Nat)}
theorem Sto.freeze0 {I : Nat → CI} {M : Nat → Nat} {w : World} {σ σ' : Nat → Res} (hs : Sto I M w σ) {b : Nat} {cur : Array Value} {e : TypeId} {fz : Nat × Nat} (e1 : I k = .box b) (e2 : w.heap[b]? = some (.cells cur e fz)) (e3 : M b = 0) (hbk : blkOf (I k) (σ k) = some b) (hfit : xs.length * sz ≤ cur.size)
    (hone : ∀ j, j < xs.length * sz → (cur.getD j undef).oneCell' = true) (hel : ∀ j p, xs.flatten[j]? = some p → RPV M w (cur.getD j undef) p) (hz : ∀ ys ∈ xs, ys.length = sz) (hσk : σ' k = .no) (hσ : ∀ i, i ≠ k → FzR k sz xs none (σ i) (σ' i)) :
    ∃ M', Sto I M' w σ' ∧ Ext (fun b => I k = .box b) I I M M' w w ∧ ∀ v p q, Fz k sz xs none p q → Rp I M w v p → Rp I M' w v q := by
  have hlx := bx_len hz
  let M' : Nat → Nat := fun i => if i = b then xs.length * sz else M i
  have hmask : ∀ i, M i ≤ M' i := by
    intro i
    simp only [M']
    split
    · rename_i h; rw [h, e3]; exact Nat.zero_le _
    · exact Nat.le_refl _
  have hM' : ∀ i, i ≠ b → M' i = M i := fun i h => by simp [M', h]
  have hMb : M' b = xs.length * sz := by simp [M']
  have hev : Evo M M' w w := ⟨Nat.le_refl _, hmask, fun _ _ _ _ h => h⟩
  have hblt : b < w.heap.size := (Array.getElem?_eq_some_iff.1 e2).1
  have hext : Ext (fun b => I k = .box b) I I M M' w w := ⟨rfl, rfl, rfl, fun _ => CI.le_refl _, hev, fun b' _ hne => ⟨rfl, hM' b' (by rintro rfl; exact hne e1)⟩⟩
  have hcell : ∀ j, j < xs.length * sz → w.cell? ⟨b, j, none⟩ = some (cur.getD j undef) := by
    intro j hj
    rw [cell_of_row w b j cur e fz e2]
    simp [show j < cur.size by omega]
  have rd : ∀ lo m C A, lo + m ≤ xs.length → (0 < m → A = some ⟨b, lo * sz, none⟩) → m ≤ C → RPV M' w (.slice A m C) (.sl sz ((xs.drop lo).take m)) := by
    intro lo m C A hlm hA hmC
    have hml : m * sz + lo * sz ≤ xs.length * sz := by rw [← Nat.add_mul]; exact Nat.mul_le_mul_right _ (by omega)
    have hz1 : ∀ ys ∈ xs.drop lo, ys.length = sz := fun ys h => hz ys (List.mem_of_mem_drop h)
    refine .sl b (lo * sz) (fun j => cur.getD (lo * sz + j) undef) (by simp; omega) hmC (fun ys h => hz1 ys (List.mem_of_mem_take h)) hA (fun _ => by rw [hMb]; omega) (fun j hj => hcell _ (by omega)) (fun j hj => hone _ (by omega)) (fun j p hp => ?_)
    rw [flat_take hz1, flat_drop hz, List.getElem?_take] at hp
    split at hp
    · rw [List.getElem?_drop] at hp
      exact (hel _ p hp).evo hev
    · cases hp
  have conv : ∀ v p q, Fz k sz xs none p q → Rp I M w v p → Rp I M' w v q := by
    intro v p q h hv
    cases h with
    | row h => cases h
    | same => exact hv.evo (fun _ => CI.le_refl _) hev
    | @all n C hn =>
      cases hv with
      | @bsl _ _ _ _ _ b' A hI hn' hA =>
        obtain rfl : b' = b := by rw [hI] at e1; injection e1
        subst hn
        refine .sl ?_ (by simp)
        have := rd 0 xs.length (C - 0) A (by omega) (fun h => hA (by omega)) (by omega)
        rw [List.drop_zero, List.take_length] at this
        exact this
    | @sl lo m C h =>
      cases hv with
      | @bsl _ _ _ _ _ b' A hI hn' hA =>
        obtain rfl : b' = b := by rw [hI] at e1; injection e1
        exact .sl (rd lo m _ A h (fun h => hA (by omega)) (by omega)) (by simp)
  have blk : ∀ i b', blkOf (I i) (σ' i) = some b' → i ≠ k ∧ blkOf (I i) (σ i) = some b' := by
    intro i b' h
    by_cases hi : i = k
    · subst hi; rw [hσk] at h; cases h1 : I i <;> rw [h1] at h <;> cases h
    · refine ⟨hi, ?_⟩
      have q := hσ i hi
      generalize σ i = r at q
      generalize σ' i = r' at q h
      cases q with
      | box _ => cases h1 : I i <;> rw [h1] at h <;> first | exact h | cases h
      | same => exact h
  have nb : ∀ i b', i ≠ k → blkOf (I i) (σ i) = some b' → b' ≠ b := by
    rintro i b' hi h rfl
    exact hs.dis i k b' hi h (hbk)
  refine ⟨M', ⟨fun i => ?_, fun i i' b' hne h1 h2 => hs.dis i i' b' hne (blk i b' h1).2 (blk i' b' h2).2, fun b' hb' => by rw [hM' b' (by omega)]; exact hs.top b' hb', fun tt htt => ?_⟩, hext, conv⟩
  · by_cases hi : i = k
    · subst hi; rw [hσk]; trivial
    · have q := hσ i hi
      have o := hs.own i
      have hb := fun b' => nb i b' hi
      generalize hri : σ i = r at q o hb
      generalize hri' : σ' i = r' at q
      cases q with
      | @box l l' hl =>
        obtain ⟨b', cur', e', f1, f2, f3, f4, f5, f6⟩ := o
        obtain ⟨g1, g2⟩ := hl.get
        refine ⟨b', cur', e', f1, f2, ?_, by rw [g1]; exact f4, f5, fun j v c' hv hc' => ?_⟩
        · rw [hM' b' (hb b' (by rw [f1]; rfl))]; exact f3
        · obtain ⟨c, hc, hf⟩ := g2 j c' hc'
          exact conv v c c' hf (f6 j v c hv hc)
      | same =>
        cases r with
        | no => trivial
        | box l =>
          obtain ⟨b', cur', e', f1, f2, f3, f4, f5, f6⟩ := o
          refine ⟨b', cur', e', f1, f2, ?_, f4, f5, fun j v c hv hc => conv v c c .same (f6 j v c hv hc)⟩
          rw [hM' b' (hb b' (by rw [f1]; rfl))]; exact f3
        | row sz' ys =>
          obtain ⟨A, c, f1, f2, f3⟩ := o
          refine ⟨A, c, f1, f2.evo hev, fun hc => ?_⟩
          obtain ⟨g, cur', e', fr', g1, g2, g3, g4, g5⟩ := f3 hc
          refine ⟨g, cur', e', fr', g1, g2, g3, ?_, g5⟩
          rw [hM' g (hb g (by rw [f1, g1]; simp [blkOf, hc]))]; exact g4
        | mby l =>
          obtain ⟨b', cur', e', fz', f1, f2, f3, f4⟩ := o
          refine ⟨b', cur', e', fz', f1, f2, ?_, f4⟩
          rw [hM' b' (hb b' (by rw [f1]; rfl))]; exact f3
  · obtain ⟨e', fr', t1, t2, t3⟩ := hs.tab tt htt
    refine ⟨e', fr', t1, ?_, t3⟩
    rw [hM' _ (by rintro rfl; exact (hs.own k).noTb (hs.tab tt htt) (hbk))]
    exact t2
theorem Sto.freezeM {I : Nat → CI} {M : Nat → Nat} {w : World} {σ σ' : Nat → Res} (hs : Sto I M w σ) {l : List UInt8} (hk : σ k = .mby l) (hσk : σ' k = .no) (hσ : ∀ i, i ≠ k → FzR k 1 (bsP l) none (σ i) (σ' i)) :
    ∃ M', Sto I M' w σ' ∧ Ext (fun b => I k = .box b) I I M M' w w ∧ ∀ v p q, Fz k 1 (bsP l) none p q → Rp I M w v p → Rp I M' w v q := by
  have own := hs.own k
  rw [hk] at own
  obtain ⟨b, cur, e, fz, e1, e2, e3, e4, e5, e6⟩ := own
  have hll : (bsP l).length = l.length := by simp
  have hcur : ∀ (j : Nat) (c : UInt8), l[j]? = some c → cur.getD j undef = .int .u8 (c.toNat : Int) := by
    intro j c hc
    have := e6 j c hc
    simp [Array.getD_eq_getD_getElem?, this]
  refine Sto.freeze0 hs e1 e2 e3 (by rw [e1, hk]; rfl) (by rw [hll]; omega) (fun j hj => ?_) (fun j p hp => ?_) (by simp) hσk hσ
  · rw [hcur j l[j] (by simp [show j < l.length by omega])]; rfl
  · rw [bsP_flat, List.getElem?_map] at hp
    obtain ⟨c, hc, rfl⟩ := Option.map_eq_some_iff.1 hp
    rw [hcur j c hc]
    exact .v _
end
theorem Conv.freezeM0 {g : Ent} {fr fr' : Fr} {σ σ' : List Res} (k : Nat) (l : List UInt8) (hk : sto σ k = .mby l)
    (hf : FzF k 1 (bsP l) none fr fr') (hσ : FzS k 1 (bsP l) none 0 σ σ') : Conv g ⟨fr, σ⟩ ⟨fr', σ'⟩ := by
  intro I M w a hst
  obtain ⟨g1, g2⟩ := hσ.get
  have hkl : k < σ.length := by
    rcases Nat.lt_or_ge k σ.length with h | h
    · exact h
    · have : sto σ k = .no := by simp [sto, List.getElem?_eq_none h]
      rw [this] at hk; cases hk
  obtain ⟨M', m1, m2, m3⟩ := Sto.freezeM hst.st hk ((g2 k).1 (by omega) hkl) (fun i hi => (g2 i).2 (by omega))
  have hini : ∀ b', I k = .box b' → g.w.heap.size ≤ b' ∨ g.own b' := fun b' hb => hst.ini k b' (by simp only [hk, hb]; rfl)
  refine ⟨I, M', ⟨hst.fr.1, fun t => m3 _ _ _ (hf.get t) (hst.fr.2 t)⟩, hst.df, m1, by have := hst.len; simp only at this ⊢; omega, fun i hi => hst.no i (by simp only at hi ⊢; omega), hst.ext.trans m2 (fun b' hb ho => (hini b' ho).resolve_left (by omega)), fun i b' hb => ?_, hst.gno⟩
  by_cases hi : i = k
  · subst hi
    simp only at hb
    rw [(g2 i).1 (by omega) hkl] at hb
    cases h1 : I i <;> rw [h1] at hb <;> cases hb
  · refine hst.ini i b' ?_
    have q := (g2 i).2 (by omega)
    simp only at hb ⊢
    generalize sto σ i = r at q
    generalize sto σ' i = r' at q hb
    cases q with
    | box _ => cases h1 : I i <;> rw [h1] at hb <;> first | exact hb | cases hb
    | same => exact hb
theorem Conv.freezeM {g : Ent} {s' : State} {fr fr' : Fr} {σ σ' : List Res} (k : Nat) (l : List UInt8) (hk : sto σ k = .mby l) (h : Conv g ⟨fr', σ'⟩ s')
    (hf : FzF k 1 (bsP l) none fr fr' := by ((repeat (first | apply FzF.cons | (apply Fz.all; (focus (first | assumption | rfl | (simp; done)))) | exact Fz.same | exact FzF.refl)); first | done | fail))
    (hσ : FzS k 1 (bsP l) none 0 σ σ' := by ((repeat (first | (apply FzS.here; (focus rfl)) | (apply FzS.box; (focus decide)) | (apply FzS.same; (focus decide)) | exact FzS.nil | apply FzL.cons | (apply Fz.all; (focus (first | assumption | rfl | (simp; done)))) | exact Fz.same | exact FzL.refl)); first | done | fail)) : Conv g ⟨fr, σ⟩ s' := by
  exact Conv.trans (Conv.freezeM0 k l hk hf hσ) h
section
variable {P : Program} {o : Oper} {ρ : Operand → AV}
/-- a string's bytes in an array: how many places it has is open -/
theorem OpSN.toBytesM {s d e : TypeId} {x : Operand} {l : List UInt8} (k : Nat) [Und P s .string] [Und P d (.slice e)] [Und P e (.int .u8)] (ho : o.op = .convert s d x) (hx : ρ x = .v (.string (bs l))) (hl : l.length ≤ maxLen) :
    OpSN P o ρ [] (ι := Nat) (fun dd => .bsl k 1 0 l.length (l.length + dd)) (fun _ => [(k, .mby l)]) := by
  intro I M w a σ K Q hop hs hi hnew hK
  obtain ⟨hk1, hk2⟩ := (hnew 0 k (by simp [keys])).resolve_left (by simp [keys])
  have h1 := hop x (by simp [ho, Op.operands])
  rw [hx] at h1
  have hsz := bs_size l
  obtain ⟨dd, hdd⟩ : ∃ dd, grownCap w (bs l).size 0 e = l.length + dd := ⟨grownCap w (bs l).size 0 e - l.length, by have := grownCap_ge w (bs l).size 0 e; omega⟩
  have hcur : ∀ (j : Nat) (c : UInt8), l[j]? = some c → (bytesRow (bs l) (l.length + dd))[j]? = some (Value.int .u8 (c.toNat : Int)) := by
    intro j c hc
    have hj := (List.getElem?_eq_some_iff.1 hc).1
    unfold bytesRow
    rw [Array.getElem?_append_left (by simpa using hj)]
    simp [hc]
  have hcs : (bytesRow (bs l) (l.length + dd)).size = l.length + dd := by
    unfold bytesRow
    have : (bs l).data.size = l.length := by simp
    simp only [Array.size_append, Array.size_map, Array.size_replicate, this]
    rw [hsz]
    omega
  have hrun : (execOp a.eval o).run P w = .ok (.value (.slice (some ⟨w.heap.size, 0, none⟩) l.length (l.length + dd))) (w.drew.alloc (.cells (bytesRow (bs l) (l.length + dd)) e ((bytesRow (bs l) (l.length + dd)).size, (bytesRow (bs l) (l.length + dd)).size + 1))) := by
    have := run_bytes_of_string (P := P) w s d e (bs l) Und.und Und.und Und.und
    simp only [execOp, ho, h1.val, Sem.run_bind, this, Result.andThen_ok, Sem.run_pure, hsz]
    rw [hsz] at hdd
    rw [← hdd]
  generalize bytesRow (bs l) (l.length + dd) = cur at hcur hcs hrun
  let I' : Nat → CI := fun i => if i = k then CI.box w.heap.size else I i
  let w' := w.drew.alloc (.cells cur e (cur.size, cur.size + 1))
  have hle : ∀ i, (I i).le (I' i) := by
    intro i
    show (I i).le (if i = k then CI.box w.heap.size else I i)
    by_cases h : i = k
    · rw [h, hk2]; trivial
    · rw [if_neg h]; exact CI.le_refl _
  have hext : Ext (fun _ => False) I I' M M w w' := ⟨rfl, rfl, rfl, hle, ⟨by simp [w'], fun _ => Nat.le_refl _, fun b o v _ hv => by
      rw [World.cell?_alloc_lt w.drew _ _ (World.block_lt_of_cell? w _ hv)]; exact hv⟩, fun b hb _ => ⟨Below.heap_alloc w.drew _ b hb, rfl⟩⟩
  have hIk : I' k = .box w.heap.size := by simp [I']
  have hw' : w'.heap.size = w.heap.size + 1 := by show (w.drew.heap.push _).size = _; simp
  unfold Oper.wp
  rw [hrun]
  refine hK dd _ I' M w' (.bsl (b := w.heap.size) (lo := 0) (C := l.length + dd) hIk (by omega) (fun _ => by simp)) ?_ (hext.wide fun _ _ h => h.elim) (fun i hi => ?_) (fun i hi b hb => ?_)
  · refine hs.upd [k] hext (fun _ h => h.elim) (fun i hi => by have : i ≠ k := by simpa using hi
                                                               simp [I', this]) (fun i hi => updS_other _ _ _ (by simpa [keys] using hi)) (fun i hi => ?_) (fun i hi b hb => ?_) (fun i hi j hj b hne => ?_) (fun b hb => hs.top b (by omega))
    · obtain rfl : i = k := by simpa using hi
      simp only [updS, if_true, hIk]
      exact ⟨w.heap.size, cur, e, (cur.size, cur.size + 1), rfl, heap_alloc_new w.drew _, hs.top _ (Nat.le_refl _), fun o ho h => by simp only at h; omega, by omega, hcur⟩
    · obtain rfl : i = k := by simpa using hi
      simp only [updS, if_true, hIk, blkOf] at hb
      injection hb with hb
      exact .inl (by omega)
    · obtain rfl : i = k := by simpa using hi
      obtain rfl : j = i := by simpa using hj
      exact absurd rfl hne
  · have : i ≠ k := by simpa [keys] using hi
    simp [I', this]
  · obtain rfl : i = k := by simpa [keys] using hi
    simp only [updS, if_true, hIk, blkOf] at hb
    injection hb with hb
    exact .inl (by omega)
/-- a byte is written -/
theorem OpS.storeM {t : TypeId} {x y : Operand} {k off bytes : Nat} {z : Value} {l l' : List UInt8} {c : UInt8} [TyI P t z 1 bytes] (ho : o.op = .store t x y) (hx : ρ x = .ptr k off) (hy : ρ y = .v (.int .u8 (c.toNat : Int))) (hb : off < l.length) (hc : l.set off c = l') : OpS P o ρ [(k, .mby l)] .any [(k, .mby l')] := by
  intro I M w a σ K Q hop hs hi _ hK
  subst hc
  have q1 := hop x (by simp [ho, Op.operands])
  have q2 := hop y (by simp [ho, Op.operands])
  rw [hx] at q1; rw [hy] at q2
  have own := hs.own k
  rw [hi _ (List.mem_singleton.2 rfl)] at own
  obtain ⟨b, cur, e, fz, e1, e2, e3, e4, e5, e6⟩ := own
  generalize eq0 : a.eval x = xv at q1
  cases q1 with
  | ptr hI =>
    rw [e1] at hI
    injection hI with hI
    subst hI
    obtain ⟨_, _, _, _, _, _, _, hsz⟩ := run_typeInfo (P := P) (t := t) w
    have hblk : b < w.heap.size := (Array.getElem?_eq_some_iff.1 e2).1
    have hrun : (execOp a.eval o).run P w = .ok .skip (w.setCells b off [.int .u8 (c.toNat : Int)]) := by
      have hst := run_storeCells_cells (P := P) b off [.int .u8 (c.toNat : Int)] 0 w (fun j hj => by
          rw [cell_of_row w b _ cur e fz e2]
          have : off + j < cur.size := by simp at hj; omega
          simp [this]) (fun j hj => by
            have := e4 (off + j) (by simp at hj; omega)
            simp only [World.frozen?, e2]
            simpa using this) (fun u hu => by
          obtain rfl : u = .int .u8 (c.toNat : Int) := by simpa using hu
          rfl)
      simp only [Nat.add_zero] at hst
      have hcell : (Value.int .u8 (c.toNat : Int)).cells = #[.int .u8 (c.toNat : Int)] := rfl
      simp [execOp, ho, eq0, q2.val, Instr.storeAt, Instr.sureAddr, storeVar, hsz, hcell, hst]
    obtain ⟨a1, a2, a3, a4, a5, a6⟩ := heap_setCells w b cur e fz [.int .u8 (c.toNat : Int)] off e2
    have hext : Ext (fun b' => b' = b) I I M M w (w.setCells b off [.int .u8 (c.toNat : Int)]) := ⟨a4, a5, a6, fun _ => CI.le_refl _, ⟨by omega, fun _ => Nat.le_refl _, fun b' o' u ho' hu => by
        have hne : b' ≠ b := by rintro rfl; omega
        rw [World.cell?_of_block (a2 b' hne)]; exact hu⟩, fun b' _ hne => ⟨a2 b' hne, rfl⟩⟩
    unfold Oper.wp
    rw [hrun]
    refine hK undef I M _ (.any _) ?_ (hext.wide fun b' _ h => ⟨k, by simp [keys], by rw [e1, hi _ (List.mem_singleton.2 rfl)]; simp [blkOf, h]⟩) (fun _ _ => rfl) (fun i hi' b' hb' => ?_)
    · refine hs.upd [k] hext (fun b' h => ⟨k, by simp, by rw [e1, hi _ (List.mem_singleton.2 rfl)]; simp [blkOf, h]⟩) (fun _ _ => rfl) (fun i hi => updS_other _ _ _ (by simpa [keys] using hi)) (fun i hi' => ?_) (fun i hi' b' hb' => ?_) (fun i hi j hj b hne => ?_) (fun b hb => hs.top b (by omega))
      · obtain rfl : i = k := by simpa using hi'
        simp only [updS, if_true, e1]
        refine ⟨b, _, e, fz, rfl, a1, e3, by rw [setArr_size]; exact e4, by rw [setArr_size, List.length_set]; exact e5, fun j u hu => ?_⟩
        rw [setArr_get _ _ _ (by simp; omega)]
        rw [List.getElem?_set] at hu
        split at hu
        · rename_i hj
          subst hj
          injection hu with hu
          subst hu
          simp
        · rename_i hj
          rw [if_neg (by simp; omega)]
          exact e6 j u hu
      · obtain rfl : i = k := by simpa using hi'
        right
        refine ⟨i, by simp, ?_⟩
        simp only [updS, if_true, e1, blkOf] at hb'
        rw [e1, hi _ (List.mem_singleton.2 rfl)]
        exact hb'
      · obtain rfl : i = k := by simpa using hi
        obtain rfl : j = i := by simpa using hj
        exact absurd rfl hne
    · obtain rfl : i = k := by simpa [keys] using hi'
      right
      refine ⟨i, by simp [keys], ?_⟩
      simp only [updS, if_true, e1, blkOf] at hb'
      rw [e1, hi _ (List.mem_singleton.2 rfl)]
      exact hb'
end
section
variable {P : Program} {n : Nat} {ops : List Oper} {chk : List FP → Bool} {K : State → Prop} {rest : List Oper} {o : Oper} {fr : Fr} {σ : List Res} {acc : List FP}
theorem Run.tbM {d k : Nat} {s dd e : TypeId} {x : Operand} {l : List UInt8} [Und P s .string] [Und P dd (.slice e)] [Und P e (.int .u8)] (hall : ∀ acc, chk acc = true) (ho : o.dst = some d) (hop : o.op = .convert s dd x) (hw : wantA ops fr o = some true) (hd : Nat.blt d n = true) (hx : evA fr x = .v (.string (Go.Proofs.YthogjnckkmfhnaaDoor.bs l))) (hl : l.length ≤ maxLen) (hk : k = σ.length)
    (hr : ∀ d', Run P n ops chk K rest ⟨(d, .bsl k 1 0 l.length (l.length + d')) :: fr, σ ++ [.mby l]⟩ acc) : Run P n ops chk K (o :: rest) ⟨fr, σ⟩ acc := by
  subst hk
  have hO := OpSN.toBytesM (P := P) (o := o) (ρ := evA fr) σ.length hop hx hl
  have hput : ∀ r, okU σ.length [(σ.length, r)] = true ∧ updL σ [(σ.length, r)] = σ ++ [r] := fun r => okU_one (putEnd σ r)
  exact .opN hall hw (by rw [ho]; exact hd) hO ins_nil (fun d' => (hput _).1) (fun d' k' hk' => .inr (by
    obtain rfl : k' = σ.length := by simpa [keys] using hk'
    exact Nat.le_refl _)) (fun d' => by rw [ho, (hput _).2]; exact hr d')
theorem Run.stM {t : TypeId} {x y : Operand} {k off bytes : Nat} {z : Value} {l l' : List UInt8} {c : UInt8} {σ' : List Res} [TyI P t z 1 bytes] (ho : o.dst = none) (hop : o.op = .store t x y) (hw : wantA ops fr o = some true) (hx : evA fr x = .ptr k off) (hk : sto σ k = .mby l) (hy : evA fr y = .v (.int .u8 (c.toNat : Int))) (hb : off < l.length) (hc : l.set off c = l') (hσ : PutAt σ k (.mby l') σ')
    (hr : Run P n ops chk K rest ⟨fr, σ'⟩ (acc ++ [([k], [k])])) : Run P n ops chk K (o :: rest) ⟨fr, σ⟩ acc :=
  .op (ins := [(k, .mby l)]) hw (by rw [ho]; trivial) (OpS.storeM hop hx hy hb hc) (one_in hk) (okU_one hσ).1 (fun k' hk' => .inl (by
      obtain rfl : k' = k := by simpa [keys] using hk'
      simp [keys])) (by rw [ho, (okU_one hσ).2]; exact hr)
end
end Go.Proofs.YthogjnckkmfhnaaDoor
