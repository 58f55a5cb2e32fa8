/-
  A literal's array as an array of the call's own, and its conversion to bytes, which marks it. Nothing of the dump is used; no condition.
-/
import Derived.Test.YthogjnckkmfhnaaAtr
namespace Go.Proofs.Ythogjnckkmfhnaa
open Go.RowKit
set_option linter.unusedVariables false
set_option linter.unusedSimpArgs false
section
variable {P : Program} {o : Oper} {ρ : Operand → AV}
theorem OpS.freshBox {ins : Upds} {sz : Nat} {xs : List (List PV)} (k : Nat) (hkin : k ∉ keys ins)
    (hrun : ∀ (I : Nat → CI) (M : Nat → Nat) (w : World) (a : Act) (σ : Nat → Res), (∀ x ∈ o.op.operands.toList, Rp I M w (a.eval x) (ρ x)) → Sto I M w σ → (∀ q ∈ ins, σ q.1 = q.2) →
      ∃ (cur : Array Value) (e : TypeId), (∀ ys ∈ xs, ys.length = sz) ∧ cur.size = xs.length * sz ∧
        (∀ (j : Nat) (p : PV), xs.flatten[j]? = some p → ∃ u : Value, cur[j]? = some u ∧ u.oneCell' = true ∧ RPV M w u p) ∧ (execOp a.eval o).run P w = .ok (.value (.slice (some ⟨w.heap.size, 0, none⟩) xs.length xs.length)) (w.alloc (.cells cur e (0, 0)))) :
    OpS P o ρ ins (.bsl k sz 0 xs.length xs.length) [(k, .box (bxs xs))] := by
  intro I M w a σ K Q hx hs hi hnew hK
  obtain ⟨cur, e, hz, hc, hfl, hr⟩ := hrun I M w a σ hx hs hi
  obtain ⟨hk1, hk2⟩ := (hnew k (by simp [keys])).resolve_left hkin
  have hlen : cur.size = (bxs xs).length := by rw [bx_len hz, hc]
  have hat : ∀ (i : Nat) (v : Value), cur[i]? = some v → v.oneCell' = true ∧ ∀ c, (bxs xs)[i]? = some c → Rp I M w v c := by
    intro i v hv
    have hi : i < xs.flatten.length := by rw [flat_len hz, ← hc]; exact (Array.getElem?_eq_some_iff.1 hv).1
    obtain ⟨u, h1, h2, h3⟩ := hfl i xs.flatten[i] (by simp [hi])
    rw [hv] at h1
    injection h1 with h1
    subst h1
    refine ⟨h2, fun c hcc => ?_⟩
    rw [bxs, List.getElem?_map, List.getElem?_eq_getElem hi] at hcc
    injection hcc with hcc
    subst hcc
    exact h3.rp
  have hRp : Rp I M w (.agg cur) (.agg (bxs xs)) := .agg hlen (fun i v hv => (hat i v hv).1) fun i v c hv hcc => (hat i v hv).2 c hcc
  obtain ⟨r1, r2, r3, r4⟩ := newVar_ok (t := e) hs hRp rfl k hk1 hk2
  unfold Oper.wp
  rw [hr]
  refine hK _ _ _ _ (.bsl (b := w.heap.size) (lo := 0) (C := xs.length) (by simp) (by omega) (fun _ => by simp)) r2 (r3.wide fun _ _ h => h.elim) (fun i hi => r4 i (by simpa [keys] using hi)) fun i hi b hb => ?_
  obtain rfl : i = k := by simpa [keys] using hi
  simp only [updS, if_true, blkOf] at hb
  injection hb with hb
  exact .inl (by omega)
theorem OpS.buildSliceB {t e : TypeId} {n : Nat} {parts : Array (Nat × Operand)} {z : Value} {sz bytes : Nat} {xs : List (List PV)} {ins : Upds} {σ0 : Nat → Res} (k : Nat) (hkin : k ∉ keys ins) [Und P t (.slice e)] [TyI P e z sz bytes] (ho : o.op = .buildSlice t n parts) (hn : parts.size = n) (hz : z.cells.size = sz) (hsm : n * sz ≤ 16777216)
    (hx : Elems ρ σ0 sz 0 parts.toList xs ins) : OpS P o ρ ins (.bsl k sz 0 xs.length xs.length) [(k, .box (bxs xs))] := by
  refine OpS.freshBox k hkin fun I M w a σ hop hs hi => ?_
  have hop' : ∀ q ∈ parts.toList, Rp I M w (a.eval q.2) (ρ q.2) := fun q hq => hop q.2 (by rw [ho]; simp only [Op.operands]; exact List.mem_map.2 ⟨q, hq, rfl⟩)
  obtain ⟨i1, i2, i3, i4, i5⟩ := hx.spec hi hs hop'
  have hlen : parts.toList.length = n := by simpa using hn
  obtain ⟨_, _, _, _, _, _, hzv, hsz⟩ := run_typeInfo (P := P) (t := e) w
  let vs := parts.toList.map fun q => a.eval q.2
  obtain ⟨r, r1, r2⟩ := fill_seq sz vs 0 ((Array.range (n * sz)).map fun j => (if n * sz = 0 then (#[] : Array Value) else z.cells)[j % (if n * sz = 0 then (#[] : Array Value) else z.cells).size]!) i3 (by simp [vs, hlen])
  have hrl : r.size = n * sz := by
    rw [← Array.length_toList, r2]
    simp only [Nat.zero_mul, List.take_zero, List.nil_append]
    have : ∀ l : List Value, (∀ v ∈ l, v.cells.size = sz) → ((l.map fun v => v.cells.toList).flatten).length = l.length * sz := by
      intro l
      induction l with
      | nil => simp
      | cons v l ih => intro h; simp [ih (fun u hu => h u (List.mem_cons_of_mem _ hu)), h v (by simp), Nat.add_mul]; omega
    rw [this vs i3]; simp [vs, hlen]
  refine ⟨r, e, i2, by rw [hrl, ← i1, hlen], fun j p hp => ?_, ?_⟩
  · obtain ⟨v, h1, h2⟩ := i5 j p hp
    refine ⟨v, ?_, h2⟩
    rw [← Array.getElem?_toList, r2]
    simp only [Nat.zero_mul, List.take_zero, List.nil_append]
    exact h1
  · have hparts : (parts.map fun q => (q.1, a.eval q.2)).toList = (vs.zipIdx 0).map (fun p => (p.2, p.1)) := by rw [Array.toList_map]; exact i4
    have hmm : (parts.map fun (i, x) => (i, a.eval x)) = parts.map fun q => (q.1, a.eval q.2) := rfl
    rw [← i1, hlen]
    have h24 : ¬ (n * sz > 2 ^ 24) := by omega
    have hgo : execOp a.eval o = (do pure (.value (← Instr.buildSlice t n (parts.map fun q => (q.1, a.eval q.2))))) := by simp only [execOp, ho]
    rw [hgo]
    unfold Instr.buildSlice
    rw [hparts]
    by_cases h0 : n * sz = 0
    · rw [if_pos h0, h0] at r1
      have r1' : Instr.fill (fun i => some (i * sz, sz)) (Array.map (fun x => default) (Array.range 0)) (List.map (fun p => (p.snd, p.fst)) vs.zipIdx) = some r := by rw [← r1]; simp
      simp [run_und, hsz, h0, newRow]
      rw [r1']
      simp
    · rw [if_neg h0] at r1
      simp [run_und, hsz, h0, hzv, newRow, h24]
      simp [r1]
/-- bytes of a literal, converted: the array is marked, and written no more -/
theorem OpS.convMk {s e : TypeId} {x : Operand} {k sz n : Nat} {xs : List (List PV)} [Und P s (.slice e)] [Und P e (.int .u8)] (ho : o.op = .convert s s x) (hx : ρ x = .bsl k sz 0 n n) (hn : xs.length = n) (h0 : 0 < n) (hz : ∀ ys ∈ xs, ys.length = sz) :
    OpS P o ρ [(k, .box (bxs xs))] (.sl sz xs true) [(k, .no)] := by
  intro I M w a σ K Q hop hs hi _ hK
  subst hn
  have h1 := hop x (by simp [ho, Op.operands])
  rw [hx] at h1
  have hk := hi _ (List.mem_singleton.2 rfl)
  have own := hs.own k
  simp only at hk
  rw [hk] at own
  obtain ⟨b, cur, e', e1, e2, e3, e4, e5, e6⟩ := own
  generalize eq0 : a.eval x = sv at h1
  cases h1 with
  | @bsl _ _ _ _ _ b' A hI hn hA =>
    obtain rfl : b' = b := by rw [hI] at e1; injection e1
    obtain rfl := hA h0
    have hxl := bx_len hz
    let w' := w.freeze ⟨b', cur.size, none⟩ 1
    have hw : w' = { w with heap := w.heap.modify b' fun
      | .cells c elem (lo, hi) => .cells c elem (if lo == hi then (cur.size, cur.size + 1) else (min lo cur.size, max hi (cur.size + 1)))
      | o => o } := rfl
    have hblt : b' < w.heap.size := (Array.getElem?_eq_some_iff.1 e2).1
    have hhb : w'.heap[b']? = some (.cells cur e' (cur.size, cur.size + 1)) := by
      rw [hw]
      simp only [Array.getElem?_modify, if_true, e2, Option.map_some]
      rfl
    have hho : ∀ i, i ≠ b' → w'.heap[i]? = w.heap[i]? := by
      intro i hi
      rw [hw]
      simp only [Array.getElem?_modify]
      rw [if_neg (fun h => hi h.symm)]
    have hsize : w'.heap.size = w.heap.size := by rw [hw]; simp
    let M' : Nat → Nat := fun i => if i = b' then xs.length * sz else M i
    have hMne : ∀ i, i ≠ b' → M' i = M i := fun i h => by simp [M', h]
    have hMb : M' b' = xs.length * sz := by simp [M']
    have hmask : ∀ i, M i ≤ M' i := by
      intro i
      simp only [M']
      split
      · rename_i h; rw [h, e3]; exact Nat.zero_le _
      · exact Nat.le_refl _
    have hext : Ext (fun i => i = b') I I M M' w w' := ⟨rfl, rfl, rfl, fun _ => CI.le_refl _, ⟨by rw [hsize]; exact Nat.le_refl _, hmask, fun i o' v ho' hv => by
      have hne : i ≠ b' := by rintro rfl; omega
      rw [World.cell?_of_block (w := w) (hho i hne)]; exact hv⟩, fun i _ hne => ⟨hho i hne, hMne i hne⟩⟩
    have hsto : Sto I M' w' (updS σ [(k, .no)]) := by
      refine hs.upd [k] hext (fun i h => ⟨k, by simp, by rw [hI, hk, h]; rfl⟩) (fun _ _ => rfl) (fun i hi => updS_other _ _ _ (by simpa [keys] using hi)) (fun i hi => ?_) (fun i hi b hb => ?_) (fun i hi j hj b hne => ?_) (fun i hi => ?_)
      · obtain rfl : i = k := by simpa using hi
        simp only [updS, if_true]; trivial
      · obtain rfl : i = k := by simpa using hi
        simp only [updS, if_true] at hb
        rw [hI] at hb; cases hb
      · obtain rfl : i = k := by simpa using hi
        obtain rfl : j = i := by simpa using hj
        exact absurd rfl hne
      · rw [hMne i (by omega)]; exact hs.top i (by omega)
    have hcell : ∀ j, j < xs.length * sz → w'.cell? ⟨b', j, none⟩ = some (cur.getD j undef) := by
      intro j hj
      rw [cell_of_row w' b' j cur e' (cur.size, cur.size + 1) hhb]
      have : j < cur.size := by omega
      simp [this]
    have hrp : RPV M' w' (.slice (some ⟨b', 0 * sz, none⟩) xs.length (xs.length - 0)) (.sl sz xs) := by
      refine .sl b' (0 * sz) (fun j => cur.getD j undef) rfl (by omega) hz (fun _ => rfl) (fun _ => by rw [hMb]; omega) (fun j hj => by rw [Nat.zero_mul, Nat.zero_add]; exact hcell j hj) (fun j hj => ?_) (fun j p hp => ?_)
      · exact e5 j _ (by have : j < cur.size := by omega
                         simp [this])
      · have hj : j < xs.length * sz := by rw [← flat_len hz]; exact (List.getElem?_eq_some_iff.1 hp).1
        have hlt : j < cur.size := by omega
        refine (Rp.rpv (I := I) (e6 j _ p.av (by simp [hlt]) ?_)).evo hext.evo
        rw [bxs, List.getElem?_map, hp]; rfl
    have hrun : (execOp a.eval o).run P w = .ok (.value (.slice (some ⟨b', 0 * sz, none⟩) xs.length (xs.length - 0))) w' := by
      simp [execOp, ho, eq0, convert, run_und, markStringish, shape, Sem.run, World.shape?, e2]
      rfl
    unfold Oper.wp
    rw [hrun]
    refine hK _ I M' w' (.sl hrp (fun _ => by omega)) hsto (hext.wide fun i _ h => ⟨k, by simp [keys], by rw [hI, hk, h]; rfl⟩) (fun _ _ => rfl) (fun i hi b hb => ?_)
    obtain rfl : i = k := by simpa [keys] using hi
    simp only [updS, if_true] at hb
    rw [hI] at hb; cases hb
end
section
variable {P : Program} {n : Nat} {ops : List Oper} {chk : List FP → Bool} {K : State → Prop} {rest : List Oper} {o : Oper} {fr : Fr} {σ : List Res} {acc : List FP}
theorem Run.bsB {d k t e nn : _} {parts : Array (Nat × Operand)} {z : Value} {sz bytes : Nat} {xs : List (List PV)} {ins : Upds} {ks : List Nat} {σ' : List Res} [Und P t (.slice e)] [TyI P e z sz bytes] (ho : o.dst = some d) (hop : o.op = .buildSlice t nn parts) (hw : wantA ops fr o = some true) (hd : Nat.blt d n = true) (hn : parts.size = nn) (hz : z.cells.size = sz) (hsm : nn * sz ≤ 16777216)
    (hx : Elems (evA fr) (sto σ) sz 0 parts.toList xs ins) (hi : ∀ q ∈ ins, sto σ q.1 = q.2) (he : Ends σ k) (hki : k ∉ keys ins) (hσ : PutAt σ k (.box (bxs xs)) σ') (hk : keys ins = ks) (hr : Run P n ops chk K rest ⟨(d, .bsl k sz 0 xs.length xs.length) :: fr, σ'⟩ (acc ++ [(ks, [k])])) : Run P n ops chk K (o :: rest) ⟨fr, σ⟩ acc := by
  subst hk
  refine .op (ins := ins) hw (by rw [ho]; exact hd) (OpS.buildSliceB k hki hop hn hz hsm hx) hi (okU_one hσ).1 (fun k' hk' => .inr ?_) (by rw [ho, (okU_one hσ).2]; exact hr)
  obtain rfl : k' = k := by simpa [keys] using hk'
  rw [← he.spec]; exact Nat.le_refl _
theorem Run.cvM {d k sz m : Nat} {s e : TypeId} {x : Operand} {xs : List (List PV)} {σ' : List Res} [Und P s (.slice e)] [Und P e (.int .u8)] (ho : o.dst = some d) (hop : o.op = .convert s s x) (hw : wantA ops fr o = some true) (hd : Nat.blt d n = true) (hx : evA fr x = .bsl k sz 0 m m) (hk : sto σ k = .box (bxs xs)) (hn : xs.length = m) (h0 : 0 < m) (hz : ∀ ys ∈ xs, ys.length = sz) (hσ : PutAt σ k .no σ')
    (hr : Run P n ops chk K rest ⟨(d, .sl sz xs true) :: fr, σ'⟩ (acc ++ [([k], [k])])) : Run P n ops chk K (o :: rest) ⟨fr, σ⟩ acc :=
  .op (ins := [(k, .box (bxs xs))]) hw (by rw [ho]; exact hd) (OpS.convMk hop hx hn h0 hz) (one_in hk) (okU_one hσ).1 (fun k' hk' => .inl (by
      obtain rfl : k' = k := by simpa [keys] using hk'
      simp [keys])) (by rw [ho, (okU_one hσ).2]; exact hr)
theorem Run.bsBA {d k t e nn : _} {parts : Array (Nat × Operand)} {z : Value} {sz bytes : Nat} {xs : List (List PV)} {ins : Upds} {ks : List Nat} {σ' : List Res} [Und P t (.slice e)] [TyI P e z sz bytes] (ho : o.dst = some d) (hop : o.op = .buildSlice t nn parts) (hw : wantA ops fr o = some true) (hd : Nat.blt d n = true) (hn : parts.size = nn) (hk : keys ins = ks) (hr : Run P n ops chk K rest ⟨(d, .bsl k sz 0 xs.length xs.length) :: fr, σ'⟩ (acc ++ [(ks, [k])])) (hz : z.cells.size = sz := by rfl) (hsm : nn * sz ≤ 16777216 := by decide) (hx : Elems (evA fr) (sto σ) sz 0 parts.toList xs ins := by ((repeat (first | exact Elems.nil | apply Elems.cons | exact ToPs.nil | apply ToPs.cons | exact ToP.sl | exact ToP.rowf rfl rfl | exact ToP.row rfl | exact ToP.nil | exact ToP.v rfl | ((conv => lhs; whnf) <;> rfl) | rfl)); first | done | fail)) (hi : ∀ q ∈ ins, sto σ q.1 = q.2 := by ((repeat (first | exact ins_nil | refine ins_cons rfl ?_)); first | done | fail)) (he : Ends σ k := by ((repeat constructor); first | done | fail)) (hki : k ∉ keys ins := by (simp [keys])) (hσ : PutAt σ k (.box (bxs xs)) σ' := by ((repeat constructor); first | done | fail)) : Run P n ops chk K (o :: rest) ⟨fr, σ⟩ acc :=
  Run.bsB ho hop hw hd hn hz hsm hx hi he hki hσ hk hr
end
theorem Conv.freeze {g : Ent} {fr fr' : Fr} {σ σ' : List Res} {cs : List AV} (k sz : Nat) (xs : List (List PV)) (hk : sto σ k = .box cs) (hcs : cs.take (xs.length * sz) = bxs xs) (hz : ∀ ys ∈ xs, ys.length = sz)
    (hf : FzF k sz xs none fr fr') (hσ : FzS k sz xs none 0 σ σ') : Conv g ⟨fr, σ⟩ ⟨fr', σ'⟩ := by
  intro I M w a hst
  obtain ⟨g1, g2⟩ := hσ.get
  have hkl : k < σ.length := by
    rcases Nat.lt_or_ge k σ.length with h | h
    · exact h
    · have : sto σ k = .no := by simp [sto, List.getElem?_eq_none h]
      rw [this] at hk; cases hk
  have own := hst.st.own k
  simp only [hk] at own
  obtain ⟨b, cur, e, e1, e2, _⟩ := own
  obtain ⟨M', m1, m2, m3⟩ := Sto.freeze hst.st hk hcs hz ((g2 k).1 (by omega) hkl) (fun i hi => (g2 i).2 (by omega))
  have hini : ∀ b', I k = .box b' → g.w.heap.size ≤ b' ∨ g.own b' := fun b' hb => hst.ini k b' (by simp only [hk, hb]; rfl)
  refine ⟨I, M', ⟨hst.fr.1, fun t => m3 _ _ _ (hf.get t) (hst.fr.2 t)⟩, hst.df, m1, by have := hst.len; simp only at this ⊢; omega, fun i hi => hst.no i (by simp only at hi ⊢; omega), hst.ext.trans m2 (fun b' hb ho => (hini b' ho).resolve_left (by omega)), fun i b' hb => ?_, hst.gno⟩
  by_cases hi : i = k
  · subst hi
    simp only at hb
    rw [(g2 i).1 (by omega) hkl] at hb
    cases h1 : I i <;> rw [h1] at hb <;> cases hb
  · refine hst.ini i b' ?_
    have q := (g2 i).2 (by omega)
    simp only at hb ⊢
    generalize sto σ i = r at q
    generalize sto σ' i = r' at q hb
    cases q with
    | box _ => cases h1 : I i <;> rw [h1] at hb <;> first | exact hb | cases hb
    | same => exact hb
theorem Conv.freezeA {g : Ent} {s' : State} {fr fr' : Fr} {σ σ' : List Res} {ys : List (List PV)} (k sz : Nat) (xs zs : List (List PV)) (hk : sto σ k = .box (bxs ys)) (hys : ys = xs ++ zs) (hz : ∀ y ∈ xs, y.length = sz) (h : Conv g ⟨fr', σ'⟩ s')
    (hf : FzF k sz xs none fr fr' := by ((repeat (first | apply FzF.cons | (apply Fz.all; (focus (first | assumption | rfl | (simp; done)))) | exact Fz.same | exact FzF.refl)); first | done | fail))
    (hσ : FzS k sz xs none 0 σ σ' := by ((repeat (first | (apply FzS.here; (focus rfl)) | (apply FzS.box; (focus decide)) | (apply FzS.same; (focus decide)) | exact FzS.nil | apply FzL.cons | (apply Fz.all; (focus (first | assumption | rfl | (simp; done)))) | exact Fz.same | exact FzL.refl)); first | done | fail)) : Conv g ⟨fr, σ⟩ s' := by
  subst hys
  refine Conv.trans (Conv.freeze k sz xs hk ?_ hz hf hσ) h
  rw [bx_append, ← bx_len hz, List.take_left']
  rfl
end Go.Proofs.Ythogjnckkmfhnaa
