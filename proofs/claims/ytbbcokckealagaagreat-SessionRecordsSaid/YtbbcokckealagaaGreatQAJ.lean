/-
  Appending in place to an array of the call's own, or out of it when it is full; clear; overlaps. Nothing of the dump is used; no condition.
-/
import Derived.Test.YtbbcokckealagaaGreatQAI
import Derived.Lib.Overlaps
import Derived.Scope
namespace Go.Proofs.YtbbcokckealagaaGreat
set_option linter.unusedVariables false
set_option linter.unusedSimpArgs false
open Go.RowKit
theorem avl_lt (n : Nat) : ∀ l : List PV, AV.lts n (l.map PV.av) = true
  | [] => rfl
  | .v _ :: l => by simp only [List.map_cons, AV.lts, PV.av, AV.lt, avl_lt n l, Bool.and_self]
  | .sl .. :: l => by simp only [List.map_cons, AV.lts, PV.av, AV.lt, avl_lt n l, Bool.and_self]
theorem bxs_lt (n : Nat) (xs : List (List PV)) : AV.lts n (bxs xs) = true := avl_lt n _
theorem avl_rens (ρ : Nat → Nat) : ∀ l : List PV, AV.rens ρ (l.map PV.av) = l.map PV.av
  | [] => rfl
  | .v _ :: l => by simp only [List.map_cons, AV.rens, PV.av, AV.ren, avl_rens ρ l]
  | .sl .. :: l => by simp only [List.map_cons, AV.rens, PV.av, AV.ren, avl_rens ρ l]
theorem bxs_rens (ρ : Nat → Nat) (xs : List (List PV)) : AV.rens ρ (bxs xs) = bxs xs := avl_rens ρ _
section
variable {P : Program} {o : Oper} {ρ : Operand → AV}
theorem updS_same {σ : Nat → Res} {k : Nat} {r : Res} (h : σ k = r) : updS σ [(k, r)] = σ := by
  funext i
  simp only [updS]
  split
  · rename_i e; rw [e, h]
  · rfl
theorem SrcN.g {t tx e : TypeId} {dx : TypeDesc} {z : Value} {sz bytes : Nat} [Und P t (.slice e)] [Und P tx dx] [TyI P e z sz bytes] (hdx : (∃ e', dx = .slice e') ∨ dx = .string) (hzs : z.cells.size = sz) {av : AV} {ys : List (List PV)} {ins : Upds} (h : SrcN P av sz ys ins) : SrcG P t tx e z bytes av sz ys ins := SrcG.of hdx hzs h.src
theorem OpP.sliceB3 {t e : TypeId} {x y y2 y3 : Operand} {kk k2 k3 : IntKind} {l h m : Int} {k sz b0 n0 C lo bytes : Nat} {z : Value} [Und P t (.slice e)] [TyI P e z sz bytes] (ho : o.op = .slice t x (some y) (some y2) (some y3)) (hx : ρ x = .bsl k sz b0 n0 C) (hy : ρ y = .v (.int kk l)) (hy2 : ρ y2 = .v (.int k2 h)) (hy3 : ρ y3 = .v (.int k3 m))
    (h0 : 0 ≤ l := by omega) (h1 : l ≤ h := by omega) (h2 : h ≤ m := by omega) (hh : b0 + m.toNat ≤ C := by omega) (hlo : b0 + l.toNat = lo := by first | ((conv => lhs; simp only [Nat.zero_add]); first | done | rfl) | rfl) : OpP P o ρ (.bsl k sz lo (h.toNat - l.toNat) (b0 + m.toNat)) := by
  subst hlo
  intro I M w a hop
  have q := Rp.bslLe (hx ▸ hop x (by simp [ho, Op.operands]))
  exact OpP.sliceB (P := P) (o := o) (ρ := ρ) (l := some l.toNat) (h := some h.toNat) (m := some m.toNat) ho hx (OpI.so hy (nat_of h0)) (OpI.so hy2 (nat_of (by omega))) (OpI.so hy3 (nat_of (by omega))) (by simp) O O O (by simp only [Option.getD_some]; omega) (by simp only [Option.getD_some]; omega) (by simp only [Option.getD_some]; omega) I M w a hop
set_option maxHeartbeats 4000000 in
theorem OpS.apB {s x : Operand} {t tx e : TypeId} {z : Value} {sz bytes : Nat} [Und P t (.slice e)] [TyI P e z sz bytes] (ho : o.op = .call { callee := .builtin .append, args := #[s, x], argTypes := #[t, tx] })
    {k n C m : Nat} {xs ys zs : List (List PV)} {insx : Upds} (hsv : ρ s = .bsl k sz 0 n C) (hx : SrcG P t tx e z bytes (ρ x) sz ys insx) (hC : xs.length = C) (hsx : ∀ y ∈ xs, y.length = sz) (hm : n + ys.length = m) (hle : m ≤ C) (hr : xs.take n ++ (ys ++ xs.drop m) = zs) (hb : m * bytes ≤ 140737488355328) (h63 : m ≤ maxLen) :
    OpS P o ρ ((k, .box (bxs xs)) :: insx) (.bsl k sz 0 m C) [(k, .box (bxs zs))] := by
  intro I M w a σ K Q hop hs hi _ hK
  subst hm hC
  have h1 := hop s (by simp [ho, Op.operands, Call.operands])
  have h2 := hop x (by simp [ho, Op.operands, Call.operands])
  rw [hsv] at h1
  have hk := hi _ List.mem_cons_self
  have own := hs.own k
  simp only at hk
  rw [hk] at own
  obtain ⟨b, cur, e', e1, e2, e3, e4, e5, e6⟩ := own
  obtain ⟨news, n2, n3, n4, n6, ncore⟩ := hx I M w σ _ h2 hs (fun q hq => hi q (List.mem_cons_of_mem _ hq))
  generalize eq0 : a.eval s = sv at h1
  cases h1 with
  | @bsl _ _ _ _ _ b' A hI hn hA =>
    obtain rfl : b' = b := by rw [hI] at e1; injection e1
    have hxl := bx_len hsx
    have hyl := bx_len n2
    have hmul : (n + ys.length) * sz ≤ xs.length * sz := Nat.mul_le_mul_right _ hle
    rw [Nat.add_mul] at hmul
    let olds := cur.toList.take (n * sz)
    have hol : olds.length = n * sz := by
      simp only [olds, List.length_take, Array.length_toList, e4, hxl]
      omega
    have hog : ∀ (j : Nat) (u : Value), olds[j]? = some u → cur[j]? = some u := by
      intro j u hu
      simp only [olds, List.getElem?_take] at hu
      split at hu
      · simpa using hu
      · cases hu
    have core := ncore o.type A n (xs.length - 0) olds hol
      (fun h0 => ⟨b', 0 * sz, hA (by omega), fun j u hu => by
        rw [Nat.zero_mul, Nat.zero_add, cell_of_row w b' j cur e' (0, 0) e2]
        exact hog j u hu⟩)
      (fun h h0 => ⟨b', cur, e', (0, 0), by rw [hA (by omega), Nat.zero_mul], e2, by rw [e4, hxl, Nat.sub_zero], fun o' _ h => by simp at h⟩) hb h63
    have hput : ∀ w', Sto I M w' (updS σ [(k, .box (bxs zs))]) → Ext (fun b => b = b') I I M M w w' → K (a.put o.dst (.slice A (n + ys.length) (xs.length - 0))) w' := by
      intro w' g1 g2
      refine hK _ I M w' (.bsl hI (by omega) hA) g1 (g2.wide fun b h => ?_) (fun _ _ => rfl) (fun i hi' b hb => ?_)
      · intro h2; exact ⟨k, by simp [keys], by rw [hI, hk]; simp [blkOf, h2]⟩
      · obtain rfl : i = k := by simpa [keys] using hi'
        refine .inr ⟨i, by simp [keys], ?_⟩
        simp only [updS, if_true, hI, blkOf] at hb
        rw [hI, hk]
        exact hb
    rcases core with ⟨_, h0, hrun⟩ | ⟨_, h0, g, hg, hrun⟩ | ⟨hlt, _⟩
    · have hy0 : ys = [] := List.eq_nil_of_length_eq_zero h0
      subst hy0
      have hz : zs = xs := by rw [← hr]; simp
      subst hz
      have := hput w (by rw [updS_same hk]; exact hs) (Ext.refl _ _ _ _)
      unfold Oper.wp execOp
      simp only [ho, resolve, invoke, builtin, Sem.run_bind, Sem.run_pure, Result.andThen_ok, List.map_toArray, List.map_cons, List.map_nil, eq0, hrun]
      exact this
    · have hgb : g = b' := by
        have := hA (by omega)
        rw [hg] at this
        injection this with this
        injection this
      subst hgb
      have hc : (bxs xs).take (n * sz) ++ (bxs ys ++ (bxs xs).drop (n * sz + (bxs ys).length)) = bxs zs := by
        rw [← hr, bx_append, bx_append, bx_take hsx, bx_drop hsx, hyl, Nat.add_mul]
      obtain ⟨w1, w2, w3⟩ := box_write (P := P) hs (off := n * sz) (vs := news) (new := bxs ys) hk hI (by rw [n3, hyl]) n4 (fun i v c hv hcc => by
        rw [bxs, List.getElem?_map] at hcc
        obtain ⟨p, hp, rfl⟩ := Option.map_eq_some_iff.1 hcc
        obtain ⟨u, hu, hr⟩ := n6 i p hp
        rw [hv] at hu; injection hu with hu; subst hu
        exact hr.rp) (by rw [hxl, hyl]; omega) hc
      unfold Oper.wp execOp
      simp only [ho, resolve, invoke, builtin, Sem.run_bind, Sem.run_pure, Result.andThen_ok, List.map_toArray, List.map_cons, List.map_nil, eq0, hrun]
      exact hput _ w2 w3
    · omega
set_option maxHeartbeats 4000000 in
theorem OpSN.apBB {s x : Operand} {t tx e : TypeId} {z : Value} {sz bytes : Nat} [Und P t (.slice e)] [TyI P e z sz bytes] (k : Nat) (ho : o.op = .call { callee := .builtin .append, args := #[s, x], argTypes := #[t, tx] })
    (hzs : z.cells.size = sz) (hz1 : z.cells.toList.all (·.oneCell') = true) {k0 n C m : Nat} {ys xs0 : List (List PV)} {insx : Upds} (hsv : ρ s = .bsl k0 sz 0 n C) (hx : SrcG P t tx e z bytes (ρ x) sz ys insx) (hC : xs0.length = C) (hsx : ∀ y ∈ xs0, y.length = sz) (hm : n + ys.length = m) (hlt : C < m) (hnk : k ≠ k0) (hkin : k ∉ keys insx) (hb : m * bytes ≤ 140737488355328) (h63 : m ≤ maxLen) :
    OpSN P o ρ ((k0, .box (bxs xs0)) :: insx) (ι := Nat) (fun d => .bsl k sz 0 m (m + d)) (fun d => [(k, .box (bxs (xs0.take n ++ ys ++ List.replicate d (z.cells.toList.map PV.v))))]) := by
  intro I M w a σ1 K1 Q hop hs hi hnew hK
  subst hm hC
  have h1 := hop s (by simp [ho, Op.operands, Call.operands])
  have h2 := hop x (by simp [ho, Op.operands, Call.operands])
  rw [hsv] at h1
  have hk0 := hi _ List.mem_cons_self
  have own := hs.own k0
  simp only at hk0
  rw [hk0] at own
  obtain ⟨b, cur0, e', e1, e2, e3, e4, e5, e6⟩ := own
  obtain ⟨hk1, hk2⟩ := (hnew 0 k (by simp [keys])).resolve_left (by simp only [keys, List.map_cons, List.mem_cons, not_or]; exact ⟨hnk, hkin⟩)
  obtain ⟨news, n2, n3, n4, n6, ncore⟩ := hx I M w σ1 _ h2 hs (fun q hq => hi q (List.mem_cons_of_mem _ hq))
  generalize eq0 : a.eval s = sv at h1
  cases h1 with
  | @bsl _ _ _ _ _ b' A hI hn hA =>
  obtain rfl : b' = b := by rw [hI] at e1; injection e1
  have hz' : ∀ y ∈ xs0.take n, y.length = sz := fun y h => hsx y (List.mem_of_mem_take h)
  have hxl0 := bx_len hsx
  have hnle : n * sz ≤ xs0.length * sz := Nat.mul_le_mul_right _ (by omega)
  have htl : (xs0.take n).length = n := by rw [List.length_take]; omega
  let olds := cur0.toList.take (n * sz)
  have hol : olds.length = n * sz := by
    simp only [olds, List.length_take, Array.length_toList, e4, hxl0]
    omega
  have hog : ∀ (j : Nat) (u : Value), olds[j]? = some u → cur0[j]? = some u := by
    intro j u hu
    simp only [olds, List.getElem?_take] at hu
    split at hu
    · simpa using hu
    · cases hu
  have core := ncore o.type A n (xs0.length - 0) olds hol
    (fun h0 => ⟨b', 0 * sz, hA (by omega), fun j u hu => by
      rw [Nat.zero_mul, Nat.zero_add, cell_of_row w b' j cur0 e' (0, 0) e2]
      exact hog j u hu⟩) (fun h _ => by omega) hb h63
  rcases core with ⟨hr, _⟩ | ⟨hr, _⟩ | ⟨hr, c1, hc1, hrun⟩
  · omega
  · omega
  · obtain ⟨d, rfl⟩ : ∃ d, c1 = n + ys.length + d := ⟨c1 - (n + ys.length), by omega⟩
    rw [Nat.add_sub_cancel_left] at hrun
    let zs : List PV := z.cells.toList.map PV.v
    let cur : Array Value := olds.toArray ++ news.toArray ++ Builtin.zeroCells z.cells d
    let cs := bxs (xs0.take n ++ ys ++ List.replicate d zs)
    have hxl : (bxs (xs0.take n)).length = n * sz := by rw [bx_len hz', htl]
    have hyl : (bxs ys).length = ys.length * sz := bx_len n2
    have hzsl : zs.length = sz := by simp [zs, hzs]
    have hzl : (bxs (List.replicate d zs)).length = d * sz := by
      have := bx_len (sz := sz) (xs := List.replicate d zs) (fun y h => by rw [(List.mem_replicate.1 h).2]; exact hzsl)
      simpa using this
    have hcs : cs = bxs (xs0.take n) ++ (bxs ys ++ bxs (List.replicate d zs)) := by simp only [cs, bx_append, List.append_assoc]
    have hlen : cs.length = cur.size := by
      rw [hcs]
      simp only [List.length_append, hxl, hyl, hzl, cur, Array.size_append, List.size_toArray, hol, n3, size_zeroCells, hzs]
      omega
    have hcur : cur.toList = olds ++ (news ++ (Builtin.zeroCells z.cells d).toList) := by simp [cur]
    have hone : ∀ (i : Nat) (v : Value), cur[i]? = some v → v.oneCell' = true ∧ ∀ c, cs[i]? = some c → Rp I M w v c := by
      intro i v hv
      rw [← Array.getElem?_toList, hcur] at hv
      rw [hcs]
      rcases Nat.lt_or_ge i (n * sz) with q | q
      · rw [List.getElem?_append_left (by omega)] at hv
        refine ⟨e5 i v (hog i v hv), fun c hc => ?_⟩
        rw [List.getElem?_append_left (by omega), bx_take hsx, List.getElem?_take, if_pos q] at hc
        exact e6 i v c (hog i v hv) hc
      · rw [List.getElem?_append_right (by omega), hol] at hv
        rcases Nat.lt_or_ge (i - n * sz) (ys.length * sz) with q2 | q2
        · rw [List.getElem?_append_left (by omega)] at hv
          refine ⟨n4 v (List.mem_of_getElem? hv), fun c hc => ?_⟩
          rw [List.getElem?_append_right (by omega), hxl, List.getElem?_append_left (by omega), bxs, List.getElem?_map] at hc
          obtain ⟨p, hp, rfl⟩ := Option.map_eq_some_iff.1 hc
          obtain ⟨u', hu', hr'⟩ := n6 _ p hp
          rw [hv] at hu'; injection hu' with hu'; subst hu'
          exact hr'.rp
        · rw [List.getElem?_append_right (by omega), n3, Array.getElem?_toList, zeroCells_get] at hv
          split at hv
          · rename_i hlt
            injection hv with hv
            have hposz : 0 < z.cells.size := by
              rcases Nat.eq_zero_or_pos z.cells.size with h | h
              · rw [h] at hlt; omega
              · exact h
            have hmod := Nat.mod_lt (i - n * sz - ys.length * sz) hposz
            simp only [hmod, getElem!_pos] at hv
            refine ⟨by rw [← hv]; exact List.all_eq_true.1 hz1 _ (by simp), fun c hc => ?_⟩
            rw [List.getElem?_append_right (by omega), hxl, List.getElem?_append_right (by omega), hyl, zbx_get] at hc
            simp only [hzsl] at hc
            rw [hzs] at hlt hmod
            rw [if_pos hlt, List.getElem?_map] at hc
            simp only [Array.getElem?_toList, hzs, List.getElem?_map, Option.map_map, zs] at hc
            rw [Array.getElem?_eq_getElem (by rw [hzs]; exact hmod)] at hc
            have : AV.v v = c := by
              rw [← hv]
              simpa [PV.av, hzs] using hc
            subst this
            exact .v _
          · cases hv
    have hsd : Sto I M w.drew σ1 := hs.stay ⟨rfl, rfl, rfl, fun _ => CI.le_refl _, ⟨Nat.le_refl _, fun _ => Nat.le_refl _, fun _ _ _ _ h => h⟩, fun _ _ _ => ⟨rfl, rfl⟩⟩ hs.top
    have hRp : Rp I M w.drew (.agg cur) (.agg cs) := .agg hlen.symm (fun i v hv => (hone i v hv).1) fun i v c hv hc => ((hone i v hv).2 c hc).evo (fun _ => CI.le_refl _) (show Evo M M w w.drew from ⟨Nat.le_refl _, fun _ => Nat.le_refl _, fun _ _ _ _ h => h⟩)
    obtain ⟨r1, r2, r3, r4⟩ := newVar_ok (t := e) hsd hRp O k hk1 hk2
    have hx3 : Ext (fun _ => False) I (fun i => if i = k then CI.box w.heap.size else I i) M M w (w.drew.alloc (.cells cur e)) := ⟨r3.os, r3.tape, r3.output, r3.le, ⟨r3.evo.size, r3.evo.mask, r3.evo.keep⟩, r3.oth⟩
    unfold Oper.wp execOp
    simp only [ho, resolve, invoke, builtin, Sem.run_bind, Sem.run_pure, Result.andThen_ok, List.map_toArray, List.map_cons, List.map_nil, eq0, hrun]
    refine hK d _ (fun i => if i = k then CI.box w.heap.size else I i) M _ (.bsl (b := w.heap.size) (lo := 0) (C := n + ys.length + d) (by simp) (by omega) (fun _ => by simp)) r2 (hx3.wide fun _ _ h => h.elim) (fun i hi => r4 i (by simpa [keys] using hi)) fun i hi b hb => ?_
    obtain rfl : i = k := by simpa [keys] using hi
    simp only [updS, if_true, blkOf] at hb
    injection hb with hb
    exact .inl (by omega)
set_option maxHeartbeats 4000000 in
theorem OpS.clB {x : Operand} {t e : TypeId} {z : Value} {sz bytes : Nat} [Und P t (.slice e)] [TyI P e z sz bytes] (ho : o.op = .call { callee := .builtin .clear, args := #[x], argTypes := #[t] })
    (hzs : z.cells.size = sz) (hz1 : z.cells.toList.all (·.oneCell') = true) {k lo n C : Nat} {xs zs : List (List PV)} (hxv : ρ x = .bsl k sz lo n C) (hC : lo + n ≤ xs.length) (hsx : ∀ y ∈ xs, y.length = sz) (hr : xs.take lo ++ (List.replicate n (z.cells.toList.map PV.v) ++ xs.drop (lo + n)) = zs) :
    OpS P o ρ [(k, .box (bxs xs))] (.v (.tuple #[])) [(k, .box (bxs zs))] := by
  intro I M w a σ K Q hop hs hi _ hK
  have h1 := hop x (by simp [ho, Op.operands, Call.operands])
  rw [hxv] at h1
  have hk := hi _ List.mem_cons_self
  have own := hs.own k
  simp only at hk
  rw [hk] at own
  obtain ⟨b, cur, e', e1, e2, e3, e4, e5, e6⟩ := own
  obtain ⟨_, _, _, _, _, _, hzv, hsz⟩ := run_typeInfo (P := P) (t := e) w
  generalize eq0 : a.eval x = sv at h1
  cases h1 with
  | @bsl _ _ _ _ _ b' A hI hn hA =>
    obtain rfl : b' = b := by rw [hI] at e1; injection e1
    have hxl := bx_len hsx
    have hput : ∀ w', Sto I M w' (updS σ [(k, .box (bxs zs))]) → Ext (fun b => b = b') I I M M w w' → K (a.put o.dst (.tuple #[])) w' := by
      intro w' g1 g2
      refine hK _ I M w' (.v _) g1 (g2.wide fun b h => ?_) (fun _ _ => rfl) (fun i hi' b hb => ?_)
      · intro h2; exact ⟨k, by simp [keys], by rw [hI, hk]; simp [blkOf, h2]⟩
      · obtain rfl : i = k := by simpa [keys] using hi'
        refine .inr ⟨i, by simp [keys], ?_⟩
        simp only [updS, if_true, hI, blkOf] at hb
        rw [hI, hk]
        exact hb
    rcases Nat.eq_zero_or_pos n with h0 | h0
    · subst h0
      have hz : zs = xs := by rw [← hr]; simp
      subst hz
      have := hput w (by rw [updS_same hk]; exact hs) (Ext.refl _ _ _ _)
      unfold Oper.wp
      have hrun : (execOp a.eval o).run P w = .ok (.value (.tuple #[])) w := by
        cases A with
        | none => simp [execOp, ho, resolve, invoke, builtin, eq0, Builtin.clear_, run_und]
        | some A => simp [execOp, ho, resolve, invoke, builtin, eq0, Builtin.clear_, run_und]
      rw [hrun]
      exact this
    · obtain rfl := hA (by omega)
      have hnz : (Builtin.zeroCells z.cells n).toList.length = (bxs (List.replicate n (z.cells.toList.map PV.v))).length := by
        rw [bx_len (sz := sz) (fun y h => by rw [(List.mem_replicate.1 h).2]; simp [hzs]), Array.length_toList, size_zeroCells, List.length_replicate, hzs]
      have hbl : (bxs (List.replicate n (z.cells.toList.map PV.v))).length = n * sz := by
        rw [bx_len (sz := sz) (fun y h => by rw [(List.mem_replicate.1 h).2]; simp [hzs]), List.length_replicate]
      have hc : (bxs xs).take (lo * sz) ++ (bxs (List.replicate n (z.cells.toList.map PV.v)) ++ (bxs xs).drop (lo * sz + (bxs (List.replicate n (z.cells.toList.map PV.v))).length)) = bxs zs := by
        rw [← hr, bx_append, bx_append, bx_take hsx, bx_drop hsx, hbl, Nat.add_mul]
      have hzc : ∀ (i : Nat) (v : Value), (Builtin.zeroCells z.cells n).toList[i]? = some v → v.oneCell' = true ∧ ∀ c, (bxs (List.replicate n (z.cells.toList.map PV.v)))[i]? = some c → Rp I M w v c := by
        intro i v hv
        rw [Array.getElem?_toList, zeroCells_get] at hv
        split at hv
        · rename_i hlt
          injection hv with hv
          have hposz : 0 < z.cells.size := by
            rcases Nat.eq_zero_or_pos z.cells.size with h | h
            · rw [h] at hlt; omega
            · exact h
          have hmod := Nat.mod_lt i hposz
          simp only [hmod, getElem!_pos] at hv
          refine ⟨by rw [← hv]; exact List.all_eq_true.1 hz1 _ (by simp), fun c hc => ?_⟩
          have hzsl : (z.cells.toList.map PV.v).length = sz := by simp [hzs]
          rw [zbx_get] at hc
          simp only [hzsl] at hc
          rw [hzs] at hlt hmod
          rw [if_pos hlt, List.getElem?_map] at hc
          simp only [Array.getElem?_toList, hzs, List.getElem?_map, Option.map_map] at hc
          rw [Array.getElem?_eq_getElem (by rw [hzs]; exact hmod)] at hc
          have : AV.v v = c := by
            rw [← hv]
            simpa [PV.av, hzs] using hc
          subst this
          exact .v _
        · cases hv
      have hmul : (lo + n) * sz ≤ xs.length * sz := Nat.mul_le_mul_right _ hC
      rw [Nat.add_mul] at hmul
      obtain ⟨w1, w2, w3⟩ := box_write (P := P) hs (off := lo * sz) (vs := (Builtin.zeroCells z.cells n).toList) (new := bxs (List.replicate n (z.cells.toList.map PV.v))) hk hI hnz (fun v hv => by
        obtain ⟨i, hi⟩ := List.getElem?_of_mem hv
        exact (hzc i v hi).1) (fun i v c hv hcc => (hzc i v hv).2 c hcc) (by rw [hxl, hbl]; omega) hc
      have hrun : (execOp a.eval o).run P w = .ok (.value (.tuple #[])) (w.setCells b' (lo * sz) (Builtin.zeroCells z.cells n).toList) := by
        obtain ⟨n, rfl⟩ : ∃ q, n = q + 1 := ⟨n - 1, by omega⟩
        simp [execOp, ho, resolve, invoke, builtin, eq0, Builtin.clear_, run_und, hzv]
        simp [w1]
      unfold Oper.wp
      rw [hrun]
      exact hput _ w2 w3
set_option maxHeartbeats 4000000 in
theorem OpR.ovl {x y xf : Operand} {f : FuncId} {fn : Func} {tS e : TypeId} {ts ps rs : Array TypeId} {z : Value} {sz bytes : Nat} [Und P tS (.slice e)] [TyI P e z sz bytes] (ho : o.op = .call { callee := .value xf, args := #[x, y], argTypes := ts })
    (hf : P.funcs[f]? = some fn) (hname : (fn.name == "runtime.NumGoroutine") = false) (hbd : fn.body.isNone = true) (hnx : Extern.findNext fn = none) (he : Extern.find fn = some (Extern.SlicesOverlaps.overlaps ps rs)) (hps : ps[0]? = some tS)
    {k lo n C sx : Nat} {full : Bool} {xs : List (List PV)} {cs : List AV} (hxf : ρ xf = .fn f []) (hxv : ρ x = .sl sx xs full) (hyv : ρ y = .bsl k sz lo n C) (hsx : 0 < sx) (hlo : n = 0 ∨ lo < C) : OpR P o ρ [(k, .box cs)] (.v (.bool false)) := by
  intro I M w a σ hop hs hi
  have h0 := hop xf (by simp [ho, Op.operands, Call.operands])
  have h1 := hop x (by simp [ho, Op.operands, Call.operands])
  have h2 := hop y (by simp [ho, Op.operands, Call.operands])
  rw [hxf] at h0
  rw [hxv] at h1
  rw [hyv] at h2
  have hk := hi _ List.mem_cons_self
  have own := hs.own k
  simp only at hk
  rw [hk] at own
  obtain ⟨b, cur, e', e1, e2, e3, e4, e5, e6⟩ := own
  obtain ⟨_, _, _, _, _, _, hzv, hsz⟩ := run_typeInfo (P := P) (t := e) w
  refine ⟨.bool false, ?_, .v _⟩
  generalize eq0 : a.eval xf = fv at h0
  generalize eq1 : a.eval x = xv at h1
  generalize eq2 : a.eval y = yv at h2
  cases h0 with
  | @fn _ vs _ hvs hcs =>
  obtain rfl : vs = #[] := Array.eq_empty_of_size_eq_zero (by simpa using hvs)
  cases h2 with
  | @bsl _ _ _ _ _ b' B hI hn hA =>
  obtain rfl : b' = b := by rw [hI] at e1; injection e1
  cases h1 with
  | @sl A n1 c1 _ _ _ hr _ =>
  have key : (Extern.SlicesOverlaps.overlaps ps rs #[.slice A n1 c1, .slice B n (C - lo)]).run P w = .ok (.bool false) w := by
    obtain ⟨G, s1, s2, base, hG⟩ : ∃ (G : Addr → Addr → Nat → Sem Value) (s1 s2 : String), (∀ ps rs : Array TypeId, Extern.SlicesOverlaps.overlaps ps rs #[.slice A n1 c1, .slice B n (C - lo)] = (do
        let some t := ps[0]? | stuck s1
        let .slice elem ← underlying t | stuck s2
        let size ← sizeOf elem
        match A, B with
        | some a, some b => if n1 = 0 ∨ n = 0 ∨ size = 0 then pure (Value.bool false) else G a b size
        | _, _ => pure (Value.bool false))) ∧
        ∀ (b1 o1 b2 o2 size q m : Nat) (T1 T2 : TypeId), b1 ≠ b2 → w.shape? b1 = some (T1, q + 1) → w.shape? b2 = some (T2, m) → (∀ off, w.frozen? ⟨b2, off, none⟩ = false) → Sem.run P (G ⟨b1, o1, none⟩ ⟨b2, o2, none⟩ size) w = .ok (.bool false) w := by
      refine ⟨_, _, _, fun _ _ => rfl, fun b1 o1 b2 o2 size q m T1 T2 hne hsa hsb hfb => ?_⟩
      have hnb : (b1 != b2) = true := by simpa using hne
      have hnb' : (b1 == b2) = false := by simpa using hne
      cases hfa : w.frozen? ⟨b1, o1, none⟩ <;> cases hfe : w.frozen? ⟨b1, q + 1, none⟩ <;>
        simp [hnb, hnb', frozen, noView, viewAt, mayBeOne, stringish, shape, Sem.run, hsa, hsb, hfb, hfa, hfe]
    rw [base]
    cases A with
    | none => cases B <;> simp [hps, run_und, hsz]
    | some A => cases B with
      | none => simp [hps, run_und, hsz]
      | some B =>
        by_cases hz0 : n1 = 0 ∨ n = 0 ∨ sz = 0
        · simp [hps, run_und, hsz, hz0]
        · have hB := hA (by omega)
          injection hB with hB
          subst hB
          cases hr with
          | sl b1 off1 u hn1 hc' hz' hA1 hM1 hcell h11 hu =>
            have hA1' := hA1 (by omega)
            injection hA1' with hA1'
            subst hA1'
            have hpos : 0 < n1 * sx := Nat.mul_pos (by omega) hsx
            have hne : b1 ≠ b' := by
              rintro rfl
              have := hM1 (by omega)
              omega
            have hc0 := hcell 0 hpos
            obtain ⟨c, ec, fr, hcb, hcs0⟩ : ∃ c ec fr, w.heap[b1]? = some (.cells c ec fr) ∧ c.size ≠ 0 := by
              simp only [World.cell?] at hc0
              split at hc0
              · rename_i c ec fr hh
                refine ⟨c, ec, fr, hh, ?_⟩
                intro h
                simp at hc0
                have := (Array.getElem?_eq_some_iff.1 hc0).1
                omega
              · cases hc0
            have hsa : w.shape? b1 = some (ec, c.size) := by simp [World.shape?, hcb]
            have hsb : w.shape? b' = some (e', cur.size) := by simp [World.shape?, e2]
            have hfb : ∀ off, w.frozen? ⟨b', off, none⟩ = false := fun off => by simp [World.frozen?, e2]
            cases hsz0 : c.size with
            | zero => exact absurd hsz0 hcs0
            | succ q =>
              rw [hsz0] at hsa
              have hg := hG b1 off1 b' (lo * sz) sz q _ _ _ hne hsa hsb hfb
              simp [hps, run_und, hsz, hz0, hg]
  have := run_callFunc_extern hf hname hbd hnx he #[.slice A n1 c1, .slice B n (C - lo)] w
  rw [key] at this
  simp [execOp, ho, resolve, eq0, eq1, eq2, Deferred.ofValue, invoke, this]
end
section
variable {P : Program} {n : Nat} {ops : List Oper} {chk : List FP → Bool} {K : State → Prop} {rest : List Oper} {o : Oper} {fr : Fr} {σ : List Res} {acc : List FP}
theorem Run.apB {d k m C mm sz bytes : Nat} {s x : Operand} {t tx e : TypeId} {dx : TypeDesc} {z : Value} {xs ys zs : List (List PV)} {insx : Upds} {ks : List Nat} {σ' : List Res} [Und P t (.slice e)] [Und P tx dx] [TyI P e z sz bytes] (ho : o.dst = some d) (hop : o.op = .call { callee := .builtin .append, args := #[s, x], argTypes := #[t, tx] })
    (hw : wantA ops fr o = some true) (hd : Nat.blt d n = true) (hdx : (∃ e', dx = .slice e') ∨ dx = .string) (hzs : z.cells.size = sz) (hsv : evA fr s = .bsl k sz 0 m C) (hk : sto σ k = .box (bxs xs)) (hy : SrcNI P (evA fr x) σ sz ys insx) (hsx : ∀ y ∈ xs, y.length = sz) (hC : xs.length = C) (hm : m + ys.length = mm) (hle : mm ≤ C)
    (hz : xs.take m ++ (ys ++ xs.drop mm) = zs) (hb : mm * bytes ≤ 140737488355328) (h63 : mm ≤ maxLen) (hσ : PutAt σ k (.box (bxs zs)) σ') (hks : k :: keys insx = ks)
    (hr : Run P n ops chk K rest ⟨(d, .bsl k sz 0 mm C) :: fr, σ'⟩ (acc ++ [(ks, [k])])) : Run P n ops chk K (o :: rest) ⟨fr, σ⟩ acc := by
  subst hks
  refine .op (ins := (k, .box (bxs xs)) :: insx) hw (by rw [ho]; exact hd) (OpS.apB hop hsv (hy.1.g hdx hzs) hC hsx hm hle hz hb h63) (fun q hq => by
    rcases List.mem_cons.1 hq with rfl | hq
    · exact hk
    · exact hy.2 q hq) (okU_one hσ).1 (fun k' hk' => .inl (by
      obtain rfl : k' = k := by simpa [keys] using hk'
      simp [keys])) (by rw [ho, (okU_one hσ).2]; exact hr)
theorem Run.clB {k lo m C sz bytes : Nat} {x : Operand} {t e : TypeId} {z : Value} {xs zs : List (List PV)} {σ' : List Res} [Und P t (.slice e)] [TyI P e z sz bytes] (ho : o.dst = none) (hop : o.op = .call { callee := .builtin .clear, args := #[x], argTypes := #[t] })
    (hw : wantA ops fr o = some true) (hzs : z.cells.size = sz) (hz1 : z.cells.toList.all (·.oneCell') = true) (hsv : evA fr x = .bsl k sz lo m C) (hk : sto σ k = .box (bxs xs)) (hsx : ∀ y ∈ xs, y.length = sz) (hC : lo + m ≤ xs.length)
    (hz : xs.take lo ++ (List.replicate m (z.cells.toList.map PV.v) ++ xs.drop (lo + m)) = zs) (hσ : PutAt σ k (.box (bxs zs)) σ')
    (hr : Run P n ops chk K rest ⟨fr, σ'⟩ (acc ++ [([k], [k])])) : Run P n ops chk K (o :: rest) ⟨fr, σ⟩ acc :=
  .op (ins := [(k, .box (bxs xs))]) hw (by rw [ho]; rfl) (OpS.clB hop hzs hz1 hsv hC hsx hz) (one_in hk) (okU_one hσ).1 (fun k' hk' => .inl (by
      obtain rfl : k' = k := by simpa [keys] using hk'
      simp [keys])) (by rw [ho, (okU_one hσ).2]; exact hr)
theorem Run.apBB {d k k0 m C mm sz bytes : Nat} {s x : Operand} {t tx e : TypeId} {k1 k2 : IntKind} {a : Int} {q : Nat} {z : Value} {xs : List (List PV)} [Und P t (.slice e)] [Und P tx (.int k1)] [TyI P e z sz bytes] (hall : ∀ acc, chk acc = true) (ho : o.dst = some d) (hop : o.op = .call { callee := .builtin .append, args := #[s, x], argTypes := #[t, tx] })
    (hw : wantA ops fr o = some true) (hd : Nat.blt d n = true) (hzs : z.cells.size = sz) (hz1 : z.cells.toList.all (·.oneCell') = true) (hsv : evA fr s = .bsl k0 sz 0 m C) (hx : evA fr x = .v (.int k2 a)) (ha : a = (q : Int)) (hk0 : sto σ k0 = .box (bxs xs)) (hsx : ∀ y ∈ xs, y.length = sz) (hC : xs.length = C) (hm : m + q = mm) (hlt : C < mm) (hk : k = σ.length) (hkl : k0 < σ.length) (hb : mm * bytes ≤ 140737488355328) (h63 : mm ≤ maxLen)
    (hr : ∀ d', Run P n ops chk K rest ⟨(d, .bsl k sz 0 mm (mm + d')) :: fr, σ ++ [.box (bxs (xs.take m ++ List.replicate q (z.cells.toList.map PV.v) ++ List.replicate d' (z.cells.toList.map PV.v)))]⟩ acc) : Run P n ops chk K (o :: rest) ⟨fr, σ⟩ acc := by
  subst hk
  have hx' := SrcG.zeros (P := P) (t := t) (tx := tx) (e := e) (k1 := k1) (bytes := bytes) hzs hz1 hx ha
  have hO := OpSN.apBB σ.length hop hzs hz1 hsv hx' hC hsx (by simpa using hm) hlt (by omega) (by simp [keys]) hb h63
  have hput : ∀ r, okU σ.length [(σ.length, r)] = true ∧ updL σ [(σ.length, r)] = σ ++ [r] := fun r => okU_one (putEnd σ r)
  exact .opN hall hw (by rw [ho]; exact hd) hO (one_in hk0) (fun d' => (hput _).1) (fun d' k' hk' => .inr (by
    obtain rfl : k' = σ.length := by simpa [keys] using hk'
    exact Nat.le_refl _)) (fun d' => by rw [ho, (hput _).2]; exact hr d')
theorem Run.ovl {d k lo m C sz sx bytes : Nat} {x y xf : Operand} {f : FuncId} {fn : Func} {tS tS2 e : TypeId} {ps rs : Array TypeId} {z : Value} {full : Bool} {xs : List (List PV)} {cs : List AV} [Und P tS (.slice e)] [TyI P e z sz bytes] (ho : o.dst = some d) (hop : o.op = .call { callee := .value xf, args := #[x, y], argTypes := #[tS, tS2] })
    (hw : wantA ops fr o = some true) (hd : Nat.blt d n = true) (hf : P.funcs[f]? = some fn) (hname : (fn.name == "runtime.NumGoroutine") = false) (hbd : fn.body.isNone = true) (hnx : Extern.findNext fn = none) (he : Extern.find fn = some (Extern.SlicesOverlaps.overlaps ps rs)) (hps : ps[0]? = some tS)
    (hxf : evA fr xf = .fn f []) (hxv : evA fr x = .sl sx xs full) (hyv : evA fr y = .bsl k sz lo m C) (hsx : 0 < sx) (hlo : m = 0 ∨ lo < C) (hk : sto σ k = .box cs)
    (hr : Run P n ops chk K rest ⟨(d, .v (.bool false)) :: fr, σ⟩ (acc ++ [([k], [])])) : Run P n ops chk K (o :: rest) ⟨fr, σ⟩ acc :=
  .op (ins := [(k, .box cs)]) (outs := []) (v := .v (.bool false)) hw (by rw [ho]; exact hd) (OpR.ovl hop hf hname hbd hnx he hps hxf hxv hyv hsx hlo).s (one_in hk) O (fun _ h => by cases h) (by rw [ho]; exact hr)
theorem Cr.bxs {σ : Nat → Res} {ρ : Nat → Nat} {xs ys : List (List PV)} (h : xs = ys) : Cr σ ρ (.box (bxs xs)) (.box (bxs ys)) := by
  subst h
  refine .box ?_
  rw [bxs_rens]
  exact CvL.refl _
theorem bxs_lt' (n : Nat) (xs : List (List PV)) : Res.lt n (.box (bxs xs)) = true := bxs_lt n xs
theorem bxs_all (n : Nat) (xs : List (List PV)) : [Res.box (bxs xs)].all (Res.lt n) = true := by simp [Res.lt, bxs_lt]
theorem RenLs.of {ρ : Nat → Nat} : ∀ (l : List PV), RenLs ρ (l.map PV.av) (l.map PV.av)
  | [] => .nil
  | .v _ :: l => .cons .v (RenLs.of l)
  | .sl .. :: l => .cons .sl (RenLs.of l)
theorem RenLs.bxs {ρ : Nat → Nat} (xs : List (List PV)) : RenLs ρ (bxs xs) (bxs xs) := RenLs.of _
theorem Run.apBS {d k m sz bytes : Nat} {s x : Operand} {t tx e : TypeId} {dx : TypeDesc} {z : Value} {xs ys : List (List PV)} {insx : Upds} [Und P t (.slice e)] [Und P tx dx] [TyI P e z sz bytes] (hall : ∀ acc, chk acc = true) (ho : o.dst = some d) (hop : o.op = .call { callee := .builtin .append, args := #[s, x], argTypes := #[t, tx] })
    (hw : wantA ops fr o = some true) (hd : Nat.blt d n = true) (hdx : (∃ e', dx = .slice e') ∨ dx = .string) (hzs : z.cells.size = sz) (hz1 : z.cells.toList.all (·.oneCell') = true) (hsv : evA fr s = .sl sz xs true ∨ evA fr s = .v (.slice none 0 0) ∧ xs = []) (hy : SrcNI P (evA fr x) σ sz ys insx) (hm : xs.length + ys.length = m) (hpos : 0 < ys.length) (hb : m * bytes ≤ 140737488355328) (h63 : m ≤ maxLen) (hk : k = σ.length) (hki : k ∉ keys insx)
    (hr : ∀ d', Run P n ops chk K rest ⟨(d, .bsl k sz 0 m (m + d')) :: fr, σ ++ [.box (bxs (xs ++ ys ++ List.replicate d' (z.cells.toList.map PV.v)))]⟩ acc) : Run P n ops chk K (o :: rest) ⟨fr, σ⟩ acc := by
  subst hk
  have hO := OpSN.appB σ.length hop hzs hz1 hsv (hy.1.g hdx hzs) hm hpos hki hb h63
  have hput : ∀ r, okU σ.length [(σ.length, r)] = true ∧ updL σ [(σ.length, r)] = σ ++ [r] := fun r => okU_one (putEnd σ r)
  exact .opN hall hw (by rw [ho]; exact hd) hO hy.2 (fun d' => (hput _).1) (fun d' k' hk' => .inr (by
    obtain rfl : k' = σ.length := by simpa [keys] using hk'
    exact Nat.le_refl _)) (fun d' => by rw [ho, (hput _).2]; exact hr d')
theorem OpS.ap0 {s x : Operand} {t tx e : TypeId} {dx : TypeDesc} {z : Value} {sz bytes : Nat} {ρ : Operand → AV} [Und P t (.slice e)] [Und P tx dx] [TyI P e z sz bytes] (ho : o.op = .call { callee := .builtin .append, args := #[s, x], argTypes := #[t, tx] })
    (hdx : (∃ e', dx = .slice e') ∨ dx = .string) (hzs : z.cells.size = sz) {xs : List (List PV)} {f : Bool} {insx : Upds} (hsv : ρ s = .sl sz xs f) (hx : SrcN P (ρ x) sz [] insx) (hb : xs.length * bytes ≤ 140737488355328) (h63 : xs.length ≤ maxLen) : OpS P o ρ insx (.sl sz xs f) [] := by
  intro I M w a σ K Q hop hs hi _ hK
  have h1 := hop s (by simp [ho, Op.operands, Call.operands])
  have h2 := hop x (by simp [ho, Op.operands, Call.operands])
  rw [hsv] at h1
  obtain ⟨news, n2, n3, n4, n6, ncore⟩ := (hx.g (t := t) (tx := tx) (e := e) (bytes := bytes) hdx hzs) I M w σ _ h2 hs hi
  generalize eq0 : a.eval s = sv at h1
  have hv := h1
  cases h1 with
  | @sl A n1 c1 _ _ _ r0 hf =>
  cases r0 with
  | sl b off u hn hc' hz' hA hM hcell h11 hu =>
  subst hn
  let olds := (List.range (xs.length * sz)).map u
  have core := ncore o.type A xs.length c1 olds (by simp [olds])
    (fun h0 => ⟨b, off, hA h0, fun j v hv => by
      have hj : j < xs.length * sz := by have := (List.getElem?_eq_some_iff.1 hv).1; simpa [olds] using this
      simp only [olds, List.getElem?_map, List.getElem?_range hj, Option.map_some, Option.some.injEq] at hv
      subst hv
      exact hcell j hj⟩) (fun _ h => by simp at h) (by simpa using hb) (by simpa using h63)
  rcases core with ⟨_, _, hrun⟩ | ⟨_, h0, _⟩ | ⟨hlt, _⟩
  · unfold Oper.wp execOp
    simp only [ho, resolve, invoke, builtin, Sem.run_bind, Sem.run_pure, Result.andThen_ok, List.map_toArray, List.map_cons, List.map_nil, eq0, hrun]
    exact hK _ I M w hv hs (Ext.refl _ _ _ _) (fun _ _ => rfl) (fun _ h => by cases h)
  · simp at h0
  · simp at hlt; omega
theorem Run.ap0 {d sz bytes : Nat} {s x : Operand} {t tx e : TypeId} {dx : TypeDesc} {z : Value} {xs : List (List PV)} {insx : Upds} {ks : List Nat} {f : Bool} [Und P t (.slice e)] [Und P tx dx] [TyI P e z sz bytes] (ho : o.dst = some d) (hop : o.op = .call { callee := .builtin .append, args := #[s, x], argTypes := #[t, tx] })
    (hw : wantA ops fr o = some true) (hd : Nat.blt d n = true) (hdx : (∃ e', dx = .slice e') ∨ dx = .string) (hzs : z.cells.size = sz) (hsv : evA fr s = .sl sz xs f) (hy : SrcNI P (evA fr x) σ sz [] insx) (hb : xs.length * bytes ≤ 140737488355328) (h63 : xs.length ≤ maxLen) (hks : keys insx = ks)
    (hr : Run P n ops chk K rest ⟨(d, .sl sz xs f) :: fr, σ⟩ (acc ++ [(ks, [])])) : Run P n ops chk K (o :: rest) ⟨fr, σ⟩ acc := by
  subst hks
  exact .op (ins := insx) (outs := []) hw (by rw [ho]; exact hd) (OpS.ap0 hop hdx hzs hsv hy.1 hb h63) hy.2 O (fun _ h => by cases h) (by rw [ho]; exact hr)
end
end Go.Proofs.YtbbcokckealagaaGreat
namespace Go.Proofs.YtbbcokckealagaaGreat
set_option linter.unusedVariables false
set_option linter.unusedSimpArgs false
open Go.RowKit
section
variable {P : Program} {o : Oper} {ρ : Operand → AV}
end
section
variable {P : Program} {n : Nat} {ops : List Oper} {chk : List FP → Bool} {K : State → Prop} {rest : List Oper} {o : Oper} {fr : Fr} {σ : List Res} {acc : List FP}
end
abbrev noG (Q : Exit → State → Prop) : Exit → State → Prop
  | .goto _, _ => False
  | e, s => Q e s
theorem AW.join {P : Program} {g : Ent} {c1 c2 : Code} {Q : Exit → State → Prop} {s : State} {X : Type} (F : X → State) (C : X → Prop) (h : AW P g c1 (thenA (fun s' => ∃ x, C x ∧ Conv g s' (F x)) Q) s) (hy : ∀ x, C x → AW P g c2 Q (F x)) : AW P g (.seq c1 c2) Q s := by
  refine AW.seq_k fun K hK => ?_
  intro I M w a hst
  refine wp_mono (h I M w a hst) fun e a' w' ⟨I', M', s', h1, h2⟩ => ?_
  cases e with
  | normal =>
    obtain ⟨x, hx, hc⟩ := h2
    exact ⟨I', M', s', h1, hK _ (AW.conv hc (hy x hx))⟩
  | _ => exact ⟨I', M', s', h1, h2⟩
theorem over_set (p : PV) : ∀ (xs : List (List PV)) (i : Nat), (∀ y ∈ xs, y.length = 1) → i < xs.length → Over (bxs xs) i [p.av] (bxs (xs.set i [p]))
  | [], _, _, h => by simp at h
  | y :: t, i, hz, h => by
    obtain ⟨q, rfl⟩ : ∃ q, y = [q] := List.length_eq_one_iff.1 (hz y (List.mem_cons_self ..))
    cases i with
    | zero => exact .at_ (.cons .nil)
    | succ i => exact .skip (over_set p t i (fun y hy => hz y (List.mem_cons_of_mem _ hy)) (by simpa using h))
end Go.Proofs.YtbbcokckealagaaGreat
