/-
  append over values without addresses: what is appended to is a row of the call's own, or a slice without spare places. Nothing of the dump is used; no condition.
-/
import Derived.Test.YtbbcokckealagaaAFr
import Derived.Lib.AppendStr
namespace Go.Proofs.Ytbbcokckealagaa
open Go.RowKit
set_option linter.unusedVariables false
set_option linter.unusedSimpArgs false
/-- what is appended -/
def Src (P : Program) (av : AV) (sz : Nat) (ys : List (List PV)) (ins : Upds) : Prop :=
  ∀ (I : Nat → CI) (M : Nat → Nat) (w : World) (σ : Nat → Res) (v : Value), Rp I M w v av → Sto I M w σ → (∀ q ∈ ins, σ q.1 = q.2) →
    ∃ news : List Value, (∀ w : World, (Builtin.lenOf v).run P w = .ok ys.length w) ∧ (∀ y ∈ ys, y.length = sz) ∧ news.length = ys.length * sz ∧ (∀ u ∈ news, u.oneCell' = true) ∧
      (∀ w1 : World, w1.heap = w.heap → (Builtin.firstCells sz ys.length v).run P w1 = .ok news.toArray w1) ∧ ∀ (j : Nat) (p : PV), ys.flatten[j]? = some p → ∃ u, news[j]? = some u ∧ RPV M w u p
theorem Src.dat {P : Program} {av : AV} {sz : Nat} {ys : List (List PV)} {ins : Upds} {σ0 : Nat → Res} (d : Dat σ0 av sz ys ins) : Src P av sz ys ins := by
  intro I M w σ v hv hs hi
  obtain ⟨A, c, rfl, r⟩ := d.rpv hi hs hv
  cases r with
  | sl b off u hn hc hz hA hM hcell h1 hu =>
    let news := (List.range (ys.length * sz)).map u
    have hnl : news.length = ys.length * sz := by simp [news]
    have hget : ∀ j, j < ys.length * sz → news[j]? = some (u j) := fun j hj => by simp [news, hj]
    refine ⟨news, fun w => by simp [Builtin.lenOf], hz, hnl, fun x hx => ?_, fun w1 hw => ?_, fun j p hp => ?_⟩
    · obtain ⟨j, hj, rfl⟩ := List.mem_map.1 hx
      exact h1 j (by simpa using hj)
    · rcases Nat.eq_zero_or_pos ys.length with h0 | h0
      · have : news = [] := List.eq_nil_of_length_eq_zero (by rw [hnl, h0]; simp)
        rw [this, h0]
        cases A <;> simp [Builtin.firstCells, loadCells, loadCellsFrom]
      · rw [hA h0]
        refine run_firstCells_some (P := P) w1 sz ys.length ⟨b, off, none⟩ ys.length c news hnl fun j x hx => ?_
        have hj : j < ys.length * sz := by rw [← hnl]; exact (List.getElem?_eq_some_iff.1 hx).1
        rw [hget j hj] at hx
        injection hx with hx
        subst hx
        rw [Addr.add_lit, World.cell?_of_block (w := w) (by rw [hw])]
        exact hcell j hj
    · have hj : j < ys.length * sz := by rw [← flat_len hz]; exact (List.getElem?_eq_some_iff.1 hp).1
      exact ⟨u j, hget j hj, hu j p hp⟩
theorem Src.str {P : Program} {l : List UInt8} {av : AV} (h : av = .v (.string (bs l))) : Src P av 1 (bsP l) [] := by
  intro I M w σ v hv hs hi
  subst h
  obtain rfl := hv.val
  have hsz := bs_size l
  have hl : (bsP l).length = l.length := by simp
  refine ⟨l.map fun c => .int .u8 (c.toNat : Int), fun w => by simp [Builtin.lenOf, hsz], by simp, by simp, by simp [Value.oneCell'], fun w1 _ => ?_, fun j p hp => ?_⟩
  · have h := Lib.run_firstCells_string (P := P) w1 1 (bs l)
    rw [hsz] at h
    rw [hl, h]
    congr 2
  · rw [bsP_flat, List.getElem?_map] at hp
    obtain ⟨c, hc, rfl⟩ := Option.map_eq_some_iff.1 hp
    exact ⟨_, by rw [List.getElem?_map, hc]; rfl, .v _⟩
/-- the three ways of an append -/
def App3 (P : Program) (t tx ty e : TypeId) (z : Value) (sz : Nat) (w : World) (A : Option Addr) (n c m : Nat) (x : Value) (news olds : List Value) : Prop :=
    (n + m ≤ c ∧ m = 0 ∧ (Builtin.append_ #[t, tx] ty #[.slice A n c, x]).run P w = .ok (.slice A n c) w) ∨
    (n + m ≤ c ∧ 0 < m ∧ ∃ g, A = some ⟨g, 0, none⟩ ∧ (Builtin.append_ #[t, tx] ty #[.slice A n c, x]).run P w = .ok (.slice A (n + m) c) (w.setCells g (n * sz) news)) ∨
    (c < n + m ∧ ∃ c1, n + m ≤ c1 ∧ (Builtin.append_ #[t, tx] ty #[.slice A n c, x]).run P w = .ok (.slice (some ⟨w.heap.size, 0, none⟩) (n + m) c1) (w.drew.alloc (.cells (olds.toArray ++ news.toArray ++ Builtin.zeroCells z.cells (c1 - (n + m))) e)))
/-- what is appended, with the run of the append -/
def SrcG (P : Program) (t tx e : TypeId) (z : Value) (bytes : Nat) (av : AV) (sz : Nat) (ys : List (List PV)) (ins : Upds) : Prop :=
  ∀ (I : Nat → CI) (M : Nat → Nat) (w : World) (σ : Nat → Res) (v : Value), Rp I M w v av → Sto I M w σ → (∀ q ∈ ins, σ q.1 = q.2) →
    ∃ news : List Value, (∀ y ∈ ys, y.length = sz) ∧ news.length = ys.length * sz ∧ (∀ u ∈ news, u.oneCell' = true) ∧ (∀ (j : Nat) (p : PV), ys.flatten[j]? = some p → ∃ u, news[j]? = some u ∧ RPV M w u p) ∧
      ∀ (ty : TypeId) (A : Option Addr) (n c : Nat) (olds : List Value), olds.length = n * sz → (0 < n → ∃ b off, A = some ⟨b, off, none⟩ ∧ ∀ (j : Nat) (u : Value), olds[j]? = some u → w.cell? ⟨b, off + j, none⟩ = some u) →
        (n + ys.length ≤ c → 0 < ys.length → ∃ g cur e fr, A = some ⟨g, 0, none⟩ ∧ w.heap[g]? = some (.cells cur e fr) ∧ cur.size = c * sz ∧ Unfr fr cur.size) →
        (n + ys.length) * bytes ≤ 140737488355328 → n + ys.length ≤ maxLen → App3 P t tx ty e z sz w A n c ys.length v news olds
theorem SrcG.of {P : Program} {t tx e : TypeId} {dx : TypeDesc} {z : Value} {sz bytes : Nat} [Und P t (.slice e)] [Und P tx dx] [TyI P e z sz bytes] (hdx : (∃ e', dx = .slice e') ∨ dx = .string) (hzs : z.cells.size = sz) {av : AV} {ys : List (List PV)} {ins : Upds} (h : Src P av sz ys ins) : SrcG P t tx e z bytes av sz ys ins := by
  intro I M w σ v hv hs hi
  obtain ⟨news, n1, n2, n3, n4, n5, n6⟩ := h I M w σ v hv hs hi
  exact ⟨news, n2, n3, n4, n6, fun ty A n c olds h1 h2 h3 h4 h5 => run_app_core hdx hzs n1 n3 n4 n5 h1 h2 h3 h4 h5⟩
section
variable {P : Program} {o : Oper} {ρ : Operand → AV}
theorem app_coreG {s x : Operand} {t tx e : TypeId} {z : Value} {sz bytes : Nat} [Und P t (.slice e)] [TyI P e z sz bytes] (ho : o.op = .call { callee := .builtin .append, args := #[s, x], argTypes := #[t, tx] })
    (hzs : z.cells.size = sz) {ys xs : List (List PV)} {insx : Upds} (hx : SrcG P t tx e z bytes (ρ x) sz ys insx) (hb : (xs.length + ys.length) * bytes ≤ 140737488355328) (h63 : xs.length + ys.length ≤ maxLen)
    {I : Nat → CI} {M : Nat → Nat} {w : World} {a : Act} {σ : Nat → Res} {A : Option Addr} {c k : Nat} (hs : Sto I M w σ) (hi : ∀ q ∈ insx, σ q.1 = q.2) (hxv : Rp I M w (a.eval x) (ρ x)) (hsv : a.eval s = .slice A xs.length c) (hr : RPV M w (.slice A xs.length c) (.sl sz xs))
    (hown : c ≠ xs.length → ∃ g cur e fr, A = some ⟨g, 0, none⟩ ∧ w.heap[g]? = some (.cells cur e fr) ∧ cur.size = c * sz ∧ M g = xs.length * sz ∧ Unfr fr cur.size ∧ blkOf (I k) (σ k) = some g)
    (hk : I k = .row xs sz A c ∧ (∃ xs0, σ k = .row sz xs0) ∨ σ k = .no ∧ I k = .no ∧ c = xs.length)
    {K : Act → World → Prop} {Q : Exit → Act → World → Prop}
    (hK : ∀ cv I' M' w', Rp I' M' w' cv (.row k (xs.length + ys.length)) → Sto I' M' w' (updS σ [(k, .row sz (xs ++ ys))]) → Ext (fun b => blkOf (I k) (σ k) = some b) I I' M M' w w' → (∀ i, i ≠ k → I' i = I i) →
      (∀ b, blkOf (I' k) (.row sz (xs ++ ys)) = some b → w.heap.size ≤ b ∨ blkOf (I k) (σ k) = some b) → K (a.put o.dst cv) w') : o.wp P a w K Q := by
  obtain ⟨news, n2, n3, n4, n6, ncore⟩ := hx I M w σ _ hxv hs hi
  have hz : ∀ y ∈ xs, y.length = sz := by cases hr; assumption
  have hcl : xs.length ≤ c := hr.len.2
  have hzz : ∀ y ∈ xs ++ ys, y.length = sz := fun y hy => (List.mem_append.1 hy).elim (hz y) (n2 y)
  have hlen : (xs ++ ys).length = xs.length + ys.length := List.length_append
  have hfl : (xs ++ ys).flatten = xs.flatten ++ ys.flatten := List.flatten_append
  have hxl := flat_len hz
  -- the end of each way
  have done : ∀ (w' : World) (M' : Nat → Nat) (A1 : Option Addr) (c1 : Nat), w'.os = w.os → w'.tape = w.tape → w'.output = w.output → Evo M M' w w' → (∀ b, b < w.heap.size → ¬ blkOf (I k) (σ k) = some b → w'.heap[b]? = w.heap[b]? ∧ M' b = M b) →
      RPV M' w' (.slice A1 (xs.length + ys.length) c1) (.sl sz (xs ++ ys)) → (c1 ≠ xs.length + ys.length → ∃ g cur e fr, A1 = some ⟨g, 0, none⟩ ∧ w'.heap[g]? = some (.cells cur e fr) ∧ cur.size = c1 * sz ∧ M' g = (xs.length + ys.length) * sz ∧ Unfr fr cur.size ∧ (w.heap.size ≤ g ∨ blkOf (I k) (σ k) = some g)) →
      (I k = .row xs sz A c → ys.length = 0 → A1 = A ∧ c1 = c) → (∀ b, w'.heap.size ≤ b → M' b = 0) → K (a.put o.dst (.slice A1 (xs.length + ys.length) c1)) w' := by
    intro w' M' A1 c1 h1 h2 h3 hev hoth hrp ho1 hle0 htop
    let I' := fun i => if i = k then CI.row (xs ++ ys) sz A1 c1 else I i
    have hIk : I' k = .row (xs ++ ys) sz A1 c1 := by simp [I']
    have hle : ∀ i, (I i).le (I' i) := by
      intro i
      by_cases hik : i = k
      · subst hik
        rw [hIk]
        rcases hk with ⟨hk, _⟩ | ⟨_, hk, _⟩
        · rw [hk]
          refine ⟨rfl, ⟨ys, rfl⟩, fun e => ?_⟩
          obtain ⟨q1, q2⟩ := hle0 hk (by rw [hlen] at e; omega)
          exact ⟨q1.symm, q2.symm⟩
        · rw [hk]; trivial
      · simp only [I', if_neg hik]; exact CI.le_refl _
    have hext : Ext (fun b => blkOf (I k) (σ k) = some b) I I' M M' w w' := ⟨h1, h2, h3, hle, hev, hoth⟩
    have hblk : ∀ b, blkOf (I' k) (.row sz (xs ++ ys)) = some b → w.heap.size ≤ b ∨ blkOf (I k) (σ k) = some b := by
      intro b hb'
      rw [hIk] at hb'
      simp only [blkOf, hlen] at hb'
      split at hb'
      · cases hb'
      · rename_i hne
        obtain ⟨g, cur, e', fr, rfl, _, _, _, _, q⟩ := ho1 hne
        obtain rfl : g = b := by simpa using hb'
        exact q
    refine hK _ I' M' w' (.row hIk (by rw [hlen]; exact Nat.le_refl _) (by rw [List.take_of_length_le (by rw [hlen]; exact Nat.le_refl _)]; exact hrp) fun _ => ⟨rfl, rfl⟩) ?_ hext (fun i hi => by simp [I', hi]) hblk
    refine hs.upd [k] hext (fun b hb => ⟨k, by simp, hb⟩) (fun i hi => by
      have : i ≠ k := by simpa using hi
      simp [I', this]) (fun i hi => updS_other _ _ _ (by simpa [keys] using hi)) (fun i hi => ?_) (fun i hi b hb => ?_) (fun i hi j hj b hne => ?_) htop
    · obtain rfl : i = k := by simpa using hi
      simp only [updS, if_true, hIk]
      refine ⟨A1, c1, rfl, by rw [hlen]; exact hrp, fun hne => ?_⟩
      rw [hlen] at hne ⊢
      obtain ⟨g, cur, e', fr, q1, q2, q3, q4, q5, _⟩ := ho1 hne
      exact ⟨g, cur, e', fr, q1, q2, q3, q4, q5⟩
    · obtain rfl : i = k := by simpa using hi
      simp only [updS, if_true] at hb
      rcases hblk b hb with q | q
      · exact .inl q
      · exact .inr ⟨i, by simp, q⟩
    · obtain rfl : i = k := by simpa using hi
      obtain rfl : j = i := by simpa using hj
      exact absurd rfl hne
  cases hr with
  | sl b off u hn hc' hz' hA hM hcell h11 hu =>
  let olds := (List.range (xs.length * sz)).map u
  have hol : olds.length = xs.length * sz := by simp [olds]
  have hog : ∀ j, j < xs.length * sz → olds[j]? = some (u j) := fun j hj => by simp [olds, hj]
  have core := ncore o.type A xs.length c olds hol
    (fun h0 => ⟨b, off, hA h0, fun j v hv => by
      have hj : j < xs.length * sz := by rw [← hol]; exact (List.getElem?_eq_some_iff.1 hv).1
      rw [hog j hj] at hv
      injection hv with hv; subst hv
      exact hcell j hj⟩)
    (fun hr hm => by
      obtain ⟨g, cur, e', fr, q1, q2, q3, _, q5, _⟩ := hown (by omega)
      exact ⟨g, cur, e', fr, q1, q2, q3, q5⟩) hb h63
  have hwp : ∀ cv w', (Builtin.append_ #[t, tx] o.type #[.slice A xs.length c, a.eval x]).run P w = .ok cv w' → K (a.put o.dst cv) w' → o.wp P a w K Q := by
    intro cv w' hrun hk'
    unfold Oper.wp execOp
    simp only [ho, resolve, invoke, builtin, Sem.run_bind, Sem.run_pure, Result.andThen_ok, List.map_toArray, List.map_cons, List.map_nil, hsv, hrun]
    exact hk'
  rcases core with ⟨hr, hm, hrun⟩ | ⟨hr, hm, g, rfl, hrun⟩ | ⟨hr, c1, hc1, hrun⟩
  · -- nothing is appended
    have hy : ys = [] := List.eq_nil_of_length_eq_zero hm
    subst hy
    refine hwp _ _ hrun (done w M A c rfl rfl rfl (Evo.refl _ _) (fun _ _ _ => ⟨rfl, rfl⟩) ?_ (fun hne => ?_) (fun _ _ => ⟨rfl, rfl⟩) hs.top)
    · simpa using RPV.sl (M := M) (w := w) b off u hn hc' hz' hA hM hcell h11 hu
    · obtain ⟨g, cur, e', fr, q1, q2, q3, q4, q5, q6⟩ := hown (by simpa using hne)
      exact ⟨g, cur, e', fr, q1, q2, q3, by simpa using q4, q5, .inr q6⟩
  · -- in place
    obtain ⟨g', cur, e', fr, q1, q2, q3, q4, q5, q6⟩ := hown (by omega)
    obtain rfl : g = g' := by simpa using q1
    obtain ⟨a1, a2, a3, a4, a5, a6⟩ := heap_setCells w g cur e' fr news (xs.length * sz) q2
    have hle : xs.length * sz + news.length ≤ cur.size := by rw [n3, q3, ← Nat.add_mul]; exact Nat.mul_le_mul_right _ hr
    let M' := fun b => if b = g then (xs.length + ys.length) * sz else M b
    have hMg : M' g = (xs.length + ys.length) * sz := by simp [M']
    have hmask : ∀ b, M b ≤ M' b := by
      intro b
      by_cases hbg : b = g
      · subst hbg; rw [hMg, q4]; exact Nat.mul_le_mul_right _ (by omega)
      · simp [M', hbg]
    have hev : Evo M M' w (w.setCells g (xs.length * sz) news) := ⟨by omega, hmask, fun b' o' v ho' hv => by
      by_cases hbg : b' = g
      · subst hbg
        rw [cell_of_row _ _ _ _ _ _ a1, setArr_get _ _ _ hle, if_neg (by omega)]
        rw [cell_of_row _ _ _ _ _ _ q2] at hv
        exact hv
      · rw [World.cell?_of_block (a2 b' hbg)]; exact hv⟩
    refine hwp _ _ hrun (done _ M' (some ⟨g, 0, none⟩) c a4 a5 a6 hev (fun b' hb' hne => ?_) ?_ (fun _ => ⟨g, _, e', fr, rfl, a1, by rw [setArr_size]; exact q3, hMg, by rw [setArr_size]; exact q5, .inr q6⟩) (fun _ h0 => by omega) (fun b' hb' => ?_))
    · have hbg : b' ≠ g := by rintro rfl; exact hne q6
      exact ⟨a2 b' hbg, by simp [M', hbg]⟩
    · have hbase : 0 < xs.length * sz → b = g ∧ off = 0 := by
        intro h0
        have hx0 : 0 < xs.length := Nat.pos_of_ne_zero (by rintro h; rw [h] at h0; simp at h0)
        have := hA hx0
        simp at this
        omega
      refine .sl g 0 (fun j => if j < xs.length * sz then u j else (news.getD (j - xs.length * sz) undef)) hlen hr hzz (fun _ => rfl) (fun _ => by rw [hMg]; omega) (fun j hj => ?_) (fun j hj => ?_) (fun j p hp => ?_)
      · rw [Nat.zero_add, cell_of_row _ _ _ _ _ _ a1, setArr_get _ _ _ hle]
        rw [Nat.add_mul] at hj
        by_cases h1 : j < xs.length * sz
        · rw [if_neg (by omega), if_pos h1]
          obtain ⟨rfl, rfl⟩ := hbase (by omega)
          have := hcell j h1
          rw [Nat.zero_add, cell_of_row _ _ _ _ _ _ q2] at this
          exact this
        · rw [if_pos (by omega), if_neg h1]
          simp [show j - xs.length * sz < news.length by omega]
      · rw [Nat.add_mul] at hj
        by_cases h1 : j < xs.length * sz
        · simp only [if_pos h1]; exact h11 j h1
        · simp only [if_neg h1]
          exact n4 _ (by
            have : j - xs.length * sz < news.length := by omega
            simp [this])
      · rw [hfl] at hp
        by_cases h1 : j < xs.length * sz
        · simp only [if_pos h1]
          rw [List.getElem?_append_left (by omega)] at hp
          exact (hu j p hp).evo hev
        · simp only [if_neg h1]
          rw [List.getElem?_append_right (by omega), hxl] at hp
          obtain ⟨x', hx', hrx⟩ := n6 _ p hp
          have : news.getD (j - xs.length * sz) undef = x' := by simp [List.getD, hx']
          rw [this]
          exact hrx.evo hev
    · have hbg : b' ≠ g := by
        have := (Array.getElem?_eq_some_iff.1 q2).1
        omega
      simp only [M', if_neg hbg]
      exact hs.top b' (by omega)
  · -- a new row
    have hold : ∀ j, (olds ++ news)[j]? = if j < xs.length * sz then olds[j]? else news[j - xs.length * sz]? := by
      intro j
      split
      · rw [List.getElem?_append_left (by omega)]
      · rw [List.getElem?_append_right (by omega), hol]
    let cur := olds.toArray ++ news.toArray ++ Builtin.zeroCells z.cells (c1 - (xs.length + ys.length))
    have hcs : cur.size = c1 * sz := by
      have h1 : cur.size = xs.length * sz + ys.length * sz + (c1 - (xs.length + ys.length)) * sz := by
        simp [cur, hol, n3, size_zeroCells, hzs]; omega
      rw [h1, ← Nat.add_mul, ← Nat.add_mul]; congr 1; omega
    have hcg : ∀ j, j < (xs.length + ys.length) * sz → cur[j]? = (olds ++ news)[j]? := by
      intro j hj
      have : j < (olds ++ news).length := by rw [List.length_append, hol, n3, ← Nat.add_mul]; exact hj
      simp only [cur]
      rw [Array.getElem?_append_left (by simpa using this)]
      rw [← List.getElem?_toArray, List.append_toArray]
    have hflat : ∀ (j : Nat) (p : PV), (xs ++ ys).flatten[j]? = some p → ∃ x : Value, cur[j]? = some x ∧ x.oneCell' = true ∧ RPV M w x p := by
      intro j p hp
      have hj : j < (xs.length + ys.length) * sz := by rw [← hlen, ← flat_len hzz]; exact (List.getElem?_eq_some_iff.1 hp).1
      rw [hcg j hj, hold]
      rw [hfl] at hp
      by_cases h1 : j < xs.length * sz
      · rw [if_pos h1, hog j h1]
        rw [List.getElem?_append_left (by omega)] at hp
        exact ⟨_, rfl, h11 j h1, hu j p hp⟩
      · rw [if_neg h1]
        rw [List.getElem?_append_right (by omega), hxl] at hp
        obtain ⟨x', hx', hrx⟩ := n6 _ p hp
        exact ⟨x', hx', n4 x' (List.mem_of_getElem? hx'), hrx⟩
    have fo := fresh_ok hs (w1 := w.drew) rfl rfl rfl rfl (cur := cur) (e := e) (fr := (0, 0)) (c := c1) hzz (by rw [hlen]; exact hc1) (by rw [hlen, hcs]; exact Nat.mul_le_mul_right _ hc1) hflat
    simp only [hlen] at fo
    obtain ⟨f1, f2, f3, f4⟩ := fo
    refine hwp _ _ hrun (done _ _ _ c1 rfl rfl rfl f1 (fun b' hb' _ => f4.oth b' hb' (fun h => h)) f2 (fun _ => ⟨w.heap.size, cur, e, (0, 0), rfl, heap_alloc_new w.drew _, hcs, by simp, fun o _ h => by simp at h, .inl (Nat.le_refl _)⟩) (fun hk' h0 => ?_) f3.top)
    omega
theorem OpS.appRowG {s x : Operand} {t tx e : TypeId} {z : Value} {sz bytes : Nat} [Und P t (.slice e)] [TyI P e z sz bytes] (ho : o.op = .call { callee := .builtin .append, args := #[s, x], argTypes := #[t, tx] })
    (hzs : z.cells.size = sz) {k n m : Nat} {ys xs : List (List PV)} {insx : Upds} (hsv : ρ s = .row k n) (hn : n = xs.length) (hx : SrcG P t tx e z bytes (ρ x) sz ys insx) (hm : n + ys.length = m) (hb : m * bytes ≤ 140737488355328) (h63 : m ≤ maxLen) :
    OpS P o ρ ((k, .row sz xs) :: insx) (.row k m) [(k, .row sz (xs ++ ys))] := by
  intro I M w a σ K Q hop hs hi _ hK
  subst hn hm
  have h1 := hop s (by simp [ho, Op.operands, Call.operands])
  have h2 := hop x (by simp [ho, Op.operands, Call.operands])
  rw [hsv] at h1
  have hk := hi _ (List.mem_cons_self ..)
  have own := hs.own k
  simp only at hk
  rw [hk] at own
  obtain ⟨A0, c0, e1, r0, own⟩ := own
  generalize eq0 : a.eval s = sv at h1
  cases h1 with
  | @row A _ _ _ c _ _ _ hI hn' h hk' =>
    rw [e1] at hI
    injection hI with i1 i2 i3 i4
    subst i1 i2 i3 i4
    obtain ⟨rfl, rfl⟩ := hk' rfl
    refine app_coreG (xs := xs) (k := k) (σ := σ) ho hzs hx hb h63 hs (fun q hq => hi q (List.mem_cons_of_mem _ hq)) h2 eq0 r0 (fun hne => ?_) (.inl ⟨e1, xs, hk⟩) fun cv I' M' w' g1 g2 g3 g4 g5 => hK cv I' M' w' g1 g2 (g3.wide fun b _ hb => ⟨k, by simp [keys], hb⟩) (fun i hi => g4 i (by simpa [keys] using hi)) fun i hi b hb => ?_
    · obtain ⟨g, cur, e', fr, q1, q2, q3, q4, q5⟩ := own hne
      refine ⟨g, cur, e', fr, q1, q2, q3, q4, q5, ?_⟩
      rw [e1, hk]
      simp [blkOf, hne, q1]
    · obtain rfl : i = k := by simpa [keys] using hi
      simp only [updS, if_true] at hb
      rcases g5 b hb with q | q
      · exact .inl q
      · exact .inr ⟨i, by simp [keys], q⟩
theorem OpS.appFullG {s x : Operand} {t tx e : TypeId} {z : Value} {sz bytes : Nat} [Und P t (.slice e)] [TyI P e z sz bytes] (k : Nat) (ho : o.op = .call { callee := .builtin .append, args := #[s, x], argTypes := #[t, tx] })
    (hzs : z.cells.size = sz) {m : Nat} {ys xs : List (List PV)} {insx : Upds} (hsv : ρ s = .sl sz xs true ∨ ρ s = .v (.slice none 0 0) ∧ xs = []) (hx : SrcG P t tx e z bytes (ρ x) sz ys insx) (hm : xs.length + ys.length = m) (hkin : k ∉ keys insx) (hb : m * bytes ≤ 140737488355328) (h63 : m ≤ maxLen) :
    OpS P o ρ insx (.row k m) [(k, .row sz (xs ++ ys))] := by
  intro I M w a σ K Q hop hs hi hnew hK
  subst hm
  have h1 := hop s (by simp [ho, Op.operands, Call.operands])
  have h2 := hop x (by simp [ho, Op.operands, Call.operands])
  have hs0 : ∃ A, a.eval s = .slice A xs.length xs.length ∧ RPV M w (.slice A xs.length xs.length) (.sl sz xs) := by
    rcases hsv with hsv | ⟨hsv, rfl⟩
    · rw [hsv] at h1
      generalize eq0 : a.eval s = sv at h1
      cases h1 with
      | sl h hf =>
        have := hf rfl
        subst this
        have := h.len.1
        subst this
        exact ⟨_, rfl, h⟩
    · rw [hsv] at h1
      exact ⟨none, h1.val, .nil _ _ _ _ _⟩
  obtain ⟨A, eq0, r0⟩ := hs0
  obtain ⟨hk1, hk2⟩ := (hnew k (by simp [keys])).resolve_left hkin
  exact app_coreG (xs := xs) (k := k) (σ := σ) ho hzs hx hb h63 hs hi h2 eq0 r0 (fun h => absurd rfl h) (.inr ⟨hk1, hk2, rfl⟩) fun cv I' M' w' g1 g2 g3 g4 g5 => hK cv I' M' w' g1 g2 (g3.wide fun b _ hb => by rw [hk2] at hb; cases hb) (fun i hi => g4 i (by simpa [keys] using hi)) fun i hi b hb => by
      obtain rfl : i = k := by simpa [keys] using hi
      simp only [updS, if_true] at hb
      rcases g5 b hb with q | q
      · exact .inl q
      · rw [hk2] at q; cases q
theorem OpS.appRow {s x : Operand} {t tx e : TypeId} {dx : TypeDesc} {z : Value} {sz bytes : Nat} [Und P t (.slice e)] [Und P tx dx] [TyI P e z sz bytes] (ho : o.op = .call { callee := .builtin .append, args := #[s, x], argTypes := #[t, tx] })
    (hdx : (∃ e', dx = .slice e') ∨ dx = .string) (hzs : z.cells.size = sz) {k n m : Nat} {ys xs : List (List PV)} {insx : Upds} (hsv : ρ s = .row k n) (hn : n = xs.length) (hx : Src P (ρ x) sz ys insx) (hm : n + ys.length = m) (hb : m * bytes ≤ 140737488355328) (h63 : m ≤ maxLen) :
    OpS P o ρ ((k, .row sz xs) :: insx) (.row k m) [(k, .row sz (xs ++ ys))] :=
  OpS.appRowG ho hzs hsv hn (SrcG.of hdx hzs hx) hm hb h63
theorem OpS.appFull {s x : Operand} {t tx e : TypeId} {dx : TypeDesc} {z : Value} {sz bytes : Nat} [Und P t (.slice e)] [Und P tx dx] [TyI P e z sz bytes] (k : Nat) (ho : o.op = .call { callee := .builtin .append, args := #[s, x], argTypes := #[t, tx] })
    (hdx : (∃ e', dx = .slice e') ∨ dx = .string) (hzs : z.cells.size = sz) {m : Nat} {ys xs : List (List PV)} {insx : Upds} (hsv : ρ s = .sl sz xs true ∨ ρ s = .v (.slice none 0 0) ∧ xs = []) (hx : Src P (ρ x) sz ys insx) (hm : xs.length + ys.length = m) (hkin : k ∉ keys insx) (hb : m * bytes ≤ 140737488355328) (h63 : m ≤ maxLen) :
    OpS P o ρ insx (.row k m) [(k, .row sz (xs ++ ys))] :=
  OpS.appFullG k ho hzs hsv (SrcG.of hdx hzs hx) hm hkin hb h63
end
end Go.Proofs.Ytbbcokckealagaa
