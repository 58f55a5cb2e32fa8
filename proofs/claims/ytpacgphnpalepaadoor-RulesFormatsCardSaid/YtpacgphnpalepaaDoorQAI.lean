/-
  Arrays that are written no more: they become slices that are read, or rows that are appended to. Nothing of the dump is used; no condition.
-/
import Derived.Test.YtpacgphnpalepaaDoorQAR
namespace Go.Proofs.YtpacgphnpalepaaDoor
set_option linter.unusedVariables false
set_option linter.unusedSimpArgs false
open Go.RowKit
inductive Fz (k sz : Nat) (xs : List (List PV)) (t : Option (Nat × Nat)) : AV → AV → Prop
  | row {n C T : Nat} (h : t = some (T, C)) (hn : n = xs.length) : Fz k sz xs t (.bsl k sz 0 n C) (.row T n)
  | all {n C : Nat} (hn : n = xs.length) : Fz k sz xs t (.bsl k sz 0 n C) (.sl sz xs false)
  | sl {lo m C : Nat} (h : lo + m ≤ xs.length) : Fz k sz xs t (.bsl k sz lo m C) (.sl sz ((xs.drop lo).take m) false)
  | same {v : AV} : Fz k sz xs t v v
inductive FzF (k sz : Nat) (xs : List (List PV)) (t : Option (Nat × Nat)) : Fr → Fr → Prop
  | refl {l : Fr} : FzF k sz xs t l l
  | cons {i : Nat} {v v' : AV} {l l' : Fr} (h : Fz k sz xs t v v') (hs : FzF k sz xs t l l') : FzF k sz xs t ((i, v) :: l) ((i, v') :: l')
inductive FzL (k sz : Nat) (xs : List (List PV)) (t : Option (Nat × Nat)) : List AV → List AV → Prop
  | refl {l : List AV} : FzL k sz xs t l l
  | cons {v v' : AV} {l l' : List AV} (h : Fz k sz xs t v v') (hs : FzL k sz xs t l l') : FzL k sz xs t (v :: l) (v' :: l')
inductive FzS (k sz : Nat) (xs : List (List PV)) (t : Option (Nat × Nat)) : Nat → List Res → List Res → Prop
  | nil {i : Nat} : FzS k sz xs t i [] []
  | here {i : Nat} {r : Res} {l l' : List Res} (h : i = k) (hs : FzS k sz xs t (i + 1) l l') : FzS k sz xs t i (r :: l) (.no :: l')
  | box {i : Nat} {cs cs' : List AV} {l l' : List Res} (h : i ≠ k) (hc : FzL k sz xs t cs cs') (hs : FzS k sz xs t (i + 1) l l') : FzS k sz xs t i (.box cs :: l) (.box cs' :: l')
  | same {i : Nat} {r : Res} {l l' : List Res} (h : i ≠ k) (hs : FzS k sz xs t (i + 1) l l') : FzS k sz xs t i (r :: l) (r :: l')
section
variable {k sz : Nat} {xs : List (List PV)} {t : Option (Nat × Nat)}
inductive FzR (k sz : Nat) (xs : List (List PV)) (t : Option (Nat × Nat)) : Res → Res → Prop
  | box {cs cs' : List AV} (h : FzL k sz xs t cs cs') : FzR k sz xs t (.box cs) (.box cs')
  | same {r : Res} : FzR k sz xs t r r
end
end Go.Proofs.YtpacgphnpalepaaDoor
namespace Go.Proofs.YtpacgphnpalepaaDoor
set_option linter.unusedVariables false
set_option linter.unusedSimpArgs false
open Go.RowKit
theorem zeroCells_get (cs : Array Value) (m j : Nat) : (Builtin.zeroCells cs m)[j]? = if j < m * cs.size then some (cs[j % cs.size]!) else none := by
  by_cases h : j < m * cs.size
  · rw [if_pos h]; simp [Builtin.zeroCells, h]
  · rw [if_neg h]; simp [Builtin.zeroCells, h]
end Go.Proofs.YtpacgphnpalepaaDoor
namespace Go.Proofs.YtpacgphnpalepaaDoor
set_option linter.unusedVariables false
set_option linter.unusedSimpArgs false
open Go.RowKit
section
variable {P : Program} {n : Nat} {ops : List Oper} {chk : List FP → Bool} {K : State → Prop} {rest : List Oper} {o : Oper} {fr : Fr} {σ : List Res} {acc : List FP} {ρ : Operand → AV} {σ0 : Nat → Res}
theorem putEnd (σ : List Res) (r : Res) : PutAt σ σ.length r (σ ++ [r]) := by
  induction σ with
  | nil => exact PutAt.new
  | cons q l ih => exact PutAt.there ih
theorem nat_of {a : Int} (h : 0 ≤ a) : a = (a.toNat : Int) := (Int.toNat_of_nonneg h).symm
def SrcNI (P : Program) (av : AV) (σ : List Res) (sz : Nat) (ys : List (List PV)) (ins : Upds) : Prop := SrcN P av sz ys ins ∧ ∀ q ∈ ins, sto σ q.1 = q.2
theorem SrcNI.dat {av : AV} {sz : Nat} {ys : List (List PV)} {ins : Upds} (d : Dat (sto σ) av sz ys ins) : SrcNI P av σ sz ys ins := ⟨SrcN.dat d, d.ins⟩
theorem Run.ld1F {d t x k off : _} {D : TypeDesc} {cs : List AV} {c : AV} [Und P t D] (ho : o.dst = some d) (hop : o.op = .load t x) (hw : wantA ops fr o = some true) (hd : Nat.blt d n = true) (hx : evA fr x = .ptr k off) (hD : isAggD D = false) (hk : sto σ k = .box cs)
    (hr : Run P n ops chk K rest ⟨(d, c) :: fr, σ⟩ (acc ++ [([k], [])])) (hc : cs[off]? = some c := by assumption) : Run P n ops chk K (o :: rest) ⟨fr, σ⟩ acc := Run.ld1 ho hop hw hd hx hD hk hc hr
theorem Run.ldNF {d t x k off : _} {D : TypeDesc} {z : Value} {sz bytes : Nat} {cs l : List AV} [Und P t D] [TyI P t z sz bytes] (ho : o.dst = some d) (hop : o.op = .load t x) (hw : wantA ops fr o = some true) (hd : Nat.blt d n = true) (hx : evA fr x = .ptr k off) (hD : isAggD D = true) (hk : sto σ k = .box cs)
    (hr : Run P n ops chk K rest ⟨(d, .agg l) :: fr, σ⟩ (acc ++ [([k], [])])) (hc : Sub cs off sz l := by assumption) : Run P n ops chk K (o :: rest) ⟨fr, σ⟩ acc := Run.ldN ho hop hw hd hx hD hk hc hr
theorem Run.stF {t x y k off : _} {v : AV} {z : Value} {sz bytes : Nat} {cs new cs' : List AV} {σ' : List Res} [TyI P t z sz bytes] (ho : o.dst = none) (hop : o.op = .store t x y) (hw : wantA ops fr o = some true) (hx : evA fr x = .ptr k off) (hk : sto σ k = .box cs) (hr : Run P n ops chk K rest ⟨fr, σ'⟩ (acc ++ [([k], [k])]))
    (hy : evA fr y = v := by ((conv => lhs; whnf) <;> rfl)) (hc : Cells v new := by (first|exact Cells.agg|exact Cells.one Z)) (hl : Nat.beq new.length sz = true := by rfl) (hcs : Over cs off new cs' := by assumption) (hσ : PutAt σ k (.box cs') σ' := by ((repeat constructor);first|done|fail)) : Run P n ops chk K (o :: rest) ⟨fr, σ⟩ acc :=
  Run.st ho hop hw hx hy hc hl hk hcs hσ hr
theorem Rp.bslLe {I : Nat → CI} {M : Nat → Nat} {w : World} {v : Value} {k sz lo n C : Nat} (h : Rp I M w v (.bsl k sz lo n C)) : lo + n ≤ C := by cases h; assumption
theorem OpP.sliceBH {t e : TypeId} {x y : Operand} {kk : IntKind} {h : Int} {k sz b0 n0 C bytes : Nat} {z : Value} [Und P t (.slice e)] [TyI P e z sz bytes] (ho : o.op = .slice t x none (some y) none) (hx : ρ x = .bsl k sz b0 n0 C) (hy : ρ y = .v (.int kk h))
    (h0 : 0 ≤ h := by omega) (hh : b0 + h.toNat ≤ C := by omega) : OpP P o ρ (.bsl k sz b0 h.toNat C) := by
  intro I M w a hop
  have q := Rp.bslLe (hx ▸ hop x (by simp [ho, Op.operands]))
  have := OpP.sliceB (P := P) (o := o) (ρ := ρ) (l := none) (h := some h.toNat) (m := none) ho hx OpI.no (OpI.so hy (nat_of h0)) OpI.no (by simp) (L := 0) Z Z Z (Nat.zero_le _) (by simp only [Option.getD_some, Option.getD_none]; omega) (Nat.le_refl _) I M w a hop
  simp only [Option.getD_some, Option.getD_none, Nat.add_zero, Nat.sub_zero, show b0 + (C - b0) = C by omega] at this
  exact this
theorem OpSN.appB {s x : Operand} {t tx e : TypeId} {z : Value} {sz bytes : Nat} [Und P t (.slice e)] [TyI P e z sz bytes] (k : Nat) (ho : o.op = .call { callee := .builtin .append, args := #[s, x], argTypes := #[t, tx] })
    (hzs : z.cells.size = sz) (hz1 : z.cells.toList.all (·.oneCell') = true) {m : Nat} {ys xs : List (List PV)} {insx : Upds} (hsv : ρ s = .sl sz xs true ∨ ρ s = .v (.slice none 0 0) ∧ xs = []) (hx : SrcG P t tx e z bytes (ρ x) sz ys insx) (hm : xs.length + ys.length = m) (hpos : 0 < ys.length) (hkin : k ∉ keys insx) (hb : m * bytes ≤ 140737488355328) (h63 : m ≤ maxLen) :
    OpSN P o ρ insx (ι := Nat) (fun d => .bsl k sz 0 m (m + d)) (fun d => [(k, .box (bxs (xs ++ ys ++ List.replicate d (z.cells.toList.map PV.v))))]) := by
  intro I M w a σ1 K1 Q hop hs hi hnew hK
  subst hm
  have h1 := hop s (by simp [ho, Op.operands, Call.operands])
  have h2 := hop x (by simp [ho, Op.operands, Call.operands])
  have hs0 : ∃ A, a.eval s = .slice A xs.length xs.length ∧ RPV M w (.slice A xs.length xs.length) (.sl sz xs) := by
    rcases hsv with hsv | ⟨hsv, rfl⟩
    · rw [hsv] at h1
      generalize eq0 : a.eval s = sv at h1
      cases h1 with
      | sl h hf =>
        have := hf Z
        subst this
        have := h.len.1
        subst this
        exact ⟨_, rfl, h⟩
    · rw [hsv] at h1
      exact ⟨none, h1.val, .nil _ _ _ _ _⟩
  obtain ⟨A, eq0, r0⟩ := hs0
  obtain ⟨hk1, hk2⟩ := (hnew 0 k (by simp [keys])).resolve_left hkin
  obtain ⟨news, n2, n3, n4, n6, ncore⟩ := hx I M w σ1 _ h2 hs hi
  cases r0 with
  | sl b off u hn hc' hz' hA hM hcell h11 hu =>
  let olds := (List.range (xs.length * sz)).map u
  have hol : olds.length = xs.length * sz := by simp [olds]
  have hog : ∀ j, j < xs.length * sz → olds[j]? = some (u j) := fun j hj => by simp [olds, hj]
  have core := ncore o.type A xs.length xs.length olds hol
    (fun h0 => ⟨b, off, hA h0, fun j v hv => by
      have hj : j < xs.length * sz := by rw [← hol]; exact (List.getElem?_eq_some_iff.1 hv).1
      rw [hog j hj] at hv
      injection hv with hv; subst hv
      exact hcell j hj⟩) (fun h _ => by omega) hb h63
  rcases core with ⟨hr, _⟩ | ⟨hr, _⟩ | ⟨hr, c1, hc1, hrun⟩
  · omega
  · omega
  · obtain ⟨d, rfl⟩ : ∃ d, c1 = xs.length + ys.length + d := ⟨c1 - (xs.length + ys.length), by omega⟩
    rw [Nat.add_sub_cancel_left] at hrun
    let zs : List PV := z.cells.toList.map PV.v
    let cur : Array Value := olds.toArray ++ news.toArray ++ Builtin.zeroCells z.cells d
    let cs := bxs (xs ++ ys ++ List.replicate d zs)
    have hxl : (bxs xs).length = xs.length * sz := bx_len hz'
    have hyl : (bxs ys).length = ys.length * sz := bx_len n2
    have hzsl : zs.length = sz := by simp [zs, hzs]
    have hzl : (bxs (List.replicate d zs)).length = d * sz := by
      have := bx_len (sz := sz) (xs := List.replicate d zs) (fun y h => by rw [(List.mem_replicate.1 h).2]; exact hzsl)
      simpa using this
    have hcs : cs = bxs xs ++ (bxs ys ++ bxs (List.replicate d zs)) := by simp only [cs, bx_append, List.append_assoc]
    have hlen : cs.length = cur.size := by
      rw [hcs]
      simp only [List.length_append, hxl, hyl, hzl, cur, Array.size_append, List.size_toArray, hol, n3, size_zeroCells, hzs]
      omega
    have hcur : cur.toList = olds ++ (news ++ (Builtin.zeroCells z.cells d).toList) := by simp [cur]
    have hone : ∀ (i : Nat) (v : Value), cur[i]? = some v → v.oneCell' = true ∧ ∀ c, cs[i]? = some c → Rp I M w v c := by
      intro i v hv
      rw [← Array.getElem?_toList, hcur] at hv
      rw [hcs]
      rcases Nat.lt_or_ge i (xs.length * sz) with q | q
      · rw [List.getElem?_append_left (by omega), hog i q] at hv
        injection hv with hv; subst hv
        refine ⟨h11 i q, fun c hc => ?_⟩
        rw [List.getElem?_append_left (by omega), bxs, List.getElem?_map] at hc
        obtain ⟨p, hp, rfl⟩ := Option.map_eq_some_iff.1 hc
        exact (hu i p hp).rp
      · rw [List.getElem?_append_right (by omega), hol] at hv
        rcases Nat.lt_or_ge (i - xs.length * sz) (ys.length * sz) with q2 | q2
        · rw [List.getElem?_append_left (by omega)] at hv
          refine ⟨n4 v (List.mem_of_getElem? hv), fun c hc => ?_⟩
          rw [List.getElem?_append_right (by omega), hxl, List.getElem?_append_left (by omega), bxs, List.getElem?_map] at hc
          obtain ⟨p, hp, rfl⟩ := Option.map_eq_some_iff.1 hc
          obtain ⟨u', hu', hr'⟩ := n6 _ p hp
          rw [hv] at hu'; injection hu' with hu'; subst hu'
          exact hr'.rp
        · rw [List.getElem?_append_right (by omega), n3, Array.getElem?_toList, zeroCells_get] at hv
          split at hv
          · rename_i hlt
            injection hv with hv
            have hposz : 0 < z.cells.size := by
              rcases Nat.eq_zero_or_pos z.cells.size with h | h
              · rw [h] at hlt; omega
              · exact h
            have hmod := Nat.mod_lt (i - xs.length * sz - ys.length * sz) hposz
            simp only [hmod, getElem!_pos] at hv
            refine ⟨by rw [← hv]; exact List.all_eq_true.1 hz1 _ (by simp), fun c hc => ?_⟩
            rw [List.getElem?_append_right (by omega), hxl, List.getElem?_append_right (by omega), hyl, zbx_get] at hc
            simp only [hzsl] at hc
            rw [hzs] at hlt hmod
            rw [if_pos hlt, List.getElem?_map] at hc
            simp only [Array.getElem?_toList, hzs, List.getElem?_map, Option.map_map, zs] at hc
            rw [Array.getElem?_eq_getElem (by rw [hzs]; exact hmod)] at hc
            have : AV.v v = c := by
              rw [← hv]
              simpa [PV.av, hzs] using hc
            subst this
            exact .v _
          · cases hv
    have hsd : Sto I M w.drew σ1 := hs.stay ⟨rfl, rfl, rfl, fun _ => CI.le_refl _, ⟨Nat.le_refl _, fun _ => Nat.le_refl _, fun _ _ _ _ h => h, fun _ _ h => h⟩, fun _ _ _ => ⟨rfl, rfl⟩⟩ hs.top
    have hRp : Rp I M w.drew (.agg cur) (.agg cs) := .agg hlen.symm (fun i v hv => (hone i v hv).1) fun i v c hv hc => ((hone i v hv).2 c hc).evo (fun _ => CI.le_refl _) (show Evo M M w w.drew from ⟨Nat.le_refl _, fun _ => Nat.le_refl _, fun _ _ _ _ h => h, fun _ _ h => h⟩)
    obtain ⟨r1, r2, r3, r4⟩ := newVar_ok (t := e) hsd hRp Z k hk1 hk2
    have hx3 : Ext (fun _ => False) I (fun i => if i = k then CI.box w.heap.size else I i) M M w (w.drew.alloc (.cells cur e)) := ⟨r3.os, r3.tape, r3.output, r3.le, ⟨r3.evo.size, r3.evo.mask, r3.evo.keep, r3.evo.ty⟩, r3.oth⟩
    unfold Oper.wp execOp
    simp only [ho, resolve, invoke, builtin, Sem.run_bind, Sem.run_pure, Result.andThen_ok, List.map_toArray, List.map_cons, List.map_nil, eq0, hrun]
    refine hK d _ (fun i => if i = k then CI.box w.heap.size else I i) M _ (.bsl (b := w.heap.size) (lo := 0) (C := xs.length + ys.length + d) (by simp) (by omega) (fun _ => by simp)) r2 (hx3.wide fun _ _ h => h.elim) (fun i hi => r4 i (by simpa [keys] using hi)) fun i hi b hb => ?_
    obtain rfl : i = k := by simpa [keys] using hi
    simp only [updS, if_true, blkOf] at hb
    injection hb with hb
    exact .inl (by omega)
end
inductive FzW (k sz n C T : Nat) : Fr → Fr → Prop
  | refl {l : Fr} : FzW k sz n C T l l
  | row {i n' C' : Nat} {l l' : Fr} (hn : n' = n) (hC : C' = C) (hs : FzW k sz n C T l l') : FzW k sz n C T ((i, .bsl k sz 0 n' C') :: l) ((i, .row T n) :: l')
  | same {i : Nat} {v : AV} {l l' : Fr} (hs : FzW k sz n C T l l') : FzW k sz n C T ((i, v) :: l) ((i, v) :: l')
section
end
end Go.Proofs.YtpacgphnpalepaaDoor
namespace Go.Proofs.YtpacgphnpalepaaDoor
set_option linter.unusedVariables false
set_option linter.unusedSimpArgs false
open Go.RowKit
def ACallsN (P : Program) (f : FuncId) (args : List AV) (σ : List Res) {ι : Type} (r : ι → AV) (σ' : ι → List Res) : Prop :=
  ∀ (I : Nat → CI) (M : Nat → Nat) (w : World) (cargs : Array Value), cargs.size = args.length → (∀ (i : Nat) (v : Value) (c : AV), cargs[i]? = some v → args[i]? = some c → Rp I M w v c) → Sto I M w (sto σ) → (∀ k, σ.length ≤ k → I k = .no) →
    Calls P f cargs w fun e w' => ∃ q cv I' M', e = .returned cv ∧ Rp I' M' w' cv (r q) ∧ Sto I' M' w' (sto (σ' q)) ∧ (∀ k, (σ' q).length ≤ k → I' k = .no) ∧ Ext (fun b => ∃ k, blkOf (I k) (sto σ k) = some b) I I' M M' w w' ∧
      ∀ k b, blkOf (I' k) (sto (σ' q) k) = some b → w.heap.size ≤ b ∨ ∃ k', blkOf (I k') (sto σ k') = some b
def RetOkN (P : Program) (fn : Func) {ι : Type} (r : ι → AV) (σ' : ι → List Res) (g : Ent) (e : Exit) (s : State) : Prop := ∃ q, RetOk P fn (r q) (σ' q) g e s
section
variable {P : Program} {n : Nat} {ops : List Oper} {chk : List FP → Bool} {K : State → Prop} {rest : List Oper} {o : Oper} {fr : Fr} {σ : List Res} {acc : List FP}
end
end Go.Proofs.YtpacgphnpalepaaDoor
