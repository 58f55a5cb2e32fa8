/-
  Rules of a walk for arrays that are written in place. Nothing of the dump is used; no condition.
-/
import Derived.Test.YtbbcokckealagaaArz
namespace Go.Proofs.Ytbbcokckealagaa
open Go.RowKit
set_option linter.unusedVariables false
set_option linter.unusedSimpArgs false
section
variable {P : Program} {n : Nat} {ops : List Oper} {chk : List FP → Bool} {K : State → Prop} {rest : List Oper} {o : Oper} {fr : Fr} {σ : List Res} {acc : List FP} {ρ : Operand → AV} {σ0 : Nat → Res}
theorem putEnd (σ : List Res) (r : Res) : PutAt σ σ.length r (σ ++ [r]) := by
  induction σ with
  | nil => exact PutAt.new
  | cons q l ih => exact PutAt.there ih
theorem nat_of {a : Int} (h : 0 ≤ a) : a = (a.toNat : Int) := (Int.toNat_of_nonneg h).symm
theorem Run.mkB {d t e k m sz bytes : Nat} {x y : Operand} {kl kc : IntKind} {a : Int} {z : Value} {σ' : List Res} [Und P t (.slice e)] [TyI P e z sz bytes] (ho : o.dst = some d) (hop : o.op = .makeSlice t x y) (hw : wantA ops fr o = some true) (hd : Nat.blt d n = true)
    (hx : evA fr x = .v (.int kl a)) (hy : evA fr y = .v (.int kc a)) (hr : Run P n ops chk K rest ⟨(d, .bsl k sz 0 m m) :: fr, σ'⟩ (acc ++ [([], [k])])) (ha : a = (m : Int) := by (first | assumption | rfl | exact nat_of (by omega))) (he : Ends σ k := by ((repeat constructor); first | done | fail))
    (hz : z.cells.toList.all (·.oneCell') = true := by rfl) (hzs : z.cells.size = sz := by rfl) (hb : m * bytes ≤ 140737488355328 := by (first | omega | (simp [maxLen]; omega))) (h63 : m ≤ maxLen := by (simp only [maxLen]; omega))
    (hσ : PutAt σ k (.box (bxs (List.replicate m (z.cells.toList.map .v)))) σ' := by ((repeat constructor); first | done | fail)) : Run P n ops chk K (o :: rest) ⟨fr, σ⟩ acc :=
  .op (ins := []) (outs := [(k, .box (bxs (List.replicate m (z.cells.toList.map .v))))]) (v := .bsl k sz 0 m m) hw (by rw [ho]; exact hd) (OpS.makeB hop hx hy ha hz hzs hb h63) (fun _ h => by cases h) (okU_one hσ).1 (fun k' hk => by
    obtain rfl : k' = k := by simpa [keys] using hk
    exact .inr (Nat.le_of_eq he.spec.symm)) (by rw [ho, (okU_one hσ).2]; exact hr)
/-- what is copied, and that it is there -/
def SrcNI (P : Program) (av : AV) (σ : List Res) (sz : Nat) (ys : List (List PV)) (ins : Upds) : Prop := SrcN P av sz ys ins ∧ ∀ q ∈ ins, sto σ q.1 = q.2
theorem SrcNI.dat {av : AV} {sz : Nat} {ys : List (List PV)} {ins : Upds} (d : Dat (sto σ) av sz ys ins) : SrcNI P av σ sz ys ins := ⟨SrcN.dat d, d.ins⟩
theorem SrcNI.bsl {av : AV} {k sz lo m C : Nat} {xs ys : List (List PV)} (hav : av = .bsl k sz lo m C) (hk : sto σ k = .box (bxs xs)) (hz : ∀ y ∈ xs, y.length = sz) (hn : lo + m ≤ xs.length) (hy : (xs.drop lo).take m = ys) : SrcNI P av σ sz ys [(k, .box (bxs xs))] := by
  subst hy
  have hz1 : ∀ y ∈ xs.drop lo, y.length = sz := fun y h => hz y (List.mem_of_mem_drop h)
  exact ⟨SrcN.bsl hav (by rw [bx_take hz1, bx_drop hz]) (fun y h => hz1 y (List.mem_of_mem_take h)) (by simp; omega), one_in hk⟩
theorem Run.cpB {d td ts e k lo m C sz bytes : Nat} {x y : Operand} {z : Value} {xs ys zs : List (List PV)} {insy : Upds} {ks : List Nat} {r : Int} {σ' : List Res} [Und P td (.slice e)] [TyI P e z sz bytes] (ho : o.dst = some d) (hop : o.op = .call { callee := .builtin .copy, args := #[x, y], argTypes := #[td, ts] })
    (hw : wantA ops fr o = some true) (hd : Nat.blt d n = true) (hx : evA fr x = .bsl k sz lo m C) (hk : sto σ k = .box (bxs xs)) (hy : SrcNI P (evA fr y) σ sz ys insy) (hsx : ∀ y ∈ xs, y.length = sz) (hC : lo + m ≤ xs.length)
    (hz : xs.take lo ++ (ys.take m ++ xs.drop (lo + (ys.take m).length)) = zs) (hσ : PutAt σ k (.box (bxs zs)) σ') (hks : k :: keys insy = ks) (hrr : ((min ys.length m : Nat) : Int) = r)
    (hr : Run P n ops chk K rest ⟨(d, .v (.int .i64 r)) :: fr, σ'⟩ (acc ++ [(ks, [k])])) : Run P n ops chk K (o :: rest) ⟨fr, σ⟩ acc := by
  subst hrr hz
  obtain ⟨hy1, hy2⟩ := hy
  have hys : ∀ w : World, True := fun _ => trivial
  refine .op (ins := (k, .box (bxs xs)) :: insy) (outs := [(k, .box (bxs (xs.take lo ++ (ys.take m ++ xs.drop (lo + (ys.take m).length)))))]) (v := .v (.int .i64 ((min ys.length m : Nat) : Int))) hw (by rw [ho]; exact hd) ?_ (fun q hq => by
    rcases List.mem_cons.1 hq with rfl | hq
    · exact hk
    · exact hy2 q hq) (okU_one hσ).1 (fun k' hk' => .inl (by
      obtain rfl : k' = k := by simpa [keys] using hk'
      simp [keys])) (by
      have : keys ((k, Res.box (bxs xs)) :: insy) = ks := by rw [← hks]; rfl
      rw [ho, (okU_one hσ).2, this]; exact hr)
  intro I M w a σ1 K1 Q1 hop1 hs1 hi1 hn1 hK1
  -- the sizes of what is copied
  have q2 := hop1 y (by simp [hop, Op.operands, Call.operands])
  obtain ⟨news, s1, s2, _⟩ := hy1 I M w σ1 _ q2 hs1 (fun q hq => hi1 q (List.mem_cons_of_mem _ hq))
  have hz2 : ∀ y ∈ ys.take m, y.length = sz := fun y h => s2 y (List.mem_of_mem_take h)
  refine OpS.copyB (o := o) (ρ := evA fr) (k := k) (cs := bxs xs) (cs' := bxs (xs.take lo ++ (ys.take m ++ xs.drop (lo + (ys.take m).length)))) hop hx hy1 (by rw [bx_len hsx]; exact Nat.mul_le_mul_right _ hC) ?_ I M w a σ1 K1 Q1 hop1 hs1 hi1 hn1 hK1
  rw [bx_append, bx_append, bx_take hsx, bx_drop hsx, bx_len hz2, Nat.add_mul]
/-- append of zeros to a row -/
theorem Run.apRZ {d k nn m sz bytes : Nat} {s x : Operand} {t tx e : TypeId} {k1 k2 : IntKind} {a : Int} {z : Value} {xs zs : List (List PV)} {σ' : List Res} [Und P t (.slice e)] [Und P tx (.int k1)] [TyI P e z sz bytes] (ho : o.dst = some d) (hop : o.op = .call { callee := .builtin .append, args := #[s, x], argTypes := #[t, tx] })
    (hw : wantA ops fr o = some true) (hd : Nat.blt d n = true) (hsv : evA fr s = .row k nn) (hk : sto σ k = .row sz xs) (hn : nn = xs.length) (hx : evA fr x = .v (.int k2 a)) (hr : Run P n ops chk K rest ⟨(d, .row k zs.length) :: fr, σ'⟩ (acc ++ [([k], [k])]))
    (ha : a = (m : Int) := by (first | assumption | rfl | exact nat_of (by omega))) (hz : xs ++ List.replicate m (z.cells.toList.map PV.v) = zs := by (first | assumption | rfl)) (hzs : z.cells.size = sz := by rfl) (hz1 : z.cells.toList.all (·.oneCell') = true := by rfl)
    (hb : zs.length * bytes ≤ 140737488355328 := by (first | omega | (simp only [List.length_append, List.length_replicate, maxLen]; omega) | (simp [maxLen]; omega))) (h63 : zs.length ≤ maxLen := by (first | (simp only [maxLen]; omega) | (simp only [List.length_append, List.length_replicate, maxLen]; omega) | (simp [maxLen]; omega)))
    (hσ : PutAt σ k (.row sz zs) σ' := by ((repeat constructor); first | done | fail)) : Run P n ops chk K (o :: rest) ⟨fr, σ⟩ acc := by
  subst hz
  have hx' := SrcG.zeros (P := P) (t := t) (tx := tx) (e := e) (k1 := k1) (bytes := bytes) hzs hz1 hx ha
  exact .op (ins := [(k, .row sz xs)]) (outs := [(k, .row sz (xs ++ List.replicate m (z.cells.toList.map PV.v)))]) (v := .row k (xs ++ List.replicate m (z.cells.toList.map PV.v)).length) hw (by rw [ho]; exact hd) (OpS.appRowG hop hzs hsv hn hx' (by rw [hn, List.length_append]) hb h63) (one_in hk) (okU_one hσ).1 (fun k' hk' => .inl (by
      obtain rfl : k' = k := by simpa [keys] using hk'
      simp [keys])) (by rw [ho, (okU_one hσ).2]; exact hr)
/-- append of zeros to nothing, or to a slice without spare places -/
theorem Run.apFZ {d k m sz bytes : Nat} {s x : Operand} {t tx e : TypeId} {k1 k2 : IntKind} {a : Int} {z : Value} {xs zs : List (List PV)} {σ' : List Res} [Und P t (.slice e)] [Und P tx (.int k1)] [TyI P e z sz bytes] (ho : o.dst = some d) (hop : o.op = .call { callee := .builtin .append, args := #[s, x], argTypes := #[t, tx] })
    (hw : wantA ops fr o = some true) (hd : Nat.blt d n = true) (hsv : evA fr s = .sl sz xs true ∨ evA fr s = .v (.slice none 0 0) ∧ xs = []) (hx : evA fr x = .v (.int k2 a)) (hr : Run P n ops chk K rest ⟨(d, .row k zs.length) :: fr, σ'⟩ (acc ++ [([], [k])]))
    (ha : a = (m : Int) := by (first | assumption | rfl | exact nat_of (by omega))) (hz : xs ++ List.replicate m (z.cells.toList.map PV.v) = zs := by (first | assumption | rfl)) (hzs : z.cells.size = sz := by rfl) (hz1 : z.cells.toList.all (·.oneCell') = true := by rfl) (he : Ends σ k := by ((repeat constructor); first | done | fail))
    (hb : zs.length * bytes ≤ 140737488355328 := by (first | omega | (simp only [List.length_append, List.length_replicate, maxLen]; omega) | (simp [maxLen]; omega))) (h63 : zs.length ≤ maxLen := by (first | (simp only [maxLen]; omega) | (simp only [List.length_append, List.length_replicate, maxLen]; omega) | (simp [maxLen]; omega)))
    (hσ : PutAt σ k (.row sz zs) σ' := by ((repeat constructor); first | done | fail)) : Run P n ops chk K (o :: rest) ⟨fr, σ⟩ acc := by
  subst hz
  have hx' := SrcG.zeros (P := P) (t := t) (tx := tx) (e := e) (k1 := k1) (bytes := bytes) hzs hz1 hx ha
  exact .op (ins := []) (outs := [(k, .row sz (xs ++ List.replicate m (z.cells.toList.map PV.v)))]) (v := .row k (xs ++ List.replicate m (z.cells.toList.map PV.v)).length) hw (by rw [ho]; exact hd) (OpS.appFullG k hop hzs hsv hx' (by rw [List.length_append]) (by simp [keys]) hb h63) ins_nil (okU_one hσ).1 (fun k' hk' => .inr (by
      obtain rfl : k' = k := by simpa [keys] using hk'
      exact Nat.le_of_eq he.spec.symm)) (by rw [ho, (okU_one hσ).2]; exact hr)
theorem OpP.capNil {x : Operand} {t e : TypeId} [Und P t (.slice e)] (ho : o.op = .call { callee := .builtin .cap, args := #[x], argTypes := #[t] }) (hx : ρ x = .v (.slice none 0 0)) : OpP P o ρ (.v (.int .i64 0)) := by
  intro I M w a h
  have h1 := h x (by simp [ho, Op.operands, Call.operands])
  rw [hx] at h1
  exact ⟨_, by simp [execOp, ho, resolve, invoke, builtin, h1.val, Builtin.cap_, run_und, goInt], .v _⟩
/-- a load out of an array whose cell is told by a fact -/
theorem Run.ld1F {d t x k off : _} {D : TypeDesc} {cs : List AV} {c : AV} [Und P t D] (ho : o.dst = some d) (hop : o.op = .load t x) (hw : wantA ops fr o = some true) (hd : Nat.blt d n = true) (hx : evA fr x = .ptr k off) (hD : isAggD D = false) (hk : sto σ k = .box cs)
    (hr : Run P n ops chk K rest ⟨(d, c) :: fr, σ⟩ (acc ++ [([k], [])])) (hc : cs[off]? = some c := by assumption) : Run P n ops chk K (o :: rest) ⟨fr, σ⟩ acc := Run.ld1 ho hop hw hd hx hD hk hc hr
theorem Run.ldNF {d t x k off : _} {D : TypeDesc} {z : Value} {sz bytes : Nat} {cs l : List AV} [Und P t D] [TyI P t z sz bytes] (ho : o.dst = some d) (hop : o.op = .load t x) (hw : wantA ops fr o = some true) (hd : Nat.blt d n = true) (hx : evA fr x = .ptr k off) (hD : isAggD D = true) (hk : sto σ k = .box cs)
    (hr : Run P n ops chk K rest ⟨(d, .agg l) :: fr, σ⟩ (acc ++ [([k], [])])) (hc : Sub cs off sz l := by assumption) : Run P n ops chk K (o :: rest) ⟨fr, σ⟩ acc := Run.ldN ho hop hw hd hx hD hk hc hr
theorem Run.stF {t x y k off : _} {v : AV} {z : Value} {sz bytes : Nat} {cs new cs' : List AV} {σ' : List Res} [TyI P t z sz bytes] (ho : o.dst = none) (hop : o.op = .store t x y) (hw : wantA ops fr o = some true) (hx : evA fr x = .ptr k off) (hk : sto σ k = .box cs) (hr : Run P n ops chk K rest ⟨fr, σ'⟩ (acc ++ [([k], [k])]))
    (hy : evA fr y = v := by ((conv => lhs; whnf) <;> rfl)) (hc : Cells v new := by (first | exact Cells.agg | exact Cells.one rfl)) (hl : Nat.beq new.length sz = true := by rfl) (hcs : Over cs off new cs' := by assumption) (hσ : PutAt σ k (.box cs') σ' := by ((repeat constructor); first | done | fail)) : Run P n ops chk K (o :: rest) ⟨fr, σ⟩ acc :=
  Run.st ho hop hw hx hy hc hl hk hcs hσ hr
theorem Rp.bslLe {I : Nat → CI} {M : Nat → Nat} {w : World} {v : Value} {k sz lo n C : Nat} (h : Rp I M w v (.bsl k sz lo n C)) : lo + n ≤ C := by cases h; assumption
theorem OpP.sliceBH {t e : TypeId} {x y : Operand} {kk : IntKind} {h : Int} {k sz b0 n0 C bytes : Nat} {z : Value} [Und P t (.slice e)] [TyI P e z sz bytes] (ho : o.op = .slice t x none (some y) none) (hx : ρ x = .bsl k sz b0 n0 C) (hy : ρ y = .v (.int kk h))
    (h0 : 0 ≤ h := by omega) (hh : b0 + h.toNat ≤ C := by omega) : OpP P o ρ (.bsl k sz b0 h.toNat C) := by
  intro I M w a hop
  have q := Rp.bslLe (hx ▸ hop x (by simp [ho, Op.operands]))
  have := OpP.sliceB (P := P) (o := o) (ρ := ρ) (l := none) (h := some h.toNat) (m := none) ho hx OpI.no (OpI.so hy (nat_of h0)) OpI.no (by simp) (L := 0) rfl rfl rfl (Nat.zero_le _) (by simp only [Option.getD_some, Option.getD_none]; omega) (Nat.le_refl _) I M w a hop
  simp only [Option.getD_some, Option.getD_none, Nat.add_zero, Nat.sub_zero, show b0 + (C - b0) = C by omega] at this
  exact this
theorem OpP.sliceBL {t e : TypeId} {x y : Operand} {kk : IntKind} {l : Int} {k sz b0 n0 C lo bytes : Nat} {z : Value} [Und P t (.slice e)] [TyI P e z sz bytes] (ho : o.op = .slice t x (some y) none none) (hx : ρ x = .bsl k sz b0 n0 C) (hy : ρ y = .v (.int kk l))
    (h0 : 0 ≤ l := by omega) (hh : l.toNat ≤ n0 := by omega) (hlo : b0 + l.toNat = lo := by first | ((conv => lhs; simp only [Nat.zero_add]); first | done | rfl) | rfl) : OpP P o ρ (.bsl k sz lo (n0 - l.toNat) C) := by
  subst hlo
  intro I M w a hop
  have q := Rp.bslLe (hx ▸ hop x (by simp [ho, Op.operands]))
  have := OpP.sliceB (P := P) (o := o) (ρ := ρ) (l := some l.toNat) (h := none) (m := none) ho hx (OpI.so hy (nat_of h0)) OpI.no OpI.no (by simp) rfl rfl rfl (by simp only [Option.getD_some, Option.getD_none]; omega) (by simp only [Option.getD_some, Option.getD_none]; omega) (Nat.le_refl _) I M w a hop
  simp only [Option.getD_some, Option.getD_none, show b0 + (C - b0) = C by omega] at this
  exact this
theorem OpP.sliceBLH {t e : TypeId} {x y y2 : Operand} {kk k2 : IntKind} {l h : Int} {k sz b0 n0 C lo bytes : Nat} {z : Value} [Und P t (.slice e)] [TyI P e z sz bytes] (ho : o.op = .slice t x (some y) (some y2) none) (hx : ρ x = .bsl k sz b0 n0 C) (hy : ρ y = .v (.int kk l)) (hy2 : ρ y2 = .v (.int k2 h))
    (h0 : 0 ≤ l := by omega) (h1 : l ≤ h := by omega) (hh : b0 + h.toNat ≤ C := by omega) (hlo : b0 + l.toNat = lo := by first | ((conv => lhs; simp only [Nat.zero_add]); first | done | rfl) | rfl) : OpP P o ρ (.bsl k sz lo (h.toNat - l.toNat) C) := by
  subst hlo
  intro I M w a hop
  have q := Rp.bslLe (hx ▸ hop x (by simp [ho, Op.operands]))
  have := OpP.sliceB (P := P) (o := o) (ρ := ρ) (l := some l.toNat) (h := some h.toNat) (m := none) ho hx (OpI.so hy (nat_of h0)) (OpI.so hy2 (nat_of (by omega))) OpI.no (by simp) rfl rfl rfl (by simp only [Option.getD_some, Option.getD_none]; omega) (by simp only [Option.getD_some, Option.getD_none]; omega) (Nat.le_refl _) I M w a hop
  simp only [Option.getD_some, Option.getD_none, show b0 + (C - b0) = C by omega] at this
  exact this
theorem OpP.sliceNilH {t e : TypeId} {x y : Operand} {kk : IntKind} {sz bytes : Nat} {z : Value} [Und P t (.slice e)] [TyI P e z sz bytes] (ho : o.op = .slice t x none (some y) none) (hx : ρ x = .v (.slice none 0 0)) (hy : ρ y = .v (.int kk 0)) : OpP P o ρ (.v (.slice none 0 0)) := by
  intro I M w a hop
  have q1 := hop x (by simp [ho, Op.operands])
  have q2 := hop y (by simp [ho, Op.operands])
  rw [hx] at q1
  rw [hy] at q2
  obtain ⟨_, _, _, _, _, _, _, hsz⟩ := run_typeInfo (P := P) (t := e) w
  exact ⟨_, by simp [execOp, ho, q1.val, q2.val, Instr.sliceAt, run_und, Instr.slice, Instr.sliceBounds, Instr.sliceBound, asIntOf, hsz], .v _⟩
/-- append to a slice without spare places, whose new row is written afterwards: how many places it has is open -/
theorem OpSN.appB {s x : Operand} {t tx e : TypeId} {z : Value} {sz bytes : Nat} [Und P t (.slice e)] [TyI P e z sz bytes] (k : Nat) (ho : o.op = .call { callee := .builtin .append, args := #[s, x], argTypes := #[t, tx] })
    (hzs : z.cells.size = sz) (hz1 : z.cells.toList.all (·.oneCell') = true) {m : Nat} {ys xs : List (List PV)} {insx : Upds} (hsv : ρ s = .sl sz xs true ∨ ρ s = .v (.slice none 0 0) ∧ xs = []) (hx : SrcG P t tx e z bytes (ρ x) sz ys insx) (hm : xs.length + ys.length = m) (hpos : 0 < ys.length) (hkin : k ∉ keys insx) (hb : m * bytes ≤ 140737488355328) (h63 : m ≤ maxLen) :
    OpSN P o ρ insx (ι := Nat) (fun d => .bsl k sz 0 m (m + d)) (fun d => [(k, .box (bxs (xs ++ ys ++ List.replicate d (z.cells.toList.map PV.v))))]) := by
  intro I M w a σ1 K1 Q hop hs hi hnew hK
  subst hm
  have h1 := hop s (by simp [ho, Op.operands, Call.operands])
  have h2 := hop x (by simp [ho, Op.operands, Call.operands])
  have hs0 : ∃ A, a.eval s = .slice A xs.length xs.length ∧ RPV M w (.slice A xs.length xs.length) (.sl sz xs) := by
    rcases hsv with hsv | ⟨hsv, rfl⟩
    · rw [hsv] at h1
      generalize eq0 : a.eval s = sv at h1
      cases h1 with
      | sl h hf =>
        have := hf rfl
        subst this
        have := h.len.1
        subst this
        exact ⟨_, rfl, h⟩
    · rw [hsv] at h1
      exact ⟨none, h1.val, .nil _ _ _ _ _⟩
  obtain ⟨A, eq0, r0⟩ := hs0
  obtain ⟨hk1, hk2⟩ := (hnew 0 k (by simp [keys])).resolve_left hkin
  obtain ⟨news, n2, n3, n4, n6, ncore⟩ := hx I M w σ1 _ h2 hs hi
  cases r0 with
  | sl b off u hn hc' hz' hA hM hcell h11 hu =>
  let olds := (List.range (xs.length * sz)).map u
  have hol : olds.length = xs.length * sz := by simp [olds]
  have hog : ∀ j, j < xs.length * sz → olds[j]? = some (u j) := fun j hj => by simp [olds, hj]
  have core := ncore o.type A xs.length xs.length olds hol
    (fun h0 => ⟨b, off, hA h0, fun j v hv => by
      have hj : j < xs.length * sz := by rw [← hol]; exact (List.getElem?_eq_some_iff.1 hv).1
      rw [hog j hj] at hv
      injection hv with hv; subst hv
      exact hcell j hj⟩) (fun h _ => by omega) hb h63
  rcases core with ⟨hr, _⟩ | ⟨hr, _⟩ | ⟨hr, c1, hc1, hrun⟩
  · omega
  · omega
  · obtain ⟨d, rfl⟩ : ∃ d, c1 = xs.length + ys.length + d := ⟨c1 - (xs.length + ys.length), by omega⟩
    rw [Nat.add_sub_cancel_left] at hrun
    let zs : List PV := z.cells.toList.map PV.v
    let cur : Array Value := olds.toArray ++ news.toArray ++ Builtin.zeroCells z.cells d
    let cs := bxs (xs ++ ys ++ List.replicate d zs)
    have hxl : (bxs xs).length = xs.length * sz := bx_len hz'
    have hyl : (bxs ys).length = ys.length * sz := bx_len n2
    have hzsl : zs.length = sz := by simp [zs, hzs]
    have hzl : (bxs (List.replicate d zs)).length = d * sz := by
      have := bx_len (sz := sz) (xs := List.replicate d zs) (fun y h => by rw [(List.mem_replicate.1 h).2]; exact hzsl)
      simpa using this
    have hcs : cs = bxs xs ++ (bxs ys ++ bxs (List.replicate d zs)) := by simp only [cs, bx_append, List.append_assoc]
    have hlen : cs.length = cur.size := by
      rw [hcs]
      simp only [List.length_append, hxl, hyl, hzl, cur, Array.size_append, List.size_toArray, hol, n3, size_zeroCells, hzs]
      omega
    have hcur : cur.toList = olds ++ (news ++ (Builtin.zeroCells z.cells d).toList) := by simp [cur]
    have hone : ∀ (i : Nat) (v : Value), cur[i]? = some v → v.oneCell' = true ∧ ∀ c, cs[i]? = some c → Rp I M w v c := by
      intro i v hv
      rw [← Array.getElem?_toList, hcur] at hv
      rw [hcs]
      rcases Nat.lt_or_ge i (xs.length * sz) with q | q
      · rw [List.getElem?_append_left (by omega), hog i q] at hv
        injection hv with hv; subst hv
        refine ⟨h11 i q, fun c hc => ?_⟩
        rw [List.getElem?_append_left (by omega), bxs, List.getElem?_map] at hc
        obtain ⟨p, hp, rfl⟩ := Option.map_eq_some_iff.1 hc
        exact (hu i p hp).rp
      · rw [List.getElem?_append_right (by omega), hol] at hv
        rcases Nat.lt_or_ge (i - xs.length * sz) (ys.length * sz) with q2 | q2
        · rw [List.getElem?_append_left (by omega)] at hv
          refine ⟨n4 v (List.mem_of_getElem? hv), fun c hc => ?_⟩
          rw [List.getElem?_append_right (by omega), hxl, List.getElem?_append_left (by omega), bxs, List.getElem?_map] at hc
          obtain ⟨p, hp, rfl⟩ := Option.map_eq_some_iff.1 hc
          obtain ⟨u', hu', hr'⟩ := n6 _ p hp
          rw [hv] at hu'; injection hu' with hu'; subst hu'
          exact hr'.rp
        · rw [List.getElem?_append_right (by omega), n3, Array.getElem?_toList, zeroCells_get] at hv
          split at hv
          · rename_i hlt
            injection hv with hv
            have hposz : 0 < z.cells.size := by
              rcases Nat.eq_zero_or_pos z.cells.size with h | h
              · rw [h] at hlt; omega
              · exact h
            have hmod := Nat.mod_lt (i - xs.length * sz - ys.length * sz) hposz
            simp only [hmod, getElem!_pos] at hv
            refine ⟨by rw [← hv]; exact List.all_eq_true.1 hz1 _ (by simp), fun c hc => ?_⟩
            rw [List.getElem?_append_right (by omega), hxl, List.getElem?_append_right (by omega), hyl, zbx_get] at hc
            simp only [hzsl] at hc
            rw [hzs] at hlt hmod
            rw [if_pos hlt, List.getElem?_map] at hc
            simp only [Array.getElem?_toList, hzs, List.getElem?_map, Option.map_map, zs] at hc
            rw [Array.getElem?_eq_getElem (by rw [hzs]; exact hmod)] at hc
            have : AV.v v = c := by
              rw [← hv]
              simpa [PV.av, hzs] using hc
            subst this
            exact .v _
          · cases hv
    have hsd : Sto I M w.drew σ1 := hs.stay ⟨rfl, rfl, rfl, fun _ => CI.le_refl _, ⟨Nat.le_refl _, fun _ => Nat.le_refl _, fun _ _ _ _ h => h⟩, fun _ _ _ => ⟨rfl, rfl⟩⟩ hs.top
    have hRp : Rp I M w.drew (.agg cur) (.agg cs) := .agg hlen.symm (fun i v hv => (hone i v hv).1) fun i v c hv hc => ((hone i v hv).2 c hc).evo (fun _ => CI.le_refl _) (show Evo M M w w.drew from ⟨Nat.le_refl _, fun _ => Nat.le_refl _, fun _ _ _ _ h => h⟩)
    obtain ⟨r1, r2, r3, r4⟩ := newVar_ok (t := e) hsd hRp rfl k hk1 hk2
    have hx3 : Ext (fun _ => False) I (fun i => if i = k then CI.box w.heap.size else I i) M M w (w.drew.alloc (.cells cur e)) := ⟨r3.os, r3.tape, r3.output, r3.le, ⟨r3.evo.size, r3.evo.mask, r3.evo.keep⟩, r3.oth⟩
    unfold Oper.wp execOp
    simp only [ho, resolve, invoke, builtin, Sem.run_bind, Sem.run_pure, Result.andThen_ok, List.map_toArray, List.map_cons, List.map_nil, eq0, hrun]
    refine hK d _ (fun i => if i = k then CI.box w.heap.size else I i) M _ (.bsl (b := w.heap.size) (lo := 0) (C := xs.length + ys.length + d) (by simp) (by omega) (fun _ => by simp)) r2 (hx3.wide fun _ _ h => h.elim) (fun i hi => r4 i (by simpa [keys] using hi)) fun i hi b hb => ?_
    obtain rfl : i = k := by simpa [keys] using hi
    simp only [updS, if_true, blkOf] at hb
    injection hb with hb
    exact .inl (by omega)
/-- append of zeros to nothing, in plain regions; the row is written afterwards -/
theorem Run.apBZ {d k m sz bytes : Nat} {s x : Operand} {t tx e : TypeId} {k1 k2 : IntKind} {a : Int} {z : Value} {xs : List (List PV)} [Und P t (.slice e)] [Und P tx (.int k1)] [TyI P e z sz bytes] (hall : ∀ acc, chk acc = true) (ho : o.dst = some d) (hop : o.op = .call { callee := .builtin .append, args := #[s, x], argTypes := #[t, tx] })
    (hw : wantA ops fr o = some true) (hd : Nat.blt d n = true) (hsv : evA fr s = .sl sz xs true ∨ evA fr s = .v (.slice none 0 0) ∧ xs = []) (hx : evA fr x = .v (.int k2 a)) (ha : a = (m : Int)) (hpos : 0 < m) (hzs : z.cells.size = sz) (hz1 : z.cells.toList.all (·.oneCell') = true) (hb : (xs.length + m) * bytes ≤ 140737488355328) (h63 : xs.length + m ≤ maxLen) (hk : k = σ.length)
    (hr : ∀ d', Run P n ops chk K rest ⟨(d, .bsl k sz 0 (xs.length + m) (xs.length + m + d')) :: fr, σ ++ [.box (bxs (xs ++ List.replicate m (z.cells.toList.map PV.v) ++ List.replicate d' (z.cells.toList.map PV.v)))]⟩ acc) : Run P n ops chk K (o :: rest) ⟨fr, σ⟩ acc := by
  subst hk
  have hx' := SrcG.zeros (P := P) (t := t) (tx := tx) (e := e) (k1 := k1) (bytes := bytes) hzs hz1 hx ha
  have hO := OpSN.appB σ.length hop hzs hz1 hsv hx' (m := xs.length + m) (by simp) (by simpa using hpos) (by simp [keys]) hb h63
  have hput : ∀ r, okU σ.length [(σ.length, r)] = true ∧ updL σ [(σ.length, r)] = σ ++ [r] := fun r => okU_one (putEnd σ r)
  exact .opN hall hw (by rw [ho]; exact hd) hO ins_nil (fun d' => (hput _).1) (fun d' k' hk' => .inr (by
    obtain rfl : k' = σ.length := by simpa [keys] using hk'
    exact Nat.le_refl _)) (fun d' => by rw [ho, (hput _).2]; exact hr d')
end
/-- the slots, where an array has become a row -/
inductive FzW (k sz n C T : Nat) : Fr → Fr → Prop
  | refl {l : Fr} : FzW k sz n C T l l
  | row {i n' C' : Nat} {l l' : Fr} (hn : n' = n) (hC : C' = C) (hs : FzW k sz n C T l l') : FzW k sz n C T ((i, .bsl k sz 0 n' C') :: l) ((i, .row T n) :: l')
  | same {i : Nat} {v : AV} {l l' : Fr} (hs : FzW k sz n C T l l') : FzW k sz n C T ((i, v) :: l) ((i, v) :: l')
theorem FzW.get {k sz n C T : Nat} {fr fr' : Fr} (h : FzW k sz n C T fr fr') (t : Nat) : fr.get t = fr'.get t ∨ (fr.get t = .bsl k sz 0 n C ∧ fr'.get t = .row T n) := by
  induction h with
  | refl => exact .inl rfl
  | @row i n' C' l l' hn hC hs ih =>
    subst hn hC
    simp only [Fr.get]
    cases Nat.beq t i with
    | true => exact .inr ⟨rfl, rfl⟩
    | false => exact ih
  | @same i v l l' hs ih =>
    simp only [Fr.get]
    cases Nat.beq t i with
    | true => exact .inl rfl
    | false => exact ih
theorem AW.freezeA {P : Program} {g : Ent} {c : Code} {Q : Exit → State → Prop} {fr fr' : Fr} {σ σ' : List Res} {ys : List (List PV)} (k sz : Nat) (xs zs : List (List PV)) (hk : sto σ k = .box (bxs ys)) (hys : ys = xs ++ zs) (hz : ∀ y ∈ xs, y.length = sz) (h : AW P g c Q ⟨fr', σ'⟩)
    (hf : FzF k sz xs none fr fr' := by ((repeat (first | apply FzF.cons | (apply Fz.all; (focus (first | assumption | rfl | (simp; done)))) | exact Fz.same | exact FzF.refl)); first | done | fail))
    (hσ : FzS k sz xs none 0 σ σ' := by ((repeat (first | (apply FzS.here; (focus rfl)) | (apply FzS.box; (focus decide)) | (apply FzS.same; (focus decide)) | exact FzS.nil | apply FzL.cons | (apply Fz.all; (focus (first | assumption | rfl | (simp; done)))) | exact Fz.same | exact FzL.refl)); first | done | fail)) : AW P g c Q ⟨fr, σ⟩ := by
  subst hys
  refine AW.freeze k sz xs hk ?_ hz hf hσ h
  rw [bx_append, ← bx_len hz, List.take_left']
  rfl
theorem AW.freezeW {P : Program} {g : Ent} {c : Code} {Q : Exit → State → Prop} {fr fr' : Fr} {σ σ' : List Res} {ys : List (List PV)} (k sz : Nat) (xs zs : List (List PV)) (C : Nat) (hk : sto σ k = .box (bxs ys)) (hys : ys = xs ++ zs) (hz : ∀ y ∈ ys, y.length = sz)
    (hC : ys.length = C) (hC0 : 0 < C) (h : AW P g c Q ⟨fr', σ' ++ [.row sz xs]⟩) (hf : FzW k sz xs.length C σ.length fr fr' := by ((repeat (first | (apply FzW.row; (focus (first | rfl | (simp; done))); (focus (first | rfl | (simp; done)))) | apply FzW.same | exact FzW.refl)); first | done | fail)) (hσ : PutAt σ k .no σ' := by ((repeat constructor); first | done | fail)) : AW P g c Q ⟨fr, σ⟩ := by
  subst hys
  have hzx : ∀ y ∈ xs, y.length = sz := fun y hy => hz y (List.mem_append_left _ hy)
  refine AW.freezeR k sz xs C hk ?_ hzx (by rw [bx_len hz, hC]) hC0 (by rw [← hC]; simp) (fun t => hf.get t) hσ h
  rw [bx_append, ← bx_len hzx, List.take_left']
  rfl
section
end
end Go.Proofs.Ytbbcokckealagaa
