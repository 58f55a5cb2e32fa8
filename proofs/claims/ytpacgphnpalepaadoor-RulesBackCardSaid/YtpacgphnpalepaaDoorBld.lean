/-
  A builder of strings: its variable is told with its type, its bytes lie in an array of its own. Walks of its functions.
-/
import Derived.Test.YtpacgphnpalepaaDoorQAA
import Derived.Test.YtpacgphnpalepaaDoorQAJ
import Derived.Test.YtpacgphnpalepaaDoorTy
import Derived.Lib.Builder
namespace Go.Proofs.YtpacgphnpalepaaDoor
set_option linter.unusedVariables false
set_option linter.unusedSimpArgs false
open Go.RowKit
section
variable {P : Program} {o : Oper} {ρ : Operand → AV}
theorem ety_shape {w : World} {b : Nat} {T : TypeId} {n : Nat} (h : ety w b = some (T, n)) : w.shape? b = some (T, n) := by
  rw [ety] at h
  cases ho : w.heap[b]? with
  | none => rw [ho] at h; cases h
  | some x =>
    rw [ho] at h
    cases x <;> first | (simp only [Option.some.injEq, Prod.mk.injEq] at h; simp only [World.shape?, ho, h.1, h.2]) | cases h
theorem Rp.tpD {I : Nat → CI} {M : Nat → Nat} {w : World} {v : Value} {k T n : Nat} (h : Rp I M w v (.tp k T n)) : ∃ b, v = .pointer (some ⟨b, 0, none⟩) ∧ I k = .box b ∧ w.shape? b = some (T, n) := by
  cases h with
  | tp h1 h2 => exact ⟨_, rfl, h1, ety_shape h2⟩
theorem OpS.allocT {t : TypeId} {z : Value} {sz bytes : Nat} [TyI P t z sz bytes] (k : Nat) (ho : o.op = .alloc t) (hz : z.cells.toList.all (·.oneCell') = true) {cs : List AV} (hc : (zav z).cells = cs) : OpS P o ρ [] (.tp k t z.cells.size) [(k, .box cs)] := by
  subst hc
  intro I M w a σ K Q hx hs _ hk hK
  obtain ⟨_, _, _, _, _, _, hzv, _⟩ := run_typeInfo (P := P) (t := t) w
  have hr : (execOp a.eval o).run P w = .ok (.value (.pointer (some ⟨w.heap.size, 0, none⟩))) (w.alloc (.cells z.cells t)) := by simp [execOp, ho, Instr.alloc, Go.newVar, newRow, hzv]
  obtain ⟨hk1, hk2⟩ := (hk k (by simp [keys])).resolve_left (by simp [keys])
  obtain ⟨r1, r2, r3, r4⟩ := newVar_ok (t := t) hs (zav_ok (I := I) (M := M) (w := w) z hz).1 (zav_ok (I := I) (M := M) (w := w) z hz).2 k hk1 hk2
  unfold Oper.wp
  rw [hr]
  refine hK _ _ M _ (.tp (b := w.heap.size) (by simp) ?_) r2 (r3.wide fun _ _ h => h.elim) (fun i hi => r4 i (by simpa [keys] using hi)) fun i hi b hb => ?_
  · rw [ety, heap_alloc_new]
  · obtain rfl : i = k := by simpa [keys] using hi
    simp only [updS, if_true, blkOf] at hb
    injection hb with hb
    exact .inl (by omega)
theorem OpP.nilCheckT {x : Operand} {k T n : Nat} (ho : o.op = .nilCheck x) (hx : ρ x = .tp k T n) : OpP P o ρ (.ptr k 0) := by
  intro I M w a hop
  have q1 := hop x (by simp [ho, Op.operands])
  rw [hx] at q1
  obtain ⟨b, e, hI, hT⟩ := q1.tpD
  exact ⟨_, by simp [execOp, ho, e], .ptr hI⟩
theorem ptr_nil {t e : TypeId} [Und P t (.pointer e)] : P.underlying t = some (.pointer (P.pointee t)) := by
  have h : P.underlying t = some (.pointer e) := Und.und
  rw [Program.pointee, h]
theorem OpP.eqTN {x y : Operand} {t u e : TypeId} {k T n : Nat} [Und P t (.pointer e)] (ho : o.op = .binOp .eql t x y u) (hx : ρ x = .tp k T n) (hy : ρ y = .v (.pointer none)) : OpP P o ρ (.v (.bool false)) := by
  intro I M w a hop
  have q1 := hop x (by simp [ho, Op.operands])
  have q2 := hop y (by simp [ho, Op.operands])
  rw [hx] at q1
  rw [hy] at q2
  obtain ⟨b, e1, hI, hT⟩ := q1.tpD
  have := run_eql_pointer_nil (P := P) w t (some ⟨b, 0, none⟩) (ptr_nil (e := e))
  exact ⟨_, by simp only [execOp, ho, e1, q2.val]; simp [eqGuard, this], .v _⟩
theorem OpP.eqNN {x y : Operand} {t u e : TypeId} [Und P t (.pointer e)] (ho : o.op = .binOp .eql t x y u) (hx : ρ x = .v (.pointer none)) (hy : ρ y = .v (.pointer none)) : OpP P o ρ (.v (.bool true)) := by
  intro I M w a hop
  have q1 := hop x (by simp [ho, Op.operands])
  have q2 := hop y (by simp [ho, Op.operands])
  rw [hx] at q1
  rw [hy] at q2
  have := run_eql_pointer_nil (P := P) w t none (ptr_nil (e := e))
  exact ⟨_, by simp only [execOp, ho, q1.val, q2.val]; simp [eqGuard, this], .v _⟩
theorem OpP.neTT {x y : Operand} {t u e : TypeId} {k T n sz bytes : Nat} {z : Value} [Und P t (.pointer e)] [TyI P e z sz bytes] (ho : o.op = .binOp .neq t x y u) (hx : ρ x = .tp k T n) (hy : ρ y = .tp k T n) : OpP P o ρ (.v (.bool false)) := by
  intro I M w a hop
  have q1 := hop x (by simp [ho, Op.operands])
  have q2 := hop y (by simp [ho, Op.operands])
  rw [hx] at q1
  rw [hy] at q2
  obtain ⟨b, e1, hI, hT⟩ := q1.tpD
  obtain ⟨b2, e2, hI2, hT2⟩ := q2.tpD
  obtain rfl : b = b2 := by rw [hI] at hI2; injection hI2
  obtain ⟨i, h1, _⟩ := run_typeInfo (P := P) (t := e) w
  have := Lib.run_neq_ptr_same (P := P) w (tp := t) (te := e) ⟨b, 0, none⟩ Und.und h1
  exact ⟨_, by simp only [execOp, ho, e1, e2]; simp [eqGuard, this], .v _⟩
theorem OpP.toUns {x : Operand} {s d T : TypeId} {k n sz bytes : Nat} {z : Value} [Und P s (.pointer T)] [Und P d .unsafePointer] [TyI P T z sz bytes] (ho : o.op = .convert s d x) (hx : ρ x = .tp k T n) (hs : sz ≠ 0) (hn : 0 < n) : OpP P o ρ (.tp k T n) := by
  intro I M w a hop
  have q1 := hop x (by simp [ho, Op.operands])
  rw [hx] at q1
  obtain ⟨b, e1, hI, hT⟩ := q1.tpD
  rw [e1] at q1
  obtain ⟨i, h1, _, h3, _⟩ := run_typeInfo (P := P) (t := T) w
  have := Lib.run_to_unsafe (P := P) w (src := s) (dst := d) ⟨b, 0, none⟩ Und.und Und.und h1 (by rw [h3]; exact hs) hT hn
  exact ⟨_, by simp [execOp, ho, e1, this], q1⟩
theorem OpP.ofUns {x : Operand} {s d T : TypeId} {k n sz bytes : Nat} {z : Value} [Und P s .unsafePointer] [Und P d (.pointer T)] [TyI P T z sz bytes] (ho : o.op = .convert s d x) (hx : ρ x = .tp k T n) (hl : liesAt P P.depth T (n / P.cellsOf T) 0 T 1 = true) : OpP P o ρ (.tp k T n) := by
  intro I M w a hop
  have q1 := hop x (by simp [ho, Op.operands])
  rw [hx] at q1
  obtain ⟨b, e1, hI, hT⟩ := q1.tpD
  rw [e1] at q1
  obtain ⟨i, h1, _, h3, _⟩ := run_typeInfo (P := P) (t := T) w
  have := Lib.run_from_unsafe (P := P) w (src := s) (dst := d) ⟨b, 0, none⟩ Und.und Und.und h1 hT hl
  exact ⟨_, by simp [execOp, ho, e1, this], q1⟩
end
section
variable {P : Program} {n : Nat} {ops : List Oper} {chk : List FP → Bool} {K : State → Prop} {rest : List Oper} {o : Oper} {fr : Fr} {σ : List Res} {acc : List FP}
theorem Run.alT {d t k sz bytes : Nat} {z : Value} {cs : List AV} {σ' : List Res} [TyI P t z sz bytes] (ho : o.dst = some d) (hop : o.op = .alloc t) (hw : wantA ops fr o = some true) (hd : Nat.blt d n = true) (he : Ends σ k) (hz : z.cells.toList.all (·.oneCell') = true) (hc : (zav z).cells = cs) (hσ : PutAt σ k (.box cs) σ')
    (hr : Run P n ops chk K rest ⟨(d, .tp k t z.cells.size) :: fr, σ'⟩ (acc ++ [([], [k])])) : Run P n ops chk K (o :: rest) ⟨fr, σ⟩ acc :=
  .op (ins := []) (outs := [(k, .box cs)]) (v := .tp k t z.cells.size) hw (by rw [ho]; exact hd) (OpS.allocT k hop hz hc) (fun _ h => by cases h) (okU_one hσ).1 (fun k' hk => by
    obtain rfl : k' = k := by simpa [keys] using hk
    exact .inr (Nat.le_of_eq he.spec.symm)) (by rw [ho, (okU_one hσ).2]; exact hr)
end
theorem OpP.noEscape {o : Oper} {ρ : Operand → AV} {x : Operand} {ts : Array TypeId} {k T n : Nat} (ho : o.op = .call { callee := .value (.func 61), args := #[x], argTypes := ts }) (hx : ρ x = .tp k T n) : OpP Tryd.prog o ρ (.tp k T n) := by
  intro I M w a h
  have q1 := h x (by simp [ho, Op.operands, Call.operands])
  rw [hx] at q1
  obtain ⟨b, e1, hI, hT⟩ := q1.tpD
  have e : a.eval (.func 61) = .func (.func 61) #[] #[] := rfl
  rw [e1] at q1
  refine ⟨_, ?_, q1⟩
  have hb := Lib.run_noEscape (P := Tryd.prog) w (.pointer (some ⟨b, 0, none⟩))
  simp [execOp, ho, resolve, e, e1, Deferred.ofValue, invoke]
  rw [run_callFunc_extern Tryd.func61 (by kernel_rfl) (by kernel_rfl) (by kernel_rfl) (e := Extern.AbiNoEscape.same) (by kernel_rfl), hb]
  rfl
instance : Und Tryd.prog 106 .unsafePointer := ⟨by kernel_rfl⟩
abbrev bT : TypeId := 54
set_option maxHeartbeats 4000000 in
theorem copyCheck0_c : ACalls Tryd.prog 46 [.tp 0 bT 2] [.box [.v (.pointer none), .v (.slice none 0 0)]] (.tup []) [.box [.tp 0 bT 2, .v (.slice none 0 0)]] := by
  refine (ACalls.of (fn := Tryd.f46) Tryd.func46 Z Z Tryd.ntmps46 (fun I M w own => ?_))
  (repeat' (first|refine AW.seq_k (fun K hK=>?_)|(refine hK _ ?_;clear hK)|refine AW.uC (fun hc=>?_) (fun hc=>?_)|exact trivial|refine AW.rI [0, 1] Z ?_|refine UB ?_|fail))
  ((first|refine RetOk.tupS [0] Z Z Z Z Z ?_ ?_|refine RetOk.oneS [0] Z Z Z Z ?_ ?_)<;>(repeat' (first|exact V0|refine V1 ?_|refine V2 ?_ ?_|fail)))
set_option maxHeartbeats 4000000 in
theorem copyCheck1_c (l : List UInt8) (m : Nat) : ACalls Tryd.prog 46 [.tp 0 bT 2] [.box [.tp 0 bT 2, .mb 1 0 (some m)], .mby l] (.tup []) [.box [.tp 0 bT 2, .mb 1 0 (some m)], .mby l] := by
  refine (ACalls.of (fn := Tryd.f46) Tryd.func46 Z Z Tryd.ntmps46 (fun I M w own => ?_))
  (repeat' (first|refine AW.seq_k (fun K hK=>?_)|(refine hK _ ?_;clear hK)|refine AW.uC (fun hc=>?_) (fun hc=>?_)|refine AW.skip ?_|exact trivial|refine AW.rI [0, 2] Z ?_|refine UB ?_|fail))
  ((first|refine RetOk.tupS [0, 1] Z Z Z Z Z ?_ ?_|refine RetOk.oneS [0, 1] Z Z Z Z ?_ ?_)<;>(repeat' (first|exact V0|refine V1 ?_|refine V2 ?_ ?_|fail)))
  all_goals rfl
set_option maxHeartbeats 4000000 in
theorem writeString0_c (s : List UInt8) (hs : s.length ≤ 100000000000000) : ACalls Tryd.prog 22 [.tp 0 bT 2, .v (.string (bs s))] [.box [.v (.pointer none), .v (.slice none 0 0)]] (.tup [.v (.int .i64 s.length), .v .nilIface]) [.box [.tp 0 bT 2, .mb 1 0 (some s.length)], .mby s] := by
  refine (ACalls.of (fn := Tryd.f22) Tryd.func22 Z Z Tryd.ntmps22 (fun I M w own => ?_))
  (repeat' (first|refine AW.seq_k (fun K hK=>?_)|(refine hK _ ?_;clear hK)|refine AW.ret ?_|refine AW.region ?_|refine Run.cSA [0] copyCheck0_c Z Z Z Z Z Z Z Z Z Z Z Z ?_|refine Ut2B ?_|fail))
  ((first|refine RetOk.tupS [0, 1] Z Z Z Z Z ?_ ?_|refine RetOk.oneS [0, 1] Z Z Z Z ?_ ?_)<;>(repeat' (first|exact V0|refine V1 ?_|refine V2 ?_ ?_|fail)))
  all_goals rfl
set_option maxHeartbeats 4000000 in
theorem writeString1_c (l s : List UInt8) (hl : l.length ≤ 10000000000000) (hs : s.length ≤ 10000000000000) : ACalls Tryd.prog 22 [.tp 0 bT 2, .v (.string (bs s))] [.box [.tp 0 bT 2, .mb 1 0 (some l.length)], .mby l] (.tup [.v (.int .i64 s.length), .v .nilIface]) [.box [.tp 0 bT 2, .mb 2 0 (some (l ++ s).length)], .no, .mby (l ++ s)] := by
  have hC := copyCheck1_c l l.length
  refine (ACalls.of (fn := Tryd.f22) Tryd.func22 Z Z Tryd.ntmps22 (fun I M w own => ?_))
  (repeat' (first|refine AW.seq_k (fun K hK=>?_)|(refine hK _ ?_;clear hK)|refine AW.ret ?_|refine AW.region ?_|refine Run.cSA [0, 1] hC Z Z Z Z Z Z Z Z Z Z Z Z ?_|refine Ut2B ?_|fail))
  ((first|refine RetOk.tupS [0, 1, 2] Z Z Z Z Z ?_ ?_|refine RetOk.oneS [0, 1, 2] Z Z Z Z ?_ ?_)<;>(repeat' (first|exact V0|refine V1 ?_|refine V2 ?_ ?_|fail)))
  all_goals first | rfl | (refine Cv.eq ?_; simp [AV.ren, renL]; done)
set_option maxHeartbeats 4000000 in
theorem builderString_c (l : List UInt8) (h0 : 0 < l.length) (hl : l.length ≤ 100000000000000) : ACalls Tryd.prog 24 [.tp 0 bT 2] [.box [.tp 0 bT 2, .mb 1 0 (some l.length)], .mby l] (.v (.string (bs l))) [.box [.tp 0 bT 2, .mb 1 0 (some l.length)], .no] := by
  refine (ACalls.of (fn := Tryd.f24) Tryd.func24 Z Z Tryd.ntmps24 (fun I M w own => ?_))
  (repeat' (first|refine AW.seq_k (fun K hK=>?_)|(refine hK _ ?_;clear hK)|refine AW.ret ?_|refine AW.draw (id := 1) (by kernel_rfl) ?_|refine AW.region ?_|refine Ut2B ?_|fail))
  ((first|refine RetOk.tupS [0, 1] Z Z Z Z Z ?_ ?_|refine RetOk.oneS [0, 1] Z Z Z Z ?_ ?_)<;>(repeat' (first|exact V0|refine V1 ?_|refine V2 ?_ ?_|fail)))
set_option maxHeartbeats 4000000 in
theorem builderString0_c : ACalls Tryd.prog 24 [.tp 0 bT 2] [.box [.v (.pointer none), .v (.slice none 0 0)]] (.v (.string (bs []))) [.box [.v (.pointer none), .v (.slice none 0 0)]] := by
  refine (ACalls.of (fn := Tryd.f24) Tryd.func24 Z Z Tryd.ntmps24 (fun I M w own => ?_))
  (repeat' (first|refine AW.seq_k (fun K hK=>?_)|(refine hK _ ?_;clear hK)|refine AW.ret ?_|refine AW.draw (id := 1) (by kernel_rfl) ?_|refine AW.region ?_|refine Ut2B ?_|fail))
  ((first|refine RetOk.tupS [0] Z Z Z Z Z ?_ ?_|refine RetOk.oneS [0] Z Z Z Z ?_ ?_)<;>(repeat' (first|exact V0|refine V1 ?_|refine V2 ?_ ?_|fail)))
end Go.Proofs.YtpacgphnpalepaaDoor
