/-
  Records of the dice are proper; the law SessionRecords.
-/
import Derived.Test.YtbbcokckealagaaGreatSsX
import Derived.Test.YtbbcokckealagaaGreatSsP
import Derived.Test.YtbbcokckealagaaGreatQAA
import Derived.Test.YtbbcokckealagaaGreatQEA
namespace Go.Proofs.YtbbcokckealagaaGreat
set_option linter.unusedVariables false
set_option linter.unusedSimpArgs false
theorem setGo_bnd (l : List Int) : ∀ (k : Nat) (id : Int) (a : Nat), 1 ≤ id → ∀ x ∈ (setGo l k id a).1, 1 ≤ x ∧ x < id + (k : Int)
  | 0, id, a, h, x, hx => by rw [setGo] at hx; cases hx
  | k + 1, id, a, h, x, hx => by
    have ih := setGo_bnd l k (id + 1) (dkA l a) (by omega)
    simp only [setGo] at hx
    split at hx
    · rcases List.mem_cons.1 hx with rfl | hx
      · omega
      · have := ih x hx; omega
    · have := ih x hx; omega
theorem setP_bnd (l : List Int) (a : Nat) : ∀ x ∈ (setP l a).1, 1 ≤ x ∧ x ≤ 7 := by
  intro x hx
  rw [setP] at hx
  split at hx
  · obtain rfl := List.mem_singleton.1 hx; decide
  · have := setGo_bnd l 6 1 a (by decide) x hx; omega
theorem lastD_bnd {P : Int → Prop} (h0 : P 0) : ∀ (l : List Int), (∀ x ∈ l, P x) → P (l.getLastD 0) := by
  intro l h
  cases hl : l with
  | nil => exact h0
  | cons x t =>
    rw [← hl]
    have hne : l ≠ [] := by rw [hl]; simp
    rw [List.getLastD_eq_getLast?, List.getLast?_eq_some_getLast hne]
    exact h _ (List.getLast_mem hne)
theorem getD_bnd {P : Int → Prop} (h0 : P 0) (l : List Int) (n : Nat) (h : ∀ x ∈ l, P x) : P (l.getD n 0) := by
  rw [List.getD_eq_getElem?_getD]
  cases e : l[n]? with
  | none => exact h0
  | some x => exact h x (List.mem_of_getElem? e)
theorem role_name {v : Int} (h : 0 ≤ v ∧ v < 4) : nameB (roleAt v) = true := by
  obtain ⟨n, rfl⟩ : ∃ n : Nat, v = (n : Int) := ⟨v.toNat, by omega⟩
  rcases n with _ | _ | _ | _ | n
  · decide
  · decide
  · decide
  · decide
  · omega
theorem recTx_rules {n : Nat} (h : n < 3) : okR (recTx n) = true := by
  rcases n with _ | _ | _ | n
  · decide +kernel
  · decide +kernel
  · decide +kernel
  · omega
set_option maxHeartbeats 1000000 in
theorem recP_proper (l : List Int) (a : Nat) (ha : a ≤ l.length) : properR okR (recP l a).1 = true ∧ Rwf (recP l a).1 := by
  have hk := dkN_rng l a 9 (by decide)
  rw [recP]
  have b1 := dkA_le ha
  generalize dkA l a = a1 at b1
  have hid := dkN_rng l a1 5 (by decide)
  have hkm := kindAt_mem (n := (dkN l a 9).toNat) (by omega)
  generalize kindAt (dkN l a 9).toNat = k at hkm
  rcases hkm with rfl | rfl | rfl | rfl | rfl | rfl | rfl
  · have h1 := role_name (dkN_rng l (dkA l a1) 4 (by decide))
    have h2 := dkN_rng l (dkA l (dkA l a1)) 2 (by decide)
    have h3 := dkN_rng l (dkA l (dkA l (dkA l a1))) 8 (by decide)
    have h4 := dkN_rng l (dkA l (dkA l (dkA l (dkA l a1)))) 1000 (by decide)
    simp only [recB, if_true, properR, aloneP, h1, Bool.and_eq_true, decide_eq_true_eq]
    exact ⟨⟨trivial, by omega, trivial, by omega, by omega, by omega, by omega⟩, by simp [Rwf]⟩
  · simp only [recB, Int.reduceEq, if_true, if_false, properR, aloneP, or_self, Bool.and_eq_true, decide_eq_true_eq]
    exact ⟨⟨trivial, by omega⟩, by simp [Rwf]⟩
  · have h1 := dkN_rng l (dkA l a1) 101 (by decide)
    simp only [recB, Int.reduceEq, if_true, if_false, properR, aloneP, true_or, Bool.and_eq_true, decide_eq_true_eq]
    exact ⟨⟨trivial, by omega, by omega⟩, by simp [Rwf]⟩
  · have h1 := dkN_rng l (dkA l a1) 2 (by decide)
    simp only [recB, Int.reduceEq, if_true, if_false, properR, aloneP, or_true, Bool.and_eq_true, decide_eq_true_eq]
    exact ⟨⟨trivial, by omega, by omega⟩, by simp [Rwf]⟩
  · have h1 := dkN_rng l (dkA l a1) 4 (by decide)
    simp only [recB, Int.reduceEq, if_true, if_false, properR, aloneP, or_self, Bool.and_eq_true, decide_eq_true_eq]
    exact ⟨⟨trivial, by omega, by omega⟩, ⟨by simp only; omega, by simp only; omega⟩, by simp⟩
  · obtain ⟨c1, c2, c3⟩ := choiceP_ok l a1 b1
    have hb : ∀ x ∈ (choiceP l a1).1.set, 1 ≤ x ∧ x ≤ 7 := setP_bnd l (dkA l a1)
    have hd : 0 ≤ (choiceP l a1).1.dev ∧ (choiceP l a1).1.dev ≤ 7 := by
      have := getD_bnd (P := fun x => 0 ≤ x ∧ x ≤ 7) (by decide) (setP l (dkA l a1)).1 (dkN l (setP l (dkA l a1)).2 ((setP l (dkA l a1)).1.length : Int)).toNat (fun x hx => by have := setP_bnd l (dkA l a1) x hx; omega)
      exact this
    have hl := lastD_bnd (P := fun x => x ≤ 7) (by decide) (choiceP l a1).1.set (fun x hx => (hb x hx).2)
    simp only [recB, Int.reduceEq, if_true, if_false, properR, aloneP, or_self, Bool.and_eq_true, decide_eq_true_eq]
    exact ⟨⟨trivial, c1, by omega⟩, ⟨by simp only; omega, by simp only; omega⟩, fun x hx => by have := hb x hx; omega⟩
  · have h1 := dkN_rng l a1 3 (by decide)
    have h2 := recTx_rules (n := (dkN l a1 3).toNat) (by omega)
    have h3 := recTx_len (dkN l a1 3).toNat
    simp only [recB, Int.reduceEq, if_true, if_false, properR, aloneP, or_self, Bool.and_eq_true, decide_eq_true_eq]
    exact ⟨⟨trivial, by omega, h2⟩, by simp [Rwf]⟩
theorem badP_wf {r : Rc} {w : Int} (h : Rwf r) : Rwf (badP r w) := by
  obtain ⟨h1, h2⟩ := h
  rw [badP]
  (repeat' split)
  all_goals first
    | exact ⟨h1, h2⟩
    | (refine ⟨h1, fun x hx => ?_⟩
       rcases List.mem_cons.1 hx with rfl | hx
       · decide
       · exact h2 x hx)
    | (refine ⟨?_, h2⟩
       simp only [IntKind.wrap, IntKind.signed, IntKind.bits, Bool.false_and, Bool.false_eq_true, if_false]
       omega)
abbrev llP (L : List (List UInt8)) : List (List PV) := L.map fun p => [PV.sl 1 (bsP p)]
theorem encR_len {r : Rc} (h : Fine r) : 0 < (encR r).length ∧ (encR r).length ≤ 1000000 := by
  obtain ⟨f1, f2, f3, f4, f5, f6, f7, f8, f9, f10, f11, f12⟩ := h
  rw [encR]
  simp only [List.length_append, putT_length, le_length, encSet_len, List.length_nil]
  omega
theorem decM_len {b : List UInt8} {r : Rc} (hb : b.length ≤ 1000000000) (h : decM b = some r) : r.set.length ≤ 9223372036854775807 := by
  rw [decM] at h
  split at h
  · cases h
  · obtain rfl := Option.some.inj h
    exact (recM_ok b hb).1.2.1
set_option maxHeartbeats 4000000 in
theorem SessionRecords_c (l : List Int) (fl : Bool) (hl : Fits l) (raw : Rc) (hro : raw.ok) (hrw : Rwf raw) (b : List UInt8) (fb : Bool) (v0 : Int) (hw : -9223372036854775808 ≤ v0 ∧ v0 ≤ 9223372036854775807) :
    ACalls Tryz.prog 4 [.sl 1 (ivs l) fl, .agg raw.cells, bsl b fb, .v (.int .i64 v0)] [] (.v (.bool true)) [] := by
  obtain ⟨bb, hb, hsm⟩ := small_c raw
  have hbl : (bsP b).length = b.length := by simp
  refine (ACalls.of (fn := Tryz.f4) Tryz.func4 O O Tryz.ntmps4 (fun I M w own => ?_))
  cases bb with
  | false =>
    (repeat' (first|refine AW.seq_k (fun K hK=>?_)|(refine hK _ ?_;clear hK)|refine AW.uC (fun hc=>?_) (fun hc=>?_)|refine AW.ret ?_|refine AW.skip ?_|exact trivial|refine AW.rI [0, 1, 3, 4] O ?_|refine Run.c0 sane_c O O O O O O O O ?_|refine Run.c0 hsm O O O O O O O O ?_|refine Ud ?_|fail))
    ((first|refine RetOk.tup O O ?_|refine RetOk.one O ?_)<;>(repeat' (first|exact V0|refine V1 ?_|refine V2 ?_ ?_|fail)))
  | true =>
  obtain ⟨q1, q2, q3⟩ := hb O
  clear hb
  by_cases hlen : ((bsP b).length : Int) > 300
  · (repeat' (first|refine AW.seq_k (fun K hK=>?_)|(refine hK _ ?_;clear hK)|refine AW.uC (fun hc=>?_) (fun hc=>?_)|refine AW.ret ?_|refine AW.skip ?_|exact trivial|refine AW.rI [0, 1, 3, 4] O ?_|refine Run.c0 sane_c O O O O O O O O ?_|refine Run.c0 hsm O O O O O O O O ?_|refine Ud ?_|fail))
    ((first|refine RetOk.tup O O ?_|refine RetOk.one O ?_)<;>(repeat' (first|exact V0|refine V1 ?_|refine V2 ?_ ?_|fail)))
  have hNl := New_c l fl
  have hR1 := Record_c l hl 0 (Nat.zero_le _)
  obtain ⟨g1, g2, g3⟩ := recP_ok l 0 (Nat.zero_le _)
  have g4 := recP_set l 0 (Nat.zero_le _)
  obtain ⟨g5, g6⟩ := recP_proper l 0 (Nat.zero_le _)
  generalize recP l 0 = q at hR1 g1 g2 g3 g4 g5 g6
  obtain ⟨r, a0⟩ := q
  simp only at hR1 g1 g2 g3 g4 g5 g6
  have hBd := bad_c r v0 hw g4
  obtain ⟨c1, c2⟩ := badP_ok (w := v0) g1 g2 g4
  have c3 := badP_wf (w := v0) g6
  generalize badP r v0 = r2 at hBd c1 c2 c3
  (repeat' (first|refine AW.seq_k (fun K hK=>?_)|(refine hK _ ?_;clear hK)|refine AW.uC (fun hc=>?_) (fun hc=>?_)|refine AW.block ?_|refine AW.skip ?_|exact trivial|refine AW.draw (id := 6) (by kernel_rfl) ?_|refine AW.rI [0, 1, 3, 5] O ?_|refine Run.c0 sane_c O O O O O O O O ?_|refine Run.c0 hsm O O O O O O O O ?_|refine Run.cSA [] hNl O O O O O O O O O O O O ?_|refine Run.cSA [1] hR1 O O O O O O O O O O O O ?_|refine Run.c0 hBd O O O O O O O O ?_|refine Ud ?_|fail))
  obtain ⟨R3, hR3, hR3l, hR3o, hR3t, hR3w⟩ : ∃ R3 : List Rc, R3 = [r, r2, raw] ∧ R3.length = 3 ∧ (∀ x ∈ R3, x.ok) ∧ (∀ x ∈ R3, x.text.length ≤ 1000) ∧ ∀ x ∈ R3, Rwf x := by
    refine ⟨_, rfl, rfl, ?_, ?_, ?_⟩
    all_goals
      intro x hx
      simp only [List.mem_cons, List.not_mem_nil, or_false] at hx
      rcases hx with rfl | rfl | rfl
      all_goals first | assumption | omega
  have hRl : (rcs R3).length = 3 := by simp [hR3l]
  refine AW.loopF (X := Nat) (fun y => ⟨[(2, bsl b fb), (3, .v (.int .i64 v0)), (9, .ptr 0 0), (43, .sl 11 (rcs R3) true), (44, .v (.int .i64 3)), (45, .v (.int .i64 (y : Int)))], [.box r.cells]⟩)
    (fun y => y ≤ 3) (fun y => 3 - y) 0 ?_ (Nat.zero_le _) ?_
  · refine Conv.mk [2] O O O ?_ O ?_
    · (repeat' (first|exact V0|refine V3 ?_|refine V2 ?_ ?_|fail))
      all_goals first | rfl | (rw [hR3]; exact Cv.refl)
    · (repeat' (first|exact V0|refine V3 ?_|refine V2 ?_ ?_|fail))
  intro i i1
  rcases Nat.lt_or_ge i 3 with h | h
  · have hlt : (i : Int) < 3 := by omega
    obtain ⟨x, hx⟩ : ∃ x, R3[i]? = some x := ⟨R3[i]'(by omega), by simp [show i < R3.length by omega]⟩
    have hA : At (rcs R3) (i : Int) x.pv := At.mk i O (by simp [hx])
    have hxm := List.mem_of_getElem? hx
    have xo := hR3o x hxm
    have xt := hR3t x hxm
    have xw := hR3w x hxm
    have h1 := sEncode_c x xo xw (by omega)
    have h2 := rEncode_c x xo xw (by omega)
    have hp1 := sProper_c okR x xo (ps_prog x (by omega))
    have hp2 := qProper_c okR x xo (ps_ref x (by omega))
    rw [encE] at h1 h2
    cases hq : properR okR x with
    | true =>
      rw [hq, if_pos O] at h1 h2
      rw [hq] at hp1 hp2
      generalize encR x = E1 at h1 h2
      have d1 : ¬ ((0 : Int) ≠ 0) := fun h => h O
      have d2 : ¬ (E1 ≠ E1) := fun h => h O
      (repeat' (first|refine AW.seq_k (fun K hK=>?_)|(refine hK _ ?_;clear hK)|refine AW.uC (fun hc=>?_) (fun hc=>?_)|refine AW.block ?_|refine AW.skip ?_|exact trivial|refine AW.draw (id := 11) (by kernel_rfl) ?_|refine AW.rI [7, 8, 9, 10, 13] O ?_|refine Run.c0 h1 O O O O O O O O ?_|refine Run.c0 h2 O O O O O O O O ?_|refine Run.c0 hp1 O O O O O O O O ?_|refine Run.c0 hp2 O O O O O O O O ?_|refine Ud ?_|fail))
      ((repeat (with_reducible refine inB_n ?_)); refine thenA_n ?_)
      refine ⟨i + 1, h, by omega, ?_⟩
      refine Conv.mk [0] O O O ?_ O ?_
      · (repeat' (first|exact V0|refine V3 ?_|refine V2 ?_ ?_|fail))
        all_goals first | rfl | (refine Cv.eq ?_; simp [AV.ren, renL]; done)
      · (repeat' (first|exact V0|refine V3 ?_|refine V2 ?_ ?_|fail))
    | false =>
      rw [hq, if_neg (by decide)] at h1 h2
      rw [hq] at hp1 hp2
      have d1 : ¬ ((1 : Int) ≠ 1) := fun h => h O
      have d2 : ¬ (([] : List UInt8) ≠ []) := fun h => h O
      (repeat' (first|refine AW.seq_k (fun K hK=>?_)|(refine hK _ ?_;clear hK)|refine AW.uC (fun hc=>?_) (fun hc=>?_)|refine AW.block ?_|refine AW.skip ?_|exact trivial|refine AW.draw (id := 11) (by kernel_rfl) ?_|refine AW.rI [7, 8, 9, 10, 13] O ?_|refine Run.c0 h1 O O O O O O O O ?_|refine Run.c0 h2 O O O O O O O O ?_|refine Run.c0 hp1 O O O O O O O O ?_|refine Run.c0 hp2 O O O O O O O O ?_|refine Ud ?_|fail))
      ((repeat (with_reducible refine inB_n ?_)); refine thenA_n ?_)
      refine ⟨i + 1, h, by omega, ?_⟩
      refine Conv.mk [0] O O O ?_ O ?_
      · (repeat' (first|exact V0|refine V3 ?_|refine V2 ?_ ?_|fail))
        all_goals first | rfl | (refine Cv.eq ?_; simp [AV.ren, renL]; done)
      · (repeat' (first|exact V0|refine V3 ?_|refine V2 ?_ ?_|fail))
  · have hge : ¬ (i : Int) < 3 := by omega
    have hE := rEncode_c r g1 g6 (by omega)
    have hn := encR_len (proper_fine g5 g6)
    rw [encE, if_pos g5] at hE
    generalize encR r = E at hE hn
    obtain ⟨n0, n1⟩ := hn
    have hel : (bsP E).length = E.length := by simp
    have hM := Mod_c v0 (E.length : Int) hw (by omega)
    have hm : 0 ≤ v0 % (E.length : Int) ∧ v0 % (E.length : Int) < (E.length : Int) := ⟨Int.emod_nonneg _ (by omega), Int.emod_lt_of_pos _ (by omega)⟩
    (repeat' (first|refine AW.seq_k (fun K hK=>?_)|(refine hK _ ?_;clear hK)|refine AW.uC (fun hc=>?_) (fun hc=>?_)|refine AW.exit ?_|(clear hK;refine hK _ ?_;clear hK)|exact trivial|refine AW.rI [7, 14] O ?_|refine Run.c0 hE O O O O O O O O ?_|refine Ud ?_|fail))
    (repeat' (first|refine AW.seq_k (fun K hK=>?_)|(refine hK _ ?_;clear hK)|refine rG 15 ?_|refine Run.apBS (fun _=>rfl) O O O O (Or.inl ⟨_, rfl⟩) O O (Or.inl O) (SrcNI.dat Dat.sl) (m := E.length) (by simp) (by omega) (by omega) (by simp [maxLen];omega) O (by simp [keys]) (fun dd=>?_)|refine UA ?_|fail))
    refine AW.conv (s' := ⟨[(2, bsl b fb), (3, .v (.int .i64 v0)), (16, bsl E false), (18, .bsl 0 1 0 E.length (E.length + dd))], [.box (bxs (bsP E ++ List.replicate dd [PV.v (.int .u8 0)]))]⟩) (Conv.mk [1] O O O ?_ O ?_) ?_
    · (repeat' (first|exact V0|refine V3 ?_|refine V2 ?_ ?_|fail))
    · refine Crs.cons (Cr.bxs ?_) (bxs_lt' _ _) Crs.nil
      rfl
    have hz1 : ∀ y ∈ bsP E ++ List.replicate dd [PV.v (.int .u8 0)], y.length = 1 := by
      intro y hy
      simp only [List.mem_append, List.mem_map, List.mem_replicate] at hy
      rcases hy with ⟨_, _, rfl⟩ | ⟨_, rfl⟩ <;> rfl
    obtain ⟨y, hy⟩ : ∃ y, E[(v0 % (E.length : Int)).toNat]? = some y := ⟨E[(v0 % (E.length : Int)).toNat]'(by omega), by simp [show (v0 % (E.length : Int)).toNat < E.length by omega]⟩
    have hG : (bxs (bsP E ++ List.replicate dd [PV.v (.int .u8 0)]))[0 * 1 + (v0 % (E.length : Int)).toNat * 1]? = some (AV.v (.int .u8 (y.toNat : Int))) :=
      bxs_get (PV.v (.int .u8 (y.toNat : Int))) _ _ hz1 (by rw [List.getElem?_append_left (by rw [hel]; omega)]; simp [hy])
    have hO : Over (bxs (bsP E ++ List.replicate dd [PV.v (.int .u8 0)])) (0 * 1 + (v0 % (E.length : Int)).toNat * 1) [.v (.int .u8 (IntKind.u8.wrap ((y.toNat : Int) + 1)))] (bxs ((bsP E ++ List.replicate dd [PV.v (.int .u8 0)]).set (v0 % (E.length : Int)).toNat [PV.v (.int .u8 (IntKind.u8.wrap ((y.toNat : Int) + 1)))])) :=
      bxs_put (PV.v (.int .u8 (IntKind.u8.wrap ((y.toNat : Int) + 1)))) _ _ hz1 (by rw [List.length_append, hel]; omega)
    have hv : IntKind.u8.wrap ((y.toNat : Int) + 1) = ((y + 1).toNat : Int) := by
      simp only [IntKind.wrap, IntKind.signed, IntKind.bits, Bool.false_and, Bool.false_eq_true, if_false, UInt8.toNat_add]
      have : (1 : UInt8).toNat = 1 := rfl
      omega
    have hset : (bsP E ++ List.replicate dd [PV.v (.int .u8 0)]).set (v0 % (E.length : Int)).toNat [PV.v (.int .u8 (IntKind.u8.wrap ((y.toNat : Int) + 1)))] = bsP (E.set (v0 % (E.length : Int)).toNat (y + 1)) ++ List.replicate dd [PV.v (.int .u8 0)] := by
      rw [List.set_append_left _ _ (by rw [hel]; omega), hv]
      simp [List.map_set]
    have hcl : (E.set (v0 % (E.length : Int)).toNat (y + 1)).length = E.length := List.length_set
    generalize (bsP E ++ List.replicate dd [PV.v (.int .u8 0)]).set (v0 % (E.length : Int)).toNat [PV.v (.int .u8 (IntKind.u8.wrap ((y.toNat : Int) + 1)))] = Y at hO hset
    generalize E.set (v0 % (E.length : Int)).toNat (y + 1) = c at hset hcl
    (repeat' (first|refine AW.seq_k (fun K hK=>?_)|(refine hK _ ?_;clear hK)|refine rG 16 ?_|refine Run.c0 hM O O O O O O O O ?_|refine UA ?_|fail))
    refine AW.conv (s' := ⟨[(2, bsl b fb), (3, .v (.int .i64 v0)), (16, bsl E false), (18, .bsl 0 1 0 c.length (c.length + dd))], [.box (bxs (bsP c ++ List.replicate dd [PV.v (.int .u8 0)]))]⟩) (Conv.mk [0] O O O ?_ O ?_) ?_
    · (repeat' (first|exact V0|refine V3 ?_|refine V2 ?_ ?_|fail))
      all_goals first | rfl | (rw [hcl]; exact Cv.refl)
    · exact Crs.cons (Cr.bxs hset) (bxs_lt' _ _) Crs.nil
    refine AW.conv (s' := ⟨[(2, bsl b fb), (3, .v (.int .i64 v0)), (16, bsl E false), (18, bsl c false)], []⟩) ?_ ?_
    · refine Conv.freezeA 0 1 (bsP c) (List.replicate dd [PV.v (.int .u8 0)]) O O (by simp) ?_
      refine Conv.mk [] O O O ?_ O ?_
      (repeat' (first|exact V0|refine V3 ?_|refine V2 ?_ ?_|fail))
    rw [← hel] at hM hm
    generalize v0 % ((bsP E).length : Int) = k at hM hm
    obtain ⟨L, hL⟩ : ∃ L : List (List UInt8), L = [E, b, c, E.take k.toNat, E ++ b] := ⟨_, rfl⟩
    have hLl : L.length = 5 := by rw [hL]; rfl
    have hLb : ∀ x ∈ L, x.length ≤ 1000000000 := by
      rw [hL]; intro x hx
      simp only [List.mem_cons, List.not_mem_nil, or_false] at hx
      rcases hx with rfl | rfl | rfl | rfl | rfl <;> first | omega | (simp; omega)
    (repeat' (first|(refine hK _ ?_;clear hK)|refine AW.block ?_|refine AW.draw (id := 17) (by kernel_rfl) ?_|refine Run.c0 hM O O O O O O O O ?_|refine UA ?_|fail))
    refine AW.loopF (X := Nat) (fun x => ⟨[(108, .sl 1 (llP L) true), (109, .v (.int .i64 5)), (110, .v (.int .i64 (x : Int)))], []⟩)
      (fun x => x ≤ 5) (fun x => 5 - x) 0 ?_ (Nat.zero_le _) ?_
    · refine Conv.mk [] O O O ?_ O ?_
      (repeat' (first|exact V0|refine V3 ?_|refine V2 ?_ ?_|fail))
      (all_goals (try (first|refine CvL.eq ?_|refine Cv.eq ?_)))
      all_goals first | rfl | (rw [hL]; simp [AV.ren, List.map_take, List.map_drop])
    intro j j1
    rcases Nat.lt_or_ge j 5 with h | h
    · have hlt : (j : Int) < 5 := by omega
      have hil : j < L.length := by omega
      have hA : At (llP L) (j : Int) [PV.sl 1 (bsP L[j])] := At.mk j O (by simp [hil])
      have hx := hLb L[j] (List.getElem_mem _)
      generalize L[j] = x at hA hx
      have h1 := sDecode_c x false hx
      have h2 := rDecode_c x false hx
      cases hD : decM x with
      | none =>
        rw [hD] at h1 h2
        have hS := SameRecord_c zeroRc zeroRc (by decide)
        rw [decide_eq_true O] at hS
        have d1 : ¬ ((1 : Int) ≠ 1) := fun h => h O
        (repeat' (first|refine AW.seq_k (fun K hK=>?_)|(refine hK _ ?_;clear hK)|refine AW.uC (fun hc=>?_) (fun hc=>?_)|refine AW.block ?_|refine AW.skip ?_|exact trivial|refine AW.rI [18, 19, 20, 21, 22, 24] O ?_|refine Run.c0 h1 O O O O O O O O ?_|refine Run.c0 h2 O O O O O O O O ?_|refine Run.c0 hS O O O O O O O O ?_|refine Ud ?_|fail))
        ((repeat (with_reducible refine inB_n ?_)); refine thenA_n ?_)
        refine ⟨j + 1, h, by omega, ?_⟩
        refine Conv.mk [] O O O ?_ O ?_
        (repeat' (first|exact V0|refine V3 ?_|refine V2 ?_ ?_|fail))
        (all_goals (try (first|refine CvL.eq ?_|refine Cv.eq ?_)))
        all_goals first | rfl | simp [AV.ren]
      | some u =>
        rw [hD] at h1 h2
        have hS := SameRecord_c u u (decM_len hx hD)
        rw [decide_eq_true O] at hS
        have d1 : ¬ ((0 : Int) ≠ 0) := fun h => h O
        (repeat' (first|refine AW.seq_k (fun K hK=>?_)|(refine hK _ ?_;clear hK)|refine AW.uC (fun hc=>?_) (fun hc=>?_)|refine AW.block ?_|refine AW.skip ?_|exact trivial|refine AW.rI [18, 19, 20, 21, 22, 24] O ?_|refine Run.c0 h1 O O O O O O O O ?_|refine Run.c0 h2 O O O O O O O O ?_|refine Run.c0 hS O O O O O O O O ?_|refine Ud ?_|fail))
        ((repeat (with_reducible refine inB_n ?_)); refine thenA_n ?_)
        refine ⟨j + 1, h, by omega, ?_⟩
        refine Conv.mk [] O O O ?_ O ?_
        (repeat' (first|exact V0|refine V3 ?_|refine V2 ?_ ?_|fail))
        (all_goals (try (first|refine CvL.eq ?_|refine Cv.eq ?_)))
        all_goals first | rfl | simp [AV.ren]
    · have hge : ¬ (j : Int) < 5 := by omega
      (repeat' (first|refine AW.seq_k (fun K hK=>?_)|(refine hK _ ?_;clear hK)|refine AW.uC (fun hc=>?_) (fun hc=>?_)|refine AW.exit ?_|refine AW.ret ?_|(clear hK;refine hK _ ?_;clear hK)|exact trivial|refine AW.rI [18, 25] O ?_|refine Ud ?_|fail))
      ((first|refine RetOk.tup O O ?_|refine RetOk.one O ?_)<;>(repeat' (first|exact V0|refine V1 ?_|refine V2 ?_ ?_|fail)))
end Go.Proofs.YtbbcokckealagaaGreat
