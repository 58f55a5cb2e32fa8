/-
  Walks of the law's sanity check and of JournalAppends.
-/
import Derived.Test.YtbifgoaceolpoaaJourS
import Derived.Test.YtbifgoaceolpoaaJourQ
import Derived.Test.YtbifgoaceolpoaaInts
namespace Go.Proofs.Ytbifgoaceolpoaa
set_option linter.unusedVariables false
set_option linter.unusedSimpArgs false
open Go.ChangeShapes Go.WideShapes Go.ChangeAt Go.RowKit
set_option maxRecDepth 100000 in
set_option maxHeartbeats 1000000 in
theorem sane40_c (w : World) : Calls Try.prog 6 #[] w fun e w' => e = .returned (.bool true) ∧ Below w.heap.size w w' := by
  have h0 := J_inl (r := []) (last := 0) (jone_end rfl)
  obtain ⟨a1, a2, a3, a4, a5⟩ := apM_J (b := []) (x := []) (by rw [h0]) (by simp) (by simp)
  have H := Lib.hid (jAppend_c none none 0 0 0 0 [] [] w (Rd.nil _ _ _ _) (by omega) (by omega) (Rd.nil _ _ _ _) (by omega))
  rw [h0] at a3
  generalize apM [] [] = R at *
  obtain ⟨b, e⟩ := R
  simp only [List.length_nil, List.nil_append] at a1 a2 a3 a4 a5 H
  subst a1
  clear h0
  go_enter Try.func6, Try.ntmps6
  go_wp2_with (first | (at_make; refine Held.out ?_) | (at_builtin; refine Held.out ?_))
  refine H.out.mono ?_
  rintro e w1 ⟨A1, c1, rfl, own1, bel1⟩
  have k1 := own_cap own1
  have r1 := Rd.own own1
  have H2 := Lib.hid (jRead_c A1 c1 b.length b w1 r1 k1 (by omega))
  clear H
  obtain ⟨⟨q1, q2, q4⟩, hQ⟩ : ∃ Q : List (List UInt8) × Nat × Int, ((J b 0).1, (J b 0).2.1, (J b 0).2.2.2) = Q := ⟨_, rfl⟩
  injection hQ with e1 hQ
  injection hQ with e2 e4
  rw [e1, e2, e4] at H2
  rw [e1] at a3
  rw [e2] at a4
  rw [e4] at a5
  subst a3 a4 a5
  clear e1 e2 e4 own1 r1
  rw [a2] at H2 ⊢
  go_wp2_with (first | (at_make; refine Held.out ?_) | (at_builtin; refine Held.out ?_))
  refine H2.out.mono ?_
  rintro e w2 ⟨A2, c2, rfl, vs, own2, each2, bel2⟩
  obtain ⟨b0, o0, rfl⟩ := (Rd.own own2).some_ (by decide)
  obtain ⟨A3, c3, hv, _, _⟩ := each2.toR.2 0 [] rfl
  have cell := (Rd.own own2).cell1 hv
  simp only [Nat.add_zero, List.length_nil] at cell
  clear H2
  have hb := Lib.hid (below_nx bel1 bel1.size bel2)
  clear own2 each2 bel2 bel1
  go_wp2_with (first | (at_make; refine Held.out ?_) | (at_builtin; refine Held.out ?_))
  go_ret
  exact ⟨rfl, hb.out⟩
theorem EachR.nil (w : World) : EachR w [] [] := ⟨rfl, fun i l h => by simp at h⟩
theorem EachR.cons {w : World} {A : Option Addr} {c : Nat} {l : List UInt8} {vs : List Value} {ls : List (List UInt8)} (hc : l.length ≤ c) (h : Rd w w.heap.size 1 A l.length (bv l)) (t : EachR w vs ls) : EachR w (.slice A l.length c :: vs) (l :: ls) :=
  ⟨by simp [t.1], fun i k hk => by
    match i, hk with
    | 0, hk => obtain rfl : l = k := by simpa using hk
               exact ⟨A, c, rfl, hc, h⟩
    | i + 1, hk => exact t.2 i k (by simpa using hk)⟩
set_option maxRecDepth 100000 in
set_option maxHeartbeats 1000000 in
theorem JournalAppends_w (A A' A'' : Option Addr) (c n c' m c'' k : Nat) (l : List Int) (raw rec : List UInt8) (N : Int) (hN : -9223372036854775808 ≤ N ∧ N ≤ 9223372036854775807) (w : World) (hl : Rd w w.heap.size 1 A n (iv l)) (hf : Fits l) (hn : n ≤ maxLen)
    (hr : Rd w w.heap.size 1 A' m (bv raw)) (hmc : m ≤ c') (hx : Rd w w.heap.size 1 A'' k (bv rec)) (hkc : k ≤ c'') (hm0 : m ≤ maxLen) (hk0 : k ≤ maxLen) :
    Calls Try.prog 3 #[.slice A n c, .slice A' m c', .slice A'' k c'', .int .i64 N] w fun e w' => e = .returned (.bool true) ∧ Below w.heap.size w w' := by
  unfold maxLen at hn hm0 hk0
  by_cases hm : 200 < m
  · go_enter Try.func3, Try.ntmps3
    go_wp2_with (first | (at_make; refine Held.out ?_) | (at_builtin; refine Held.out ?_))
    refine (sane40_c w).mono ?_
    rintro e w1 ⟨rfl, bel1⟩
    go_wp2_with (first | (at_make; refine Held.out ?_) | (at_builtin; refine Held.out ?_))
    go_ret
    exact ⟨rfl, bel1⟩
  · by_cases hk : 200 < k
    · go_enter Try.func3, Try.ntmps3
      go_wp2_with (first | (at_make; refine Held.out ?_) | (at_builtin; refine Held.out ?_))
      refine (sane40_c w).mono ?_
      rintro e w1 ⟨rfl, bel1⟩
      go_wp2_with (first | (at_make; refine Held.out ?_) | (at_builtin; refine Held.out ?_))
      go_ret
      exact ⟨rfl, bel1⟩
    · have hm3 := Int.emod_nonneg N (show (3 : Int) ≠ 0 by omega)
      have hm4 := Int.emod_lt_of_pos N (show (0 : Int) < 3 by omega)
      obtain ⟨q, hq⟩ := Int.eq_ofNat_of_zero_le hm3
      have hMod3 := Lib.hid (fun W => Mod_c N 3 W hN (by omega) (by omega))
      rw [hq] at hMod3 hm4
      clear hm3 hq
      have hbl := (madeJ_J l).2.2.2.1
      have HMk := Lib.hid (fun W hr => made40_c A c n l W hr hf (by unfold maxLen; omega))
      generalize madeJ l = M at *
      obtain ⟨out, b⟩ := M
      simp only at hbl HMk
      have HN := Lib.hid hN
      clear hN hf
      go_enter Try.func3, Try.ntmps3
      go_wp2_with (first | (at_make; refine Held.out ?_) | (at_builtin; refine Held.out ?_) | (refine hold_slice ?_))
      refine (sane40_c w).mono ?_
      rintro e w1 ⟨rfl, bel1⟩
      go_wp2_with (first | (at_make; refine Held.out ?_) | (at_builtin; refine Held.out ?_) | (refine hold_slice ?_))
      refine (HMk.out w1 (hl.nx bel1)).mono ?_
      rintro e w2 ⟨A1, c1, A2, c2, rfl, ⟨_, _, _, bel2⟩, ⟨own2, _⟩⟩
      have rb := Rd.own own2
      have kb := own_cap own2
      have bel := below_nx bel1 bel1.size bel2
      clear HMk bel1 bel2 own2 hl
      go_wp2_with (first | (at_make; refine Held.out ?_) | (at_builtin; refine Held.out ?_) | (refine hold_slice ?_))
      refine (hMod3.out _).mono ?_
      rintro e w3 ⟨rfl, rfl⟩
      clear hMod3
      go_wp2_with (first | (at_make; refine Held.out ?_) | (at_builtin; refine Held.out ?_) | (refine hold_slice ?_))
      refine ⟨?_⟩
      refine wpList_mkf _ rfl _ _ _ rfl sl8 (Below.refl w2.heap.size w2) (4095 + q) rfl rfl (by omega) (by omega) (by omega) (by simp only [maxLen]; omega) (Nat.le_refl _) ?_
      intro A3 w3 own3 bel3 sz3
      rw [bv_zeros] at own3
      have rlong := Rd.own own3
      generalize List.replicate (4095 + q) (0 : UInt8) = long at *
      have hmb0 := Int.emod_nonneg N (show (b.length : Int) + 1 ≠ 0 by omega)
      have hmb1 := Int.emod_lt_of_pos N (show (0 : Int) < (b.length : Int) + 1 by omega)
      obtain ⟨r, hr_⟩ := Int.eq_ofNat_of_zero_le hmb0
      have hMod := Lib.hid (fun W => Mod_c N ((b.length : Int) + 1) W HN.out (by omega) (by omega))
      rw [hr_] at hMod hmb1
      clear hmb0 hr_ own3
      have rb := rb.nx bel3
      have bel := below_nx bel bel.size bel3
      clear bel3 sz3
      go_wp2_with (first | (at_make; refine Held.out ?_) | (at_builtin; refine Held.out ?_) | (refine hold_slice ?_))
      refine (hMod.out _).mono ?_
      rintro e w4 ⟨rfl, rfl⟩
      clear hMod
      go_wp2_with (first | (at_make; refine Held.out ?_) | (at_builtin; refine Held.out ?_) | (refine hold_slice ?_))
      refine ⟨?_⟩
      refine wpList_cutb _ rfl _ _ _ _ rfl sl8 rfl rb kb 0 r r (.inr ⟨rfl, rfl⟩) (.inl ⟨_, rfl, by omega⟩) (by omega) (by omega) ?_
      intro A4 rcut kcut
      rw [Nat.sub_zero] at kcut ⊢
      have hcl := rcut.blen
      have eR := EachR.cons (c := c2) kb rb (EachR.cons (l := raw) (c := c') (by rw [hr.blen]; exact hmc) (by rw [hr.blen]; exact (hr.below bel).more bel.size) (EachR.cons (l := seg b 0 r) (c := c2 - 0) (by rw [hcl]; exact kcut) (by rw [hcl]; exact rcut) (EachR.nil _)))
      rw [hcl, hr.blen] at eR
      have hall : ∀ x ∈ [b, raw, seg b 0 r], x.length ≤ 200 := by
        intro x hx
        simp only [List.mem_cons, List.not_mem_nil, or_false] at hx
        rcases hx with rfl | rfl | rfl
        · omega
        · rw [hr.blen]; omega
        · rw [hcl]; omega
      have hlen : ([b, raw, seg b 0 r] : List (List UInt8)).length = 3 := rfl
      have hxl := hx.blen
      have hll := rlong.blen
      have hxb := (hx.below bel).more bel.size
      clear rb rcut hr hx
      generalize [b, raw, seg b 0 r] = XS at *
      go_wp2_with (first | (at_make; refine Held.out ?_) | (at_builtin; refine Held.out ?_) | (refine hold_slice ?_))
      have rv : Rd (w3.alloc (.cells #[Value.slice A2 b.length c2, .slice A' m c', .slice A4 r c2] 23)) (w3.alloc (.cells #[Value.slice A2 b.length c2, .slice A' m c', .slice A4 r c2] 23)).heap.size 1 (some ⟨w3.heap.size, 0, none⟩) 3 [Value.slice A2 b.length c2, .slice A' m c', .slice A4 r c2] := Rd.litS w3 _ _ 3 1 rfl
      have bal := below_alloc w3 (.cells #[Value.slice A2 b.length c2, .slice A' m c', .slice A4 r c2] 23)
      generalize w3.alloc (.cells #[Value.slice A2 b.length c2, .slice A' m c', .slice A4 r c2] 23) = wB at *
      have eB := eR.nx bal
      have rlB := rlong.nx bal
      have rxB := hxb.nx bal
      have belB := below_nx bel bel.size bal
      clear eR rlong hxb bel
      generalize w3.heap.size = g0 at *
      generalize [Value.slice A2 b.length c2, .slice A' m c', .slice A4 r c2] = vs at *
      clear bal HN
      go_loopw [50] (fun iv_ wr => ∃ i : Nat, i ≤ 3 ∧ iv_ = .int .i64 i ∧ Below wB.heap.size wB wr) (fun iv_ _ => 3 - (intOf iv_).toNat)
      case atStart => exact ⟨0, by omega, rfl, Below.refl _ _⟩
      case round =>
        obtain ⟨i, hi, rfl, be⟩ := hrel
        by_cases hi3 : i < 3
        · have hd3 : decide ((i : Int) < 3) = true := by simp; omega
          have hi' : i < XS.length := by omega
          obtain ⟨A5, c5, hv5, hc5, hr5⟩ := eB.2 i XS[i] (by simp [hi'])
          have hx5 := hall XS[i] (List.getElem_mem _)
          have cell := ((rv.below be).more be.size).cell1 hv5
          rw [Nat.zero_add] at cell
          have hr5 := (hr5.below be).more be.size
          have rl := (rlB.below be).more be.size
          have rx := (rxB.below be).more be.size
          generalize XS[i] = x at *
          generalize hx5l : x.length = x5 at *
          clear hv5 hi'
          have eY := EachR.cons (l := rec) (c := c'') (by rw [hxl]; exact hkc) (by rw [hxl]; exact rx) (EachR.cons (l := long) (c := 4095 + q) (by rw [hll]; exact Nat.le_refl _) (by rw [hll]; exact rl) (EachR.nil _))
          rw [hxl, hll] at eY
          have hlenY : ([rec, long] : List (List UInt8)).length = 2 := rfl
          have hallY : ∀ y ∈ ([rec, long] : List (List UInt8)), y.length ≤ 5000 := by
            intro y hy
            simp only [List.mem_cons, List.not_mem_nil, or_false] at hy
            rcases hy with rfl | rfl <;> omega
          generalize [rec, long] = YS at *
          clear rl rx
          go_wp2_with (first | (at_make; refine Held.out ?_) | (at_builtin; refine Held.out ?_) | (refine hold_slice ?_) | (refine hold_conv (s := 23) (t := 9) ?_))
          have rvY : Rd (wr.alloc (.cells #[Value.slice A'' k c'', .slice A3 (4095 + q) (4095 + q)] 23)) (wr.alloc (.cells #[Value.slice A'' k c'', .slice A3 (4095 + q) (4095 + q)] 23)).heap.size 1 (some ⟨wr.heap.size, 0, none⟩) 2 [Value.slice A'' k c'', .slice A3 (4095 + q) (4095 + q)] := Rd.litS wr _ _ 2 1 rfl
          have bal := below_alloc wr (.cells #[Value.slice A'' k c'', .slice A3 (4095 + q) (4095 + q)] 23)
          generalize wr.alloc (.cells #[Value.slice A'' k c'', .slice A3 (4095 + q) (4095 + q)] 23) = wI at *
          have eI := eY.nx bal
          have rxI := hr5.nx bal
          have beI := below_nx be be.size bal
          clear eY hr5 be
          generalize wr.heap.size = g1 at *
          generalize [Value.slice A'' k c'', .slice A3 (4095 + q) (4095 + q)] = us at *
          clear bal
          go_loopw [58] (fun jv_ wj => ∃ j : Nat, j ≤ 2 ∧ jv_ = .int .i64 j ∧ Below wI.heap.size wI wj) (fun jv_ _ => 2 - (intOf jv_).toNat)
          case atStart => exact ⟨0, by omega, rfl, Below.refl _ _⟩
          case round =>
            obtain ⟨j, hj, rfl, bj⟩ := hrel
            by_cases hj2 : j < 2
            · have hd2 : decide ((j : Int) < 2) = true := by simp; omega
              have hj' : j < YS.length := by omega
              obtain ⟨A6, c6, hv6, hc6, hr6⟩ := eI.2 j YS[j] (by simp [hj'])
              have hy6 := hallY YS[j] (List.getElem_mem _)
              have cell6 := ((rvY.below bj).more bj.size).cell1 hv6
              rw [Nat.zero_add] at cell6
              have hr6 := (hr6.below bj).more bj.size
              have rx6 := (rxI.below bj).more bj.size
              generalize YS[j] = y at *
              generalize hy6l : y.length = y6 at *
              clear hv6 hj' hall hallY eB rv eI rvY
              have HA := Lib.hid (fun W h1 h2 => jAppend_c A5 A6 c5 x5 c6 y6 x y W h1 hc5 (by omega) h2 (by omega))
              have HB := Lib.hid (fun W h1 h2 => rAppend_c A5 A6 c5 x5 c6 y6 x y W h1 hc5 (by omega) h2 (by omega))
              generalize apM x y = R at *
              obtain ⟨p, e0⟩ := R
              simp only at HA HB
              have hee : (e0 != e0) = false := by simp
              go_wp2_with (first | (at_make; refine Held.out ?_) | (at_builtin; refine Held.out ?_) | (refine hold_slice ?_) | (refine hold_conv (s := 23) (t := 9) ?_))
              refine (HA.out _ rx6 hr6).mono ?_
              rintro e w5 ⟨A7, c7, rfl, own7, bel7⟩
              have r7 := Rd.own own7
              have rx7 := rx6.nx bel7
              have hr7 := hr6.nx bel7
              go_wp2_with (first | (at_make; refine Held.out ?_) | (at_builtin; refine Held.out ?_) | (refine hold_slice ?_) | (refine hold_conv (s := 23) (t := 9) ?_))
              refine (HB.out _ rx7 hr7).mono ?_
              rintro e w6 ⟨A8, c8, rfl, own8, bel8⟩
              have r8 := Rd.own own8
              have r78 := r7.nx bel8
              go_wp2_with (first | (at_make; refine Held.out ?_) | (at_builtin; refine Held.out ?_) | (refine hold_slice ?_) | (refine hold_conv (s := 23) (t := 9) ?_))
              refine ⟨?_⟩
              refine wpList_b2s _ rfl _ _ _ _ rfl Try.underlying23 u8str Try.underlying9 rfl r78 ?_
              go_wp2_with (first | (at_make; refine Held.out ?_) | (at_builtin; refine Held.out ?_) | (refine hold_slice ?_) | (refine hold_conv (s := 23) (t := 9) ?_))
              refine ⟨?_⟩
              refine wpList_b2s _ rfl _ _ _ _ rfl Try.underlying23 u8str Try.underlying9 rfl r8 ?_
              have bj8 := below_nx (below_nx bj bj.size bel7) (Nat.le_trans bj.size bel7.size) bel8
              go_wp2_with (first | (at_make; refine Held.out ?_) | (at_builtin; refine Held.out ?_) | (refine hold_slice ?_) | (refine hold_conv (s := 23) (t := 9) ?_))
              go_roundw
              case rel => exact ⟨j + 1, by omega, by go_num, bj8⟩
              case measure => simp [intOf]; omega
            · go_wp2_with (first | (at_make; refine Held.out ?_) | (at_builtin; refine Held.out ?_) | (refine hold_slice ?_) | (refine hold_conv (s := 23) (t := 9) ?_))
              exact ⟨⟨i + 1, by omega, by go_num, below_nx beI beI.size bj⟩, by simp [intOf]; omega⟩
        · go_wp2_with (first | (at_make; refine Held.out ?_) | (at_builtin; refine Held.out ?_) | (refine hold_slice ?_) | (refine hold_conv (s := 23) (t := 9) ?_))
          go_ret
          exact ⟨rfl, below_nx belB belB.size be⟩
end Go.Proofs.Ytbifgoaceolpoaa
