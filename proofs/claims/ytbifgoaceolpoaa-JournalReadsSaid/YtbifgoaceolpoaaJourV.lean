/-
  Walk of the law JournalSurvives.
-/
import Derived.Test.YtbifgoaceolpoaaJourL
namespace Go.Proofs.Ytbifgoaceolpoaa
set_option linter.unusedVariables false
set_option linter.unusedSimpArgs false
open Go.ChangeShapes Go.WideShapes Go.ChangeAt Go.RowKit
theorem surv (out : List (List UInt8)) (b rec : List UInt8) (k : Nat) (h1 : (J b 0).1 = out) (h2 : b.length ≤ 145) (hk : k ≤ b.length) (hr : rec.length ≤ 200) :
    ∃ S m x e nx x2 n2, J (seg b 0 k) 0 = (S, m, x, e) ∧ m ≤ k ∧ S.length ≤ out.length ∧ out.take S.length = S ∧ apM ((seg b 0 k).take m) rec = (nx, 0) ∧ J nx 0 = (S ++ [rec], n2, x2, 0) ∧ nx.length ≤ 400 ∧ (seg b 0 k).take m = b.take m := by
  have hs : seg b 0 k = b.take k := rfl
  rw [hs]
  obtain ⟨⟨S, m, x, e⟩, hJ⟩ : ∃ q, J (b.take k) 0 = q := ⟨_, rfl⟩
  have hm := J_len (b.take k)
  obtain ⟨z, hz⟩ := J_pre _ (b.take k) (b.drop k) 0 (Nat.le_refl _)
  rw [List.take_append_drop, h1] at hz
  have hrep := J_rep _ (b.take k) 0 (Nat.le_refl _)
  rw [hJ] at hm hz hrep
  simp only at hm hz hrep
  rw [List.length_take] at hm
  have hl : ((b.take k).take m).length = m := by rw [List.length_take, List.length_take]; omega
  obtain ⟨a1, a2, a3, a4, a5⟩ := apM_J (b := (b.take k).take m) (x := rec) (by rw [hrep]) (by omega) (by omega)
  rw [hrep] at a3
  obtain ⟨⟨nx, e2⟩, hA⟩ : ∃ q, apM ((b.take k).take m) rec = q := ⟨_, rfl⟩
  rw [hA] at a1 a2 a3 a4 a5
  simp only at a1 a2 a3 a4 a5
  obtain ⟨⟨S2, n2, x2, e3⟩, hJ2⟩ : ∃ q, J nx 0 = q := ⟨_, rfl⟩
  rw [hJ2] at a3 a5
  simp only at a3 a5
  subst a1 a3 a5
  refine ⟨S, m, x, e, nx, x2, n2, hJ, by omega, ?_, ?_, hA, hJ2, by omega, ?_⟩
  · rw [hz]; simp
  · rw [hz]; simp
  · rw [List.take_take, Nat.min_eq_left (by omega)]
theorem EachR.take {w : World} {vs : List Value} {ls : List (List UInt8)} (h : EachR w vs ls) (k : Nat) : EachR w (vs.take k) (ls.take k) :=
  ⟨by simp [h.1], fun i l hl => by
    rw [List.getElem?_take] at hl
    split at hl
    · rename_i hi
      obtain ⟨A, c, h1, h2, h3⟩ := h.2 i l hl
      exact ⟨A, c, by rw [List.getElem?_take, if_pos hi]; exact h1, h2, h3⟩
    · cases hl⟩
theorem Same_q (A B : Option Addr) (c d n m : Nat) (vs us : List Value) (ls ms : List (List UInt8)) (w : World) (j : Nat) (hA : Rd w w.heap.size 1 A n vs) (eA : EachR w vs ls) (hB : Rd w w.heap.size 1 B m us) (eB : EachR w us ms) (hn : n ≤ 1099511627776) (hm : m ≤ 1099511627776) (he : Hid (ls = ms)) :
    Calls Try.prog 13 #[.slice A n c, .slice B m d] (w.drewN j) fun e w' => e = .returned (.bool true) ∧ ∃ q, w' = w.drewN q :=
  (Same_c A B c d n m vs us ls ms (w.drewN j) (hA.drewN j) (eA.drewN j) (hB.drewN j) (eB.drewN j) hn hm).mono fun _ _ ⟨h1, q, h2⟩ => ⟨by rw [h1, he.out]; simp, j + q, by rw [h2, World.drewN_drewN]⟩
theorem below_dn (w : World) (n : Nat) : Below w.heap.size w (w.drewN n) := ⟨rfl, rfl, rfl, Nat.le_refl _, fun _ _ => rfl⟩
theorem bv_take1 (l : List UInt8) (k : Nat) : (bv l).take (k * 1) = bv (l.take k) := by
  rw [Nat.mul_one]; simp [bv, List.map_take]
theorem take1 (l : List Value) (k : Nat) : l.take (k * 1) = l.take k := by rw [Nat.mul_one]
set_option maxRecDepth 100000 in
set_option maxHeartbeats 2000000 in
theorem JournalSurvives_w (A A' : Option Addr) (c n c' m : Nat) (l : List Int) (rec : List UInt8) (N : Int) (hN : -9223372036854775808 ≤ N ∧ N ≤ 9223372036854775807) (w : World) (hl : Rd w w.heap.size 1 A n (iv l)) (hf : Fits l) (hn : n ≤ maxLen)
    (hr : Rd w w.heap.size 1 A' m (bv rec)) (hmc : m ≤ c') (hm0 : m ≤ maxLen) :
    Calls Try.prog 5 #[.slice A n c, .int .i64 N, .slice A' m c'] w fun e w' => e = .returned (.bool true) ∧ Below w.heap.size w w' := by
  unfold maxLen at hn hm0
  by_cases hm : 200 < m
  · go_enter Try.func5, Try.ntmps5
    go_wp2_with (first | (at_make; refine Held.out ?_) | (at_builtin; refine Held.out ?_))
    refine (sane40_c w).mono ?_
    rintro e w1 ⟨rfl, bel1⟩
    go_wp2_with (first | (at_make; refine Held.out ?_) | (at_builtin; refine Held.out ?_))
    go_ret
    exact ⟨rfl, bel1⟩
  · have hrl := hr.blen
    obtain ⟨j1, j2, j3, j4, j5⟩ := madeJ_J l
    have HMk := Lib.hid (fun W hr => made40_c A c n l W hr hf (by unfold maxLen; omega))
    generalize madeJ l = M at *
    obtain ⟨out, b⟩ := M
    simp only at j1 j2 j3 j4 j5 HMk
    have hmb0 := Int.emod_nonneg N (show (b.length : Int) + 1 ≠ 0 by omega)
    have hmb1 := Int.emod_lt_of_pos N (show (0 : Int) < (b.length : Int) + 1 by omega)
    obtain ⟨k, hk_⟩ := Int.eq_ofNat_of_zero_le hmb0
    have hMod := Lib.hid (fun W => Mod_c N ((b.length : Int) + 1) W hN (by omega) (by omega))
    rw [hk_] at hMod hmb1
    have hk : k ≤ b.length := by omega
    clear hmb0 hmb1 hk_ hN hf
    obtain ⟨S, ms, x, es, nx, x2, n2, s1, s2, s3, s4, s5, s6, s7, s8⟩ := surv out b rec k j1 j4 hk (by omega)
    obtain ⟨⟨q1, q2, q3, q4⟩, hQ⟩ : ∃ Q, J b 0 = Q := ⟨_, rfl⟩
    have HRd := Lib.hid (fun A c W h1 h2 => jRead_c A c b.length b W h1 h2 (by omega))
    rw [hQ] at j1 j2 j3 HRd
    simp only at j1 j2 j3 HRd
    subst j1 j2 j3
    have HRs := Lib.hid (fun A c W h1 h2 => jRead_c A c k (seg b 0 k) W h1 h2 (by omega))
    have HRp := Lib.hid (fun A c W h1 h2 => jRepair_c A c k (seg b 0 k) W h1 h2 (by omega))
    have HAp := Lib.hid (fun A c W A' c' h1 h2 h3 => jAppend_c A A' c ms c' m ((seg b 0 k).take ms) rec W h1 h2 (by omega) h3 (by omega))
    have HRn := Lib.hid (fun A c W h1 h2 => jRead_c A c nx.length nx W h1 h2 (by omega))
    rw [s1] at HRs HRp
    rw [s5] at HAp
    rw [s6] at HRn
    rw [s8] at HRp HAp
    simp only [List.length_append, List.length_cons, List.length_nil] at HRs HRp HAp HRn
    clear s1 s5 s6 hQ
    have S4 := Lib.hid s4
    have S8 := Lib.hid s8
    clear s4 s8
    go_enter Try.func5, Try.ntmps5
    go_wp2_with (first | (at_make; refine Held.out ?_) | (at_builtin; refine Held.out ?_) | (refine hold_slice ?_))
    refine (sane40_c w).mono ?_
    rintro e w1 ⟨rfl, bel1⟩
    have hr1 := hr.nx bel1
    have hl1 := hl.nx bel1
    clear hr hl
    go_wp2_with (first | (at_make; refine Held.out ?_) | (at_builtin; refine Held.out ?_) | (refine hold_slice ?_))
    refine (HMk.out w1 hl1).mono ?_
    rintro e w2 ⟨A1, c1, A2, c2, rfl, ⟨vo, owno, eacho, bel2⟩, ⟨own2, _⟩⟩
    have rb := Rd.own own2
    have kb := own_cap own2
    have ro := Rd.own owno
    have ko := own_cap owno
    have eo := eacho.toR
    have bel := below_nx bel1 bel1.size bel2
    have hr2 := hr1.nx bel2
    clear HMk bel1 bel2 own2 hl1 owno eacho hr1
    go_wp2_with (first | (at_make; refine Held.out ?_) | (at_builtin; refine Held.out ?_) | (refine hold_slice ?_))
    refine (hMod.out _).mono ?_
    rintro e w3 ⟨rfl, rfl⟩
    clear hMod
    go_wp2_with (first | (at_make; refine Held.out ?_) | (at_builtin; refine Held.out ?_) | (refine hold_slice ?_))
    refine (HRd.out A2 c2 _ rb kb).mono ?_
    rintro e w3 ⟨A3, c3, rfl, va, owna, eacha, bel3⟩
    have rb := rb.nx bel3
    have ro := ro.nx bel3
    have eo := eo.nx bel3
    have ra := Rd.own owna
    have ea := eacha.toR
    have hr3 := hr2.nx bel3
    have bel := below_nx bel bel.size bel3
    clear HRd owna eacha bel3 hr2
    go_wp2_with (first | (at_make; refine Held.out ?_) | (at_builtin; refine Held.out ?_) | (refine hold_slice ?_))
    refine ⟨?_⟩
    refine wpList_cutb _ rfl _ _ _ _ rfl sl8 rfl rb kb 0 k k (.inr ⟨rfl, rfl⟩) (.inl ⟨_, rfl, rfl⟩) (by omega) (by omega) ?_
    intro A4 rcut kcut
    rw [Nat.sub_zero] at kcut ⊢
    go_wp2_with (first | (at_make; refine Held.out ?_) | (at_builtin; refine Held.out ?_) | (refine hold_slice ?_))
    refine (HRs.out A4 c2 _ rcut kcut).mono ?_
    rintro e w4 ⟨A5, c5, rfl, vs, owns, eachs, bel4⟩
    have rb := rb.nx bel4
    have ro := ro.nx bel4
    have eo := eo.nx bel4
    have ra := ra.nx bel4
    have ea := ea.nx bel4
    have rs := Rd.own owns
    have es := eachs.toR
    have ks := own_cap owns
    have hr4 := hr3.nx bel4
    have bel := below_nx bel bel.size bel4
    clear HRs owns eachs bel4 hr3 rcut kcut
    go_wp2_with (first | (at_make; refine Held.out ?_) | (at_builtin; refine Held.out ?_) | (refine hold_slice ?_))
    refine ⟨?_⟩
    refine wpList_cutb _ rfl _ _ _ _ rfl sl8 rfl rb kb 0 k k (.inr ⟨rfl, rfl⟩) (.inl ⟨_, rfl, rfl⟩) (by omega) (by omega) ?_
    intro A6 rcut kcut
    rw [Nat.sub_zero] at kcut ⊢
    go_wp2_with (first | (at_make; refine Held.out ?_) | (at_builtin; refine Held.out ?_) | (refine hold_slice ?_))
    refine (HRp.out A6 c2 _ rcut kcut).mono ?_
    rintro e w5 ⟨A7, c7, rfl, own7, bel5⟩
    have rb5 := rb.nx bel5
    have ro5 := ro.nx bel5
    have eo5 := eo.nx bel5
    have ra5 := ra.nx bel5
    have ea5 := ea.nx bel5
    have rs5 := rs.nx bel5
    have es5 := es.nx bel5
    have r7 := Rd.own own7
    have k7 := own_cap own7
    have hr5 := hr4.nx bel5
    have bel5' := below_nx bel bel.size bel5
    clear HRp own7 bel5 hr4 rcut kcut rb ro eo ra ea rs es bel
    go_wp2_with (first | (at_make; refine Held.out ?_) | (at_builtin; refine Held.out ?_) | (refine hold_slice ?_))
    have HS1 := Lib.hid (fun j => Same_q A3 A1 c3 c1 _ _ va vo q1 q1 w5 j ra5 ea5 ro5 eo5 (by omega) (by omega) (Lib.hid rfl))
    have HS2 := Lib.hid (fun A8 (rw8 : Rd w5 w5.heap.size 1 A8 S.length (vo.take S.length)) j => Same_q A5 A8 c5 c1 _ _ vs _ S _ w5 j rs5 es5 rw8 (eo5.take _) (by omega) (by omega) (Lib.hid S4.out.symm))
    have hms : ms ≤ b.length := by omega
    have hd1 : decide (k < ms) = false := by simp; omega
    have hd2 : decide (q1.length < S.length) = false := by simp; omega
    (refine wp_region_quiet_lit (by kernel_rfl) (by kernel_rfl) ?_; (repeat (first | ((first | refine wpQuiet_b2s rfl _ _ _ _ rfl Try.underlying23 u8str Try.underlying9 rfl r7 ?_ | (refine wpQuiet_cut rfl _ _ _ rfl sl88 rfl ro5 ko S.length rfl rfl (by omega) ?_; intro A8 rw8; rw [take1] at rw8) | (refine wpQuiet_cut rfl _ _ _ rfl sl8 rfl rb5 kb ms rfl rfl (by omega) ?_; intro A9 rw9; rw [bv_take1] at rw9) | refine wpQuiet_b2s rfl _ _ _ _ rfl Try.underlying23 u8str Try.underlying9 rfl rw9 ?_); simp only [Act.put, List.setIfInBounds_toArray, List.set_cons_succ, List.set_cons_zero, Nat.reduceAdd]) | go_big_quiet_step ((go_at_call 13; first | with_reducible exact HS1.out _ | with_reducible exact HS2.out _ rw8 _)))); refine wpQuiet_nil ?_; intro _ hw'; obtain ⟨nq, hw''⟩ := hw'; subst hw'')
    have bd := below_dn w5 nq
    have r7 := r7.nx bd
    have hr6 := hr5.nx bd
    have rs6 := rs5.nx bd
    have es6 := es5.nx bd
    have bel6 := below_nx bel5' bel5'.size bd
    clear bd hr5 HS1 HS2 rs5 es5 rb5 ro5 eo5 ra5 ea5 bel5' rw8 rw9 hd1 hd2
    generalize w5.drewN nq = w6 at *
    go_wp2_with (first | (at_make; refine Held.out ?_) | (at_builtin; refine Held.out ?_) | (refine hold_slice ?_))
    refine (HAp.out A7 c7 _ A' c' r7 k7 hr6).mono ?_
    rintro e w7 ⟨A10, c10, rfl, own10, bel7⟩
    have r10 := Rd.own own10
    have k10 := own_cap own10
    have rs7 := rs6.nx bel7
    have es7 := es6.nx bel7
    have hr7 := hr6.nx bel7
    have bel := below_nx bel6 bel6.size bel7
    clear HAp own10 bel7 rs6 es6 hr6 bel6 r7
    go_wp2_with (first | (at_make; refine Held.out ?_) | (at_builtin; refine Held.out ?_) | (refine hold_slice ?_))
    refine (HRn.out A10 c10 _ r10 k10).mono ?_
    rintro e w8 ⟨A11, c11, rfl, vn, ownn, eachn, bel8⟩
    have rs8 := rs7.nx bel8
    have es8 := es7.nx bel8
    have hr8 := hr7.nx bel8
    have rn := Rd.own ownn
    have en := eachn.toR
    have kn := own_cap ownn
    have bel := below_nx bel bel.size bel8
    clear HRn ownn eachn bel8 rs7 es7 hr7 r10
    rw [Nat.zero_add] at *
    obtain ⟨b0, o0, rfl⟩ := rn.some_ (by omega)
    have hlast : (S ++ [rec])[S.length]? = some rec := by simp
    obtain ⟨A12, c12, hv12, hc12, hr12⟩ := en.2 _ _ hlast
    have cell12 := rn.cell1 hv12
    rw [hrl] at cell12 hr12 hc12
    have Stake := Lib.hid (show (S ++ [rec]).take S.length = S by simp)
    have HS3 := Lib.hid (fun A8 (rw8 : Rd w8 w8.heap.size 1 A8 S.length (vn.take S.length)) j => Same_q A8 A5 c11 c5 _ _ _ vs _ S w8 j rw8 (en.take S.length) rs8 es8 (by omega) (by omega) (Lib.hid Stake.out))
    have Hv12 := Lib.hid hv12
    have Hl := Lib.hid hlast
    have Hrl := Lib.hid hrl
    clear hv12 hlast hrl
    go_wp2_with (first | (at_make; refine Held.out ?_) | (at_builtin; refine Held.out ?_) | (refine hold_slice ?_))
    (refine wp_region_quiet_lit (by kernel_rfl) (by kernel_rfl) ?_; (repeat (first | ((first | (refine wpQuiet_cut rfl _ _ _ rfl sl88 rfl rn kn S.length rfl rfl (by omega) ?_; intro A8 rw8; rw [take1] at rw8) | refine wpQuiet_b2s rfl _ _ _ _ rfl Try.underlying23 u8str Try.underlying9 rfl hr12 ?_ | refine wpQuiet_b2s rfl _ _ _ _ rfl Try.underlying23 u8str Try.underlying9 rfl hr8 ?_); simp only [Act.put, List.setIfInBounds_toArray, List.set_cons_succ, List.set_cons_zero, Nat.reduceAdd]) | go_big_quiet_step ((go_at_call 13; with_reducible exact HS3.out _ rw8 _)))); refine wpQuiet_nil ?_; intro _ hw'; obtain ⟨nq, hw''⟩ := hw'; subst hw'')
    go_wp2_with (first | (at_make; refine Held.out ?_) | (at_builtin; refine Held.out ?_) | (refine hold_slice ?_))
    go_ret
    exact ⟨rfl, below_nx bel bel.size (below_dn w8 _)⟩
end Go.Proofs.Ytbifgoaceolpoaa
