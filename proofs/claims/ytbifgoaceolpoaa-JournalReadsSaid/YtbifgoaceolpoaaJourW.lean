/-
  Walks of package journal and of its reference.
-/
import Derived.Test.YtbifgoaceolpoaaSlices8
import Derived.Test.YtbifgoaceolpoaaJourP
import Derived.Test.YtbifgoaceolpoaaDeck
namespace Go.Proofs.Ytbifgoaceolpoaa
set_option linter.unusedVariables false
set_option linter.unusedSimpArgs false
open Go.ChangeShapes Go.WideShapes Go.ChangeAt Go.RowKit
theorem sl88 : SlT Try.prog 25 23 1 24 (.slice none 0 0) := ⟨Try.underlying25, by kernel_rfl, rfl, by decide⟩
/-- a slice of byte slices that is new since world w -/
def OwL (w w' : World) (A : Option Addr) (n c : Nat) (ls : List (List UInt8)) : Prop :=
  ∃ vs, w'.ownsRow w.heap.size 23 1 (.slice A n c) n vs ∧ Each w' w.heap.size 5 vs ls ∧ Below w.heap.size w w'
set_option maxHeartbeats 400000 in
theorem jsum_c (A : Option Addr) (c n : Nat) (l : List UInt8) (x : Nat) (w : World) (hr : Rd w w.heap.size 1 A n (bv l)) (hn : n ≤ 70368744177664) :
    Calls Try.prog 22 #[.int .u64 x, .slice A n c] w fun e w' => e = .returned (.int .u64 (fnvOf (le x 8 ++ l) : Nat)) ∧ Below w.heap.size w w' := by
  have HH := Lib.hid (fun A c n w hr hn => Hash_c A c n (le x 8 ++ l) w w.heap.size hr hn)
  generalize fnvOf (le x 8 ++ l) = F at *
  go_enter Try.func22, Try.ntmps22
  go_wp2_with (first | (at_make; refine Held.out ?_) | (at_builtin; refine Held.out ?_))
  refine (Put64_c none 0 0 [] x w w.heap.size (Nat.le_refl _) (Rd.nil _ _ _ _) (by omega) (by omega)).mono ?_
  rintro e w1 ⟨A1, c1, rfl, own1, bel1⟩
  rw [Int.toNat_natCast, List.nil_append] at own1
  have hr1 := hr.below bel1
  go_wp2_with (first | (at_make; refine Held.out ?_) | (at_builtin; refine Held.out ?_))
  refine ⟨?_⟩
  refine wpList_apb _ rfl _ _ 23 rfl sl8 bel1 rfl own1 rfl hr1 (bv_one _) (by omega) (by simp only [maxLen]; omega) bel1.size ?_
  intro A2 c2 w2 own2 bel2 sz2
  rw [← bv_append] at own2
  go_wp2_with (first | (at_make; refine Held.out ?_) | (at_builtin; refine Held.out ?_))
  refine (HH.out _ _ _ _ (Rd.own own2) (by omega)).mono ?_
  rintro e w3 ⟨rfl, rfl⟩
  go_wp2_with (first | (at_make; refine Held.out ?_) | (at_builtin; refine Held.out ?_))
  go_ret
  exact ⟨rfl, bel2⟩
set_option maxHeartbeats 400000 in
theorem rhash_c (A : Option Addr) (c n : Nat) (l : List UInt8) (x : Nat) (hx : x < 18446744073709551616) (w : World) (hr : Rd w w.heap.size 1 A n (bv l)) (hn : n ≤ 4096) :
    Calls Try.prog 26 #[.int .u64 x, .slice A n c] w fun e w' => e = .returned (.int .u64 (fnvOf (le x 8 ++ le n 2 ++ l) : Nat)) ∧ Below w.heap.size w w' := by
  have hx := Lib.hid hx
  have HH := Lib.hid (fun A c n1 w hr hn => rHash_c A c n1 (le x 8 ++ le n 2 ++ l) w w.heap.size hr hn)
  have hw : IntKind.u16.wrap (n : Int) = n := IntWalk.u16_in _ (by omega)
  generalize fnvOf (le x 8 ++ le n 2 ++ l) = F at *
  go_enter Try.func26, Try.ntmps26
  go_wp2_with (first | (at_make; refine Held.out ?_) | (at_builtin; refine Held.out ?_))
  refine (rPut64_c none 0 0 [] x w w.heap.size (Nat.le_refl _) (Rd.nil _ _ _ _) (by omega) (by omega) (by have := hx.out; omega)).mono ?_
  rintro e w1 ⟨A1, c1, rfl, own1, bel1⟩
  rw [Int.toNat_natCast, List.nil_append] at own1
  have hr1 := hr.nx bel1
  go_wp2_with (first | (at_make; refine Held.out ?_) | (at_builtin; refine Held.out ?_))
  refine (rPut16_c _ _ _ _ n _ _ (Nat.le_refl _) (Rd.own own1) (by omega) (by omega) (by omega)).mono ?_
  rintro e w2 ⟨A2, c2, rfl, own2, bel2⟩
  rw [Int.toNat_natCast] at own2
  have hr2 := hr1.nx bel2
  have bel := below_nx bel1 bel1.size bel2
  go_wp2_with (first | (at_make; refine Held.out ?_) | (at_builtin; refine Held.out ?_))
  refine ⟨?_⟩
  refine wpList_apb _ rfl _ _ 23 rfl sl8 (Below.refl w1.heap.size w2) rfl own2 rfl hr2 (bv_one _) (by omega) (by simp only [maxLen]; omega) bel2.size ?_
  intro A3 c3 w3 own3 bel3 sz3
  rw [← bv_append] at own3
  go_wp2_with (first | (at_make; refine Held.out ?_) | (at_builtin; refine Held.out ?_))
  refine (HH.out _ _ _ _ (Rd.own own3) (by omega)).mono ?_
  rintro e w4 ⟨rfl, rfl⟩
  go_wp2_with (first | (at_make; refine Held.out ?_) | (at_builtin; refine Held.out ?_))
  go_ret
  exact ⟨rfl, bel.trans (bel3.mono bel1.size)⟩
set_option maxRecDepth 100000 in
set_option maxHeartbeats 1000000 in
theorem jread_c (A : Option Addr) (c n : Nat) (b : List UInt8) (w : World) (hr : Rd w w.heap.size 1 A n (bv b)) (hnc : n ≤ c) (hn : n ≤ 1099511627776) :
    Calls Try.prog 18 #[.slice A n c] w fun e w' => ∃ A' c', e = .returned (.tuple #[.slice A' (J b 0).1.length c', .int .i64 ((J b 0).2.1 : Nat), .int .u64 ((J b 0).2.2.1 : Nat), .int .i64 (J b 0).2.2.2]) ∧ OwL w w' A' (J b 0).1.length c' (J b 0).1 := by
  have hl := hr.blen
  generalize hJ : J b 0 = Q at *
  have HJ := Lib.hid hJ
  clear hJ
  go_enter Try.func18, Try.ntmps18
  go_wp2_with (first | (at_make; refine Held.out ?_) | (at_builtin; refine Held.out ?_) | (refine hold_slice ?_))
  go_loopw [2, 3, 4] (fun rv kv lv wr => ∃ (rs : List (List UInt8)) (k last : Nat) (A' : Option Addr) (c' : Nat) (vs : List Value), k ≤ n ∧ kv = .int .i64 k ∧ lv = .int .u64 last ∧ rv = .slice A' rs.length c' ∧
      wr.ownsRow w.heap.size 23 1 (.slice A' rs.length c') rs.length vs ∧ Each wr w.heap.size 5 vs rs ∧ Below w.heap.size w wr ∧ Hid (Q = Jthen rs k (J (b.drop k) last)) ∧ rs.length * 10 ≤ k) (fun _ k _ _ => n - (intOf k).toNat)
  case atStart => exact ⟨[], 0, 0, none, 0, [], by omega, rfl, rfl, rfl, World.ownsRow_nil _ _ _ _, Each.nil _ _ _, Below.refl _ _, by rw [Jthen_nil]; exact HJ.out.symm, by simp⟩
  case round =>
    obtain ⟨rs, k, last, A1, c1, vs, hk, rfl, rfl, rfl, own, each, bel, hQ, hrs⟩ := hrel
    have hr1 : Rd wr wr.heap.size 1 A n (bv b) := (hr.below bel).more bel.size
    generalize hm : rs.length = m at *
    have Hm := Lib.hid hm
    clear hm
    go_wp2_with (first | (at_make; refine Held.out ?_) | (at_builtin; refine Held.out ?_) | (refine hold_slice ?_))
    refine ⟨?_⟩
    refine wpList_cutb _ rfl _ _ _ _ rfl sl8 rfl hr1 hnc k n (n - k) (.inl ⟨_, rfl, rfl⟩) (.inr ⟨rfl, rfl⟩) (by omega) (Nat.le_refl _) ?_
    intro A2 hR hc2
    rw [show n - k = b.length - k by omega, seg_all, show b.length - k = n - k by omega] at hR
    have hRl := hR.blen
    have HRl := Lib.hid hRl
    clear hr1
    have done : ∀ e, jone (b.drop k) last = .inl e → Q = (rs, k, last, e) := fun e he => by rw [hQ.out, J_inl he]; simp [Jthen]
    have Hdone := Lib.hid done
    clear done
    have step : ∀ x h, jone (b.drop k) last = .inr (x, h) → Q = Jthen (rs ++ [x]) (k + (x.length + 10)) (J (b.drop (k + (x.length + 10))) h) := fun x h he => by rw [hQ.out, Jthen_step he]
    have Hstep := Lib.hid step
    clear step hQ
    generalize b.drop k = r at *
    have hNle : n - k ≤ n := Nat.sub_le _ _
    have hNk : k + (n - k) = n := by omega
    generalize hN : n - k = N at *
    have HN := Lib.hid hN
    clear hN hRl
    by_cases h0 : N = 0
    · have hq := Lib.hid (Hdone.out 0 (jone_end (by rw [HRl.out]; exact h0)))
      subst h0
      go_wp2_with (first | (at_make; refine Held.out ?_) | (at_builtin; refine Held.out ?_) | (refine hold_slice ?_))
      ((try simp only [Exit.inBlock, Exit.then]); refine bodyPost_ret (results4 rfl _ _ _) rfl ?_)
      rw [hq.out]
      simp only [Hm.out]
      exact ⟨A1, c1, rfl, vs, own, each, bel⟩
    · have h0' : ((N : Int) == 0) = false := by rw [beq_eq_false_iff_ne]; omega
      by_cases h10 : N < 10
      · have hq := Lib.hid (Hdone.out 4 (jone_short (by rw [HRl.out]; exact h0) (by rw [HRl.out]; exact h10)))
        go_wp2_with (first | (at_make; refine Held.out ?_) | (at_builtin; refine Held.out ?_) | (refine hold_slice ?_))
        ((try simp only [Exit.inBlock, Exit.then]); refine bodyPost_ret (results4 rfl _ _ _) rfl ?_)
        rw [hq.out]
        simp only [Hm.out]
        exact ⟨A1, c1, rfl, vs, own, each, bel⟩
      · have hv := unle2_lt r
        have G := Lib.hid (fun w hR => Get16_c A2 (c - k) N r 0 w w.heap.size hR (by omega))
        rw [show getM r 0 2 = (unle (seg r 0 2), 2, 0) from getM_in r 0 2 (by rw [HRl.out]; omega)] at G
        obtain ⟨v, hvv⟩ : ∃ v, unle (seg r 0 2) = v := ⟨_, rfl⟩
        have Hv := Lib.hid hvv
        rw [hvv] at hv G
        clear hvv
        go_wp2_with (first | (at_make; refine Held.out ?_) | (at_builtin; refine Held.out ?_) | (refine hold_slice ?_))
        refine (G.out _ hR).mono ?_
        rintro e w2 ⟨rfl, rfl⟩
        by_cases h4 : 4096 < v
        · have hq := Lib.hid (Hdone.out 3 (jone_limit (by rw [HRl.out]; omega) Hv.out h4))
          go_wp2_with (first | (at_make; refine Held.out ?_) | (at_builtin; refine Held.out ?_) | (refine hold_slice ?_))
          ((try simp only [Exit.inBlock, Exit.then]); refine bodyPost_ret (results4 rfl _ _ _) rfl ?_)
          rw [hq.out]
          simp only [Hm.out]
          exact ⟨A1, c1, rfl, vs, own, each, bel⟩
        · by_cases h5 : N < v + 10
          · have hq := Lib.hid (Hdone.out 4 (jone_short2 (by rw [HRl.out]; omega) Hv.out (by omega) (by rw [HRl.out]; omega)))
            have h5' : (N : Int) < 2 + (v : Int) + 8 := by omega
            go_wp2_with (first | (at_make; refine Held.out ?_) | (at_builtin; refine Held.out ?_) | (refine hold_slice ?_))
            ((try simp only [Exit.inBlock, Exit.then]); refine bodyPost_ret (results4 rfl _ _ _) rfl ?_)
            rw [hq.out]
            simp only [Hm.out]
            exact ⟨A1, c1, rfl, vs, own, each, bel⟩
          · have h5' : ¬ (N : Int) < 2 + (v : Int) + 8 := by omega
            go_wp2_with (first | (at_make; refine Held.out ?_) | (at_builtin; refine Held.out ?_) | (refine hold_slice ?_))
            refine ⟨?_⟩
            refine wpList_cutb _ rfl _ _ _ _ rfl sl8 rfl hR hc2 0 (v + 2) (v + 2) (.inr ⟨rfl, rfl⟩) (.inl ⟨_, rfl, by omega⟩) (by omega) (by omega) ?_
            intro A3 hr3 hc3
            have G2 := Lib.hid (fun w hR => Get64_c A2 (c - k) N r (2 + (v : Int)) w w.heap.size hR (by omega))
            rw [show getM r (2 + (v : Int)) 8 = (unle (seg r (v + 2) 8), 2 + (v : Int) + 8, 0) from by
              have := getM_in r (v + 2) 8 (by rw [HRl.out]; omega)
              rw [show (((v + 2 : Nat) : Int)) = 2 + (v : Int) by omega] at this
              exact this] at G2
            have hb := Lib.hid (fun h => Hdone.out 6 (jone_bad (last := last) Hv.out (by omega) (by rw [HRl.out]; omega) h))
            have hg := Lib.hid (fun h => Hstep.out _ _ (jone_ok (last := last) Hv.out (by omega) (by rw [HRl.out]; omega) h))
            have HS := Lib.hid (fun A c w hr => jsum_c A c (v + 2) (seg r 0 (v + 2)) last w hr (by omega))
            have Hx := Lib.hid (show (seg r 2 v).length = v from seg_length _ _ _ (by rw [HRl.out]; omega))
            have Hcut := Lib.hid (seg_all r 2)
            clear Hdone Hstep
            generalize fnvOf (le last 8 ++ seg r 0 (v + 2)) = F at *
            generalize unle (seg r (v + 2) 8) = U at *
            go_wp2_with (first | (at_make; refine Held.out ?_) | (at_builtin; refine Held.out ?_) | (refine hold_slice ?_))
            refine (HS.out _ _ _ hr3).mono ?_
            rintro e w2 ⟨rfl, bel2⟩
            have hR2 := hR.nx bel2
            have own2 := own_below own bel2
            have each2 := each.map (fun A n xs h => h.nx bel2)
            have bel3 := below_nx bel bel.size bel2
            clear hr3 own each bel hR HS
            go_wp2_with (first | (at_make; refine Held.out ?_) | (at_builtin; refine Held.out ?_) | (refine hold_slice ?_))
            refine (G2.out _ hR2).mono ?_
            rintro e w3 ⟨rfl, rfl⟩
            by_cases hUF : U = F
            · have hq := Lib.hid (hg.out hUF)
              have hUF' : ((U : Int) != F) = false := by rw [hUF]; simp
              clear hb hg
              go_wp2_with (first | (at_make; refine Held.out ?_) | (at_builtin; refine Held.out ?_) | (refine hold_slice ?_))
              refine ⟨?_⟩
              refine wpList_cutb _ rfl _ _ _ _ rfl sl8 rfl hR2 hc2 2 (v + 2) v (.inl ⟨_, rfl, rfl⟩) (.inl ⟨_, rfl, by omega⟩) (by omega) (by omega) ?_
              intro A4 hr4 hc4
              go_wp2_with (first | (at_make; refine Held.out ?_) | (at_builtin; refine Held.out ?_) | (refine hold_slice ?_))
              refine (Clone8_c A4 _ v (seg r 2 v) w2 hr4 (by omega)).mono ?_
              rintro e w3 ⟨A5, c5, rfl, own5, bel5⟩
              have own3 := own_below own2 bel5
              have each3 := each2.map (fun A n xs h => h.nx bel5)
              have bel6 := below_nx bel3 bel3.size bel5
              have r5 := (Rt.own own5).low bel3.size
              have c5v := own_cap own5
              clear own2 each2 bel3 bel5 own5 hr4
              go_wp2_with (first | (at_make; refine Held.out ?_) | (at_builtin; refine Held.out ?_) | (refine hold_slice ?_))
              refine ⟨?_⟩
              refine wpList_app _ rfl _ _ 25 rfl sl88 rfl (own3.alloc _) rfl (Rd.lit w3 _ _ 1 1 rfl) (by simp [Value.oneCell']) (by omega) (by simp only [maxLen]; omega) (Nat.le_trans bel6.size (by simp)) ?_
              intro A6 c6 w6 own6 gr6 _
              have each6 := ((each3.map (fun A n xs h => h.alloc _)).map (fun A n xs h => h.grown (own3.alloc _) (by decide) gr6)).snoc (A := A5) (c := c5) (l := seg r 2 v) (by rw [Hx.out]; exact c5v)
                (by rw [Hx.out]; exact (r5.alloc _).grown (own3.alloc _) (by decide) gr6)
              rw [Hx.out] at each6
              have bel7 := (bel6.alloc bel6.size _).grown gr6 (Nat.le_trans bel6.size (by simp)) (own_blk own3)
              clear own3 each3 bel6 r5 gr6
              go_wp2_with (first | (at_make; refine Held.out ?_) | (at_builtin; refine Held.out ?_) | (refine hold_slice ?_))
              refine ⟨⟨rs ++ [seg r 2 v], k + (v + 10), F, A6, c6, _, by omega, by go_num, rfl, ?_, ?_, each6, bel7, ?_, ?_⟩, by simp [intOf]; omega⟩
              · simp only [List.length_append, List.length_cons, List.length_nil, Hm.out]
              · simp only [List.length_append, List.length_cons, List.length_nil, Hm.out]; exact own6
              · have := hq.out
                rw [Hx.out] at this
                exact this
              · simp only [List.length_append, List.length_cons, List.length_nil, Hm.out]; omega
            · have hq := Lib.hid (hb.out hUF)
              have hUF' : ((U : Int) != F) = true := by rw [bne_iff_ne]; omega
              clear hb hg
              go_wp2_with (first | (at_make; refine Held.out ?_) | (at_builtin; refine Held.out ?_) | (refine hold_slice ?_))
              ((try simp only [Exit.inBlock, Exit.then]); refine bodyPost_ret (results4 rfl _ _ _) rfl ?_)
              rw [hq.out]
              simp only [Hm.out]
              exact ⟨A1, c1, rfl, vs, own2, each2, bel3⟩
theorem frame_split {r : List UInt8} {v last : Nat} (hv : unle (seg r 0 2) = v) (hl : 2 ≤ r.length) : le last 8 ++ seg r 0 (v + 2) = le last 8 ++ le v 2 ++ seg r 2 v := by
  rw [Nat.add_comm v 2, seg_split, ← hv]
  have := le_unle (seg r 0 2)
  rw [seg_length r 0 2 (by omega)] at this
  rw [this, List.append_assoc]
set_option maxRecDepth 100000 in
set_option maxHeartbeats 1000000 in
theorem rall_c (A : Option Addr) (c n : Nat) (b : List UInt8) (w : World) (hr : Rd w w.heap.size 1 A n (bv b)) (hnc : n ≤ c) (hn : n ≤ 1099511627776) :
    Calls Try.prog 23 #[.slice A n c] w fun e w' => ∃ A' c', e = .returned (.tuple #[.slice A' (J b 0).1.length c', .int .i64 ((J b 0).2.1 : Nat), .int .u64 ((J b 0).2.2.1 : Nat), .int .i64 (J b 0).2.2.2]) ∧ OwL w w' A' (J b 0).1.length c' (J b 0).1 := by
  have hl := hr.blen
  generalize hJ : J b 0 = Q at *
  have HJ := Lib.hid hJ
  clear hJ
  go_enter Try.func23, Try.ntmps23
  go_wp2_with (first | (at_make; refine Held.out ?_) | (at_builtin; refine Held.out ?_) | (refine hold_slice ?_))
  go_loopw [6, 7, 8] (fun rv kv lv wr => ∃ (rs : List (List UInt8)) (k last : Nat) (A' : Option Addr) (c' : Nat) (vs : List Value), k ≤ n ∧ kv = .int .i64 k ∧ lv = .int .u64 last ∧ rv = .slice A' rs.length c' ∧
      wr.ownsRow w.heap.size 23 1 (.slice A' rs.length c') rs.length vs ∧ Each wr w.heap.size 5 vs rs ∧ Below w.heap.size w wr ∧ Hid (Q = Jthen rs k (J (b.drop k) last)) ∧ rs.length * 10 ≤ k ∧ Hid (last < 18446744073709551616)) (fun _ k _ _ => n - (intOf k).toNat)
  case atStart => exact ⟨[], 0, 0, none, 0, [], by omega, rfl, rfl, rfl, World.ownsRow_nil _ _ _ _, Each.nil _ _ _, Below.refl _ _, by rw [Jthen_nil]; exact HJ.out.symm, by simp, Lib.hid (by omega)⟩
  case round =>
    obtain ⟨rs, k, last, A1, c1, vs, hk, rfl, rfl, rfl, own, each, bel, hQ, hrs, hlast⟩ := hrel
    have hr1 : Rd wr wr.heap.size 1 A n (bv b) := (hr.below bel).more bel.size
    generalize hm : rs.length = m at *
    have Hm := Lib.hid hm
    clear hm
    have done : ∀ e, jone (b.drop k) last = .inl e → Q = (rs, k, last, e) := fun e he => by rw [hQ.out, J_inl he]; simp [Jthen]
    have Hdone := Lib.hid done
    clear done
    by_cases hkn : k < n
    · have step : ∀ x h, jone (b.drop k) last = .inr (x, h) → Q = Jthen (rs ++ [x]) (k + (x.length + 10)) (J (b.drop (k + (x.length + 10))) h) := fun x h he => by rw [hQ.out, Jthen_step he]
      have Hstep := Lib.hid step
      clear step hQ
      go_wp2_with (first | (at_make; refine Held.out ?_) | (at_builtin; refine Held.out ?_) | (refine hold_slice ?_))
      refine ⟨?_⟩
      refine wpList_cutb _ rfl _ _ _ _ rfl sl8 rfl hr1 hnc k n (n - k) (.inl ⟨_, rfl, rfl⟩) (.inr ⟨rfl, rfl⟩) (by omega) (Nat.le_refl _) ?_
      intro A2 hR hc2
      rw [show n - k = b.length - k by omega, seg_all, show b.length - k = n - k by omega] at hR
      have hRl := hR.blen
      have HRl := Lib.hid hRl
      clear hr1
      generalize b.drop k = r at *
      have hNle : n - k ≤ n := Nat.sub_le _ _
      have hNk : k + (n - k) = n := by omega
      have hN0 : 0 < n - k := by omega
      generalize hN : n - k = N at *
      have HN := Lib.hid hN
      clear hN hRl
      by_cases h10 : N < 10
      · have hq := Lib.hid (Hdone.out 4 (jone_short (by rw [HRl.out]; omega) (by rw [HRl.out]; exact h10)))
        go_wp2_with (first | (at_make; refine Held.out ?_) | (at_builtin; refine Held.out ?_) | (refine hold_slice ?_))
        ((try simp only [Exit.inBlock, Exit.then]); refine bodyPost_ret (results4 rfl _ _ _) rfl ?_)
        rw [hq.out]
        simp only [Hm.out]
        exact ⟨A1, c1, rfl, vs, own, each, bel⟩
      · have hv := unle2_lt r
        have G := Lib.hid (fun w hR => rGet16_c A2 (c - k) N r 0 w w.heap.size hR (by omega))
        rw [show getM r 0 2 = (unle (seg r 0 2), 2, 0) from getM_in r 0 2 (by rw [HRl.out]; omega)] at G
        obtain ⟨v, hvv⟩ : ∃ v, unle (seg r 0 2) = v := ⟨_, rfl⟩
        have Hv := Lib.hid hvv
        rw [hvv] at hv G
        clear hvv
        go_wp2_with (first | (at_make; refine Held.out ?_) | (at_builtin; refine Held.out ?_) | (refine hold_slice ?_))
        refine (G.out _ hR).mono ?_
        rintro e w2 ⟨rfl, rfl⟩
        by_cases h4 : 4096 < v
        · have hq := Lib.hid (Hdone.out 3 (jone_limit (by rw [HRl.out]; omega) Hv.out h4))
          go_wp2_with (first | (at_make; refine Held.out ?_) | (at_builtin; refine Held.out ?_) | (refine hold_slice ?_))
          ((try simp only [Exit.inBlock, Exit.then]); refine bodyPost_ret (results4 rfl _ _ _) rfl ?_)
          rw [hq.out]
          simp only [Hm.out]
          exact ⟨A1, c1, rfl, vs, own, each, bel⟩
        · by_cases h5 : N < v + 10
          · have hq := Lib.hid (Hdone.out 4 (jone_short2 (by rw [HRl.out]; omega) Hv.out (by omega) (by rw [HRl.out]; omega)))
            have h5' : (N : Int) < (v : Int) + 10 := by omega
            go_wp2_with (first | (at_make; refine Held.out ?_) | (at_builtin; refine Held.out ?_) | (refine hold_slice ?_))
            ((try simp only [Exit.inBlock, Exit.then]); refine bodyPost_ret (results4 rfl _ _ _) rfl ?_)
            rw [hq.out]
            simp only [Hm.out]
            exact ⟨A1, c1, rfl, vs, own, each, bel⟩
          · have h5' : ¬ (N : Int) < (v : Int) + 10 := by omega
            go_wp2_with (first | (at_make; refine Held.out ?_) | (at_builtin; refine Held.out ?_) | (refine hold_slice ?_))
            refine ⟨?_⟩
            refine wpList_cutb _ rfl _ _ _ _ rfl sl8 rfl hR hc2 2 (v + 2) v (.inl ⟨_, rfl, rfl⟩) (.inl ⟨_, rfl, by omega⟩) (by omega) (by omega) ?_
            intro A3 hr3 hc3
            have G2 := Lib.hid (fun w hR => rGet64_c A2 (c - k) N r (2 + (v : Int)) w w.heap.size hR (by omega))
            rw [show getM r (2 + (v : Int)) 8 = (unle (seg r (v + 2) 8), 2 + (v : Int) + 8, 0) from by
              have := getM_in r (v + 2) 8 (by rw [HRl.out]; omega)
              rw [show (((v + 2 : Nat) : Int)) = 2 + (v : Int) by omega] at this
              exact this] at G2
            have hb := Lib.hid (fun h => Hdone.out 6 (jone_bad (last := last) Hv.out (by omega) (by rw [HRl.out]; omega) h))
            have hg := Lib.hid (fun h => Hstep.out _ _ (jone_ok (last := last) Hv.out (by omega) (by rw [HRl.out]; omega) h))
            have HS := Lib.hid (fun A c w hr => rhash_c A c v (seg r 2 v) last hlast.out w hr (by omega))
            rw [← frame_split Hv.out (by rw [HRl.out]; omega)] at HS
            have Hx := Lib.hid (show (seg r 2 v).length = v from seg_length _ _ _ (by rw [HRl.out]; omega))
            have hFlt := Lib.hid (fnvOf_lt (le last 8 ++ seg r 0 (v + 2)))
            clear Hdone Hstep
            generalize fnvOf (le last 8 ++ seg r 0 (v + 2)) = F at *
            generalize unle (seg r (v + 2) 8) = U at *
            go_wp2_with (first | (at_make; refine Held.out ?_) | (at_builtin; refine Held.out ?_) | (refine hold_slice ?_))
            refine (G2.out _ hR).mono ?_
            rintro e w3 ⟨rfl, rfl⟩
            go_wp2_with (first | (at_make; refine Held.out ?_) | (at_builtin; refine Held.out ?_) | (refine hold_slice ?_))
            refine (HS.out _ _ _ hr3).mono ?_
            rintro e w2 ⟨rfl, bel2⟩
            have hr4 := hr3.nx bel2
            have own2 := own_below own bel2
            have each2 := each.map (fun A n xs h => h.nx bel2)
            have bel3 := below_nx bel bel.size bel2
            clear hr3 own each bel hR HS
            by_cases hUF : U = F
            · have hq := Lib.hid (hg.out hUF)
              have hUF' : ((U : Int) != F) = false := by rw [hUF]; simp
              clear hb hg
              go_wp2_with (first | (at_make; refine Held.out ?_) | (at_builtin; refine Held.out ?_) | (refine hold_slice ?_))
              refine ⟨?_⟩
              refine wpList_apb _ rfl _ _ 23 rfl sl8 ((Below.refl w2.heap.size w2).alloc (Nat.le_refl _) _) rfl (World.ownsRow_lit w2 #[] 0 (Nat.le_refl _) (by simp only [maxLen]; omega) rfl) rfl (hr4.alloc (Nat.le_refl _) _) (bv_one _) (by omega) (by simp only [maxLen]; omega) (by simp) ?_
              intro A5 c5 w3 own5 bel5 sz5
              simp only [Nat.zero_add, List.nil_append] at own5
              have own3 := own_below own2 bel5
              have each3 := each2.map (fun A n xs h => h.nx bel5)
              have bel6 := below_nx bel3 bel3.size bel5
              have r5 := (Rt.own own5).low bel3.size
              have c5v := own_cap own5
              clear own2 each2 bel3 bel5 own5 hr4 sz5
              go_wp2_with (first | (at_make; refine Held.out ?_) | (at_builtin; refine Held.out ?_) | (refine hold_slice ?_))
              refine ⟨?_⟩
              refine wpList_app _ rfl _ _ 25 rfl sl88 rfl (own3.alloc _) rfl (Rd.lit w3 _ _ 1 1 rfl) (by simp [Value.oneCell']) (by omega) (by simp only [maxLen]; omega) (Nat.le_trans bel6.size (by simp)) ?_
              intro A6 c6 w6 own6 gr6 _
              have each6 := ((each3.map (fun A n xs h => h.alloc _)).map (fun A n xs h => h.grown (own3.alloc _) (by decide) gr6)).snoc (A := A5) (c := c5) (l := seg r 2 v) (by rw [Hx.out]; exact c5v)
                (by rw [Hx.out]; exact (r5.alloc _).grown (own3.alloc _) (by decide) gr6)
              rw [Hx.out] at each6
              have bel7 := (bel6.alloc bel6.size _).grown gr6 (Nat.le_trans bel6.size (by simp)) (own_blk own3)
              clear own3 each3 bel6 r5 gr6
              go_wp2_with (first | (at_make; refine Held.out ?_) | (at_builtin; refine Held.out ?_) | (refine hold_slice ?_))
              refine ⟨⟨rs ++ [seg r 2 v], k + (v + 10), F, A6, c6, _, by omega, by go_num, rfl, ?_, ?_, each6, bel7, ?_, ?_, hFlt⟩, by simp [intOf]; omega⟩
              · simp only [List.length_append, List.length_cons, List.length_nil, Hm.out]
              · simp only [List.length_append, List.length_cons, List.length_nil, Hm.out]; exact own6
              · have := hq.out
                rw [Hx.out] at this
                exact this
              · simp only [List.length_append, List.length_cons, List.length_nil, Hm.out]; omega
            · have hq := Lib.hid (hb.out hUF)
              have hUF' : ((U : Int) != F) = true := by rw [bne_iff_ne]; omega
              clear hb hg
              go_wp2_with (first | (at_make; refine Held.out ?_) | (at_builtin; refine Held.out ?_) | (refine hold_slice ?_))
              ((try simp only [Exit.inBlock, Exit.then]); refine bodyPost_ret (results4 rfl _ _ _) rfl ?_)
              rw [hq.out]
              simp only [Hm.out]
              exact ⟨A1, c1, rfl, vs, own2, each2, bel3⟩
    · obtain rfl : k = n := by omega
      have hq := Lib.hid (Hdone.out 0 (jone_end (by simp; omega)))
      clear Hdone hQ
      go_wp2_with (first | (at_make; refine Held.out ?_) | (at_builtin; refine Held.out ?_) | (refine hold_slice ?_))
      ((try simp only [Exit.inBlock, Exit.then]); refine bodyPost_ret (results4 rfl _ _ _) rfl ?_)
      rw [hq.out]
      simp only [Hm.out]
      exact ⟨A1, c1, rfl, vs, own, each, bel⟩
theorem jRead_c (A : Option Addr) (c n : Nat) (b : List UInt8) (w : World) (hr : Rd w w.heap.size 1 A n (bv b)) (hnc : n ≤ c) (hn : n ≤ 1099511627776) :
    Calls Try.prog 11 #[.slice A n c] w fun e w' => ∃ A' c', e = .returned (.tuple #[.slice A' (J b 0).1.length c', .int .i64 ((J b 0).2.1 : Nat), .int .i64 (J b 0).2.2.2]) ∧ OwL w w' A' (J b 0).1.length c' (J b 0).1 := by
  have H := Lib.hid (jread_c A c n b w hr hnc hn)
  generalize J b 0 = Q at *
  obtain ⟨q1, q2, q3, q4⟩ := Q
  go_enter Try.func11, Try.ntmps11
  go_wp2_with (first | (at_make; refine Held.out ?_) | (at_builtin; refine Held.out ?_))
  refine H.out.mono ?_
  rintro e w1 ⟨A1, c1, rfl, hh⟩
  go_wp2_with (first | (at_make; refine Held.out ?_) | (at_builtin; refine Held.out ?_))
  go_ret3
  exact ⟨A1, c1, rfl, hh⟩
theorem rRead_c (A : Option Addr) (c n : Nat) (b : List UInt8) (w : World) (hr : Rd w w.heap.size 1 A n (bv b)) (hnc : n ≤ c) (hn : n ≤ 1099511627776) :
    Calls Try.prog 12 #[.slice A n c] w fun e w' => ∃ A' c', e = .returned (.tuple #[.slice A' (J b 0).1.length c', .int .i64 ((J b 0).2.1 : Nat), .int .i64 (J b 0).2.2.2]) ∧ OwL w w' A' (J b 0).1.length c' (J b 0).1 := by
  have H := Lib.hid (rall_c A c n b w hr hnc hn)
  generalize J b 0 = Q at *
  obtain ⟨q1, q2, q3, q4⟩ := Q
  go_enter Try.func12, Try.ntmps12
  go_wp2_with (first | (at_make; refine Held.out ?_) | (at_builtin; refine Held.out ?_))
  refine H.out.mono ?_
  rintro e w1 ⟨A1, c1, rfl, hh⟩
  go_wp2_with (first | (at_make; refine Held.out ?_) | (at_builtin; refine Held.out ?_))
  go_ret3
  exact ⟨A1, c1, rfl, hh⟩
end Go.Proofs.Ytbifgoaceolpoaa
