/-
  Walk of the law JournalReads.
-/
import Derived.Test.YtbifgoaceolpoaaJourV
import Derived.Test.YtbifgoaceolpoaaSep
namespace Go.Proofs.Ytbifgoaceolpoaa
set_option linter.unusedVariables false
set_option linter.unusedSimpArgs false
open Go.ChangeShapes Go.WideShapes Go.ChangeAt Go.RowKit
def lits : List UInt8 := [255, 255, 0, 0, 0, 0, 0, 0, 0, 0, 1]
theorem lit255 : [Value.int .u8 255, Value.int .u8 255, Value.int .u8 0, Value.int .u8 0, Value.int .u8 0, Value.int .u8 0, Value.int .u8 0, Value.int .u8 0, Value.int .u8 0, Value.int .u8 0, Value.int .u8 1] = bv lits := rfl
theorem bv_set (l : List UInt8) (k : Nat) (y : Int) (h0 : 0 ≤ y) (h1 : y ≤ 255) : (bv l).set k (.int .u8 y) = bv (l.set k (UInt8.ofNat y.toNat)) := by
  unfold bv
  rw [List.map_set]
  congr 2
  simp
  omega
theorem J_cnt_ (f : Nat) : ∀ (r : List UInt8) (last : Nat), (jall f r last).1.length * 10 ≤ (jall f r last).2.1 := by
  induction f with
  | zero => intro r last; simp [jall]
  | succ f ih =>
    intro r last
    simp only [jall]
    cases hj : jone r last with
    | inl e => simp
    | inr p =>
      obtain ⟨x, h⟩ := p
      have := ih (r.drop (x.length + 10)) h
      simp only [List.length_cons]
      omega
theorem J_cnt (b : List UInt8) : (J b 0).1.length * 10 ≤ (J b 0).2.1 := J_cnt_ _ b 0
set_option maxRecDepth 100000 in
set_option maxHeartbeats 4000000 in
theorem JournalReads_w (A A' : Option Addr) (c n c' m : Nat) (l : List Int) (raw : List UInt8) (N y : Int) (hN : -9223372036854775808 ≤ N ∧ N ≤ 9223372036854775807) (hy0 : 0 ≤ y) (hy1 : y ≤ 255) (w : World) (hl : Rd w w.heap.size 1 A n (iv l)) (hf : Fits l) (hn : n ≤ maxLen)
    (hr : Rd w w.heap.size 1 A' m (bv raw)) (hmc : m ≤ c') (hm0 : m ≤ maxLen) :
    Calls Try.prog 4 #[.slice A n c, .slice A' m c', .int .i64 N, .int .u8 y] w fun e w' => e = .returned (.bool true) ∧ Below w.heap.size w w' := by
  unfold maxLen at hn hm0
  by_cases hm : 200 < m
  · go_enter Try.func4, Try.ntmps4
    go_wp2_with (first | (at_make; refine Held.out ?_) | (at_builtin; refine Held.out ?_))
    refine (sane40_c w).mono ?_
    rintro e w1 ⟨rfl, bel1⟩
    go_wp2_with (first | (at_make; refine Held.out ?_) | (at_builtin; refine Held.out ?_))
    go_ret
    exact ⟨rfl, bel1⟩
  · have rawL := Lib.hid hr.blen
    obtain ⟨j1, j2, j3, j4, j5⟩ := madeJ_J l
    have HMk := Lib.hid (fun W hr => made40_c A c n l W hr hf (by unfold maxLen; omega))
    generalize madeJ l = M at *
    obtain ⟨out, b⟩ := M
    simp only at j1 j2 j3 j4 j5 HMk
    clear j1 j2 j3
    have hmb0 := Int.emod_nonneg N (show (b.length : Int) + 1 ≠ 0 by omega)
    have hmb1 := Int.emod_lt_of_pos N (show (0 : Int) < (b.length : Int) + 1 by omega)
    obtain ⟨k, hk_⟩ := Int.eq_ofNat_of_zero_le hmb0
    have hMod := Lib.hid (fun W => Mod_c N ((b.length : Int) + 1) W hN (by omega) (by omega))
    rw [hk_] at hMod hmb1
    have hk : k ≤ b.length := by omega
    clear hmb0 hmb1 hk_ hN hf
    go_enter Try.func4, Try.ntmps4
    go_wp2_with (first | (at_make; refine Held.out ?_) | (at_builtin; refine Held.out ?_) | (refine hold_slice ?_))
    refine (sane40_c w).mono ?_
    rintro e w1 ⟨rfl, bel1⟩
    have hr1 := hr.nx bel1
    have hl1 := hl.nx bel1
    clear hr hl
    go_wp2_with (first | (at_make; refine Held.out ?_) | (at_builtin; refine Held.out ?_) | (refine hold_slice ?_))
    refine (HMk.out w1 hl1).mono ?_
    rintro e w2 ⟨A1, c1, A2, c2, rfl, ⟨_, _, _, bel2⟩, ⟨own2, _⟩⟩
    have rb := Rd.own own2
    have kb := own_cap own2
    have bel := below_nx bel1 bel1.size bel2
    have hr2 := hr1.nx bel2
    clear HMk bel1 bel2 own2 hl1 hr1
    go_wp2_with (first | (at_make; refine Held.out ?_) | (at_builtin; refine Held.out ?_) | (refine hold_slice ?_))
    refine ⟨?_⟩
    refine wpList_apb _ rfl _ _ 23 rfl sl8 ((Below.refl w2.heap.size w2).alloc (Nat.le_refl _) _) rfl (World.ownsRow_lit w2 #[] 0 (Nat.le_refl _) (by simp only [maxLen]; omega) rfl) rfl (rb.alloc (Nat.le_refl _) _) (bv_one _) (by omega) (by simp only [maxLen]; omega) (by simp) ?_
    intro A3 c3 w3 own3 bel3 sz3
    simp only [Nat.zero_add, List.nil_append] at own3
    clear sz3
    go_wp2_with (first | (at_make; refine Held.out ?_) | (at_builtin; refine Held.out ?_) | (refine hold_slice ?_))
    refine (hMod.out _).mono ?_
    rintro e w4 ⟨rfl, rfl⟩
    clear hMod
    have kc := own_cap own3
    by_cases hkb : k < b.length
    · have hdk : decide (k < b.length) = true := by simp; exact hkb
      obtain ⟨g3, cc, hv3, _, hlt3⟩ := own3.form (by omega)
      obtain ⟨rfl, rfl⟩ : A3 = some ⟨g3, 0, none⟩ ∧ c3 = cc := by simpa using hv3
      have cell3 := own3.cellAt k (by omega)
      rw [bv_get b k hkb] at cell3
      have fz3 := own3.frozenAt k
      have st := own3.stored k (.int .u8 y)
      have hg3 := own_blk own3 g3 rfl
      have belS : Below w2.heap.size w2 (w3.setCell ⟨g3, k, none⟩ (.int .u8 y)) := bel3.setCell hg3 _
      rw [bv_set _ _ _ hy0 hy1] at st
      have ownC := st.1
      have CL := Lib.hid (show (b.set k (UInt8.ofNat y.toNat)).length = b.length from List.length_set)
      generalize b.set k (UInt8.ofNat y.toNat) = C at *
      have belS := Lib.hid belS
      have ownC := Lib.hid ownC
      clear st bel3 own3 hv3
      go_wp2_with (first | (at_make; refine Held.out ?_) | (at_builtin; refine Held.out ?_) | (refine hold_slice ?_))
      have belS := belS.out
      have ownC := ownC.out
      generalize w3.setCell ⟨g3, k, none⟩ (.int .u8 y) = W at *
      generalize (some ⟨g3, 0, none⟩ : Option Addr) = A3 at *
      clear cell3 fz3
      have rbW := rb.nx belS
      have rcW := Rd.own ownC
      have rxW := hr2.nx belS
      have belW := below_nx bel bel.size belS
      clear rb ownC hr2 bel belS
      obtain ⟨XS, hXS⟩ : ∃ XS, XS = [b, C, b.take k, raw, b ++ raw, b ++ lits] := ⟨_, rfl⟩
      have XS_ := Lib.hid hXS
      have XSl := Lib.hid (show XS.length = 6 by rw [hXS]; rfl)
      have XSb := Lib.hid (show ∀ x ∈ XS, x.length ≤ 1000 by
        intro x hx
        rw [hXS] at hx
        simp only [List.mem_cons, List.not_mem_nil, or_false] at hx
        rcases hx with rfl | rfl | rfl | rfl | rfl | rfl
        · omega
        · rw [CL.out]; omega
        · rw [List.length_take]; omega
        · rw [rawL.out]; omega
        · rw [List.length_append, rawL.out]; omega
        · rw [List.length_append]; simp [lits]; omega)
      clear hXS
      refine wp_region_sep (n := 19) (fun j => match j with
          | 0 => SIs ((.slice A2 b.length c2))
          | 1 => SIs ((.slice A3 b.length c3))
          | 2 => SIs ((.slice A2 b.length c2))
          | 3 => SIs ((.int .i64 (k : Nat)))
          | 4 => SOld W.heap.size k (b.take k)
          | 5 => SIs ((.slice A' m c'))
          | 6 => SOwn W.heap.size 5 1 0 []
          | 7 => SIs ((.slice A2 b.length c2))
          | 8 => SOwn W.heap.size 5 1 (0 + b.length) ([] ++ bv b)
          | 9 => SIs ((.slice A' m c'))
          | 10 => SOwn W.heap.size 5 1 (0 + b.length + m) (([] ++ bv b) ++ bv raw)
          | 11 => SOwn W.heap.size 5 1 0 []
          | 12 => SIs ((.slice A2 b.length c2))
          | 13 => SOwn W.heap.size 5 1 (0 + b.length) ([] ++ bv b)
          | 14 => SOwn W.heap.size 5 1 11 [Value.int .u8 255, Value.int .u8 255, Value.int .u8 0, Value.int .u8 0, Value.int .u8 0, Value.int .u8 0, Value.int .u8 0, Value.int .u8 0, Value.int .u8 0, Value.int .u8 0, Value.int .u8 1]
          | 15 => SOwn W.heap.size 5 1 (0 + b.length + 11) (([] ++ bv b) ++ [Value.int .u8 255, Value.int .u8 255, Value.int .u8 0, Value.int .u8 0, Value.int .u8 0, Value.int .u8 0, Value.int .u8 0, Value.int .u8 0, Value.int .u8 0, Value.int .u8 0, Value.int .u8 1])
          | 16 => SRows W.heap.size XS
          | 17 => SIs ((.int .i64 6))
          | 18 => SIs ((Value.int IntKind.i64 0))
          | _ => fun _ _ _ => True) [(8, 6), (10, 8), (13, 11), (15, 13), (16, 10), (16, 15)] (B := W.heap.size) (Below.refl _ W) (Nat.le_refl _) (by kernel_rfl) (by kernel_rfl) (by kernel_rfl) (by kernel_rfl) rfl (F := ?F_a) ?hF_a ?mono_a ?step_a ?fin_a
      case hF_a =>
        intro vals
        simp only [putAll, dstsOf, Act.put, List.map_cons, List.map_nil, List.setIfInBounds_toArray, List.set_cons_succ, List.set_cons_zero, Nat.reduceAdd]
        rfl
      case mono_a => exact ⟨⟨⟨⟨⟨⟨⟨⟨⟨⟨⟨⟨⟨⟨⟨⟨⟨⟨⟨trivial, mono_sis _ _⟩, mono_sis _ _⟩, mono_sis _ _⟩, mono_sis _ _⟩, mono_sold _ _ _⟩, mono_sis _ _⟩, mono_sown _ _ _ _ _⟩, mono_sis _ _⟩, mono_sown _ _ _ _ _⟩, mono_sis _ _⟩, mono_sown _ _ _ _ _⟩, mono_sown _ _ _ _ _⟩, mono_sis _ _⟩, mono_sown _ _ _ _ _⟩, mono_sown _ _ _ _ _⟩, mono_sown _ _ _ _ _⟩, mono_srows _ _⟩, mono_sis _ _⟩, mono_sis _ _⟩
      case step_a =>
        refine ⟨⟨⟨⟨⟨⟨⟨⟨⟨⟨⟨⟨⟨⟨⟨⟨⟨⟨⟨trivial, ?_⟩, ?_⟩, ?_⟩, ?_⟩, ?_⟩, ?_⟩, ?_⟩, ?_⟩, ?_⟩, ?_⟩, ?_⟩, ?_⟩, ?_⟩, ?_⟩, ?_⟩, ?_⟩, ?_⟩, ?_⟩, ?_⟩
        · intro vals wR Fs hbR hd hk K hK
          clear hd hk
          clear hbR
          refine wpOp_step rfl (fun K' hK' => ?_)
          go_simp
          refine hK' _ _ ?_
          exact hK _ _ (fun _ => False) rfl (Wr.refl _ _) (fun _ h => h.elim)
        · intro vals wR Fs hbR hd hk K hK
          clear hd hk
          clear hbR
          refine wpOp_step rfl (fun K' hK' => ?_)
          go_simp
          refine hK' _ _ ?_
          exact hK _ _ (fun _ => False) rfl (Wr.refl _ _) (fun _ h => h.elim)
        · intro vals wR Fs hbR hd hk K hK
          clear hd hk
          clear hbR
          refine wpOp_step rfl (fun K' hK' => ?_)
          go_simp
          refine hK' _ _ ?_
          exact hK _ _ (fun _ => False) rfl (Wr.refl _ _) (fun _ h => h.elim)
        · intro vals wR Fs hbR hd hk K hK
          clear hd hk
          clear hbR
          refine wpOp_step rfl (fun K' hK' => ?_)
          go_simp
          refine hK' _ _ ?_
          exact hK _ _ (fun _ => False) rfl (Wr.refl _ _) (fun _ h => h.elim)
        · intro vals wR Fs hbR hd hk K hK
          have e2 : vals 2 = (.slice A2 b.length c2) := (hd 2 rfl rfl).1
          have e3 : vals 3 = (.int .i64 (k : Nat)) := (hd 3 rfl rfl).1
          clear hd hk
          exact wpOp_cutS rfl rfl _ _ _ rfl sl8 e2 (rbW.below hbR) kb k e3 hk hbR.size (R := fun G w' => ∀ g, G g → g < w'.heap.size ∧ (wR.heap.size ≤ g ∨ ∃ d, (4, d) ∈ [(8, 6), (10, 8), (13, 11), (15, 13), (16, 10), (16, 15)] ∧ Fs d g)) (fun _ h => h.elim) hK
        · intro vals wR Fs hbR hd hk K hK
          clear hd hk
          clear hbR
          refine wpOp_step rfl (fun K' hK' => ?_)
          go_simp
          refine hK' _ _ ?_
          exact hK _ _ (fun _ => False) rfl (Wr.refl _ _) (fun _ h => h.elim)
        · intro vals wR Fs hbR hd hk K hK
          clear hd hk
          refine wpOp_step rfl (fun K' hK' => ?_)
          go_simp
          refine hK' _ _ ?_
          exact hK _ _ (fun g => g = wR.heap.size) ⟨_, _, rfl, World.ownsRow_lit wR #[] 0 (hbR.size) (by simp only [maxLen]; omega) rfl, fun g hg => by have h2 : some wR.heap.size = some g := hg; injection h2 with h2; exact h2.symm⟩ (Wr.below (below_alloc _ _) _) (fun g hg => by subst hg; exact ⟨by simp, .inl (Nat.le_refl _)⟩)
        · intro vals wR Fs hbR hd hk K hK
          clear hd hk
          clear hbR
          refine wpOp_step rfl (fun K' hK' => ?_)
          go_simp
          refine hK' _ _ ?_
          exact hK _ _ (fun _ => False) rfl (Wr.refl _ _) (fun _ h => h.elim)
        · intro vals wR Fs hbR hd hk K hK
          have e6 : SOwn W.heap.size 5 1 0 [] (vals 6) wR (Fs 6) := (hd 6 rfl rfl).1
          have r6 := (hd 6 rfl rfl).2
          have e7 : vals 7 = (.slice A2 b.length c2) := (hd 7 rfl rfl).1
          clear hd hk
          exact wpOp_appS (eats := [(8, 6), (10, 8), (13, 11), (15, 13), (16, 10), (16, 15)]) (i := 6) rfl rfl _ _ 23 rfl sl8 (by decide) e6 e7 (rbW.below hbR) (bv_one _) (by omega) (by simp only [maxLen]; omega) hbR.size hK
        · intro vals wR Fs hbR hd hk K hK
          clear hd hk
          clear hbR
          refine wpOp_step rfl (fun K' hK' => ?_)
          go_simp
          refine hK' _ _ ?_
          exact hK _ _ (fun _ => False) rfl (Wr.refl _ _) (fun _ h => h.elim)
        · intro vals wR Fs hbR hd hk K hK
          have e8 : SOwn W.heap.size 5 1 (0 + b.length) ([] ++ bv b) (vals 8) wR (Fs 8) := (hd 8 rfl rfl).1
          have r8 := (hd 8 rfl rfl).2
          have e9 : vals 9 = (.slice A' m c') := (hd 9 rfl rfl).1
          clear hd hk
          exact wpOp_appS (eats := [(8, 6), (10, 8), (13, 11), (15, 13), (16, 10), (16, 15)]) (i := 8) rfl rfl _ _ 23 rfl sl8 (by decide) e8 e9 (rxW.below hbR) (bv_one _) (by omega) (by simp only [maxLen]; omega) hbR.size hK
        · intro vals wR Fs hbR hd hk K hK
          clear hd hk
          refine wpOp_step rfl (fun K' hK' => ?_)
          go_simp
          refine hK' _ _ ?_
          exact hK _ _ (fun g => g = wR.heap.size) ⟨_, _, rfl, World.ownsRow_lit wR #[] 0 (hbR.size) (by simp only [maxLen]; omega) rfl, fun g hg => by have h2 : some wR.heap.size = some g := hg; injection h2 with h2; exact h2.symm⟩ (Wr.below (below_alloc _ _) _) (fun g hg => by subst hg; exact ⟨by simp, .inl (Nat.le_refl _)⟩)
        · intro vals wR Fs hbR hd hk K hK
          clear hd hk
          clear hbR
          refine wpOp_step rfl (fun K' hK' => ?_)
          go_simp
          refine hK' _ _ ?_
          exact hK _ _ (fun _ => False) rfl (Wr.refl _ _) (fun _ h => h.elim)
        · intro vals wR Fs hbR hd hk K hK
          have e11 : SOwn W.heap.size 5 1 0 [] (vals 11) wR (Fs 11) := (hd 11 rfl rfl).1
          have r11 := (hd 11 rfl rfl).2
          have e12 : vals 12 = (.slice A2 b.length c2) := (hd 12 rfl rfl).1
          clear hd hk
          exact wpOp_appS (eats := [(8, 6), (10, 8), (13, 11), (15, 13), (16, 10), (16, 15)]) (i := 11) rfl rfl _ _ 23 rfl sl8 (by decide) e11 e12 (rbW.below hbR) (bv_one _) (by omega) (by simp only [maxLen]; omega) hbR.size hK
        · intro vals wR Fs hbR hd hk K hK
          clear hd hk
          refine wpOp_step rfl (fun K' hK' => ?_)
          go_simp
          refine hK' _ _ ?_
          exact hK _ _ (fun g => g = wR.heap.size) ⟨_, _, rfl, World.ownsRow_lit wR #[Value.int .u8 255, Value.int .u8 255, Value.int .u8 0, Value.int .u8 0, Value.int .u8 0, Value.int .u8 0, Value.int .u8 0, Value.int .u8 0, Value.int .u8 0, Value.int .u8 0, Value.int .u8 1] 11 (hbR.size) (by simp only [maxLen]; omega) rfl, fun g hg => by have h2 : some wR.heap.size = some g := hg; injection h2 with h2; exact h2.symm⟩ (Wr.below (below_alloc _ _) _) (fun g hg => by subst hg; exact ⟨by simp, .inl (Nat.le_refl _)⟩)
        · intro vals wR Fs hbR hd hk K hK
          have e13 : SOwn W.heap.size 5 1 (0 + b.length) ([] ++ bv b) (vals 13) wR (Fs 13) := (hd 13 rfl rfl).1
          have r13 := (hd 13 rfl rfl).2
          have e14 : SOwn W.heap.size 5 1 11 [Value.int .u8 255, Value.int .u8 255, Value.int .u8 0, Value.int .u8 0, Value.int .u8 0, Value.int .u8 0, Value.int .u8 0, Value.int .u8 0, Value.int .u8 0, Value.int .u8 0, Value.int .u8 1] (vals 14) wR (Fs 14) := (hd 14 rfl rfl).1
          clear hd hk
          obtain ⟨Al, cl, hvl, hol, _⟩ := e14
          rw [hvl] at hol
          exact wpOp_appS (eats := [(8, 6), (10, 8), (13, 11), (15, 13), (16, 10), (16, 15)]) (i := 13) rfl rfl _ _ 23 rfl sl8 (by decide) e13 hvl (Rd.own hol) (by simp [Value.oneCell']) (by omega) (by simp only [maxLen]; omega) hbR.size hK
        · intro vals wR Fs hbR hd hk K hK
          have e0 : vals 0 = (.slice A2 b.length c2) := (hd 0 rfl rfl).1
          have e1 : vals 1 = (.slice A3 b.length c3) := (hd 1 rfl rfl).1
          have e4 : SOld W.heap.size k (b.take k) (vals 4) wR (Fs 4) := (hd 4 rfl rfl).1
          have e5 : vals 5 = (.slice A' m c') := (hd 5 rfl rfl).1
          have e10 : SOwn W.heap.size 5 1 (0 + b.length + m) (([] ++ bv b) ++ bv raw) (vals 10) wR (Fs 10) := (hd 10 rfl rfl).1
          have r10 := (hd 10 rfl rfl).2
          have e15 : SOwn W.heap.size 5 1 (0 + b.length + 11) (([] ++ bv b) ++ [Value.int .u8 255, Value.int .u8 255, Value.int .u8 0, Value.int .u8 0, Value.int .u8 0, Value.int .u8 0, Value.int .u8 0, Value.int .u8 0, Value.int .u8 0, Value.int .u8 0, Value.int .u8 1]) (vals 15) wR (Fs 15) := (hd 15 rfl rfl).1
          have r15 := (hd 15 rfl rfl).2
          clear hd hk
          simp only [e0, e1, e5] at hK
          obtain ⟨hB4, A4, c4, ev4, hc4, hr4⟩ := e4
          obtain ⟨A10, c10, ev10, ho10, hG10⟩ := e10
          obtain ⟨A15, c15, ev15, ho15, hG15⟩ := e15
          rw [ev10] at ho10
          rw [ev15] at ho15
          have k10 := own_cap ho10
          have k15 := own_cap ho15
          have R0 := rbW.below hbR
          have R1 := rcW.below hbR
          have R5 := rxW.below hbR
          rw [Nat.zero_add, List.nil_append, ← bv_append] at ho10
          rw [Nat.zero_add, List.nil_append, lit255, ← bv_append] at ho15
          rw [Nat.zero_add] at ev10 ev15 k10 k15
          have fin16 : ∀ G : Nat → Prop, (∀ g, g < W.heap.size → G g) → (∀ g, Fs 10 g → G g) → (∀ g, Fs 15 g → G g) → EachG wR G [.slice A2 b.length c2, .slice A3 b.length c3, .slice A4 k c4, .slice A' m c', .slice A10 (b.length + m) c10, .slice A15 (b.length + 11) c15] XS := by
            intro G h0 h10 h15
            have kk : (b.take k).length = k := by rw [List.length_take]; omega
            rw [XS_.out]
            refine ⟨⟨A2, c2, rfl, kb, RdG.of_rd R0 hbR.size h0⟩, ⟨A3, c3, ?_, ?_, RdG.of_rd (n := C.length) (by rw [CL.out]; exact R1) hbR.size h0⟩, ⟨A4, c4, ?_, ?_, RdG.of_rd (n := (b.take k).length) (by rw [kk]; exact hr4) hbR.size h0⟩, ⟨A', c', ?_, ?_, RdG.of_rd (n := raw.length) (by rw [rawL.out]; exact R5) hbR.size h0⟩, ⟨A10, c10, ?_, ?_, RdG.of_own (n := (b ++ raw).length) (by rw [List.length_append, rawL.out]; exact ho10) fun g hg => h10 g (hG10 g hg)⟩, ⟨A15, c15, ?_, ?_, RdG.of_own (n := (b ++ lits).length) (by rw [List.length_append]; exact ho15) fun g hg => h15 g (hG15 g hg)⟩, trivial⟩
            all_goals first | rw [CL.out] | rw [kk] | rw [rawL.out] | rw [List.length_append, rawL.out] | (rw [List.length_append]; try rfl)
            all_goals first | exact kc | exact hc4 | exact hmc | exact k10 | exact k15
          clear R0 R1 R5 hr4 hB4
          simp only [ev4, ev10, ev15] at hK
          refine wpOp_step rfl (fun K' hK' => ?_)
          go_simp
          refine hK' _ _ ?_
          refine hK _ _ (fun g => g = wR.heap.size ∨ Fs 10 g ∨ Fs 15 g) ⟨Nat.le_trans hbR.size (by simp), some ⟨wR.heap.size, 0, none⟩, 6, [.slice A2 b.length c2, .slice A3 b.length c3, .slice A4 k c4, .slice A' m c', .slice A10 (b.length + m) c10, .slice A15 (b.length + 11) c15], by rw [XSl.out], by rw [XSl.out]; omega, ?_, ?_⟩ (Wr.below (below_alloc _ _) _) ?_
          · rw [XSl.out]
            exact RdG.of_own (World.ownsRow_lit (base := wR.heap.size) (e := 23) wR #[.slice A2 b.length c2, .slice A3 b.length c3, .slice A4 k c4, .slice A' m c', .slice A10 (b.length + m) c10, .slice A15 (b.length + 11) c15] 6 (Nat.le_refl _) (by simp only [maxLen]; omega) rfl) (fun g hg => by have h2 : some wR.heap.size = some g := hg; injection h2 with h2; exact .inr (.inl h2.symm))
          · refine EachG.keep (by simp) (fun g hg _ => Below.heap_alloc wR _ g hg) (fun _ h => h) _ _ (fin16 _ (fun g hg => .inl hg) (fun g hg => .inr (.inr (.inl hg))) (fun g hg => .inr (.inr (.inr hg))))
          · rintro g (rfl | hg | hg)
            · exact ⟨by simp, .inl (Nat.le_refl _)⟩
            · exact ⟨Nat.lt_of_lt_of_le (r10 g hg).2 (by simp), .inr ⟨10, by decide, hg⟩⟩
            · exact ⟨Nat.lt_of_lt_of_le (r15 g hg).2 (by simp), .inr ⟨15, by decide, hg⟩⟩
        · intro vals wR Fs hbR hd hk K hK
          have e16 : SRows W.heap.size XS (vals 16) wR (Fs 16) := (hd 16 rfl rfl).1
          clear hd hk
          obtain ⟨_, A16, c16, vs16, ev16, _, _, _⟩ := e16
          rw [XSl.out] at ev16
          simp only [ev16] at hK
          clear hbR
          refine wpOp_step rfl (fun K' hK' => ?_)
          go_simp
          refine hK' _ _ ?_
          exact hK _ _ (fun _ => False) rfl (Wr.refl _ _) (fun _ h => h.elim)
        · intro vals wR Fs hbR hd hk K hK
          clear hd hk
          clear hbR
          refine wpOp_step rfl (fun K' hK' => ?_)
          go_simp
          refine hK' _ _ ?_
          exact hK _ _ (fun _ => False) rfl (Wr.refl _ _) (fun _ h => h.elim)
      case fin_a =>
        intro vals wE Fs hbE hAll
        obtain ⟨⟨⟨⟨⟨⟨⟨⟨⟨⟨⟨⟨⟨⟨⟨⟨⟨⟨⟨_, _⟩, _⟩, _⟩, _⟩, _⟩, _⟩, _⟩, _⟩, _⟩, _⟩, _⟩, _⟩, _⟩, _⟩, _⟩, _⟩, f16⟩, f17⟩, f18⟩ := hAll
        have f16 := f16 rfl
        have f17 := f17 rfl
        have f18 := f18 rfl
        obtain ⟨_, A16, c16, vs16, ev16, hc16, rg16, eg16⟩ := f16
        have rv := rg16.rd
        have eR := EachG.toR _ _ eg16
        clear rg16 eg16
        rw [XSl.out] at ev16 hc16 rv
        have e17 : vals 17 = .int .i64 6 := f17
        have e18 : vals 18 = .int .i64 0 := f18
        clear f17 f18
        have bel := below_nx belW belW.size hbE
        clear rbW rcW rxW belW hbE
        have hall := XSb.out
        have hlen := XSl.out
        clear XS_ XSl XSb CL
        generalize vals 0 = v0, vals 1 = v1, vals 2 = v2, vals 3 = v3, vals 4 = v4, vals 5 = v5, vals 6 = v6, vals 7 = v7, vals 8 = v8, vals 9 = v9, vals 10 = v10, vals 11 = v11, vals 12 = v12, vals 13 = v13, vals 14 = v14, vals 15 = v15, vals 16 = v16, vals 17 = v17, vals 18 = v18 at *
        subst ev16 e17 e18
        obtain ⟨b0, o0, rfl⟩ := rv.some_ (by decide)
        go_wp2_with (first | (at_make; refine Held.out ?_) | (at_builtin; refine Held.out ?_) | (refine hold_slice ?_) | (refine hold_conv (s := 23) (t := 9) ?_))
        go_loopw [65] (fun iv_ wr => ∃ i : Nat, i ≤ 6 ∧ iv_ = .int .i64 i ∧ Below wE.heap.size wE wr) (fun iv_ _ => 6 - (intOf iv_).toNat)
        case atStart => exact ⟨0, by omega, rfl, Below.refl _ _⟩
        case round =>
          obtain ⟨i, hi, rfl, be⟩ := hrel
          by_cases hi3 : i < 6
          · have hd3 : decide ((i : Int) < 6) = true := by simp; omega
            have hi' : i < XS.length := by omega
            obtain ⟨A5, c5, hv5, hc5, hr5⟩ := eR.2 i XS[i] (by simp [hi'])
            have hx5 := hall XS[i] (List.getElem_mem _)
            have cell := ((rv.below be).more be.size).cell1 hv5
            have hr5 := (hr5.below be).more be.size
            generalize XS[i] = x at *
            generalize hx5l : x.length = x5 at *
            clear hv5 hi' hall eR rv
            have HA := Lib.hid (fun W h1 => jRead_c A5 c5 x5 x W h1 hc5 (by omega))
            have HB := Lib.hid (fun W h1 => rRead_c A5 c5 x5 x W h1 hc5 (by omega))
            have HC := Lib.hid (fun W h1 => jRepair_c A5 c5 x5 x W h1 hc5 (by omega))
            have HD := Lib.hid (fun W h1 => rRepair_c A5 c5 x5 x W h1 hc5 (by omega))
            have hjl := J_cnt x
            have hjn := J_len x
            generalize x.take (J x 0).2.1 = T at *
            generalize J x 0 = Q at *
            obtain ⟨q1, q2, q3, q4⟩ := Q
            simp only at HA HB HC HD hjl hjn
            go_wp2_with (first | (at_make; refine Held.out ?_) | (at_builtin; refine Held.out ?_) | (refine hold_slice ?_) | (refine hold_conv (s := 23) (t := 9) ?_))
            refine (HA.out _ hr5).mono ?_
            rintro e w5 ⟨A7, c7, rfl, v7s, own7, each7, bel7⟩
            have ra := Rd.own own7
            have ea := each7.toR
            have hr6 := hr5.nx bel7
            have be5 := below_nx be be.size bel7
            clear own7 each7 bel7 HA
            go_wp2_with (first | (at_make; refine Held.out ?_) | (at_builtin; refine Held.out ?_) | (refine hold_slice ?_) | (refine hold_conv (s := 23) (t := 9) ?_))
            refine (HB.out _ hr6).mono ?_
            rintro e w6 ⟨A8, c8, rfl, v8s, own8, each8, bel8⟩
            have ra := ra.nx bel8
            have ea := ea.nx bel8
            have rb := Rd.own own8
            have eb := each8.toR
            have hr7 := hr6.nx bel8
            have be6 := below_nx be5 be5.size bel8
            clear own8 each8 bel8 HB hr6
            have hq4 : (q4 != q4) = false := by simp
            go_wp2_with (first | (at_make; refine Held.out ?_) | (at_builtin; refine Held.out ?_) | (refine hold_slice ?_) | (refine hold_conv (s := 23) (t := 9) ?_))
            refine wp_region_spec (n := 23) (fun j => match j with
                | 0 => Is ((.int .i64 (q2 : Nat)))
                | 1 => Is ((.int .i64 (q2 : Nat)))
                | 2 => Is ((.bool false))
                | 3 => Is ((.bool false))
                | 4 => Is ((.int .i64 q4))
                | 5 => Is ((.int .i64 q4))
                | 6 => Is ((.bool false))
                | 7 => Is ((.bool false))
                | 8 => Is ((.bool false))
                | 9 => Is ((.slice A7 q1.length c7))
                | 10 => Is ((.slice A8 q1.length c8))
                | 11 => Is ((.bool true))
                | 12 => Is ((.bool false))
                | 13 => Is ((.bool false))
                | 14 => Is ((.bool false))
                | 15 => Is ((.slice A5 x5 c5))
                | 16 => IsB q2 T
                | 17 => Is ((.string ⟨T.toArray⟩))
                | 18 => Is ((.slice A5 x5 c5))
                | 19 => IsB q2 T
                | 20 => Is ((.string ⟨T.toArray⟩))
                | 21 => Is ((.bool false))
                | 22 => Is ((.bool false))
                | _ => fun _ _ => True) (Below.refl _ w6) (Nat.le_refl _) (by kernel_rfl) (by kernel_rfl) (by kernel_rfl) rfl (F := ?FX) ?hFX ?monoX ?stepX ?finX
            case hFX =>
              intro vals
              simp only [putAll, dstsOf, Act.put, List.map_cons, List.map_nil, List.setIfInBounds_toArray, List.set_cons_succ, List.set_cons_zero, Nat.reduceAdd]
              rfl
            case monoX => exact ⟨⟨⟨⟨⟨⟨⟨⟨⟨⟨⟨⟨⟨⟨⟨⟨⟨⟨⟨⟨⟨⟨⟨trivial, mono_is _⟩, mono_is _⟩, mono_is _⟩, mono_is _⟩, mono_is _⟩, mono_is _⟩, mono_is _⟩, mono_is _⟩, mono_is _⟩, mono_is _⟩, mono_is _⟩, mono_is _⟩, mono_is _⟩, mono_is _⟩, mono_is _⟩, mono_is _⟩, mono_isB _ _⟩, mono_is _⟩, mono_is _⟩, mono_isB _ _⟩, mono_is _⟩, mono_is _⟩, mono_is _⟩
            case stepX =>
              refine ⟨⟨⟨⟨⟨⟨⟨⟨⟨⟨⟨⟨⟨⟨⟨⟨⟨⟨⟨⟨⟨⟨⟨trivial, ?_⟩, ?_⟩, ?_⟩, ?_⟩, ?_⟩, ?_⟩, ?_⟩, ?_⟩, ?_⟩, ?_⟩, ?_⟩, ?_⟩, ?_⟩, ?_⟩, ?_⟩, ?_⟩, ?_⟩, ?_⟩, ?_⟩, ?_⟩, ?_⟩, ?_⟩, ?_⟩
              · intro vals wR hbR hd hk K hK
                clear hd hk
                clear hbR
                refine wpOp_step rfl (fun K' hK' => ?_)
                go_simp
                refine hK' _ _ ?_
                exact hK _ _ rfl (Below.refl _ _)
              · intro vals wR hbR hd hk K hK
                clear hd hk
                clear hbR
                refine wpOp_step rfl (fun K' hK' => ?_)
                go_simp
                refine hK' _ _ ?_
                exact hK _ _ rfl (Below.refl _ _)
              · intro vals wR hbR hd hk K hK
                have e0 : vals 0 = (.int .i64 (q2 : Nat)) := hd 0 rfl
                have e1 : vals 1 = (.int .i64 (q2 : Nat)) := hd 1 rfl
                clear hd hk
                simp only [e0, e1] at hK
                clear hbR
                refine wpOp_step rfl (fun K' hK' => ?_)
                go_simp
                refine hK' _ _ ?_
                exact hK _ _ rfl (Below.refl _ _)
              · intro vals wR hbR hd hk K hK
                have e2 : vals 2 = (.bool false) := hd 2 rfl
                clear hd hk
                simp only [e2] at hK
                clear hbR
                refine wpOp_step rfl (fun K' hK' => ?_)
                go_simp
                refine hK' _ _ ?_
                exact hK _ _ rfl (Below.refl _ _)
              · intro vals wR hbR hd hk K hK
                have e3 : vals 3 = (.bool false) := hd 3 rfl
                clear hd hk
                simp only [e3] at hK
                clear hbR
                refine wpOp_step rfl (fun K' hK' => ?_)
                go_simp
                refine hK' _ _ ?_
                exact hK _ _ rfl (Below.refl _ _)
              · intro vals wR hbR hd hk K hK
                have e3 : vals 3 = (.bool false) := hd 3 rfl
                clear hd hk
                simp only [e3] at hK
                clear hbR
                refine wpOp_step rfl (fun K' hK' => ?_)
                go_simp
                refine hK' _ _ ?_
                exact hK _ _ rfl (Below.refl _ _)
              · intro vals wR hbR hd hk K hK
                have e4 : vals 4 = (.int .i64 q4) := hd 4 rfl
                have e5 : vals 5 = (.int .i64 q4) := hd 5 rfl
                have e3 : vals 3 = (.bool false) := hd 3 rfl
                clear hd hk
                simp only [e4, e5, e3] at hK
                clear hbR
                refine wpOp_step rfl (fun K' hK' => ?_)
                go_simp
                refine hK' _ _ ?_
                exact hK _ _ rfl (Below.refl _ _)
              · intro vals wR hbR hd hk K hK
                have e3 : vals 3 = (.bool false) := hd 3 rfl
                have e6 : vals 6 = (.bool false) := hd 6 rfl
                clear hd hk
                simp only [e3, e6] at hK
                clear hbR
                refine wpOp_step rfl (fun K' hK' => ?_)
                go_simp
                refine hK' _ _ ?_
                exact hK _ _ rfl (Below.refl _ _)
              · intro vals wR hbR hd hk K hK
                have e7 : vals 7 = (.bool false) := hd 7 rfl
                clear hd hk
                simp only [e7] at hK
                clear hbR
                refine wpOp_step rfl (fun K' hK' => ?_)
                go_simp
                refine hK' _ _ ?_
                exact hK _ _ rfl (Below.refl _ _)
              · intro vals wR hbR hd hk K hK
                have e8 : vals 8 = (.bool false) := hd 8 rfl
                clear hd hk
                simp only [e8] at hK
                clear hbR
                refine wpOp_step rfl (fun K' hK' => ?_)
                go_simp
                refine hK' _ _ ?_
                exact hK _ _ rfl (Below.refl _ _)
              · intro vals wR hbR hd hk K hK
                have e8 : vals 8 = (.bool false) := hd 8 rfl
                clear hd hk
                simp only [e8] at hK
                clear hbR
                refine wpOp_step rfl (fun K' hK' => ?_)
                go_simp
                refine hK' _ _ ?_
                exact hK _ _ rfl (Below.refl _ _)
              · intro vals wR hbR hd hk K hK
                have e9 : vals 9 = (.slice A7 q1.length c7) := hd 9 rfl
                have e10 : vals 10 = (.slice A8 q1.length c8) := hd 10 rfl
                have e8 : vals 8 = (.bool false) := hd 8 rfl
                clear hd hk
                simp only [e9, e10, e8] at hK
                refine wpOp_step rfl (fun K' hK' => ?_)
                go_simp
                refine (Same_c A7 A8 c7 c8 q1.length q1.length v7s v8s q1 q1 wR (ra.nx hbR) (ea.nx hbR) (rb.nx hbR) (eb.nx hbR) (by omega) (by omega)).mono ?_
                rintro e w2 ⟨rfl, qq, rfl⟩
                refine hK' _ _ ?_
                exact hK _ _ (by show Value.bool _ = _; simp) (below_dn _ _)
              · intro vals wR hbR hd hk K hK
                have e11 : vals 11 = (.bool true) := hd 11 rfl
                have e8 : vals 8 = (.bool false) := hd 8 rfl
                clear hd hk
                simp only [e11, e8] at hK
                clear hbR
                refine wpOp_step rfl (fun K' hK' => ?_)
                go_simp
                refine hK' _ _ ?_
                exact hK _ _ rfl (Below.refl _ _)
              · intro vals wR hbR hd hk K hK
                have e8 : vals 8 = (.bool false) := hd 8 rfl
                have e12 : vals 12 = (.bool false) := hd 12 rfl
                clear hd hk
                simp only [e8, e12] at hK
                clear hbR
                refine wpOp_step rfl (fun K' hK' => ?_)
                go_simp
                refine hK' _ _ ?_
                exact hK _ _ rfl (Below.refl _ _)
              · intro vals wR hbR hd hk K hK
                have e13 : vals 13 = (.bool false) := hd 13 rfl
                clear hd hk
                simp only [e13] at hK
                clear hbR
                refine wpOp_step rfl (fun K' hK' => ?_)
                go_simp
                refine hK' _ _ ?_
                exact hK _ _ rfl (Below.refl _ _)
              · intro vals wR hbR hd hk K hK
                have e14 : vals 14 = (.bool false) := hd 14 rfl
                clear hd hk
                simp only [e14] at hK
                clear hbR
                refine wpOp_step rfl (fun K' hK' => ?_)
                go_simp
                refine hK' _ _ ?_
                exact hK _ _ rfl (Below.refl _ _)
              · intro vals wR hbR hd hk K hK
                have e15 : vals 15 = (.slice A5 x5 c5) := hd 15 rfl
                have e14 : vals 14 = (.bool false) := hd 14 rfl
                clear hd hk
                simp only [e15, e14] at hK
                refine wpOp_step rfl (fun K' hK' => ?_)
                go_simp
                refine (HC.out wR (hr7.nx hbR)).mono ?_
                rintro e w2 ⟨A2, c2, rfl, own2, bel2⟩
                refine hK' _ _ ?_
                exact hK _ _ ⟨A2, c2, rfl, own_cap own2, Rd.own own2⟩ bel2
              · intro vals wR hbR hd hk K hK
                have e16 : IsB q2 T (vals 16) wR := hd 16 rfl
                have e14 : vals 14 = (.bool false) := hd 14 rfl
                clear hd hk
                simp only [e14] at hK
                obtain ⟨A1, c1, ev, hc1, hr1⟩ := e16
                simp only [ev] at hK
                have hrun := run_b2s (P := Try.prog) wR 23 9 5 Try.underlying23 u8str Try.underlying9 (c := c1) hr1
                clear hbR hr1
                refine wpOp_step rfl (fun K' hK' => ?_)
                go_simp
                refine hK' _ _ ?_
                exact hK _ _ rfl (Below.refl _ _)
              · intro vals wR hbR hd hk K hK
                have e14 : vals 14 = (.bool false) := hd 14 rfl
                clear hd hk
                simp only [e14] at hK
                clear hbR
                refine wpOp_step rfl (fun K' hK' => ?_)
                go_simp
                refine hK' _ _ ?_
                exact hK _ _ rfl (Below.refl _ _)
              · intro vals wR hbR hd hk K hK
                have e18 : vals 18 = (.slice A5 x5 c5) := hd 18 rfl
                have e14 : vals 14 = (.bool false) := hd 14 rfl
                clear hd hk
                simp only [e18, e14] at hK
                refine wpOp_step rfl (fun K' hK' => ?_)
                go_simp
                refine (HD.out wR (hr7.nx hbR)).mono ?_
                rintro e w2 ⟨A2, c2, rfl, own2, bel2⟩
                refine hK' _ _ ?_
                exact hK _ _ ⟨A2, c2, rfl, own_cap own2, Rd.own own2⟩ bel2
              · intro vals wR hbR hd hk K hK
                have e19 : IsB q2 T (vals 19) wR := hd 19 rfl
                have e14 : vals 14 = (.bool false) := hd 14 rfl
                clear hd hk
                simp only [e14] at hK
                obtain ⟨A1, c1, ev, hc1, hr1⟩ := e19
                simp only [ev] at hK
                have hrun := run_b2s (P := Try.prog) wR 23 9 5 Try.underlying23 u8str Try.underlying9 (c := c1) hr1
                clear hbR hr1
                refine wpOp_step rfl (fun K' hK' => ?_)
                go_simp
                refine hK' _ _ ?_
                exact hK _ _ rfl (Below.refl _ _)
              · intro vals wR hbR hd hk K hK
                have e17 : vals 17 = (.string ⟨T.toArray⟩) := hd 17 rfl
                have e20 : vals 20 = (.string ⟨T.toArray⟩) := hd 20 rfl
                have e14 : vals 14 = (.bool false) := hd 14 rfl
                clear hd hk
                simp only [e17, e20, e14] at hK
                clear hbR
                refine wpOp_step rfl (fun K' hK' => ?_)
                go_simp
                refine hK' _ _ ?_
                exact hK _ _ rfl (Below.refl _ _)
              · intro vals wR hbR hd hk K hK
                have e14 : vals 14 = (.bool false) := hd 14 rfl
                have e21 : vals 21 = (.bool false) := hd 21 rfl
                clear hd hk
                simp only [e14, e21] at hK
                clear hbR
                refine wpOp_step rfl (fun K' hK' => ?_)
                go_simp
                refine hK' _ _ ?_
                exact hK _ _ rfl (Below.refl _ _)
            case finX =>
              intro vals wE hbE hAll
              obtain ⟨⟨⟨⟨⟨⟨⟨⟨⟨⟨⟨⟨⟨⟨⟨⟨⟨⟨⟨⟨⟨⟨⟨_, _⟩, _⟩, _⟩, _⟩, _⟩, _⟩, _⟩, _⟩, _⟩, _⟩, _⟩, _⟩, _⟩, _⟩, _⟩, _⟩, _⟩, _⟩, _⟩, _⟩, _⟩, _⟩, f22⟩ := hAll
              have e22 : vals 22 = .bool false := f22
              clear f22
              generalize vals 22 = v22 at *
              subst e22
              have be7 := below_nx be6 be6.size hbE
              clear HC HD ra ea rb eb hr7 be6 hbE
              go_wp2_with (first | (at_make; refine Held.out ?_) | (at_builtin; refine Held.out ?_) | (refine hold_slice ?_) | (refine hold_conv (s := 23) (t := 9) ?_))
              go_roundw
              case rel => exact ⟨i + 1, by omega, by go_num, be7⟩
              case measure => simp [intOf]; omega
          · go_wp2_with (first | (at_make; refine Held.out ?_) | (at_builtin; refine Held.out ?_) | (refine hold_slice ?_) | (refine hold_conv (s := 23) (t := 9) ?_))
            go_ret
            exact ⟨rfl, below_nx bel bel.size be⟩
    · have hdk : decide (k < b.length) = false := by simp; omega
      obtain ⟨W, rfl⟩ : ∃ W, W = w3 := ⟨_, rfl⟩
      have belS := bel3
      have ownC := own3
      obtain ⟨C, hC⟩ : ∃ C, C = b := ⟨_, rfl⟩
      have CL := Lib.hid (show C.length = b.length by rw [hC])
      rw [← hC] at ownC
      rw [CL.out] at ownC
      clear own3 bel3
      have hC := Lib.hid hC
      go_wp2_with (first | (at_make; refine Held.out ?_) | (at_builtin; refine Held.out ?_) | (refine hold_slice ?_))
      have rbW := rb.nx belS
      have rcW := Rd.own ownC
      have rxW := hr2.nx belS
      have belW := below_nx bel bel.size belS
      clear rb ownC hr2 bel belS
      obtain ⟨XS, hXS⟩ : ∃ XS, XS = [b, C, b.take k, raw, b ++ raw, b ++ lits] := ⟨_, rfl⟩
      have XS_ := Lib.hid hXS
      have XSl := Lib.hid (show XS.length = 6 by rw [hXS]; rfl)
      have XSb := Lib.hid (show ∀ x ∈ XS, x.length ≤ 1000 by
        intro x hx
        rw [hXS] at hx
        simp only [List.mem_cons, List.not_mem_nil, or_false] at hx
        rcases hx with rfl | rfl | rfl | rfl | rfl | rfl
        · omega
        · rw [CL.out]; omega
        · rw [List.length_take]; omega
        · rw [rawL.out]; omega
        · rw [List.length_append, rawL.out]; omega
        · rw [List.length_append]; simp [lits]; omega)
      clear hXS
      refine wp_region_sep (n := 19) (fun j => match j with
          | 0 => SIs ((.slice A2 b.length c2))
          | 1 => SIs ((.slice A3 b.length c3))
          | 2 => SIs ((.slice A2 b.length c2))
          | 3 => SIs ((.int .i64 (k : Nat)))
          | 4 => SOld W.heap.size k (b.take k)
          | 5 => SIs ((.slice A' m c'))
          | 6 => SOwn W.heap.size 5 1 0 []
          | 7 => SIs ((.slice A2 b.length c2))
          | 8 => SOwn W.heap.size 5 1 (0 + b.length) ([] ++ bv b)
          | 9 => SIs ((.slice A' m c'))
          | 10 => SOwn W.heap.size 5 1 (0 + b.length + m) (([] ++ bv b) ++ bv raw)
          | 11 => SOwn W.heap.size 5 1 0 []
          | 12 => SIs ((.slice A2 b.length c2))
          | 13 => SOwn W.heap.size 5 1 (0 + b.length) ([] ++ bv b)
          | 14 => SOwn W.heap.size 5 1 11 [Value.int .u8 255, Value.int .u8 255, Value.int .u8 0, Value.int .u8 0, Value.int .u8 0, Value.int .u8 0, Value.int .u8 0, Value.int .u8 0, Value.int .u8 0, Value.int .u8 0, Value.int .u8 1]
          | 15 => SOwn W.heap.size 5 1 (0 + b.length + 11) (([] ++ bv b) ++ [Value.int .u8 255, Value.int .u8 255, Value.int .u8 0, Value.int .u8 0, Value.int .u8 0, Value.int .u8 0, Value.int .u8 0, Value.int .u8 0, Value.int .u8 0, Value.int .u8 0, Value.int .u8 1])
          | 16 => SRows W.heap.size XS
          | 17 => SIs ((.int .i64 6))
          | 18 => SIs ((Value.int IntKind.i64 0))
          | _ => fun _ _ _ => True) [(8, 6), (10, 8), (13, 11), (15, 13), (16, 10), (16, 15)] (B := W.heap.size) (Below.refl _ W) (Nat.le_refl _) (by kernel_rfl) (by kernel_rfl) (by kernel_rfl) (by kernel_rfl) rfl (F := ?F_b) ?hF_b ?mono_b ?step_b ?fin_b
      case hF_b =>
        intro vals
        simp only [putAll, dstsOf, Act.put, List.map_cons, List.map_nil, List.setIfInBounds_toArray, List.set_cons_succ, List.set_cons_zero, Nat.reduceAdd]
        rfl
      case mono_b => exact ⟨⟨⟨⟨⟨⟨⟨⟨⟨⟨⟨⟨⟨⟨⟨⟨⟨⟨⟨trivial, mono_sis _ _⟩, mono_sis _ _⟩, mono_sis _ _⟩, mono_sis _ _⟩, mono_sold _ _ _⟩, mono_sis _ _⟩, mono_sown _ _ _ _ _⟩, mono_sis _ _⟩, mono_sown _ _ _ _ _⟩, mono_sis _ _⟩, mono_sown _ _ _ _ _⟩, mono_sown _ _ _ _ _⟩, mono_sis _ _⟩, mono_sown _ _ _ _ _⟩, mono_sown _ _ _ _ _⟩, mono_sown _ _ _ _ _⟩, mono_srows _ _⟩, mono_sis _ _⟩, mono_sis _ _⟩
      case step_b =>
        refine ⟨⟨⟨⟨⟨⟨⟨⟨⟨⟨⟨⟨⟨⟨⟨⟨⟨⟨⟨trivial, ?_⟩, ?_⟩, ?_⟩, ?_⟩, ?_⟩, ?_⟩, ?_⟩, ?_⟩, ?_⟩, ?_⟩, ?_⟩, ?_⟩, ?_⟩, ?_⟩, ?_⟩, ?_⟩, ?_⟩, ?_⟩, ?_⟩
        · intro vals wR Fs hbR hd hk K hK
          clear hd hk
          clear hbR
          refine wpOp_step rfl (fun K' hK' => ?_)
          go_simp
          refine hK' _ _ ?_
          exact hK _ _ (fun _ => False) rfl (Wr.refl _ _) (fun _ h => h.elim)
        · intro vals wR Fs hbR hd hk K hK
          clear hd hk
          clear hbR
          refine wpOp_step rfl (fun K' hK' => ?_)
          go_simp
          refine hK' _ _ ?_
          exact hK _ _ (fun _ => False) rfl (Wr.refl _ _) (fun _ h => h.elim)
        · intro vals wR Fs hbR hd hk K hK
          clear hd hk
          clear hbR
          refine wpOp_step rfl (fun K' hK' => ?_)
          go_simp
          refine hK' _ _ ?_
          exact hK _ _ (fun _ => False) rfl (Wr.refl _ _) (fun _ h => h.elim)
        · intro vals wR Fs hbR hd hk K hK
          clear hd hk
          clear hbR
          refine wpOp_step rfl (fun K' hK' => ?_)
          go_simp
          refine hK' _ _ ?_
          exact hK _ _ (fun _ => False) rfl (Wr.refl _ _) (fun _ h => h.elim)
        · intro vals wR Fs hbR hd hk K hK
          have e2 : vals 2 = (.slice A2 b.length c2) := (hd 2 rfl rfl).1
          have e3 : vals 3 = (.int .i64 (k : Nat)) := (hd 3 rfl rfl).1
          clear hd hk
          exact wpOp_cutS rfl rfl _ _ _ rfl sl8 e2 (rbW.below hbR) kb k e3 hk hbR.size (R := fun G w' => ∀ g, G g → g < w'.heap.size ∧ (wR.heap.size ≤ g ∨ ∃ d, (4, d) ∈ [(8, 6), (10, 8), (13, 11), (15, 13), (16, 10), (16, 15)] ∧ Fs d g)) (fun _ h => h.elim) hK
        · intro vals wR Fs hbR hd hk K hK
          clear hd hk
          clear hbR
          refine wpOp_step rfl (fun K' hK' => ?_)
          go_simp
          refine hK' _ _ ?_
          exact hK _ _ (fun _ => False) rfl (Wr.refl _ _) (fun _ h => h.elim)
        · intro vals wR Fs hbR hd hk K hK
          clear hd hk
          refine wpOp_step rfl (fun K' hK' => ?_)
          go_simp
          refine hK' _ _ ?_
          exact hK _ _ (fun g => g = wR.heap.size) ⟨_, _, rfl, World.ownsRow_lit wR #[] 0 (hbR.size) (by simp only [maxLen]; omega) rfl, fun g hg => by have h2 : some wR.heap.size = some g := hg; injection h2 with h2; exact h2.symm⟩ (Wr.below (below_alloc _ _) _) (fun g hg => by subst hg; exact ⟨by simp, .inl (Nat.le_refl _)⟩)
        · intro vals wR Fs hbR hd hk K hK
          clear hd hk
          clear hbR
          refine wpOp_step rfl (fun K' hK' => ?_)
          go_simp
          refine hK' _ _ ?_
          exact hK _ _ (fun _ => False) rfl (Wr.refl _ _) (fun _ h => h.elim)
        · intro vals wR Fs hbR hd hk K hK
          have e6 : SOwn W.heap.size 5 1 0 [] (vals 6) wR (Fs 6) := (hd 6 rfl rfl).1
          have r6 := (hd 6 rfl rfl).2
          have e7 : vals 7 = (.slice A2 b.length c2) := (hd 7 rfl rfl).1
          clear hd hk
          exact wpOp_appS (eats := [(8, 6), (10, 8), (13, 11), (15, 13), (16, 10), (16, 15)]) (i := 6) rfl rfl _ _ 23 rfl sl8 (by decide) e6 e7 (rbW.below hbR) (bv_one _) (by omega) (by simp only [maxLen]; omega) hbR.size hK
        · intro vals wR Fs hbR hd hk K hK
          clear hd hk
          clear hbR
          refine wpOp_step rfl (fun K' hK' => ?_)
          go_simp
          refine hK' _ _ ?_
          exact hK _ _ (fun _ => False) rfl (Wr.refl _ _) (fun _ h => h.elim)
        · intro vals wR Fs hbR hd hk K hK
          have e8 : SOwn W.heap.size 5 1 (0 + b.length) ([] ++ bv b) (vals 8) wR (Fs 8) := (hd 8 rfl rfl).1
          have r8 := (hd 8 rfl rfl).2
          have e9 : vals 9 = (.slice A' m c') := (hd 9 rfl rfl).1
          clear hd hk
          exact wpOp_appS (eats := [(8, 6), (10, 8), (13, 11), (15, 13), (16, 10), (16, 15)]) (i := 8) rfl rfl _ _ 23 rfl sl8 (by decide) e8 e9 (rxW.below hbR) (bv_one _) (by omega) (by simp only [maxLen]; omega) hbR.size hK
        · intro vals wR Fs hbR hd hk K hK
          clear hd hk
          refine wpOp_step rfl (fun K' hK' => ?_)
          go_simp
          refine hK' _ _ ?_
          exact hK _ _ (fun g => g = wR.heap.size) ⟨_, _, rfl, World.ownsRow_lit wR #[] 0 (hbR.size) (by simp only [maxLen]; omega) rfl, fun g hg => by have h2 : some wR.heap.size = some g := hg; injection h2 with h2; exact h2.symm⟩ (Wr.below (below_alloc _ _) _) (fun g hg => by subst hg; exact ⟨by simp, .inl (Nat.le_refl _)⟩)
        · intro vals wR Fs hbR hd hk K hK
          clear hd hk
          clear hbR
          refine wpOp_step rfl (fun K' hK' => ?_)
          go_simp
          refine hK' _ _ ?_
          exact hK _ _ (fun _ => False) rfl (Wr.refl _ _) (fun _ h => h.elim)
        · intro vals wR Fs hbR hd hk K hK
          have e11 : SOwn W.heap.size 5 1 0 [] (vals 11) wR (Fs 11) := (hd 11 rfl rfl).1
          have r11 := (hd 11 rfl rfl).2
          have e12 : vals 12 = (.slice A2 b.length c2) := (hd 12 rfl rfl).1
          clear hd hk
          exact wpOp_appS (eats := [(8, 6), (10, 8), (13, 11), (15, 13), (16, 10), (16, 15)]) (i := 11) rfl rfl _ _ 23 rfl sl8 (by decide) e11 e12 (rbW.below hbR) (bv_one _) (by omega) (by simp only [maxLen]; omega) hbR.size hK
        · intro vals wR Fs hbR hd hk K hK
          clear hd hk
          refine wpOp_step rfl (fun K' hK' => ?_)
          go_simp
          refine hK' _ _ ?_
          exact hK _ _ (fun g => g = wR.heap.size) ⟨_, _, rfl, World.ownsRow_lit wR #[Value.int .u8 255, Value.int .u8 255, Value.int .u8 0, Value.int .u8 0, Value.int .u8 0, Value.int .u8 0, Value.int .u8 0, Value.int .u8 0, Value.int .u8 0, Value.int .u8 0, Value.int .u8 1] 11 (hbR.size) (by simp only [maxLen]; omega) rfl, fun g hg => by have h2 : some wR.heap.size = some g := hg; injection h2 with h2; exact h2.symm⟩ (Wr.below (below_alloc _ _) _) (fun g hg => by subst hg; exact ⟨by simp, .inl (Nat.le_refl _)⟩)
        · intro vals wR Fs hbR hd hk K hK
          have e13 : SOwn W.heap.size 5 1 (0 + b.length) ([] ++ bv b) (vals 13) wR (Fs 13) := (hd 13 rfl rfl).1
          have r13 := (hd 13 rfl rfl).2
          have e14 : SOwn W.heap.size 5 1 11 [Value.int .u8 255, Value.int .u8 255, Value.int .u8 0, Value.int .u8 0, Value.int .u8 0, Value.int .u8 0, Value.int .u8 0, Value.int .u8 0, Value.int .u8 0, Value.int .u8 0, Value.int .u8 1] (vals 14) wR (Fs 14) := (hd 14 rfl rfl).1
          clear hd hk
          obtain ⟨Al, cl, hvl, hol, _⟩ := e14
          rw [hvl] at hol
          exact wpOp_appS (eats := [(8, 6), (10, 8), (13, 11), (15, 13), (16, 10), (16, 15)]) (i := 13) rfl rfl _ _ 23 rfl sl8 (by decide) e13 hvl (Rd.own hol) (by simp [Value.oneCell']) (by omega) (by simp only [maxLen]; omega) hbR.size hK
        · intro vals wR Fs hbR hd hk K hK
          have e0 : vals 0 = (.slice A2 b.length c2) := (hd 0 rfl rfl).1
          have e1 : vals 1 = (.slice A3 b.length c3) := (hd 1 rfl rfl).1
          have e4 : SOld W.heap.size k (b.take k) (vals 4) wR (Fs 4) := (hd 4 rfl rfl).1
          have e5 : vals 5 = (.slice A' m c') := (hd 5 rfl rfl).1
          have e10 : SOwn W.heap.size 5 1 (0 + b.length + m) (([] ++ bv b) ++ bv raw) (vals 10) wR (Fs 10) := (hd 10 rfl rfl).1
          have r10 := (hd 10 rfl rfl).2
          have e15 : SOwn W.heap.size 5 1 (0 + b.length + 11) (([] ++ bv b) ++ [Value.int .u8 255, Value.int .u8 255, Value.int .u8 0, Value.int .u8 0, Value.int .u8 0, Value.int .u8 0, Value.int .u8 0, Value.int .u8 0, Value.int .u8 0, Value.int .u8 0, Value.int .u8 1]) (vals 15) wR (Fs 15) := (hd 15 rfl rfl).1
          have r15 := (hd 15 rfl rfl).2
          clear hd hk
          simp only [e0, e1, e5] at hK
          obtain ⟨hB4, A4, c4, ev4, hc4, hr4⟩ := e4
          obtain ⟨A10, c10, ev10, ho10, hG10⟩ := e10
          obtain ⟨A15, c15, ev15, ho15, hG15⟩ := e15
          rw [ev10] at ho10
          rw [ev15] at ho15
          have k10 := own_cap ho10
          have k15 := own_cap ho15
          have R0 := rbW.below hbR
          have R1 := rcW.below hbR
          have R5 := rxW.below hbR
          rw [Nat.zero_add, List.nil_append, ← bv_append] at ho10
          rw [Nat.zero_add, List.nil_append, lit255, ← bv_append] at ho15
          rw [Nat.zero_add] at ev10 ev15 k10 k15
          have fin16 : ∀ G : Nat → Prop, (∀ g, g < W.heap.size → G g) → (∀ g, Fs 10 g → G g) → (∀ g, Fs 15 g → G g) → EachG wR G [.slice A2 b.length c2, .slice A3 b.length c3, .slice A4 k c4, .slice A' m c', .slice A10 (b.length + m) c10, .slice A15 (b.length + 11) c15] XS := by
            intro G h0 h10 h15
            have kk : (b.take k).length = k := by rw [List.length_take]; omega
            rw [XS_.out]
            refine ⟨⟨A2, c2, rfl, kb, RdG.of_rd R0 hbR.size h0⟩, ⟨A3, c3, ?_, ?_, RdG.of_rd (n := C.length) (by rw [CL.out]; exact R1) hbR.size h0⟩, ⟨A4, c4, ?_, ?_, RdG.of_rd (n := (b.take k).length) (by rw [kk]; exact hr4) hbR.size h0⟩, ⟨A', c', ?_, ?_, RdG.of_rd (n := raw.length) (by rw [rawL.out]; exact R5) hbR.size h0⟩, ⟨A10, c10, ?_, ?_, RdG.of_own (n := (b ++ raw).length) (by rw [List.length_append, rawL.out]; exact ho10) fun g hg => h10 g (hG10 g hg)⟩, ⟨A15, c15, ?_, ?_, RdG.of_own (n := (b ++ lits).length) (by rw [List.length_append]; exact ho15) fun g hg => h15 g (hG15 g hg)⟩, trivial⟩
            all_goals first | rw [CL.out] | rw [kk] | rw [rawL.out] | rw [List.length_append, rawL.out] | (rw [List.length_append]; try rfl)
            all_goals first | exact kc | exact hc4 | exact hmc | exact k10 | exact k15
          clear R0 R1 R5 hr4 hB4
          simp only [ev4, ev10, ev15] at hK
          refine wpOp_step rfl (fun K' hK' => ?_)
          go_simp
          refine hK' _ _ ?_
          refine hK _ _ (fun g => g = wR.heap.size ∨ Fs 10 g ∨ Fs 15 g) ⟨Nat.le_trans hbR.size (by simp), some ⟨wR.heap.size, 0, none⟩, 6, [.slice A2 b.length c2, .slice A3 b.length c3, .slice A4 k c4, .slice A' m c', .slice A10 (b.length + m) c10, .slice A15 (b.length + 11) c15], by rw [XSl.out], by rw [XSl.out]; omega, ?_, ?_⟩ (Wr.below (below_alloc _ _) _) ?_
          · rw [XSl.out]
            exact RdG.of_own (World.ownsRow_lit (base := wR.heap.size) (e := 23) wR #[.slice A2 b.length c2, .slice A3 b.length c3, .slice A4 k c4, .slice A' m c', .slice A10 (b.length + m) c10, .slice A15 (b.length + 11) c15] 6 (Nat.le_refl _) (by simp only [maxLen]; omega) rfl) (fun g hg => by have h2 : some wR.heap.size = some g := hg; injection h2 with h2; exact .inr (.inl h2.symm))
          · refine EachG.keep (by simp) (fun g hg _ => Below.heap_alloc wR _ g hg) (fun _ h => h) _ _ (fin16 _ (fun g hg => .inl hg) (fun g hg => .inr (.inr (.inl hg))) (fun g hg => .inr (.inr (.inr hg))))
          · rintro g (rfl | hg | hg)
            · exact ⟨by simp, .inl (Nat.le_refl _)⟩
            · exact ⟨Nat.lt_of_lt_of_le (r10 g hg).2 (by simp), .inr ⟨10, by decide, hg⟩⟩
            · exact ⟨Nat.lt_of_lt_of_le (r15 g hg).2 (by simp), .inr ⟨15, by decide, hg⟩⟩
        · intro vals wR Fs hbR hd hk K hK
          have e16 : SRows W.heap.size XS (vals 16) wR (Fs 16) := (hd 16 rfl rfl).1
          clear hd hk
          obtain ⟨_, A16, c16, vs16, ev16, _, _, _⟩ := e16
          rw [XSl.out] at ev16
          simp only [ev16] at hK
          clear hbR
          refine wpOp_step rfl (fun K' hK' => ?_)
          go_simp
          refine hK' _ _ ?_
          exact hK _ _ (fun _ => False) rfl (Wr.refl _ _) (fun _ h => h.elim)
        · intro vals wR Fs hbR hd hk K hK
          clear hd hk
          clear hbR
          refine wpOp_step rfl (fun K' hK' => ?_)
          go_simp
          refine hK' _ _ ?_
          exact hK _ _ (fun _ => False) rfl (Wr.refl _ _) (fun _ h => h.elim)
      case fin_b =>
        intro vals wE Fs hbE hAll
        obtain ⟨⟨⟨⟨⟨⟨⟨⟨⟨⟨⟨⟨⟨⟨⟨⟨⟨⟨⟨_, _⟩, _⟩, _⟩, _⟩, _⟩, _⟩, _⟩, _⟩, _⟩, _⟩, _⟩, _⟩, _⟩, _⟩, _⟩, _⟩, f16⟩, f17⟩, f18⟩ := hAll
        have f16 := f16 rfl
        have f17 := f17 rfl
        have f18 := f18 rfl
        obtain ⟨_, A16, c16, vs16, ev16, hc16, rg16, eg16⟩ := f16
        have rv := rg16.rd
        have eR := EachG.toR _ _ eg16
        clear rg16 eg16
        rw [XSl.out] at ev16 hc16 rv
        have e17 : vals 17 = .int .i64 6 := f17
        have e18 : vals 18 = .int .i64 0 := f18
        clear f17 f18
        have bel := below_nx belW belW.size hbE
        clear rbW rcW rxW belW hbE
        have hall := XSb.out
        have hlen := XSl.out
        clear XS_ XSl XSb CL
        generalize vals 0 = v0, vals 1 = v1, vals 2 = v2, vals 3 = v3, vals 4 = v4, vals 5 = v5, vals 6 = v6, vals 7 = v7, vals 8 = v8, vals 9 = v9, vals 10 = v10, vals 11 = v11, vals 12 = v12, vals 13 = v13, vals 14 = v14, vals 15 = v15, vals 16 = v16, vals 17 = v17, vals 18 = v18 at *
        subst ev16 e17 e18
        obtain ⟨b0, o0, rfl⟩ := rv.some_ (by decide)
        go_wp2_with (first | (at_make; refine Held.out ?_) | (at_builtin; refine Held.out ?_) | (refine hold_slice ?_) | (refine hold_conv (s := 23) (t := 9) ?_))
        go_loopw [65] (fun iv_ wr => ∃ i : Nat, i ≤ 6 ∧ iv_ = .int .i64 i ∧ Below wE.heap.size wE wr) (fun iv_ _ => 6 - (intOf iv_).toNat)
        case atStart => exact ⟨0, by omega, rfl, Below.refl _ _⟩
        case round =>
          obtain ⟨i, hi, rfl, be⟩ := hrel
          by_cases hi3 : i < 6
          · have hd3 : decide ((i : Int) < 6) = true := by simp; omega
            have hi' : i < XS.length := by omega
            obtain ⟨A5, c5, hv5, hc5, hr5⟩ := eR.2 i XS[i] (by simp [hi'])
            have hx5 := hall XS[i] (List.getElem_mem _)
            have cell := ((rv.below be).more be.size).cell1 hv5
            have hr5 := (hr5.below be).more be.size
            generalize XS[i] = x at *
            generalize hx5l : x.length = x5 at *
            clear hv5 hi' hall eR rv
            have HA := Lib.hid (fun W h1 => jRead_c A5 c5 x5 x W h1 hc5 (by omega))
            have HB := Lib.hid (fun W h1 => rRead_c A5 c5 x5 x W h1 hc5 (by omega))
            have HC := Lib.hid (fun W h1 => jRepair_c A5 c5 x5 x W h1 hc5 (by omega))
            have HD := Lib.hid (fun W h1 => rRepair_c A5 c5 x5 x W h1 hc5 (by omega))
            have hjl := J_cnt x
            have hjn := J_len x
            generalize x.take (J x 0).2.1 = T at *
            generalize J x 0 = Q at *
            obtain ⟨q1, q2, q3, q4⟩ := Q
            simp only at HA HB HC HD hjl hjn
            go_wp2_with (first | (at_make; refine Held.out ?_) | (at_builtin; refine Held.out ?_) | (refine hold_slice ?_) | (refine hold_conv (s := 23) (t := 9) ?_))
            refine (HA.out _ hr5).mono ?_
            rintro e w5 ⟨A7, c7, rfl, v7s, own7, each7, bel7⟩
            have ra := Rd.own own7
            have ea := each7.toR
            have hr6 := hr5.nx bel7
            have be5 := below_nx be be.size bel7
            clear own7 each7 bel7 HA
            go_wp2_with (first | (at_make; refine Held.out ?_) | (at_builtin; refine Held.out ?_) | (refine hold_slice ?_) | (refine hold_conv (s := 23) (t := 9) ?_))
            refine (HB.out _ hr6).mono ?_
            rintro e w6 ⟨A8, c8, rfl, v8s, own8, each8, bel8⟩
            have ra := ra.nx bel8
            have ea := ea.nx bel8
            have rb := Rd.own own8
            have eb := each8.toR
            have hr7 := hr6.nx bel8
            have be6 := below_nx be5 be5.size bel8
            clear own8 each8 bel8 HB hr6
            have hq4 : (q4 != q4) = false := by simp
            go_wp2_with (first | (at_make; refine Held.out ?_) | (at_builtin; refine Held.out ?_) | (refine hold_slice ?_) | (refine hold_conv (s := 23) (t := 9) ?_))
            refine wp_region_spec (n := 23) (fun j => match j with
                | 0 => Is ((.int .i64 (q2 : Nat)))
                | 1 => Is ((.int .i64 (q2 : Nat)))
                | 2 => Is ((.bool false))
                | 3 => Is ((.bool false))
                | 4 => Is ((.int .i64 q4))
                | 5 => Is ((.int .i64 q4))
                | 6 => Is ((.bool false))
                | 7 => Is ((.bool false))
                | 8 => Is ((.bool false))
                | 9 => Is ((.slice A7 q1.length c7))
                | 10 => Is ((.slice A8 q1.length c8))
                | 11 => Is ((.bool true))
                | 12 => Is ((.bool false))
                | 13 => Is ((.bool false))
                | 14 => Is ((.bool false))
                | 15 => Is ((.slice A5 x5 c5))
                | 16 => IsB q2 T
                | 17 => Is ((.string ⟨T.toArray⟩))
                | 18 => Is ((.slice A5 x5 c5))
                | 19 => IsB q2 T
                | 20 => Is ((.string ⟨T.toArray⟩))
                | 21 => Is ((.bool false))
                | 22 => Is ((.bool false))
                | _ => fun _ _ => True) (Below.refl _ w6) (Nat.le_refl _) (by kernel_rfl) (by kernel_rfl) (by kernel_rfl) rfl (F := ?FY) ?hFY ?monoY ?stepY ?finY
            case hFY =>
              intro vals
              simp only [putAll, dstsOf, Act.put, List.map_cons, List.map_nil, List.setIfInBounds_toArray, List.set_cons_succ, List.set_cons_zero, Nat.reduceAdd]
              rfl
            case monoY => exact ⟨⟨⟨⟨⟨⟨⟨⟨⟨⟨⟨⟨⟨⟨⟨⟨⟨⟨⟨⟨⟨⟨⟨trivial, mono_is _⟩, mono_is _⟩, mono_is _⟩, mono_is _⟩, mono_is _⟩, mono_is _⟩, mono_is _⟩, mono_is _⟩, mono_is _⟩, mono_is _⟩, mono_is _⟩, mono_is _⟩, mono_is _⟩, mono_is _⟩, mono_is _⟩, mono_is _⟩, mono_isB _ _⟩, mono_is _⟩, mono_is _⟩, mono_isB _ _⟩, mono_is _⟩, mono_is _⟩, mono_is _⟩
            case stepY =>
              refine ⟨⟨⟨⟨⟨⟨⟨⟨⟨⟨⟨⟨⟨⟨⟨⟨⟨⟨⟨⟨⟨⟨⟨trivial, ?_⟩, ?_⟩, ?_⟩, ?_⟩, ?_⟩, ?_⟩, ?_⟩, ?_⟩, ?_⟩, ?_⟩, ?_⟩, ?_⟩, ?_⟩, ?_⟩, ?_⟩, ?_⟩, ?_⟩, ?_⟩, ?_⟩, ?_⟩, ?_⟩, ?_⟩, ?_⟩
              · intro vals wR hbR hd hk K hK
                clear hd hk
                clear hbR
                refine wpOp_step rfl (fun K' hK' => ?_)
                go_simp
                refine hK' _ _ ?_
                exact hK _ _ rfl (Below.refl _ _)
              · intro vals wR hbR hd hk K hK
                clear hd hk
                clear hbR
                refine wpOp_step rfl (fun K' hK' => ?_)
                go_simp
                refine hK' _ _ ?_
                exact hK _ _ rfl (Below.refl _ _)
              · intro vals wR hbR hd hk K hK
                have e0 : vals 0 = (.int .i64 (q2 : Nat)) := hd 0 rfl
                have e1 : vals 1 = (.int .i64 (q2 : Nat)) := hd 1 rfl
                clear hd hk
                simp only [e0, e1] at hK
                clear hbR
                refine wpOp_step rfl (fun K' hK' => ?_)
                go_simp
                refine hK' _ _ ?_
                exact hK _ _ rfl (Below.refl _ _)
              · intro vals wR hbR hd hk K hK
                have e2 : vals 2 = (.bool false) := hd 2 rfl
                clear hd hk
                simp only [e2] at hK
                clear hbR
                refine wpOp_step rfl (fun K' hK' => ?_)
                go_simp
                refine hK' _ _ ?_
                exact hK _ _ rfl (Below.refl _ _)
              · intro vals wR hbR hd hk K hK
                have e3 : vals 3 = (.bool false) := hd 3 rfl
                clear hd hk
                simp only [e3] at hK
                clear hbR
                refine wpOp_step rfl (fun K' hK' => ?_)
                go_simp
                refine hK' _ _ ?_
                exact hK _ _ rfl (Below.refl _ _)
              · intro vals wR hbR hd hk K hK
                have e3 : vals 3 = (.bool false) := hd 3 rfl
                clear hd hk
                simp only [e3] at hK
                clear hbR
                refine wpOp_step rfl (fun K' hK' => ?_)
                go_simp
                refine hK' _ _ ?_
                exact hK _ _ rfl (Below.refl _ _)
              · intro vals wR hbR hd hk K hK
                have e4 : vals 4 = (.int .i64 q4) := hd 4 rfl
                have e5 : vals 5 = (.int .i64 q4) := hd 5 rfl
                have e3 : vals 3 = (.bool false) := hd 3 rfl
                clear hd hk
                simp only [e4, e5, e3] at hK
                clear hbR
                refine wpOp_step rfl (fun K' hK' => ?_)
                go_simp
                refine hK' _ _ ?_
                exact hK _ _ rfl (Below.refl _ _)
              · intro vals wR hbR hd hk K hK
                have e3 : vals 3 = (.bool false) := hd 3 rfl
                have e6 : vals 6 = (.bool false) := hd 6 rfl
                clear hd hk
                simp only [e3, e6] at hK
                clear hbR
                refine wpOp_step rfl (fun K' hK' => ?_)
                go_simp
                refine hK' _ _ ?_
                exact hK _ _ rfl (Below.refl _ _)
              · intro vals wR hbR hd hk K hK
                have e7 : vals 7 = (.bool false) := hd 7 rfl
                clear hd hk
                simp only [e7] at hK
                clear hbR
                refine wpOp_step rfl (fun K' hK' => ?_)
                go_simp
                refine hK' _ _ ?_
                exact hK _ _ rfl (Below.refl _ _)
              · intro vals wR hbR hd hk K hK
                have e8 : vals 8 = (.bool false) := hd 8 rfl
                clear hd hk
                simp only [e8] at hK
                clear hbR
                refine wpOp_step rfl (fun K' hK' => ?_)
                go_simp
                refine hK' _ _ ?_
                exact hK _ _ rfl (Below.refl _ _)
              · intro vals wR hbR hd hk K hK
                have e8 : vals 8 = (.bool false) := hd 8 rfl
                clear hd hk
                simp only [e8] at hK
                clear hbR
                refine wpOp_step rfl (fun K' hK' => ?_)
                go_simp
                refine hK' _ _ ?_
                exact hK _ _ rfl (Below.refl _ _)
              · intro vals wR hbR hd hk K hK
                have e9 : vals 9 = (.slice A7 q1.length c7) := hd 9 rfl
                have e10 : vals 10 = (.slice A8 q1.length c8) := hd 10 rfl
                have e8 : vals 8 = (.bool false) := hd 8 rfl
                clear hd hk
                simp only [e9, e10, e8] at hK
                refine wpOp_step rfl (fun K' hK' => ?_)
                go_simp
                refine (Same_c A7 A8 c7 c8 q1.length q1.length v7s v8s q1 q1 wR (ra.nx hbR) (ea.nx hbR) (rb.nx hbR) (eb.nx hbR) (by omega) (by omega)).mono ?_
                rintro e w2 ⟨rfl, qq, rfl⟩
                refine hK' _ _ ?_
                exact hK _ _ (by show Value.bool _ = _; simp) (below_dn _ _)
              · intro vals wR hbR hd hk K hK
                have e11 : vals 11 = (.bool true) := hd 11 rfl
                have e8 : vals 8 = (.bool false) := hd 8 rfl
                clear hd hk
                simp only [e11, e8] at hK
                clear hbR
                refine wpOp_step rfl (fun K' hK' => ?_)
                go_simp
                refine hK' _ _ ?_
                exact hK _ _ rfl (Below.refl _ _)
              · intro vals wR hbR hd hk K hK
                have e8 : vals 8 = (.bool false) := hd 8 rfl
                have e12 : vals 12 = (.bool false) := hd 12 rfl
                clear hd hk
                simp only [e8, e12] at hK
                clear hbR
                refine wpOp_step rfl (fun K' hK' => ?_)
                go_simp
                refine hK' _ _ ?_
                exact hK _ _ rfl (Below.refl _ _)
              · intro vals wR hbR hd hk K hK
                have e13 : vals 13 = (.bool false) := hd 13 rfl
                clear hd hk
                simp only [e13] at hK
                clear hbR
                refine wpOp_step rfl (fun K' hK' => ?_)
                go_simp
                refine hK' _ _ ?_
                exact hK _ _ rfl (Below.refl _ _)
              · intro vals wR hbR hd hk K hK
                have e14 : vals 14 = (.bool false) := hd 14 rfl
                clear hd hk
                simp only [e14] at hK
                clear hbR
                refine wpOp_step rfl (fun K' hK' => ?_)
                go_simp
                refine hK' _ _ ?_
                exact hK _ _ rfl (Below.refl _ _)
              · intro vals wR hbR hd hk K hK
                have e15 : vals 15 = (.slice A5 x5 c5) := hd 15 rfl
                have e14 : vals 14 = (.bool false) := hd 14 rfl
                clear hd hk
                simp only [e15, e14] at hK
                refine wpOp_step rfl (fun K' hK' => ?_)
                go_simp
                refine (HC.out wR (hr7.nx hbR)).mono ?_
                rintro e w2 ⟨A2, c2, rfl, own2, bel2⟩
                refine hK' _ _ ?_
                exact hK _ _ ⟨A2, c2, rfl, own_cap own2, Rd.own own2⟩ bel2
              · intro vals wR hbR hd hk K hK
                have e16 : IsB q2 T (vals 16) wR := hd 16 rfl
                have e14 : vals 14 = (.bool false) := hd 14 rfl
                clear hd hk
                simp only [e14] at hK
                obtain ⟨A1, c1, ev, hc1, hr1⟩ := e16
                simp only [ev] at hK
                have hrun := run_b2s (P := Try.prog) wR 23 9 5 Try.underlying23 u8str Try.underlying9 (c := c1) hr1
                clear hbR hr1
                refine wpOp_step rfl (fun K' hK' => ?_)
                go_simp
                refine hK' _ _ ?_
                exact hK _ _ rfl (Below.refl _ _)
              · intro vals wR hbR hd hk K hK
                have e14 : vals 14 = (.bool false) := hd 14 rfl
                clear hd hk
                simp only [e14] at hK
                clear hbR
                refine wpOp_step rfl (fun K' hK' => ?_)
                go_simp
                refine hK' _ _ ?_
                exact hK _ _ rfl (Below.refl _ _)
              · intro vals wR hbR hd hk K hK
                have e18 : vals 18 = (.slice A5 x5 c5) := hd 18 rfl
                have e14 : vals 14 = (.bool false) := hd 14 rfl
                clear hd hk
                simp only [e18, e14] at hK
                refine wpOp_step rfl (fun K' hK' => ?_)
                go_simp
                refine (HD.out wR (hr7.nx hbR)).mono ?_
                rintro e w2 ⟨A2, c2, rfl, own2, bel2⟩
                refine hK' _ _ ?_
                exact hK _ _ ⟨A2, c2, rfl, own_cap own2, Rd.own own2⟩ bel2
              · intro vals wR hbR hd hk K hK
                have e19 : IsB q2 T (vals 19) wR := hd 19 rfl
                have e14 : vals 14 = (.bool false) := hd 14 rfl
                clear hd hk
                simp only [e14] at hK
                obtain ⟨A1, c1, ev, hc1, hr1⟩ := e19
                simp only [ev] at hK
                have hrun := run_b2s (P := Try.prog) wR 23 9 5 Try.underlying23 u8str Try.underlying9 (c := c1) hr1
                clear hbR hr1
                refine wpOp_step rfl (fun K' hK' => ?_)
                go_simp
                refine hK' _ _ ?_
                exact hK _ _ rfl (Below.refl _ _)
              · intro vals wR hbR hd hk K hK
                have e17 : vals 17 = (.string ⟨T.toArray⟩) := hd 17 rfl
                have e20 : vals 20 = (.string ⟨T.toArray⟩) := hd 20 rfl
                have e14 : vals 14 = (.bool false) := hd 14 rfl
                clear hd hk
                simp only [e17, e20, e14] at hK
                clear hbR
                refine wpOp_step rfl (fun K' hK' => ?_)
                go_simp
                refine hK' _ _ ?_
                exact hK _ _ rfl (Below.refl _ _)
              · intro vals wR hbR hd hk K hK
                have e14 : vals 14 = (.bool false) := hd 14 rfl
                have e21 : vals 21 = (.bool false) := hd 21 rfl
                clear hd hk
                simp only [e14, e21] at hK
                clear hbR
                refine wpOp_step rfl (fun K' hK' => ?_)
                go_simp
                refine hK' _ _ ?_
                exact hK _ _ rfl (Below.refl _ _)
            case finY =>
              intro vals wE hbE hAll
              obtain ⟨⟨⟨⟨⟨⟨⟨⟨⟨⟨⟨⟨⟨⟨⟨⟨⟨⟨⟨⟨⟨⟨⟨_, _⟩, _⟩, _⟩, _⟩, _⟩, _⟩, _⟩, _⟩, _⟩, _⟩, _⟩, _⟩, _⟩, _⟩, _⟩, _⟩, _⟩, _⟩, _⟩, _⟩, _⟩, _⟩, f22⟩ := hAll
              have e22 : vals 22 = .bool false := f22
              clear f22
              generalize vals 22 = v22 at *
              subst e22
              have be7 := below_nx be6 be6.size hbE
              clear HC HD ra ea rb eb hr7 be6 hbE
              go_wp2_with (first | (at_make; refine Held.out ?_) | (at_builtin; refine Held.out ?_) | (refine hold_slice ?_) | (refine hold_conv (s := 23) (t := 9) ?_))
              go_roundw
              case rel => exact ⟨i + 1, by omega, by go_num, be7⟩
              case measure => simp [intOf]; omega
          · go_wp2_with (first | (at_make; refine Held.out ?_) | (at_builtin; refine Held.out ?_) | (refine hold_slice ?_) | (refine hold_conv (s := 23) (t := 9) ?_))
            go_ret
            exact ⟨rfl, below_nx bel bel.size be⟩
end Go.Proofs.Ytbifgoaceolpoaa
