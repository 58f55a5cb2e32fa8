/-
  The laws WireBack, WireOffsets and WireDetects return true.
-/
import Derived.Test.YtapfilbcabakgaaWireS
import Derived.Test.YtapfilbcabakgaaWireD
import Derived.Deep.QuietTactic
import Derived.BigQuiet
namespace Go.Proofs.Ytapfilbcabakgaa
set_option linter.unusedVariables false
set_option linter.unusedSimpArgs false
open Go.ChangeShapes Go.WideShapes Go.ChangeAt Go.RowKit
theorem unle_le (x k : Nat) : unle (le x k) = x % 256 ^ k := by
  induction k generalizing x with
  | zero => simp [le, unle, Nat.mod_one]
  | succ k ih =>
    simp only [le, unle, ih]
    have h1 : (UInt8.ofNat (x % 256)).toNat = x % 256 := by simp
    rw [h1, Nat.pow_succ, Nat.mul_comm (256 ^ k), Nat.mod_mul]
theorem seg_mid (p m q : List UInt8) (k : Nat) (hk : m.length = k) : seg (p ++ (m ++ q)) p.length k = m := by
  subst hk
  simp [seg]
theorem getM_put (p q : List UInt8) (x k : Nat) (a : Int) (ha : a = p.length) : getM (p ++ (le x k ++ q)) a k = (x % 256 ^ k, a + k, 0) := by
  subst ha
  rw [getM_in _ _ _ (by simp [le_length]), seg_mid p (le x k) q k (le_length _ _), unle_le]
theorem textM_put (p s q : List UInt8) (hs : s.length ≤ 64) (a : Int) (ha : a = p.length) : textM (p ++ (UInt8.ofNat s.length :: (s ++ q))) a = (s, a + 1 + s.length, 0) := by
  subst ha
  have hc : (UInt8.ofNat s.length).toNat = s.length := by simp; omega
  rw [textM_at _ _ (by simp)]
  have e : (p ++ (UInt8.ofNat s.length :: (s ++ q)))[p.length]'(by simp) = UInt8.ofNat s.length := by simp
  rw [e, hc, if_neg (by omega), if_neg (by simp; omega)]
  have := seg_mid (p ++ [UInt8.ofNat s.length]) s q s.length rfl
  simp only [List.append_assoc, List.cons_append, List.nil_append, List.length_append, List.length_cons, List.length_nil] at this
  rw [this]
set_option maxRecDepth 100000 in
set_option maxHeartbeats 800000 in
theorem WireBack_in (A A' : Option Addr) (c n k c' : Nat) (l more : List UInt8) (x a b : Nat) (hx1 : (x : Int) ≤ 18446744073709551615) (s : ByteArray) (w : World) (hr : Rd w w.heap.size 1 A n (bv l)) (hm : Rd w w.heap.size 1 A' k (bv more)) (hn : n ≤ 200) (hs : s.size ≤ 64) (hk : k ≤ 100)
    (ha : IntKind.u16.wrap (x : Int) = a) (ha2 : a < 65536) (hb : (x : Int) % 4294967296 = b) (hb2 : b < 4294967296) :
    Calls Try.prog 8 #[.slice A n c, .int .u64 x, .string s, .slice A' k c'] w fun e w' => e = .returned (.bool true) ∧ Below w.heap.size w w' := by
  have hx := Lib.hid hx1
  clear hx1
  have hl := hr.blen
  have hml := hm.blen
  have hsl := str_len s
  go_enter Try.func8, Try.ntmps8
  go_wp2_with (first | (at_make; refine Held.out ?_) | (at_builtin; refine Held.out ?_))
  refine (sane_c _).mono ?_
  rintro e w1 ⟨rfl, bel⟩
  have hr := hr.nx bel
  have hm := hm.nx bel
  go_wp2_with (first | (at_make; refine Held.out ?_) | (at_builtin; refine Held.out ?_))
  refine (Put16_c _ _ _ l a _ _ (Nat.le_refl _) hr (by omega) (by omega)).mono ?_
  rintro e w2 ⟨A2, c2, rfl, own2, bel2⟩
  have hm := hm.nx bel2
  have bel := below_nx bel bel.size bel2
  have o := Rd.own own2
  clear own2 bel2 hr
  rw [Int.toNat_natCast] at o
  go_wp2_with (first | (at_make; refine Held.out ?_) | (at_builtin; refine Held.out ?_))
  refine (Put32_c _ _ _ (l ++ le a 2) b _ _ (Nat.le_refl _) o (by omega) (by omega)).mono ?_
  rintro e w3 ⟨A3, c3, rfl, own2, bel2⟩
  have hm := hm.nx bel2
  have bel := below_nx bel bel.size bel2
  have o := Rd.own own2
  clear own2 bel2
  rw [Int.toNat_natCast] at o
  go_wp2_with (first | (at_make; refine Held.out ?_) | (at_builtin; refine Held.out ?_))
  refine (Put64_c _ _ _ (l ++ le a 2 ++ le b 4) x _ _ (Nat.le_refl _) o (by omega) (by omega)).mono ?_
  rintro e w4 ⟨A4, c4, rfl, own2, bel2⟩
  have hm := hm.nx bel2
  have bel := below_nx bel bel.size bel2
  have o := Rd.own own2
  clear own2 bel2
  rw [Int.toNat_natCast] at o
  go_wp2_with (first | (at_make; refine Held.out ?_) | (at_builtin; refine Held.out ?_))
  refine (PutText_in _ _ _ (l ++ le a 2 ++ le b 4 ++ le x 8) s _ _ (Nat.le_refl _) o (by omega) hs).mono ?_
  rintro e w5 ⟨A5, c5, rfl, own2, bel2⟩
  have hm := hm.nx bel2
  have bel := below_nx bel bel.size bel2
  have o := Rd.own own2
  clear own2 bel2
  go_wp2_with (first | (at_make; refine Held.out ?_) | (at_builtin; refine Held.out ?_))
  refine ⟨?_⟩
  refine wpList_apb _ rfl _ _ 22 rfl sl8 (Below.refl w5.heap.size w5) rfl (World.ownsRow_nil w5 _ _ _) rfl o (bv_one _) (by omega) (by simp only [maxLen]; omega) (Nat.le_refl _) ?_
  intro A6 c6 w6 own6 bel6 sz6
  have hm := hm.nx bel6
  simp only [Nat.zero_add, List.nil_append] at own6
  clear o
  go_wp2_with (first | (at_make; refine Held.out ?_) | (at_builtin; refine Held.out ?_))
  refine ⟨?_⟩
  refine wpList_apb _ rfl _ _ 22 rfl sl8 bel6 rfl own6 rfl hm (bv_one _) (by omega) (by simp only [maxLen]; omega) sz6 ?_
  intro A7 c7 w7 own7 bel7 sz7
  rw [← bv_append] at own7
  have bel := below_nx bel bel.size bel7
  have o := Rd.own own7
  have oc := own_cap own7
  clear own6 own7 bel6 bel7 hm sz6 sz7
  have eX : l ++ le a 2 ++ le b 4 ++ le x 8 ++ UInt8.ofNat s.data.toList.length :: s.data.toList ++ more = l ++ (le a 2 ++ (le b 4 ++ (le x 8 ++ UInt8.ofNat s.data.toList.length :: (s.data.toList ++ more)))) := by simp
  rw [putT, eX] at o
  have g1 := Lib.hid (getM_put l (le b 4 ++ (le x 8 ++ UInt8.ofNat s.data.toList.length :: (s.data.toList ++ more))) a 2 n (by omega))
  have g2 := Lib.hid (getM_put (l ++ le a 2) (le x 8 ++ UInt8.ofNat s.data.toList.length :: (s.data.toList ++ more)) b 4 ((n : Int) + 2) (by simp [le_length]; omega))
  have g3 := Lib.hid (getM_put (l ++ le a 2 ++ le b 4) (UInt8.ofNat s.data.toList.length :: (s.data.toList ++ more)) x 8 ((n : Int) + 2 + 4) (by simp [le_length]; omega))
  have g4 := Lib.hid (textM_put (l ++ le a 2 ++ le b 4 ++ le x 8) s.data.toList more (by omega) ((n : Int) + 2 + 4 + 8) (by simp [le_length]; omega))
  simp only [List.append_assoc] at g2 g3 g4
  clear eX
  generalize l ++ (le a 2 ++ (le b 4 ++ (le x 8 ++ UInt8.ofNat s.data.toList.length :: (s.data.toList ++ more)))) = X at *
  rw [Nat.mod_eq_of_lt (show a < 256 ^ 2 by omega)] at g1
  rw [Nat.mod_eq_of_lt (show b < 256 ^ 4 by omega)] at g2
  rw [Nat.mod_eq_of_lt (show x < 256 ^ 8 by have := hx.out; omega)] at g3
  rw [hsl] at g4
  go_wp2_with (first | (at_make; refine Held.out ?_) | (at_builtin; refine Held.out ?_))
  refine (Get16_c _ _ _ X n _ _ o (by omega)).mono ?_
  rw [g1.out]
  rintro e w2 ⟨rfl, rfl⟩
  go_wp2_with (first | (at_make; refine Held.out ?_) | (at_builtin; refine Held.out ?_))
  refine (Get32_c _ _ _ X _ _ _ o (by omega)).mono ?_
  rw [g2.out]
  rintro e w2 ⟨rfl, rfl⟩
  go_wp2_with (first | (at_make; refine Held.out ?_) | (at_builtin; refine Held.out ?_))
  refine (Get64_c _ _ _ X _ _ _ o (by omega)).mono ?_
  rw [g3.out]
  rintro e w2 ⟨rfl, rfl⟩
  go_wp2_with (first | (at_make; refine Held.out ?_) | (at_builtin; refine Held.out ?_))
  refine (GetText_c _ _ _ X _ _ _ o (by omega) oc).mono ?_
  rw [g4.out]
  rintro e w2 ⟨rfl, rfl⟩
  clear g1 g2 g3 g4 o
  go_wp2_with (first | (at_make; refine Held.out ?_) | (at_builtin; refine Held.out ?_))
  go_ret
  refine ⟨?_, bel⟩
  have e : ((n : Int) + 2 + 4 + 8 + 1 + s.size == (n : Int) + 2 + 4 + 8 + (1 + s.size)) = true := by rw [beq_iff_eq]; omega
  rw [e]
  rfl
theorem WireBack_w (A A' : Option Addr) (c n k c' : Nat) (l more : List UInt8) (x : Int) (hx0 : 0 ≤ x) (hx1 : x ≤ 18446744073709551615) (s : ByteArray) (hsm : s.size ≤ maxLen) (w : World) (hr : Rd w w.heap.size 1 A n (bv l)) (hm : Rd w w.heap.size 1 A' k (bv more)) :
    Calls Try.prog 8 #[.slice A n c, .int .u64 x, .string s, .slice A' k c'] w fun e w' => e = .returned (.bool true) ∧ Below w.heap.size w w' := by
  obtain ⟨x, rfl⟩ := Int.eq_ofNat_of_zero_le hx0
  by_cases h : n ≤ 200 ∧ s.size ≤ 64 ∧ k ≤ 100
  · have h16 := bounds_u16 (wf_wrap .u16 (x : Int))
    obtain ⟨a, ha⟩ := Int.eq_ofNat_of_zero_le h16.1
    obtain ⟨b, hb⟩ := Int.eq_ofNat_of_zero_le (show 0 ≤ (x : Int) % 4294967296 by omega)
    exact WireBack_in A A' c n k c' l more x a b hx1 s w hr hm h.1 h.2.1 h.2.2 ha (by omega) hb (by omega)
  · have hx1 := Lib.hid hx1
    unfold maxLen at hsm
    go_enter Try.func8, Try.ntmps8
    go_wp2_with (first | (at_make; refine Held.out ?_) | (at_builtin; refine Held.out ?_))
    refine (sane_c _).mono ?_
    rintro e w1 ⟨rfl, bel1⟩
    go_wp2_with (first | (at_make; refine Held.out ?_) | (at_builtin; refine Held.out ?_))
    all_goals go_ret
    all_goals exact ⟨rfl, bel1⟩

/-- what is read at an offset does not depend on what stands before it -/
theorem getM_shift (p q : List UInt8) (m : Nat) (hm : m ≤ 8) : ∃ (u : Nat) (i j e : Int), getM (p ++ q) p.length m = (u, i, e) ∧ getM q 0 m = (u, j, e) ∧ ((e = 0 ∧ i = j + p.length ∧ 0 ≤ j ∧ j ≤ 100) ∨ e = 4) := by
  by_cases h : m ≤ q.length
  · have h1 := getM_in (p ++ q) p.length m (by simp; exact h)
    have h2 := getM_in q 0 m (by omega)
    have e : seg (p ++ q) p.length m = seg q 0 m := by simp [seg]
    rw [e] at h1
    exact ⟨_, _, _, _, h1, h2, .inl ⟨rfl, by omega, by omega, by omega⟩⟩
  · exact ⟨_, _, _, _, getM_short _ _ _ (by simp) (by simp; omega), getM_short q 0 m (by omega) (by omega), .inr rfl⟩
theorem textM_shift (p q : List UInt8) : ∃ (t : List UInt8) (i j e : Int), textM (p ++ q) p.length = (t, i, e) ∧ textM q 0 = (t, j, e) ∧ ((e = 0 ∧ i = j + p.length ∧ 0 ≤ j ∧ j ≤ 100) ∨ e = 3 ∨ e = 4) := by
  cases q with
  | nil =>
    rw [List.append_nil]
    exact ⟨_, _, _, _, textM_end p, textM_end [], .inr (.inr rfl)⟩
  | cons c q =>
    have h1 := textM_at (p ++ c :: q) p.length (by simp)
    have h2 := textM_at (c :: q) 0 (by simp)
    have e1 : (p ++ c :: q)[p.length]'(by simp) = c := by simp
    have e2 : (c :: q)[0]'(by simp) = c := rfl
    rw [e1] at h1
    rw [e2] at h2
    by_cases h : 64 < c.toNat
    · rw [if_pos h] at h1 h2
      exact ⟨_, _, _, _, h1, h2, .inr (.inl rfl)⟩
    · rw [if_neg h] at h1 h2
      by_cases h3 : q.length < c.toNat
      · rw [if_pos (by simp; omega)] at h1
        rw [if_pos (by simp; omega)] at h2
        exact ⟨_, _, _, _, h1, h2, .inr (.inr rfl)⟩
      · rw [if_neg (by simp; omega)] at h1
        rw [if_neg (by simp; omega)] at h2
        have e3 : seg (p ++ c :: q) (p.length + 1) c.toNat = seg (c :: q) (0 + 1) c.toNat := by
          have : (p ++ c :: q).drop (p.length + 1) = q := by
            rw [← List.drop_drop, List.drop_left]; rfl
          unfold seg
          rw [this]; rfl
        rw [e3] at h1
        exact ⟨_, _, _, _, h1, h2, .inl ⟨rfl, by omega, by omega, by omega⟩⟩
set_option maxRecDepth 100000 in
set_option maxHeartbeats 800000 in
theorem WireOffsets_w (A A' : Option Addr) (c n k c' : Nat) (l m : List UInt8) (w : World) (hr : Rd w w.heap.size 1 A n (bv l)) (hm : Rd w w.heap.size 1 A' k (bv m)) (hkc : k ≤ c') :
    Calls Try.prog 6 #[.slice A n c, .slice A' k c'] w fun e w' => e = .returned (.bool true) ∧ Below w.heap.size w w' := by
  by_cases h : n ≤ 100 ∧ k ≤ 200
  · obtain ⟨hn, hk⟩ := h
    have hl := hr.blen
    obtain ⟨u, i, j, e0, g1, g2, g3⟩ := getM_shift l m 4 (by omega)
    obtain ⟨t, i', j', e0', t1, t2, t3⟩ := textM_shift l m
    rw [hl] at g1 g3 t1 t3
    have G1 := Lib.hid g1
    have G2 := Lib.hid g2
    have T1 := Lib.hid t1
    have T2 := Lib.hid t2
    clear g1 g2 t1 t2
    rcases g3 with ⟨rfl, rfl, hj0, hj1⟩ | rfl <;> rcases t3 with ⟨rfl, rfl, hj2, hj3⟩ | rfl | rfl
    all_goals
      go_enter Try.func6, Try.ntmps6
      go_wp2_with (first | (at_make; refine Held.out ?_) | (at_builtin; refine Held.out ?_))
      refine (sane_c _).mono ?_
      rintro e w1 ⟨rfl, bel⟩
      have hr := hr.nx bel
      have hm := hm.nx bel
      go_wp2_with (first | (at_make; refine Held.out ?_) | (at_builtin; refine Held.out ?_))
      refine ⟨?_⟩
      refine wpList_apb _ rfl _ _ 22 rfl sl8 (Below.refl w1.heap.size w1) rfl (World.ownsRow_nil w1 _ _ _) rfl hr (bv_one _) (by omega) (by simp only [maxLen]; omega) (Nat.le_refl _) ?_
      intro A6 c6 w6 own6 bel6 sz6
      have hm6 := hm.nx bel6
      simp only [Nat.zero_add, List.nil_append] at own6
      clear hr
      go_wp2_with (first | (at_make; refine Held.out ?_) | (at_builtin; refine Held.out ?_))
      refine ⟨?_⟩
      refine wpList_apb _ rfl _ _ 22 rfl sl8 bel6 rfl own6 rfl hm6 (bv_one _) (by omega) (by simp only [maxLen]; omega) sz6 ?_
      intro A7 c7 w7 own7 bel7 sz7
      rw [← bv_append] at own7
      have hm := hm.nx bel7
      have bel := below_nx bel bel.size bel7
      have o := Rd.own own7
      have oc := own_cap own7
      clear own6 own7 bel6 bel7 sz6 sz7 hm6
      go_wp2_with (first | (at_make; refine Held.out ?_) | (at_builtin; refine Held.out ?_))
      refine (Get32_c _ _ _ (l ++ m) n _ _ o (by omega)).mono ?_
      rw [G1.out]
      rintro e w2 ⟨rfl, rfl⟩
      go_wp2_with (first | (at_make; refine Held.out ?_) | (at_builtin; refine Held.out ?_))
      refine (Get32_c _ _ _ m 0 _ _ hm (by omega)).mono ?_
      rw [G2.out]
      rintro e w2 ⟨rfl, rfl⟩
      go_wp2_with (first | (at_make; refine Held.out ?_) | (at_builtin; refine Held.out ?_))
      refine (GetText_c _ _ _ (l ++ m) n _ _ o (by omega) oc).mono ?_
      rw [T1.out]
      rintro e w2 ⟨rfl, rfl⟩
      go_wp2_with (first | (at_make; refine Held.out ?_) | (at_builtin; refine Held.out ?_))
      refine (GetText_c _ _ _ m 0 _ _ hm (by omega) hkc).mono ?_
      rw [T2.out]
      rintro e w2 ⟨rfl, rfl⟩
      clear G1 G2 T1 T2 hm o
      go_wp2_with (first | (at_make; refine Held.out ?_) | (at_builtin; refine Held.out ?_))
      go_ret
      exact ⟨rfl, bel⟩
  · go_enter Try.func6, Try.ntmps6
    go_wp2_with (first | (at_make; refine Held.out ?_) | (at_builtin; refine Held.out ?_))
    refine (sane_c _).mono ?_
    rintro e w1 ⟨rfl, bel1⟩
    go_wp2_with (first | (at_make; refine Held.out ?_) | (at_builtin; refine Held.out ?_))
    all_goals go_ret
    all_goals exact ⟨rfl, bel1⟩
theorem chg_get_same (l : List UInt8) (i : Nat) (y : Int) (h0 : 0 ≤ y) (h1 : y < 256) (hi : i < l.length) :
    bits .xor .u8 ((l[i]).toNat : Int) y = (((chg l i (UInt8.ofNat y.toNat))[i]'(by rw [chg_length]; exact hi)).toNat : Int) := by
  obtain ⟨y, rfl⟩ := Int.eq_ofNat_of_zero_le h0
  have hl := (l[i]).toNat_lt
  have e : bits .xor .u8 ((l[i]).toNat : Int) (y : Int) = (((l[i]).toNat ^^^ y : Nat) : Int) := u8_xor_nat _ _ (by omega) (by omega)
  rw [e]
  simp [chg, List.getD, hi]
  rw [Nat.mod_eq_of_lt (show y < 256 by omega)]
theorem chg_get_other (l : List UInt8) (i j : Nat) (d : UInt8) (hij : i ≠ j) (hj : j < l.length) : (chg l i d)[j]'(by rw [chg_length]; exact hj) = l[j] := by
  simp [chg, hij]
theorem det_world {w2 w5 : World} {base n g3 g4 g5 m3 m4 m5 : Nat} {l : List UInt8} {i j : Nat} {y z : Int} {U : Value} (hl : l.length = n) (hi : i < n) (hj : j < n) (hy0 : 0 ≤ y) (hy1 : y < 256) (hz0 : 0 ≤ z) (hz1 : z < 256)
    (o3 : w5.ownsRow base 5 1 (.slice (some ⟨g3, 0, none⟩) n m3) n (bv l)) (o4 : w5.ownsRow base 5 1 (.slice (some ⟨g4, 0, none⟩) n m4) n (bv l)) (o5 : w5.ownsRow base 5 1 (.slice (some ⟨g5, 0, none⟩) n m5) n (bv l))
    (n34 : g3 ≠ g4) (n35 : g3 ≠ g5) (n45 : g4 ≠ g5) (ge3 : base ≤ g3) (ge4 : base ≤ g4) (ge5 : base ≤ g5) (bel : Below base w2 w5)
    (hU : U = .int .u8 (bits .xor .u8 (((chg l i (UInt8.ofNat y.toNat))[j]'(by rw [chg_length]; omega)).toNat : Int) z)) :
    ∃ W : World, (((w5.setCell ⟨g3, i, none⟩ (.int .u8 (bits .xor .u8 ((l[i]'(by omega)).toNat : Int) y))).setCell ⟨g4, j, none⟩ (.int .u8 (bits .xor .u8 ((l[j]'(by omega)).toNat : Int) z))).setCell ⟨g5, i, none⟩ (.int .u8 (bits .xor .u8 ((l[i]'(by omega)).toNat : Int) y))).setCell ⟨g5, j, none⟩ U = W ∧
      W.ownsRow base 5 1 (.slice (some ⟨g3, 0, none⟩) n m3) n (bv (chg l i (UInt8.ofNat y.toNat))) ∧ W.ownsRow base 5 1 (.slice (some ⟨g4, 0, none⟩) n m4) n (bv (chg l j (UInt8.ofNat z.toNat))) ∧
      W.ownsRow base 5 1 (.slice (some ⟨g5, 0, none⟩) n m5) n (bv (chg (chg l i (UInt8.ofNat y.toNat)) j (UInt8.ofNat z.toNat))) ∧ Below base w2 W := by
  refine ⟨_, rfl, ?_⟩
  subst hU
  have a3 := (o3.stored i (.int .u8 (bits .xor .u8 ((l[i]'(by omega)).toNat : Int) y))).1
  rw [bv_chg l i y hy0 hy1 (by omega)] at a3
  have a4 := ownsRow_setCell_other o4 (a := ⟨g3, i, none⟩) (by simp [Value.ownBlock]; omega) (.int .u8 (bits .xor .u8 ((l[i]'(by omega)).toNat : Int) y))
  have a5 := ownsRow_setCell_other o5 (a := ⟨g3, i, none⟩) (by simp [Value.ownBlock]; omega) (.int .u8 (bits .xor .u8 ((l[i]'(by omega)).toNat : Int) y))
  have b4 := (a4.stored j (.int .u8 (bits .xor .u8 ((l[j]'(by omega)).toNat : Int) z))).1
  rw [bv_chg l j z hz0 hz1 (by omega)] at b4
  have b3 := ownsRow_setCell_other a3 (a := ⟨g4, j, none⟩) (by simp [Value.ownBlock]; omega) (.int .u8 (bits .xor .u8 ((l[j]'(by omega)).toNat : Int) z))
  have b5 := ownsRow_setCell_other a5 (a := ⟨g4, j, none⟩) (by simp [Value.ownBlock]; omega) (.int .u8 (bits .xor .u8 ((l[j]'(by omega)).toNat : Int) z))
  have c5 := (b5.stored i (.int .u8 (bits .xor .u8 ((l[i]'(by omega)).toNat : Int) y))).1
  rw [bv_chg l i y hy0 hy1 (by omega)] at c5
  have c3 := ownsRow_setCell_other b3 (a := ⟨g5, i, none⟩) (by simp [Value.ownBlock]; omega) (.int .u8 (bits .xor .u8 ((l[i]'(by omega)).toNat : Int) y))
  have c4 := ownsRow_setCell_other b4 (a := ⟨g5, i, none⟩) (by simp [Value.ownBlock]; omega) (.int .u8 (bits .xor .u8 ((l[i]'(by omega)).toNat : Int) y))
  have d5 := (c5.stored j (.int .u8 (bits .xor .u8 (((chg l i (UInt8.ofNat y.toNat))[j]'(by rw [chg_length]; omega)).toNat : Int) z))).1
  rw [bv_chg (chg l i (UInt8.ofNat y.toNat)) j z hz0 hz1 (by rw [chg_length]; omega)] at d5
  have d3 := ownsRow_setCell_other c3 (a := ⟨g5, j, none⟩) (by simp [Value.ownBlock]; omega) (.int .u8 (bits .xor .u8 (((chg l i (UInt8.ofNat y.toNat))[j]'(by rw [chg_length]; omega)).toNat : Int) z))
  have d4 := ownsRow_setCell_other c4 (a := ⟨g5, j, none⟩) (by simp [Value.ownBlock]; omega) (.int .u8 (bits .xor .u8 (((chg l i (UInt8.ofNat y.toNat))[j]'(by rw [chg_length]; omega)).toNat : Int) z))
  exact ⟨d3, d4, d5, (((bel.setCell (p := ⟨g3, i, none⟩) ge3 _).setCell (p := ⟨g4, j, none⟩) ge4 _).setCell (p := ⟨g5, i, none⟩) ge5 _).setCell (p := ⟨g5, j, none⟩) ge5 _⟩
set_option maxRecDepth 100000 in
set_option maxHeartbeats 800000 in
theorem WireDetects_in (A : Option Addr) (c n : Nat) (l : List UInt8) (a b x : Int) (w : World) (hr : Rd w w.heap.size 1 A n (bv l)) (hn0 : 1 ≤ n) (hn : n ≤ 300)
    (ha0 : 0 ≤ a) (ha1 : a ≤ 65535) (hb0 : 0 ≤ b) (hb1 : b ≤ 65535) (hx0 : 0 ≤ x) (hx1 : x ≤ 65535) (hx : ¬ x % 256 = 0) :
    Calls Try.prog 4 #[.slice A n c, .int .u16 a, .int .u16 x, .int .u16 b] w fun e w' => e = .returned (.bool true) ∧ Below w.heap.size w w' := by
  have hl := hr.blen
  have hn1 : ((n : Int) == 0) = false := by rw [beq_eq_false_iff_ne]; omega
  have hn2 : ¬ (n : Int) = 0 := by omega
  have hx2 : (x % 256 == 0) = false := by rw [beq_eq_false_iff_ne]; exact hx
  obtain ⟨i, hi⟩ := Int.eq_ofNat_of_zero_le (Int.emod_nonneg a hn2)
  obtain ⟨j, hj⟩ := Int.eq_ofNat_of_zero_le (Int.emod_nonneg b hn2)
  have hil : i < n := by have := Int.emod_lt_of_pos a (show (0 : Int) < n by omega); omega
  have hjl : j < n := by have := Int.emod_lt_of_pos b (show (0 : Int) < n by omega); omega
  go_enter Try.func4, Try.ntmps4
  go_wp2_with (first | (at_make; refine Held.out ?_) | (at_builtin; refine Held.out ?_))
  refine (sane_c _).mono ?_
  rintro e w1 ⟨rfl, bel⟩
  have hr := hr.nx bel
  go_wp2_with (first | (at_make; refine Held.out ?_) | (at_builtin; refine Held.out ?_))
  go_quiet (fail)
  rw [hi, hj]
  have hr : Rd (w1.drewN nq) (w1.drewN nq).heap.size 1 A n (bv l) := hr.drewN nq
  have bel : Below w.heap.size w (w1.drewN nq) := ⟨bel.os, bel.tape, bel.output, bel.size, bel.block⟩
  clear hi hj hn1 hn2 ha0 ha1 hb0 hb1
  generalize w1.drewN nq = w2 at *
  go_wp2_with (first | (at_make; refine Held.out ?_) | (at_builtin; refine Held.out ?_))
  refine ⟨?_⟩
  refine wpList_app _ rfl _ _ 22 rfl sl8 rfl (World.ownsRow_nil w2 w2.heap.size _ _) rfl hr (bv_one _) (by omega) (by simp only [maxLen]; omega) (Nat.le_refl _) ?_
  intro A3 c3 w3 own3 gr3 ad3
  simp only [Nat.zero_add, List.nil_append] at own3
  have hr3 := hr.grown gr3 (Nat.le_refl _) (fun _ h => by cases h)
  go_wp2_with (first | (at_make; refine Held.out ?_) | (at_builtin; refine Held.out ?_))
  refine ⟨?_⟩
  refine wpList_app _ rfl _ _ 22 rfl sl8 rfl (World.ownsRow_nil w3 w2.heap.size _ _) rfl hr3 (bv_one _) (by omega) (by simp only [maxLen]; omega) gr3.size ?_
  intro A4 c4 w4 own4 gr4 ad4
  simp only [Nat.zero_add, List.nil_append] at own4
  have hr4 := hr3.grown gr4 gr3.size (fun _ h => by cases h)
  go_wp2_with (first | (at_make; refine Held.out ?_) | (at_builtin; refine Held.out ?_))
  refine ⟨?_⟩
  refine wpList_app _ rfl _ _ 22 rfl sl8 rfl (World.ownsRow_nil w4 w2.heap.size _ _) rfl hr4 (bv_one _) (by omega) (by simp only [maxLen]; omega) (Nat.le_trans gr3.size gr4.size) ?_
  intro A5 c5 w5 own5 gr5 ad5
  simp only [Nat.zero_add, List.nil_append] at own5
  have hr5 := hr4.grown gr5 (Nat.le_trans gr3.size gr4.size) (fun _ h => by cases h)
  obtain ⟨g3, m3, e3, ge3, lt3⟩ := own3.form (by omega)
  obtain ⟨g4, m4, e4, ge4, lt4⟩ := own4.form (by omega)
  obtain ⟨g5, m5, e5, ge5, lt5⟩ := own5.form (by omega)
  obtain ⟨rfl, rfl⟩ : A3 = some ⟨g3, 0, none⟩ ∧ c3 = m3 := by simpa using e3
  obtain ⟨rfl, rfl⟩ : A4 = some ⟨g4, 0, none⟩ ∧ c4 = m4 := by simpa using e4
  obtain ⟨rfl, rfl⟩ : A5 = some ⟨g5, 0, none⟩ ∧ c5 = m5 := by simpa using e5
  have k3 : g3 = w2.heap.size := by simpa [blk] using ad3
  have k4 : g4 = w3.heap.size := by simpa [blk] using ad4
  have k5 : g5 = w4.heap.size := by simpa [blk] using ad5
  have n34 : g3 ≠ g4 := by omega
  have n35 : g3 ≠ g5 := by omega
  have n45 : g4 ≠ g5 := by omega
  have o3 := (own3.kept gr4 (.inr (by simp [Value.ownBlock, blk]))).kept gr5 (.inr (by simp [Value.ownBlock, blk]))
  have o4 := own4.kept gr5 (.inr (by simp [Value.ownBlock, blk]))
  have bel5 : Below w2.heap.size w2 w5 := (((Below.refl _ _).grown gr3 (Nat.le_refl _) (fun _ h => by cases h)).grown gr4 gr3.size (fun _ h => by cases h)).grown gr5 (Nat.le_trans gr3.size gr4.size) (fun _ h => by cases h)
  have q3 := o3.cellAt i (by omega)
  have q4 := o4.cellAt j (by omega)
  have q5 := own5.cellAt i (by omega)
  have q6 := own5.cellAt j (by omega)
  rw [bv_get l i (by omega)] at q3 q5
  rw [bv_get l j (by omega)] at q4 q6
  have z3 := o3.frozenAt i
  have z4 := o4.frozenAt j
  have z5 := own5.frozenAt i
  have z6 := own5.frozenAt j
  have hx256 : x / 256 % 256 = x / 256 := Int.emod_eq_of_lt (by omega) (by omega)
  have hd : UInt8.ofNat (x % 256).toNat ≠ 0 := by
    intro h
    have h2 : (UInt8.ofNat (x % 256).toNat).toNat = 0 := by rw [h]; rfl
    simp at h2
    omega
  have ne0 := crc_chg_ne l i (UInt8.ofNat (x % 256).toNat) (by omega) hd
  have lin := crc_two l i j (UInt8.ofNat (x % 256).toNat) (UInt8.ofNat (x / 256).toNat) (by omega) (by omega)
  have L1 := crc_lt (chg l i (UInt8.ofNat (x % 256).toNat))
  have L2 := crc_lt (chg l j (UInt8.ofNat (x / 256).toNat))
  have L3 := crc_lt l
  have tail : ∀ (W : World), W.ownsRow w2.heap.size 5 1 (.slice (some ⟨g3, 0, none⟩) n c3) n (bv (chg l i (UInt8.ofNat (x % 256).toNat))) → W.ownsRow w2.heap.size 5 1 (.slice (some ⟨g4, 0, none⟩) n c4) n (bv (chg l j (UInt8.ofNat (x / 256).toNat))) →
      W.ownsRow w2.heap.size 5 1 (.slice (some ⟨g5, 0, none⟩) n c5) n (bv (chg (chg l i (UInt8.ofNat (x % 256).toNat)) j (UInt8.ofNat (x / 256).toNat))) → Below w2.heap.size w2 W → Rd W W.heap.size 1 A n (bv l) ∧ Below w.heap.size w W ∧ Rd W W.heap.size 1 (some ⟨g3, 0, none⟩) n (bv (chg l i (UInt8.ofNat (x % 256).toNat))) ∧ Rd W W.heap.size 1 (some ⟨g4, 0, none⟩) n (bv (chg l j (UInt8.ofNat (x / 256).toNat))) ∧ Rd W W.heap.size 1 (some ⟨g5, 0, none⟩) n (bv (chg (chg l i (UInt8.ofNat (x % 256).toNat)) j (UInt8.ofNat (x / 256).toNat))) :=
    fun W p1 p2 p3 p4 => ⟨hr.nx p4, below_nx bel bel.size p4, Rd.own p1, Rd.own p2, Rd.own p3⟩
  have T := Lib.hid tail
  have DW := Lib.hid (fun U => @det_world w2 w5 w2.heap.size n g3 g4 g5 c3 c4 c5 l i j (x % 256) (x / 256) U hl hil hjl (by omega) (by omega) (by omega) (by omega) o3 o4 own5 n34 n35 n45 ge3 ge4 ge5 bel5)
  have G1 := Lib.hid (chg_get_same l i (x % 256) (by omega) (by omega) (by omega))
  have G2 := Lib.hid (fun h => chg_get_other l i j (UInt8.ofNat (x % 256).toNat) h (by omega))
  generalize hC1 : crc (chg l i (UInt8.ofNat (x % 256).toNat)) = C1 at *
  generalize hC2 : crc (chg l j (UInt8.ofNat (x / 256).toNat)) = C2 at *
  generalize hC3 : crc (chg (chg l i (UInt8.ofNat (x % 256).toNat)) j (UInt8.ofNat (x / 256).toNat)) = C3 at *
  generalize hC0 : crc l = C0 at *
  have H0 := Lib.hid hC0
  have H1 := Lib.hid hC1
  have H2 := Lib.hid hC2
  have H3 := Lib.hid hC3
  have ne1 : ((C1 : Int) != (C0 : Int)) = true := by rw [bne_iff_ne]; omega
  have x1 := u32_xor_nat C1 C2 L1 L2
  have x2 := u32_xor_nat (C1 ^^^ C2) C0 (xor_lt32 L1 L2) L3
  rw [lin] at x2
  clear hC0 hC1 hC2 hC3 tail lin ne0 hd L1 L2 L3
  clear own3 own4 gr3 gr4 gr5 ad3 ad4 ad5 e3 e4 e5 hr hr3 hr4 hr5 k3 k4 k5 hx2 hx bel bel5 o3 o4 own5 ge3 ge4 ge5
  by_cases hij : i = j
  · subst hij
    go_wp2_with (first | (at_make; refine Held.out ?_) | (at_builtin; refine Held.out ?_))
    obtain ⟨W, eW, p1, p2, p3, p4⟩ := DW.out (.int .u8 (bits .xor .u8 (bits .xor .u8 ((l[i]'(by omega)).toNat : Int) (x % 256)) (x / 256))) (by rw [G1.out])
    rw [eW]
    obtain ⟨r0, bel, r1, r2, r3⟩ := T.out W p1 p2 p3 p4
    clear eW p1 p2 p3 p4 DW G1 G2 T q3 q4 q5 q6 z3 z4 z5 z6
    refine (Sum_c _ _ _ _ _ _ r1 (by omega)).mono ?_
    rw [H1.out]
    rintro e w6 ⟨rfl, rfl⟩
    go_wp2_with (first | (at_make; refine Held.out ?_) | (at_builtin; refine Held.out ?_))
    refine (Sum_c _ _ _ _ _ _ r0 (by omega)).mono ?_
    rw [H0.out]
    rintro e w6 ⟨rfl, rfl⟩
    go_wp2_with (first | (at_make; refine Held.out ?_) | (at_builtin; refine Held.out ?_))
    refine (Sum_c _ _ _ _ _ _ r1 (by omega)).mono ?_
    rw [H1.out]
    rintro e w6 ⟨rfl, rfl⟩
    go_wp2_with (first | (at_make; refine Held.out ?_) | (at_builtin; refine Held.out ?_))
    refine (Sum_c _ _ _ _ _ _ r2 (by omega)).mono ?_
    rw [H2.out]
    rintro e w6 ⟨rfl, rfl⟩
    go_wp2_with (first | (at_make; refine Held.out ?_) | (at_builtin; refine Held.out ?_))
    refine (Sum_c _ _ _ _ _ _ r0 (by omega)).mono ?_
    rw [H0.out]
    rintro e w6 ⟨rfl, rfl⟩
    go_wp2_with (first | (at_make; refine Held.out ?_) | (at_builtin; refine Held.out ?_))
    refine (Sum_c _ _ _ _ _ _ r3 (by omega)).mono ?_
    rw [H3.out]
    rintro e w6 ⟨rfl, rfl⟩
    go_wp2_with (first | (at_make; refine Held.out ?_) | (at_builtin; refine Held.out ?_))
    go_ret
    exact ⟨rfl, bel⟩
  · have hij' : ¬ j = i := fun e => hij e.symm
    go_wp2_with (first | (at_make; refine Held.out ?_) | (at_builtin; refine Held.out ?_))
    obtain ⟨W, eW, p1, p2, p3, p4⟩ := DW.out (.int .u8 (bits .xor .u8 ((l[j]'(by omega)).toNat : Int) (x / 256))) (by rw [G2.out hij])
    rw [eW]
    obtain ⟨r0, bel, r1, r2, r3⟩ := T.out W p1 p2 p3 p4
    clear eW p1 p2 p3 p4 DW G1 G2 T q3 q4 q5 q6 z3 z4 z5 z6
    refine (Sum_c _ _ _ _ _ _ r1 (by omega)).mono ?_
    rw [H1.out]
    rintro e w6 ⟨rfl, rfl⟩
    go_wp2_with (first | (at_make; refine Held.out ?_) | (at_builtin; refine Held.out ?_))
    refine (Sum_c _ _ _ _ _ _ r0 (by omega)).mono ?_
    rw [H0.out]
    rintro e w6 ⟨rfl, rfl⟩
    go_wp2_with (first | (at_make; refine Held.out ?_) | (at_builtin; refine Held.out ?_))
    refine (Sum_c _ _ _ _ _ _ r1 (by omega)).mono ?_
    rw [H1.out]
    rintro e w6 ⟨rfl, rfl⟩
    go_wp2_with (first | (at_make; refine Held.out ?_) | (at_builtin; refine Held.out ?_))
    refine (Sum_c _ _ _ _ _ _ r2 (by omega)).mono ?_
    rw [H2.out]
    rintro e w6 ⟨rfl, rfl⟩
    go_wp2_with (first | (at_make; refine Held.out ?_) | (at_builtin; refine Held.out ?_))
    refine (Sum_c _ _ _ _ _ _ r0 (by omega)).mono ?_
    rw [H0.out]
    rintro e w6 ⟨rfl, rfl⟩
    go_wp2_with (first | (at_make; refine Held.out ?_) | (at_builtin; refine Held.out ?_))
    refine (Sum_c _ _ _ _ _ _ r3 (by omega)).mono ?_
    rw [H3.out]
    rintro e w6 ⟨rfl, rfl⟩
    go_wp2_with (first | (at_make; refine Held.out ?_) | (at_builtin; refine Held.out ?_))
    go_ret
    exact ⟨rfl, bel⟩
theorem WireDetects_w (A : Option Addr) (c n : Nat) (l : List UInt8) (a b x : Int) (w : World) (hr : Rd w w.heap.size 1 A n (bv l))
    (ha0 : 0 ≤ a) (ha1 : a ≤ 65535) (hb0 : 0 ≤ b) (hb1 : b ≤ 65535) (hx0 : 0 ≤ x) (hx1 : x ≤ 65535) :
    Calls Try.prog 4 #[.slice A n c, .int .u16 a, .int .u16 x, .int .u16 b] w fun e w' => e = .returned (.bool true) ∧ Below w.heap.size w w' := by
  by_cases h : (1 ≤ n ∧ n ≤ 300) ∧ ¬ x % 256 = 0
  · exact WireDetects_in A c n l a b x w hr h.1.1 h.1.2 ha0 ha1 hb0 hb1 hx0 hx1 h.2
  · clear hr
    by_cases h1 : n = 0
    · subst h1
      go_enter Try.func4, Try.ntmps4
      go_wp2_with (first | (at_make; refine Held.out ?_) | (at_builtin; refine Held.out ?_))
      refine (sane_c _).mono ?_
      rintro e w1 ⟨rfl, bel1⟩
      go_wp2_with (first | (at_make; refine Held.out ?_) | (at_builtin; refine Held.out ?_))
      go_ret
      exact ⟨rfl, bel1⟩
    · have hn1 : ((n : Int) == 0) = false := by rw [beq_eq_false_iff_ne]; omega
      by_cases h2 : 300 < n
      · go_enter Try.func4, Try.ntmps4
        go_wp2_with (first | (at_make; refine Held.out ?_) | (at_builtin; refine Held.out ?_))
        refine (sane_c _).mono ?_
        rintro e w1 ⟨rfl, bel1⟩
        go_wp2_with (first | (at_make; refine Held.out ?_) | (at_builtin; refine Held.out ?_))
        go_ret
        exact ⟨rfl, bel1⟩
      · have hx2 : x % 256 = 0 := by omega
        have hx3 : (x % 256 == 0) = true := by rw [beq_iff_eq]; exact hx2
        clear h
        go_enter Try.func4, Try.ntmps4
        go_wp2_with (first | (at_make; refine Held.out ?_) | (at_builtin; refine Held.out ?_))
        refine (sane_c _).mono ?_
        rintro e w1 ⟨rfl, bel1⟩
        go_wp2_with (first | (at_make; refine Held.out ?_) | (at_builtin; refine Held.out ?_))
        go_ret
        exact ⟨rfl, bel1⟩
end Go.Proofs.Ytapfilbcabakgaa
