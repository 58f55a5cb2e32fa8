/-
  Walk of the law's maker 'made' (records and their journal, out of a deck), and of Same.
-/
import Derived.Test.YtbifgoaceolpoaaJourA
namespace Go.Proofs.Ytbifgoaceolpoaa
set_option linter.unusedVariables false
set_option linter.unusedSimpArgs false
open Go.ChangeShapes Go.WideShapes Go.ChangeAt Go.RowKit
/-- m bytes out of the deck, behind acc -/
def drawB (l : List Int) : Nat → Nat → List UInt8 → List UInt8 × Nat
  | 0, k, acc => (acc, k)
  | m + 1, k, acc => drawB l m (dnext l k 256).2 (acc ++ [UInt8.ofNat (dnext l k 256).1.toNat])
/-- records out of the deck, and their journal -/
def mkJ (l : List Int) : Nat → Nat → List (List UInt8) → List UInt8 → List (List UInt8) × List UInt8
  | 0, _, out, b => (out, b)
  | m + 1, k, out, b => mkJ l m (drawB l (dnext l k 20).1.toNat (dnext l k 20).2 []).2 (out ++ [(drawB l (dnext l k 20).1.toNat (dnext l k 20).2 []).1]) (apM b (drawB l (dnext l k 20).1.toNat (dnext l k 20).2 []).1).1
def madeJ (l : List Int) : List (List UInt8) × List UInt8 := mkJ l (dnext l 0 6).1.toNat (dnext l 0 6).2 [] []
theorem drawB_len (l : List Int) : ∀ (m k : Nat) (acc : List UInt8), (drawB l m k acc).1.length = acc.length + m := by
  intro m
  induction m with
  | zero => intro k acc; rfl
  | succ m ih => intro k acc; rw [drawB, ih]; simp; omega
theorem apM_len (b x : List UInt8) : (apM b x).1.length ≤ b.length + 10 + x.length := by
  unfold apM
  split
  · simp
  · split
    · simp
    · simp [le_length]; omega
theorem grow_trans {a b c : World} {g : Nat} (h : a.grownBy b (some g)) (k : b.grownBy c (some g)) : a.grownBy c (some g) :=
  ⟨k.os.trans h.os, k.tape.trans h.tape, k.output.trans h.output, Nat.le_trans h.size k.size, fun i hi hn => (k.block i (Nat.lt_of_lt_of_le hi h.size) hn).trans (h.block i hi hn)⟩
theorem grow_below {a b c : World} {g B : Nat} (h : a.grownBy b (some g)) (k : Below B b c) (hB : a.heap.size ≤ B) : a.grownBy c (some g) :=
  ⟨k.os.trans h.os, k.tape.trans h.tape, k.output.trans h.output, Nat.le_trans h.size k.size, fun i hi hn => (k.block i (by omega)).trans (h.block i hi hn)⟩
theorem grow_Below {a b c : World} {g B : Nat} (h : Below B a b) (k : b.grownBy c (some g)) (hg : B ≤ g) (hB : B ≤ b.heap.size) : Below B a c :=
  h.trans ⟨k.os, k.tape, k.output, k.size, fun i hi => k.block i (by omega) (fun e => by
    have h2 : i = g := by simpa using e
    omega)⟩
theorem own_grow {w w' : World} {g base : Nat} {e : TypeId} {size : Nat} {v : Value} {n : Nat} {xs : List Value} (h : w.ownsRow base e size v n xs) (t : w.grownBy w' (some g)) (hg : g < base) : w'.ownsRow base e size v n xs :=
  h.kept t (.inr (fun hh => by have := (h.lt g hh).1; omega))
theorem own_typed {w w' : World} {e e' base base' size k m n c : Nat} {v : Value} {A' : Option Addr} {xs ys : List Value} (h : w.ownsRow base e size v n xs) (ho : w.ownsRow base' e' k (.slice A' m c) m ys) (hne : e ≠ e') (g : w.grownBy w' (blk A')) : w'.ownsRow base e size v n xs := by
  refine ⟨h.1, ?_⟩
  rcases h.2 with h2 | ⟨g1, cap, cur, hv, hg, hh, r⟩
  · exact .inl h2
  · refine .inr ⟨g1, cap, cur, hv, hg, ?_, r⟩
    rw [g.block g1 (Array.getElem?_eq_some_iff.1 hh).1 ?_]
    · exact hh
    · intro hbk
      rcases ho.2 with ⟨hv, _⟩ | ⟨g', cap', cur', hv', _, hh', _⟩
      · obtain ⟨rfl, _⟩ : A' = none ∧ _ := by simpa using hv
        simp [blk] at hbk
      · obtain ⟨rfl, _⟩ : A' = some ⟨g', 0, none⟩ ∧ _ := by simpa using hv'
        have : g1 = g' := by simpa [blk] using hbk
        subst this
        rw [hh] at hh'
        injection hh' with hh'
        injection hh' with _ hh2
        exact hne hh2
set_option maxRecDepth 100000 in
set_option maxHeartbeats 1000000 in
theorem made40_c (A : Option Addr) (c n : Nat) (l : List Int) (w : World) (hr : Rd w w.heap.size 1 A n (iv l)) (hf : Fits l) (hn : n ≤ maxLen) :
    Calls Try.prog 7 #[.slice A n c] w fun e w' => ∃ A1 c1 A2 c2, e = .returned (.tuple #[.slice A1 (madeJ l).1.length c1, .slice A2 (madeJ l).2.length c2]) ∧ OwL w w' A1 (madeJ l).1.length c1 (madeJ l).1 ∧ OwB w w' A2 (madeJ l).2.length c2 (madeJ l).2 := by
  have hM : madeJ l = mkJ l (dnext l 0 6).1.toNat (dnext l 0 6).2 [] [] := rfl
  have HM := Lib.hid hM
  clear hM
  generalize madeJ l = M at *
  have hb6 := dnext_bd l 0 6 (by omega)
  have NX := Lib.hid (fun k m W hd hr hm => Next_c w.heap.size A n c k l m W hd hr hf hn hm)
  go_enter Try.func7, Try.ntmps7
  go_wp2_with (first | (at_make; refine Held.out ?_) | (at_builtin; refine Held.out ?_))
  refine (New_c A n c w).mono ?_
  rintro e w1 ⟨rfl, rfl⟩
  have hd1 := Dk.new w A n c
  have hr1 := hr.alloc (Nat.le_refl _) (.cells #[.slice A n c, .int .i64 0] 51)
  have bel1 := below_alloc w (.cells #[.slice A n c, .int .i64 0] 51)
  generalize hw1 : w.alloc (.cells #[.slice A n c, .int .i64 0] 51) = w1 at *
  have sz1 : w.heap.size + 1 ≤ w1.heap.size := by rw [← hw1]; simp
  clear hw1
  go_wp2_with (first | (at_make; refine Held.out ?_) | (at_builtin; refine Held.out ?_))
  refine (NX.out 0 6 w1 hd1 hr1 (by omega) (by omega)).mono ?_
  rintro e w2 ⟨rfl, hd2, tk2⟩
  have bel2 := tk2.below0 bel1 (Nat.le_refl _)
  have sz2 : w.heap.size + 1 ≤ w2.heap.size := by rw [tk2.size]; exact sz1
  clear hd1 hr1 bel1 sz1 tk2
  generalize dnext l 0 6 = D at *
  obtain ⟨d, k0⟩ := D
  simp only at hb6 HM hd2 ⊢
  obtain ⟨d, rfl⟩ := Int.eq_ofNat_of_zero_le hb6.1
  rw [Int.toNat_natCast] at HM
  have hd5 : d ≤ 5 := by omega
  clear hb6
  go_wp2_with (first | (at_make; refine Held.out ?_) | (at_builtin; refine Held.out ?_))
  go_loopw [5, 6, 7] (fun ov bv_ kv wr => ∃ (k at_ : Nat) (out : List (List UInt8)) (b : List UInt8) (A1 A2 : Option Addr) (c1 c2 : Nat) (vs : List Value), kv = .int .i64 k ∧ ov = .slice A1 out.length c1 ∧ bv_ = .slice A2 b.length c2 ∧
      wr.ownsRow (w.heap.size + 1) 23 1 (.slice A1 out.length c1) out.length vs ∧ Each wr (w.heap.size + 1) 5 vs out ∧ wr.ownsRow (w.heap.size + 1) 5 1 (.slice A2 b.length c2) b.length (bv b) ∧
      Dk wr w.heap.size A n c at_ ∧ Below w.heap.size w wr ∧ w.heap.size + 1 ≤ wr.heap.size ∧ Hid (M = mkJ l k at_ out b) ∧ out.length + k ≤ 5 ∧ b.length ≤ 30 * out.length) (fun _ _ k _ => (intOf k).toNat)
  case atStart => exact ⟨d, k0, [], [], none, none, 0, 0, [], rfl, rfl, rfl, World.ownsRow_nil _ _ _ _, Each.nil _ _ _, World.ownsRow_nil _ _ _ _, hd2, bel2, sz2, HM, by simp; omega, by simp⟩
  case round =>
    clear hd2 bel2 sz2 HM hd5
    obtain ⟨k, at_, out, b, A1, A2, c1, c2, vs, rfl, rfl, rfl, own1, each, own2, hd, bel, sz, hM, hk, hb⟩ := hrel
    generalize hol : out.length = ol at *
    generalize hbl : b.length = bl at *
    have Hol := Lib.hid hol
    have Hbl := Lib.hid hbl
    clear hol hbl
    by_cases hk0 : k = 0
    · subst hk0
      have HM0 := Lib.hid (show M = (out, b) from hM.out)
      go_wp2_with (first | (at_make; refine Held.out ?_) | (at_builtin; refine Held.out ?_))
      go_ret2
      rw [HM0.out]
      simp only [Hol.out, Hbl.out]
      exact ⟨A1, c1, A2, c2, rfl, ⟨vs, own_mono own1 (by omega), each.low (by omega), bel⟩, own_mono own2 (by omega), bel⟩
    · obtain ⟨k, rfl⟩ : ∃ j, k = j + 1 := ⟨k - 1, by omega⟩
      have hrw := hr.below bel
      have hb20 := dnext_bd l at_ 20 (by omega)
      have HMS := Lib.hid (show M = mkJ l k (drawB l (dnext l at_ 20).1.toNat (dnext l at_ 20).2 []).2 (out ++ [(drawB l (dnext l at_ 20).1.toNat (dnext l at_ 20).2 []).1]) (apM b (drawB l (dnext l at_ 20).1.toNat (dnext l at_ 20).2 []).1).1 from hM.out)
      clear hM
      go_wp2_with (first | (at_make; refine Held.out ?_) | (at_builtin; refine Held.out ?_))
      refine (NX.out at_ 20 wr hd hrw (by omega) (by omega)).mono ?_
      rintro e w3 ⟨rfl, hd3, tk3⟩
      have o1 := own_took own1 tk3 (Nat.lt_succ_self _)
      have o2 := own_took own2 tk3 (Nat.lt_succ_self _)
      have ea := each.map (fun A n xs h => h.far (Nat.lt_succ_self _) tk3.grown)
      have be := tk3.below0 bel (Nat.le_refl _)
      have sz3 : w.heap.size + 1 ≤ w3.heap.size := by rw [tk3.size]; exact sz
      clear hd hrw own1 own2 each bel sz tk3
      generalize dnext l at_ 20 = D at *
      obtain ⟨m, k3⟩ := D
      simp only at hb20 HMS hd3 ⊢
      obtain ⟨m, rfl⟩ := Int.eq_ofNat_of_zero_le hb20.1
      rw [Int.toNat_natCast] at HMS
      have hm19 : m ≤ 19 := by omega
      clear hb20
      obtain ⟨R, hR⟩ : ∃ R, drawB l m k3 [] = R := ⟨_, rfl⟩
      have HR := Lib.hid hR
      rw [hR] at HMS
      clear hR
      go_wp2_with (first | (at_make; refine Held.out ?_) | (at_builtin; refine Held.out ?_))
      go_loopw [8, 9] (fun rv nv wi => ∃ (j p : Nat) (acc : List UInt8) (Ar : Option Addr) (cr : Nat), nv = .int .i64 j ∧ rv = .slice Ar acc.length cr ∧ wi.ownsRow w3.heap.size 5 1 (.slice Ar acc.length cr) acc.length (bv acc) ∧
          Dk wi w.heap.size A n c p ∧ w3.grownBy wi (some w.heap.size) ∧ Hid (R = drawB l j p acc) ∧ acc.length + j ≤ 19) (fun _ nv _ => (intOf nv).toNat)
      case atStart => exact ⟨m, k3, [], none, 0, rfl, rfl, World.ownsRow_nil _ _ _ _, hd3, World.grownBy.refl _ _, Lib.hid HR.out.symm, by simp; omega⟩
      case round =>
        clear hd3 HR hm19
        obtain ⟨j, p, acc, Ar, cr, rfl, rfl, own, hd, gr, hR, hj⟩ := hrel
        have beI := grow_Below be gr (Nat.le_refl _) be.size
        have hrI := hr.below beI
        generalize hal : acc.length = al at *
        have Hal := Lib.hid hal
        clear hal
        by_cases hj0 : j = 0
        · subst hj0
          have HR0 := Lib.hid (show R = (acc, p) from hR.out)
          have HMS2 := Lib.hid (show M = mkJ l k p (out ++ [acc]) (apM b acc).1 from by rw [HMS.out, HR0.out])
          have o1 := own_grow o1 gr (Nat.lt_succ_self _)
          have o2 := own_grow o2 gr (Nat.lt_succ_self _)
          have ea := ea.map (fun A n xs h => h.far (Nat.lt_succ_self _) gr)
          have rr := Rt.own own
          have cra := own_cap own
          have o2c := own_cap o2
          have hap := apM_len b acc
          clear hR HR0 HMS hrI be
          go_wp2_with (first | (at_make; refine Held.out ?_) | (at_builtin; refine Held.out ?_))
          have sz4 := beI.size
          refine (rAppend_c A2 Ar c2 bl cr al b acc _ (Rd.own o2) o2c (by omega) rr.rd (by omega)).mono ?_
          rintro e w4 ⟨A4, c4, rfl, own4, bel4⟩
          have gsz : w.heap.size + 1 ≤ wr.heap.size := Nat.le_trans sz3 gr.size
          have o1 := own_below o1 bel4
          have ea := ea.map (fun A n xs h => h.nx bel4)
          have rr := (rr.low (L' := w.heap.size + 1) (by omega)).nx bel4
          have hd4 := hd.below bel4
          have bel5 := below_nx beI sz4 bel4
          have sz5 : w.heap.size + 1 ≤ w4.heap.size := Nat.le_trans gsz bel4.size
          have own4 := own_mono own4 gsz
          clear hd gr o2 bel4 own beI gsz sz4 sz3
          generalize hB1 : (apM b acc).1 = B1 at *
          generalize hbl1 : B1.length = bl1 at *
          have Hbl1 := Lib.hid hbl1
          clear hbl1
          have hb1 : bl1 ≤ 30 * (ol + 1) := by have := Hbl.out; have := Hal.out; omega
          clear hap
          go_wp2_with (first | (at_make; refine Held.out ?_) | (at_builtin; refine Held.out ?_))
          refine ⟨?_⟩
          refine wpList_app _ rfl _ _ 25 rfl sl88 rfl (o1.alloc _) rfl (Rd.lit w4 _ _ 1 1 rfl) (by simp [Value.oneCell']) (by omega) (by simp only [maxLen]; omega) (Nat.le_trans sz5 (by simp)) ?_
          intro A6 c6 w6 own6 gr6 _
          have each6 := ((ea.map (fun A n xs h => h.alloc _)).map (fun A n xs h => h.grown (o1.alloc _) (by decide) gr6)).snoc (A := Ar) (c := cr) (l := acc) (by rw [Hal.out]; exact cra)
            (by rw [Hal.out]; exact (rr.alloc _).grown (o1.alloc _) (by decide) gr6)
          rw [Hal.out] at each6
          have bel7 := (bel5.alloc bel5.size _).grown gr6 (Nat.le_trans bel5.size (by simp)) (fun g hg => Nat.le_trans (Nat.le_succ _) (own_blk o1 g hg))
          have own7 := own_typed (own4.alloc _) (o1.alloc _) (by decide) gr6
          have hd7 := hd4.belowB (((Below.refl (w.heap.size + 1) w4).alloc sz5 _).grown gr6 (Nat.le_trans sz5 (by simp)) (own_blk o1)) (Nat.lt_succ_self _)
          have sz7 : w.heap.size + 1 ≤ w6.heap.size := Nat.le_trans (Nat.le_trans sz5 (by simp)) gr6.size
          clear o1 ea rr hd4 bel5 own4 gr6 sz5
          go_wp2_with (first | (at_make; refine Held.out ?_) | (at_builtin; refine Held.out ?_))
          refine ⟨⟨k, p, out ++ [acc], B1, A6, A4, c6, c4, _, by go_num, ?_, by rw [Hbl1.out], ?_, each6, by rw [Hbl1.out]; exact own7, hd7, bel7, sz7, HMS2, ?_, ?_⟩, by simp [intOf]⟩
          · simp only [List.length_append, List.length_cons, List.length_nil, Hol.out]
          · simp only [List.length_append, List.length_cons, List.length_nil, Hol.out]; exact own6
          · simp only [List.length_append, List.length_cons, List.length_nil, Hol.out]; omega
          · simp only [List.length_append, List.length_cons, List.length_nil, Hol.out, Hbl1.out]; omega
        · obtain ⟨j, rfl⟩ : ∃ i, j = i + 1 := ⟨j - 1, by omega⟩
          have hb256 := dnext_bd l p 256 (by omega)
          have HRS := Lib.hid (show R = drawB l j (dnext l p 256).2 (acc ++ [UInt8.ofNat (dnext l p 256).1.toNat]) from hR.out)
          clear hR
          go_wp2_with (first | (at_make; refine Held.out ?_) | (at_builtin; refine Held.out ?_))
          refine (NX.out p 256 wr hd hrI (by omega) (by omega)).mono ?_
          rintro e w5 ⟨rfl, hd5, tk5⟩
          have gr5 := grow_trans gr tk5.grown
          have hg3 : w.heap.size < w3.heap.size := by omega
          have own5 := own_took own tk5 hg3
          have s5 : w3.heap.size ≤ w5.heap.size := by rw [tk5.size]; exact gr.size
          clear hd hrI gr own beI tk5
          generalize dnext l p 256 = D at *
          obtain ⟨v, p5⟩ := D
          simp only at hb256 HRS hd5 ⊢
          obtain ⟨v, rfl⟩ := Int.eq_ofNat_of_zero_le hb256.1
          rw [Int.toNat_natCast] at HRS
          have hw : IntKind.u8.wrap (v : Int) = v := IntWalk.u8_in _ (by omega)
          go_wp2_with (first | (at_make; refine Held.out ?_) | (at_builtin; refine Held.out ?_))
          refine ⟨?_⟩
          refine wpList_ap1 _ rfl _ _ 23 rfl sl8 (Below.refl w3.heap.size w5) rfl own5 rfl rfl (by simp [Value.oneCell']) (by omega) (by simp only [maxLen]; omega) s5 ?_
          intro A6 c6 w6 own6 bel6 sz6
          have hd6 := hd5.belowB bel6 hg3
          have gr6 := grow_below gr5 bel6 (Nat.le_refl _)
          clear own5 gr5 bel6 hd5
          have eb : bv acc ++ [Value.int .u8 v] = bv (acc ++ [UInt8.ofNat v]) := by
            rw [bv_append]
            simp [bv]
            omega
          go_wp2_with (first | (at_make; refine Held.out ?_) | (at_builtin; refine Held.out ?_))
          refine ⟨⟨j, by go_num, p5, acc ++ [UInt8.ofNat v], A6, c6, ⟨rfl, ?_, rfl⟩, ?_, hd6, HRS, ?_⟩, by simp [intOf]; omega⟩
          · simp only [List.length_append, List.length_cons, List.length_nil, Hal.out]
          · simp only [List.length_append, List.length_cons, List.length_nil, Hal.out]; rw [← eb]; exact own6
          · simp only [List.length_append, List.length_cons, List.length_nil, Hal.out]; omega
end Go.Proofs.Ytbifgoaceolpoaa
