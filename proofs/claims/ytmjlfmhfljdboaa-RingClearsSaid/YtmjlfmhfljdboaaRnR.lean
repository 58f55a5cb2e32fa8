/-
  Plain facts of rings: what is valid stays valid.
-/
import Derived.Test.YtmjlfmhfljdboaaRnK
namespace Go.Proofs.Ytmjlfmhfljdboaa
set_option linter.unusedVariables false
set_option linter.unusedSimpArgs false
def Rg.ok (r : Rg) : Prop := 1 ≤ r.ch ∧ r.ch ≤ 8 ∧ 1 ≤ r.cap ∧ r.cap ≤ 65536 ∧ 0 ≤ r.rd ∧ r.rd ≤ r.wr ∧ r.wr ≤ 1125899906842624 ∧ r.wr - r.rd ≤ r.cap ∧ (r.data.length : Int) = (r.wr - r.rd) * r.ch ∧ r.data.all smpB = true
theorem blkB_mk {ch f : Int} {d : List Int} (h1 : 1 ≤ ch) (h2 : ch ≤ 8) (h3 : f ≤ 65536) (hl : (d.length : Int) = f * ch) (ha : d.all smpB = true) : blkB ch d = true := by
  have e1 : (d.length : Int) % ch = 0 := by rw [hl]; exact Int.mul_emod_left f ch
  have e2 : (d.length : Int) / ch = f := by rw [hl]; exact Int.mul_ediv_cancel f (by omega)
  rw [blkB, e1, e2, ha, decide_eq_true ⟨h1, h2, rfl, h3⟩]; rfl
theorem blkB_un {ch : Int} {d : List Int} (h : blkB ch d = true) : 1 ≤ ch ∧ ch ≤ 8 ∧ (d.length : Int) / ch ≤ 65536 ∧ (d.length : Int) = (d.length : Int) / ch * ch ∧ d.all smpB = true := by
  simp only [blkB, Bool.and_eq_true, decide_eq_true_eq] at h
  obtain ⟨⟨h1, h2, h3, h4⟩, h5⟩ := h
  have := Int.mul_ediv_add_emod (d.length : Int) ch
  refine ⟨h1, h2, h4, ?_, h5⟩
  rw [h3, Int.mul_comm] at this; omega
theorem Rg.valid_iff (r : Rg) : r.valid = true ↔ r.ok := by
  constructor
  · intro h
    obtain ⟨h1, h2, h3⟩ := Rg.valid_pre h
    obtain ⟨b1, b2, b3, b4, b5⟩ := blkB_un h2
    unfold Rg.pre at h1; unfold Rg.fit at h3
    obtain ⟨p1, p2, p3, p4, p5⟩ := h1
    refine ⟨b1, b2, p1, p2, p3, p4, p5, h3.2, ?_, b5⟩
    rw [h3.1]; exact b4
  · rintro ⟨h1, h2, h3, h4, h5, h6, h7, h8, h9, ha⟩
    have hb := blkB_mk h1 h2 (by omega) h9 ha
    have e2 : (r.data.length : Int) / r.ch = r.wr - r.rd := by rw [h9]; exact Int.mul_ediv_cancel _ (by omega)
    have hp : r.pre := ⟨h3, h4, h5, h6, h7⟩
    have hf : r.fit := ⟨e2.symm, h8⟩
    rw [Rg.valid, decide_eq_true hp, hb, decide_eq_true hf]; rfl
theorem all_take_of {d : List Int} {n : Nat} (h : d.all smpB = true) : (d.take n).all smpB = true := by
  rw [List.all_eq_true] at h ⊢
  exact fun x hx => h x (List.mem_of_mem_take hx)
theorem all_drop_of {d : List Int} {n : Nat} (h : d.all smpB = true) : (d.drop n).all smpB = true := by
  rw [List.all_eq_true] at h ⊢
  exact fun x hx => h x (List.mem_of_mem_drop hx)
theorem Rg.fill_of {r : Rg} (h : r.ok) : r.fill = r.wr - r.rd := by rw [Rg.fill, (Rg.valid_iff r).2 h, if_pos rfl]
/-- writing k frames -/
theorem write_ok {r : Rg} {d : List Int} {k : Int} (h : r.ok) (hd : d.all smpB = true) (hk : (d.length : Int) = k * r.ch) (h0 : 0 ≤ k) (h1 : k ≤ 65536) (hw : r.wr ≤ 1000000) :
    ∃ t, t = Min.min k (r.cap - (r.wr - r.rd)) ∧ 0 ≤ t ∧ t ≤ k ∧ r.write r.ch d = ({ r with wr := r.wr + t, data := r.data ++ d.take (t * r.ch).toNat }, k - t, 0) ∧ ({ r with wr := r.wr + t, data := r.data ++ d.take (t * r.ch).toNat } : Rg).ok := by
  have hv := (Rg.valid_iff r).2 h
  have hfl := Rg.fill_of h
  obtain ⟨g1, g2, g3, g4, g5, g6, g7, g8, g9, ga⟩ := h
  have hb := blkB_mk g1 g2 h1 hk hd
  have e2 : (d.length : Int) / r.ch = k := by rw [hk]; exact Int.mul_ediv_cancel _ (by omega)
  have ht : r.takes d = Min.min k (r.cap - (r.wr - r.rd)) := by rw [Rg.takes, e2, hfl]
  have hm : 0 ≤ r.takes d ∧ r.takes d ≤ k ∧ r.takes d ≤ r.cap - (r.wr - r.rd) := by rw [ht]; omega
  generalize ht2 : r.takes d = t at *
  obtain ⟨m1, m2, m3⟩ := hm
  refine ⟨t, ht, m1, m2, ?_, ?_⟩
  · rw [Rg.write, if_neg (by rw [hv, hb]; simp), if_neg (by simp), if_neg (by rw [ht2]; omega), ht2, e2]
  · have l1 : t * r.ch ≤ k * r.ch := Int.mul_le_mul_of_nonneg_right m2 (by omega)
    have l0 : 0 ≤ t * r.ch := Int.mul_nonneg m1 (by omega)
    have ex : (r.wr + t - r.rd) * r.ch = (r.wr - r.rd) * r.ch + t * r.ch := by rw [← Int.add_mul]; congr 1; omega
    refine ⟨g1, g2, g3, g4, g5, by simp only; omega, by simp only; omega, by simp only; omega, ?_, ?_⟩
    · simp only [List.length_append, List.length_take]
      rw [ex]; omega
    · simp only [List.all_append, ga, all_take_of hd]; rfl
theorem read_ok {r : Rg} {n : Int} (h : r.ok) (h0 : 0 ≤ n) (h1 : n ≤ 65536) :
    ∃ g, g = Min.min n (r.wr - r.rd) ∧ 0 ≤ g ∧ g ≤ n ∧ r.read n = ((r.ch, r.data.take (g * r.ch).toNat ++ List.replicate ((n - g) * r.ch).toNat 0), n - g, { r with rd := r.rd + g, data := r.data.drop (g * r.ch).toNat }, 0) ∧ ({ r with rd := r.rd + g, data := r.data.drop (g * r.ch).toNat } : Rg).ok := by
  have hv := (Rg.valid_iff r).2 h
  have hfl := Rg.fill_of h
  obtain ⟨g1, g2, g3, g4, g5, g6, g7, g8, g9, ga⟩ := h
  have ht : r.gives n = Min.min n (r.wr - r.rd) := by rw [Rg.gives, hfl]
  have hm : 0 ≤ r.gives n ∧ r.gives n ≤ n ∧ r.gives n ≤ r.wr - r.rd := by rw [ht]; omega
  generalize ht2 : r.gives n = g at *
  obtain ⟨m1, m2, m3⟩ := hm
  refine ⟨g, ht, m1, m2, ?_, ?_⟩
  · rw [Rg.read, if_neg (by rw [hv]; simp), if_neg (by omega), Rg.out, ht2]
  · have l0 : 0 ≤ g * r.ch := Int.mul_nonneg m1 (by omega)
    have l1 : g * r.ch ≤ (r.wr - r.rd) * r.ch := Int.mul_le_mul_of_nonneg_right m3 (by omega)
    have ex : (r.wr - (r.rd + g)) * r.ch = (r.wr - r.rd) * r.ch - g * r.ch := by rw [← Int.sub_mul]; congr 1; omega
    refine ⟨g1, g2, g3, g4, by simp only; omega, by simp only; omega, by simp only; omega, by simp only; omega, ?_, ?_⟩
    · simp only [List.length_drop]
      rw [ex]; omega
    · exact all_drop_of ga
theorem newR_ok {ch cap : Int} (h1 : 1 ≤ ch) (h2 : ch ≤ 8) (h3 : 1 ≤ cap) (h4 : cap ≤ 65536) : newR ch cap = (⟨ch, cap, 0, 0, []⟩, 0) ∧ (Rg.mk ch cap 0 0 []).ok := by
  have h : (Rg.mk ch cap 0 0 []).ok := ⟨h1, h2, h3, h4, by simp, by simp, by simp, by simp only; omega, by simp, rfl⟩
  exact ⟨by rw [newR, (Rg.valid_iff _).2 h, if_pos rfl], h⟩
theorem clear_ok {r : Rg} (h : r.ok) : r.clear = ({ r with rd := r.wr, data := [] }, 0) ∧ ({ r with rd := r.wr, data := [] } : Rg).ok := by
  have hv := (Rg.valid_iff r).2 h
  obtain ⟨g1, g2, g3, g4, g5, g6, g7, g8, g9, ga⟩ := h
  refine ⟨by rw [Rg.clear, hv, if_pos rfl], g1, g2, g3, g4, by simp only; omega, by simp only; omega, g7, by simp only; omega, by simp, rfl⟩
theorem wvN_smp (seed ch from_ : Int) (n : Nat) : (wvN seed ch from_ n).all smpB = true := by
  rw [List.all_eq_true]
  intro x hx
  simp only [wvN, List.mem_flatMap, wvF, List.mem_map] at hx
  obtain ⟨j, _, c, _, rfl⟩ := hx
  have := tmod_bd4 ((from_ + (j : Int)) * 7919 + (c : Int) * 104729 + seed * 15485863)
  rw [smpB, decide_eq_true_eq, wvS]
  omega
theorem wvN_lenI (seed ch from_ : Int) (k : Int) (h : 0 ≤ k) (hc : 0 ≤ ch) : ((wvN seed ch from_ k.toNat).length : Int) = k * ch := by
  rw [wvN_len, Int.natCast_mul, Int.toNat_of_nonneg h, Int.toNat_of_nonneg hc]
def Rg.made (r : Rg) (B : Int) : Prop := r.ok ∧ r.ch ≤ 2 ∧ r.cap ≤ 12 ∧ r.wr ≤ B
theorem stepM_made {r : Rg} {B : Int} (h : r.made B) (hB : B ≤ 1000) (n : Int) (l : List UInt8) : (stepM n r l).1.made (B + 20) := by
  obtain ⟨h1, h2, h3, h4⟩ := h
  have d1 := diV_bd l 9 (by omega)
  have d2 := diV_bd (diL l 9) 6 (by omega)
  have g1 := h1.1
  obtain ⟨t, et, t0, t1, ew, ok⟩ := write_ok h1 (wvN_smp n r.ch 0 (diV l 9).toNat) (wvN_lenI n r.ch 0 (diV l 9) d1.1 (by omega)) d1.1 (by omega) (by omega)
  obtain ⟨g, eg, g0, g1, er, ok2⟩ := read_ok ok d2.1 (by omega)
  simp only [stepM, ew, er]
  exact ⟨ok2, h2, h3, by simp only; omega⟩
theorem loopM_made : ∀ (k : Nat) (r : Rg) (l : List UInt8) (B : Int), r.made B → B + 20 * k ≤ 1000 → (loopM k r l).1.made (B + 20 * k)
  | 0, r, l, B, h, _ => by rw [loopM]; obtain ⟨a, b, c, d⟩ := h; exact ⟨a, b, c, by simp only; omega⟩
  | k + 1, r, l, B, h, hB => by
    have := loopM_made k (stepM ((k + 1 : Nat) : Int) r l).1 (stepM ((k + 1 : Nat) : Int) r l).2 _ (stepM_made h (by omega) ((k + 1 : Nat) : Int) l) (by omega)
    rw [loopM]
    obtain ⟨a, b, c, d⟩ := this
    exact ⟨a, b, c, by omega⟩
theorem madeM_made (l : List UInt8) : (madeM l).1.made 100 := by
  have b1 := diV_bd l 2 (by omega)
  have b2 := diV_bd (diL l 2) 12 (by omega)
  have b3 := diV_bd (diL (diL l 2) 12) 5 (by omega)
  obtain ⟨e, h⟩ := newR_ok (ch := 1 + diV l 2) (cap := 1 + diV (diL l 2) 12) (by omega) (by omega) (by omega) (by omega)
  have := loopM_made (diV (diL (diL l 2) 12) 5).toNat _ (diL (diL (diL l 2) 12) 5) 0 (⟨h, by simp only; omega, by simp only; omega, by simp⟩ : Rg.made _ 0) (by omega)
  rw [madeM, e]
  obtain ⟨a, b, c, d⟩ := this
  refine ⟨a, b, c, Int.le_trans d ?_⟩
  omega
theorem ok64_of {r : Rg} (h : r.ok) (hl : r.data.length ≤ 1099511627776) : r.ok64 := by
  obtain ⟨g1, g2, g3, g4, g5, g6, g7, g8, g9, ga⟩ := h
  exact ⟨hl, by omega, by omega, by omega, by omega⟩
/-- two writings are one -/
theorem write_two {r : Rg} {a b : List Int} {m n : Int} (h : r.ok) (ha : a.all smpB = true) (hb : b.all smpB = true) (la : (a.length : Int) = m * r.ch) (lb : (b.length : Int) = n * r.ch) (m0 : 0 ≤ m) (m1 : m ≤ 100) (n0 : 0 ≤ n) (n1 : n ≤ 100) (hw : r.wr ≤ 1000) :
    ∃ x lost y gone z, r.write r.ch a = (x, lost, 0) ∧ x.write r.ch b = (y, gone, 0) ∧ r.write r.ch (a ++ b) = (z, lost + gone, 0) ∧ (lost = 0 → y = z) ∧ x.ok ∧ y.ok ∧ z.ok ∧ z.wr ≤ 2000 ∧ z.ch = r.ch ∧ x.data.length ≤ r.data.length + a.length ∧ y.data.length ≤ r.data.length + a.length + b.length ∧ z.data.length ≤ r.data.length + a.length + b.length ∧ 0 ≤ lost ∧ lost ≤ 100 ∧ 0 ≤ gone ∧ gone ≤ 100 := by
  obtain ⟨t, et, t0, t1, ew, ok⟩ := write_ok h ha la m0 (by omega) (by omega)
  obtain ⟨s, es, s0, s1, ew2, ok2⟩ := write_ok ok (d := b) hb lb n0 (by omega) (by simp only; omega)
  obtain ⟨u, eu, u0, u1, ew3, ok3⟩ := write_ok h (d := a ++ b) (k := m + n) (by rw [List.all_append, ha, hb]; rfl) (by rw [List.length_append, Int.natCast_add, la, lb, Int.add_mul]) (by omega) (by omega) (by omega)
  simp only at es
  refine ⟨_, _, _, _, _, ew, ew2, ?_, ?_, ok, ok2, ok3, by simp only; omega, rfl, ?_, ?_, ?_, by omega, by omega, by omega, by omega⟩
  · rw [ew3]; congr 2; omega
  · intro e0
    have : t = m := by omega
    subst this
    have : u = t + s := by omega
    subst this
    have h3 : (t * r.ch).toNat = a.length := by omega
    have h4 : ((t + s) * r.ch).toNat = a.length + (s * r.ch).toNat := by
      have := Int.mul_nonneg s0 (show 0 ≤ r.ch by have := h.1; omega)
      rw [Int.add_mul]; omega
    simp only [Rg.mk.injEq, true_and, and_true]
    refine ⟨by omega, ?_⟩
    rw [h3, h4, List.take_length, List.take_length_add_append, List.append_assoc]
  all_goals (simp only [List.length_append, List.length_take]; omega)
/-- two readings are one -/
theorem read_two {r : Rg} {m n : Int} (h : r.ok) (m0 : 0 ≤ m) (m1 : m ≤ 100) (n0 : 0 ≤ n) (n1 : n ≤ 100) :
    ∃ u p s v q t, r.read m = ((r.ch, u), p, s, 0) ∧ s.read n = ((r.ch, v), q, t, 0) ∧ r.read (m + n) = ((r.ch, u ++ v), p + q, t, 0) ∧ s.ok ∧ t.ok ∧ u.length ≤ 800 ∧ v.length ≤ 800 ∧ t.data.length ≤ r.data.length ∧ 0 ≤ p ∧ p ≤ 100 ∧ 0 ≤ q ∧ q ≤ 100 := by
  obtain ⟨g, eg, g0, g1, er, ok⟩ := read_ok h m0 (by omega)
  obtain ⟨k, ek, k0, k1, er2, ok2⟩ := read_ok ok n0 (by omega)
  obtain ⟨w, ew, w0, w1, er3, ok3⟩ := read_ok h (n := m + n) (by omega) (by omega)
  simp only at ek
  have hw : w = g + k := by omega
  subst hw
  obtain ⟨c1, c2, _⟩ := h
  have q1 := Int.mul_nonneg g0 (show 0 ≤ r.ch by omega)
  have q2 := Int.mul_nonneg k0 (show 0 ≤ r.ch by omega)
  have q3 : g * r.ch ≤ 100 * 8 := Int.mul_le_mul (by omega) c2 (by omega) (by omega)
  have q4 : k * r.ch ≤ 100 * 8 := Int.mul_le_mul (by omega) c2 (by omega) (by omega)
  have q5 : m * r.ch ≤ 100 * 8 := Int.mul_le_mul (by omega) c2 (by omega) (by omega)
  have q6 : n * r.ch ≤ 100 * 8 := Int.mul_le_mul (by omega) c2 (by omega) (by omega)
  have q7 : (m - g) * r.ch = m * r.ch - g * r.ch := Int.sub_mul ..
  have q8 : (n - k) * r.ch = n * r.ch - k * r.ch := Int.sub_mul ..
  have q9 : (g + k) * r.ch = g * r.ch + k * r.ch := Int.add_mul ..
  refine ⟨_, _, _, _, _, _, er, er2, ?_, ok, ok2, ?_, ?_, ?_, by omega, by omega, by omega, by omega⟩
  · rw [er3]
    have e1 : m + n - (g + k) = m - g + (n - k) := by omega
    have e2 : ((g + k) * r.ch).toNat = (g * r.ch).toNat + (k * r.ch).toNat := by rw [q9]; omega
    rw [e1, e2, List.drop_drop]
    simp only [Prod.mk.injEq, true_and, and_true, Rg.mk.injEq]
    refine ⟨?_, by omega⟩
    rcases Int.lt_or_le g m with hgm | hgm
    · have : k = 0 := by omega
      subst this
      have p1 : (m - g + (n - 0)) * r.ch = (m - g) * r.ch + (n - 0) * r.ch := Int.add_mul ..
      have p2 : 0 ≤ (m - g) * r.ch := Int.mul_nonneg (by omega) (by omega)
      have p3 : 0 ≤ (n - 0) * r.ch := Int.mul_nonneg (by omega) (by omega)
      rw [p1, Int.toNat_add p2 p3, ← List.replicate_append_replicate]
      simp
    · have : m = g := by omega
      subst this
      rw [List.take_add]
      simp
  · simp only [List.length_append, List.length_take, List.length_replicate]; omega
  · simp only [List.length_append, List.length_take, List.length_replicate, List.length_drop]; omega
  · simp only [List.length_drop]; omega
end Go.Proofs.Ytmjlfmhfljdboaa
