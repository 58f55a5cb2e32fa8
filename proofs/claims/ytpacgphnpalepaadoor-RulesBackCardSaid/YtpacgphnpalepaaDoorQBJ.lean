/-
  Walk of the reference's writer of rules: a list of rules.
-/
import Derived.Test.YtpacgphnpalepaaDoorQBI
import Derived.Test.YtpacgphnpalepaaDoorFmC
import Derived.Test.YtpacgphnpalepaaDoorQBA
import Derived.Test.YtpacgphnpalepaaDoorNumR
import Derived.Test.YtpacgphnpalepaaDoorQAP
namespace Go.Proofs.YtpacgphnpalepaaDoor
set_option linter.unusedVariables false
set_option linter.unusedSimpArgs false
def headP (h : Hd) : List UInt8 :=
  if h.kind = 1 then [114, 111, 117, 116, 101, 32] ++ h.role ++ [32] ++ h.cls else if h.kind = 2 then [100, 117, 99, 107, 32] ++ h.role ++ [32] ++ Lib.itoa h.pct else [109, 117, 116, 101, 32] ++ h.role
def tailP (c : List Tm) : List UInt8 := if c = [] then [] else [32, 119, 104, 101, 110, 32] ++ condP c
def lineP (r : Ru) : List UInt8 := headP r.hd ++ tailP r.cond ++ [10]
def fmtGo : List UInt8 → List Ru → List UInt8 × Int
  | s, [] => (s, 0)
  | s, r :: t => if validF r = true then fmtGo (s ++ lineP r) t else ([], 1)
def formatF (l : List Ru) : List UInt8 × Int := if 64 < l.length then ([], 3) else fmtGo [] l
theorem nameB_le {s : Wd} (h : nameB s = true) : s.length ≤ 64 := by
  simp only [nameB, Bool.and_eq_true, decide_eq_true_eq] at h
  exact h.2.2
theorem valid_len {r : Ru} (h : validF r = true) : r.hd.role.length ≤ 64 ∧ r.hd.cls.length ≤ 64 ∧ (r.hd.kind = 1 ∨ r.hd.kind = 2 ∨ r.hd.kind = 3) ∧ (r.hd.kind = 2 → 0 ≤ r.hd.pct ∧ r.hd.pct ≤ 100) ∧ r.cond.length ≤ 16 ∧ (r.cond ≠ [] → foldN 0 r.cond = some 1) := by
  rw [validF] at h
  split at h
  · rename_i hp
    obtain ⟨hp, hr⟩ := hp
    have hc : r.cond.length ≤ 16 ∧ (r.cond ≠ [] → foldN 0 r.cond = some 1) := by
      by_cases h0 : r.cond = []
      · rw [h0]; simp
      · have h1 : foldNE r.cond = true := by simpa [properF, h0] using hp
        rw [foldNE] at h1
        split at h1
        · cases h1
        · exact ⟨by omega, fun _ => by simpa using h1⟩
    refine ⟨nameB_le hr, ?_⟩
    split at h
    · rename_i k1
      simp only [Bool.and_eq_true] at h
      exact ⟨nameB_le h.1, .inl k1, fun k => by omega, hc⟩
    split at h
    · rename_i k2
      simp only [Bool.and_eq_true, decide_eq_true_eq] at h
      exact ⟨by rw [h.1.1]; simp, .inr (.inl k2), fun _ => ⟨h.1.2, h.2⟩, hc⟩
    split at h
    · rename_i k3
      simp only [Bool.and_eq_true, decide_eq_true_eq] at h
      exact ⟨by rw [h.1]; simp, .inr (.inr k3), fun k => by omega, hc⟩
    · cases h
  · cases h
theorem foldP_tot (M : Nat) : ∀ (c : List Tm) (st : List Pc) (n : Nat), (∀ t ∈ c, t.2.length ≤ M) → foldN st.length c = some n → totP (foldP st c) ≤ totP st + (M + 20) * c.length
  | [], st, n, _, _ => by simp [foldP]
  | t :: r, st, n, hM, hf => by
    obtain ⟨k, nm⟩ := t
    have hnm := hM _ (List.mem_cons_self ..)
    simp only at hnm
    rw [foldN] at hf
    split at hf
    · cases hf
    rename_i hb
    obtain ⟨a1, a2, _, _⟩ := badT_false hb
    simp only at a1 a2
    rw [foldP]
    simp only
    have hl : (st.take (st.length - (arityF k).toNat) ++ [pieceP k nm (st.drop (st.length - (arityF k).toNat))]).length = st.length - (arityF k).toNat + 1 := by
      rw [List.length_append, List.length_take, List.length_singleton]; omega
    rw [← hl] at hf
    have ih := foldP_tot M r _ n (fun t ht => hM t (List.mem_cons_of_mem _ ht)) hf
    refine Nat.le_trans ih ?_
    rw [totP_app, List.length_cons]
    have hs : totP st = totP (st.take (st.length - (arityF k).toNat)) + totP (st.drop (st.length - (arityF k).toNat)) := by rw [← totP_app, List.take_append_drop]
    have hp : totP [pieceP k nm (st.drop (st.length - (arityF k).toNat))] ≤ totP (st.drop (st.length - (arityF k).toNat)) + (M + 20) := by
      have hdl : (st.drop (st.length - (arityF k).toNat)).length = (arityF k).toNat := by rw [List.length_drop]; omega
      generalize st.drop (st.length - (arityF k).toNat) = d at hdl
      simp only [totP, Nat.add_zero]
      by_cases k1 : k = 1
      · subst k1; simp [pieceP]; omega
      by_cases k2 : k = 2
      · subst k2; simp [pieceP]; omega
      by_cases k3 : k = 3
      · subst k3
        obtain ⟨a, rfl⟩ : ∃ a, d = [a] := List.length_eq_one_iff.1 hdl
        have := around_len a (joinedP a)
        simp [pieceP, totP]; omega
      by_cases k45 : k = 4 ∨ k = 5
      · have hd2 : d.length = 2 := by rw [hdl]; rcases k45 with rfl | rfl <;> rfl
        obtain ⟨a, b, rfl⟩ := len_two hd2
        have h1 := around_len a (decide (a.2 = 5))
        have h2 := around_len b (joinedP b)
        rcases k45 with rfl | rfl
        · simp [pieceP, totP]; omega
        · simp [pieceP, totP]; omega
      · exfalso
        rw [arityF, if_neg (by omega), if_neg k3, if_neg k45] at a1
        omega
    rw [Nat.mul_add, Nat.mul_one]
    omega
theorem condP_len {c : List Tm} (h : foldN 0 c = some 1) (hc : c.length ≤ 16) {M : Nat} (hM : ∀ t ∈ c, t.2.length ≤ M) : (condP c).length ≤ (M + 20) * 16 := by
  have := foldP_tot M c [] 1 hM h
  have h2 : (M + 20) * c.length ≤ (M + 20) * 16 := Nat.mul_le_mul_left _ hc
  rw [condP]
  cases hf : foldP [] c with
  | nil => simp
  | cons p r =>
    rw [hf] at this
    simp only [totP, Nat.zero_add] at this
    simp only [List.getD_cons_zero]
    omega
theorem foldN_nm : ∀ (c : List Tm) (n m : Nat), foldN n c = some m → ∀ t ∈ c, t.2.length ≤ 64
  | [], _, _, _, t, h => by cases h
  | (k, nm) :: r, n, m, hf, t, ht => by
    rw [foldN] at hf
    split at hf
    · cases hf
    rename_i hb
    obtain ⟨a1, a2, a3, a4⟩ := badT_false hb
    rcases List.mem_cons.1 ht with rfl | ht
    · simp only at a1 a3 a4 ⊢
      rcases Int.lt_or_eq_of_le a1 with q | q
      · rw [a4 q]; simp
      · exact nameB_le (a3 q.symm)
    · exact foldN_nm r _ m hf t ht
theorem lineP_len {r : Ru} (h : validF r = true) : (headP r.hd).length ≤ 200 ∧ (tailP r.cond).length ≤ 2000 := by
  obtain ⟨h1, h2, h3, h4, h5, h6⟩ := valid_len h
  constructor
  · rw [headP]
    split
    · simp; omega
    split
    · rename_i k2
      have := Lib.itoa_length_le r.hd.pct (by have := h4 k2; omega) (by have := h4 k2; omega)
      simp only [List.length_append, List.length_cons, List.length_nil]
      omega
    · simp; omega
  · rw [tailP]
    split
    · simp
    · rename_i hne
      have := condP_len (h6 hne) h5 (foldN_nm _ _ _ (h6 hne))
      simp only [List.length_append, List.length_cons, List.length_nil]
      omega
def RuOk (r : Ru) : Prop := r.cond.length ≤ 16 ∧ (∀ t ∈ r.cond, t.2.length ≤ 100) ∧ r.hd.role.length ≤ 100 ∧ r.hd.cls.length ≤ 100
theorem ruL_ok (l : List Int) (a : Nat) : RuOk (ruL l a) := by
  obtain ⟨_, c2, c3⟩ := condL_ok l (dkA l (dkA l a))
  refine ⟨c2, c3, ?_, ?_⟩
  · show (ruRo l a).length ≤ 100
    rw [ruRo]
    split
    · decide
    · exact (role_ok (dkN_rng l _ 4 (by decide))).2
  · show (if ruK l a = 1 then classAt (dkN l (ruA4 l a) 4) else []).length ≤ 100
    split
    · exact (class_ok (dkN_rng l _ 4 (by decide))).2
    · simp
theorem rusL_ok (l : List Int) : ∀ (k a : Nat) (o : List Ru), (∀ r ∈ o, RuOk r) → a ≤ l.length → (∀ r ∈ (rusL l k a o).1, RuOk r) ∧ (rusL l k a o).1.length = o.length + k ∧ (rusL l k a o).2 ≤ l.length
  | 0, a, o, h, ha => ⟨h, by simp [rusL], ha⟩
  | k + 1, a, o, h, ha => by
    rw [rusL]
    have := rusL_ok l k (ruA l a) (o ++ [ruL l a]) (fun r hr => by
      rcases List.mem_append.1 hr with hr | hr
      · exact h r hr
      · obtain rfl := List.mem_singleton.1 hr
        exact ruL_ok l a) (ruA_le ha)
    rw [List.length_append, List.length_singleton] at this
    refine ⟨this.1, by omega, this.2.2⟩
theorem rulesL_ok (l : List Int) (a : Nat) (ha : a ≤ l.length) : (∀ r ∈ rulesL l a, RuOk r) ∧ (rulesL l a).length ≤ 5 ∧ rulesA l a ≤ l.length := by
  obtain ⟨h1, h2, h3⟩ := rusL_ok l (dkN l a 6).toNat (dkA l a) [] (by simp) (dkA_le ha)
  have := dkN_rng l a 6 (by decide)
  refine ⟨h1, ?_, h3⟩
  show (rusL l (dkN l a 6).toNat (dkA l a) []).1.length ≤ 5
  rw [h2, List.length_nil]
  omega
end Go.Proofs.YtpacgphnpalepaaDoor
