/-
  Walks of chapter 30: sets, choices and memories that are made out of a deck.
-/
import Derived.Test.YtbbcokckealagaaChD
namespace Go.Proofs.Ytbbcokckealagaa
set_option linter.unusedVariables false
set_option linter.unusedSimpArgs false
def setGo (l : List Int) : Nat → Int → Nat → List Int × Nat
  | 0, _, a => ([], a)
  | k + 1, id, a => (if dkN l a 2 = 0 then id :: (setGo l k (id + 1) (dkA l a)).1 else (setGo l k (id + 1) (dkA l a)).1, (setGo l k (id + 1) (dkA l a)).2)
def setP (l : List Int) (a : Nat) : List Int × Nat := (if (setGo l 6 1 a).1 = [] then [7] else (setGo l 6 1 a).1, (setGo l 6 1 a).2)
theorem setGo_ok (l : List Int) : ∀ (k : Nat) (id : Int) (a : Nat), a ≤ l.length → (setGo l k id a).2 ≤ l.length ∧ (setGo l k id a).1.length ≤ k ∧ ∀ b, b < id → ascI b (setGo l k id a).1 = true := by
  intro k
  induction k with
  | zero => intro id a ha; exact ⟨ha, Nat.le_refl _, fun b hb => rfl⟩
  | succ k ih =>
    intro id a ha
    obtain ⟨h1, h2, h3⟩ := ih (id + 1) (dkA l a) (dkA_le ha)
    refine ⟨h1, ?_, fun b hb => ?_⟩
    · simp only [setGo]; split
      · simp only [List.length_cons]; omega
      · omega
    · simp only [setGo]; split
      · simp only [ascI, Bool.and_eq_true, decide_eq_true_eq]
        exact ⟨hb, h3 id (by omega)⟩
      · exact h3 b (by omega)
theorem setP_ok (l : List Int) (a : Nat) (ha : a ≤ l.length) : (setP l a).2 ≤ l.length ∧ 1 ≤ (setP l a).1.length ∧ (setP l a).1.length ≤ 6 ∧ ascI 0 (setP l a).1 = true := by
  obtain ⟨h1, h2, h3⟩ := setGo_ok l 6 1 a ha
  unfold setP
  split
  · exact ⟨h1, by simp, by simp, by show ascI 0 [7] = true; decide⟩
  · rename_i h
    refine ⟨h1, ?_, h2, h3 0 (by omega)⟩
    cases hq : (setGo l 6 1 a).1 with
    | nil => exact absurd hq h
    | cons x r => simp
def choiceP (l : List Int) (a : Nat) : Ch × Nat :=
  (⟨roleAt (dkN l a 4), (setP l (dkA l a)).1, (setP l (dkA l a)).1.getD (dkN l (setP l (dkA l a)).2 ((setP l (dkA l a)).1.length : Int)).toNat 0⟩, dkA l (setP l (dkA l a)).2)
theorem ascI_weak : ∀ (l : List Int) (b c : Int), c ≤ b → ascI b l = true → ascI c l = true := by
  intro l
  cases l with
  | nil => intro b c _ _; rfl
  | cons x r => intro b c h1 h2; simp only [ascI, Bool.and_eq_true, decide_eq_true_eq] at h2 ⊢; exact ⟨by omega, h2.2⟩
theorem choiceP_ok (l : List Int) (a : Nat) (ha : a ≤ l.length) : properB (choiceP l a).1 = true ∧ (choiceP l a).1.ok ∧ (choiceP l a).2 ≤ l.length := by
  obtain ⟨s1, s2, s3, s4⟩ := setP_ok l (dkA l a) (dkA_le ha)
  obtain ⟨g1, g2⟩ := dkN_rng l (setP l (dkA l a)).2 ((setP l (dkA l a)).1.length : Int) (by omega)
  obtain ⟨g3, g4⟩ := dkN_rng l a 4 (by decide)
  have hn : nameB (roleAt (dkN l a 4)) = true := by
    obtain ⟨n, hn⟩ : ∃ n : Nat, dkN l a 4 = (n : Int) := ⟨(dkN l a 4).toNat, by omega⟩
    rw [hn] at g4 ⊢
    rcases n with _ | _ | _ | _ | n
    · decide
    · decide
    · decide
    · decide
    · omega
  have hl64 : (roleAt (dkN l a 4)).length ≤ 64 := by
    simp only [nameB, Bool.and_eq_true, decide_eq_true_eq] at hn
    exact hn.2.2
  refine ⟨?_, ⟨by simp only [choiceP]; omega, by simp only [choiceP]; omega⟩, dkA_le s1⟩
  simp only [properB, Bool.and_eq_true, decide_eq_true_eq]
  refine ⟨hn, ?_, ?_, s4, ?_⟩
  · show (1 : Int) ≤ ((setP l (dkA l a)).1.length : Int); omega
  · show ((setP l (dkA l a)).1.length : Int) ≤ 8; omega
  show (setP l (dkA l a)).1.getD (dkN l (setP l (dkA l a)).2 ((setP l (dkA l a)).1.length : Int)).toNat 0 ∈ (setP l (dkA l a)).1
  have : (dkN l (setP l (dkA l a)).2 ((setP l (dkA l a)).1.length : Int)).toNat < (setP l (dkA l a)).1.length := by omega
  simp [List.getD, this]
def memGo (l : List Int) : Nat → List Ch → Nat → List Ch × Nat
  | 0, m, a => (m, a)
  | k + 1, m, a => memGo l k (rRemP m (choiceP l a).1).1 (choiceP l a).2
def memP (l : List Int) (a : Nat) : List Ch × Nat := memGo l (dkN l a 7).toNat [] (dkA l a)
theorem rRemP_ok (m : List Ch) (c : Ch) (hm : oks m) (hc : c.ok) : oks (rRemP m c).1 ∧ (rRemP m c).1.length ≤ m.length + 1 := by
  unfold rRemP
  split
  · exact ⟨fun d hd => by simp at hd, by simp⟩
  · split
    · exact ⟨fun d hd => by simp at hd, by simp⟩
    · refine ⟨fun d hd => ?_, ?_⟩
      · have := List.mem_of_mem_drop hd
        rcases List.mem_append.1 this with h | h
        · exact hm d ((List.mem_filter.1 h).1)
        · obtain rfl := List.mem_singleton.1 h
          exact hc
      · have := List.length_filter_le (fun d => !alikeB d c) m
        simp only [List.length_drop, List.length_append, List.length_cons, List.length_nil, keepR]; omega
theorem memGo_ok (l : List Int) : ∀ (k : Nat) (m : List Ch) (a : Nat), a ≤ l.length → oks m → oks (memGo l k m a).1 ∧ (memGo l k m a).2 ≤ l.length ∧ (memGo l k m a).1.length ≤ m.length + k := by
  intro k
  induction k with
  | zero => intro m a ha hm; exact ⟨hm, ha, Nat.le_refl _⟩
  | succ k ih =>
    intro m a ha hm
    obtain ⟨c1, c2, c3⟩ := choiceP_ok l a ha
    obtain ⟨r1, r2⟩ := rRemP_ok m (choiceP l a).1 hm c2
    obtain ⟨i1, i2, i3⟩ := ih _ _ c3 r1
    exact ⟨i1, i2, by rw [memGo]; omega⟩
theorem memP_ok (l : List Int) (a : Nat) (ha : a ≤ l.length) : oks (memP l a).1 ∧ (memP l a).2 ≤ l.length ∧ (memP l a).1.length ≤ 6 := by
  obtain ⟨g1, g2⟩ := dkN_rng l a 7 (by decide)
  obtain ⟨i1, i2, i3⟩ := memGo_ok l (dkN l a 7).toNat [] (dkA l a) (dkA_le ha) (fun _ h => by cases h)
  exact ⟨i1, i2, by simp only [List.length_nil] at i3; unfold memP; omega⟩
end Go.Proofs.Ytbbcokckealagaa
