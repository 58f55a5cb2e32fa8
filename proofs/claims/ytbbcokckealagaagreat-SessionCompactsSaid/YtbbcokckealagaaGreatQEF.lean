/-
  Records of the dice are proper; the law SessionRecords.
-/
import Derived.Test.YtbbcokckealagaaGreatSsX
import Derived.Test.YtbbcokckealagaaGreatQEG
import Derived.Test.YtbbcokckealagaaGreatQAA
import Derived.Test.YtbbcokckealagaaGreatQEA
namespace Go.Proofs.YtbbcokckealagaaGreat
set_option linter.unusedVariables false
set_option linter.unusedSimpArgs false
theorem setGo_bnd (l : List Int) : ∀ (k : Nat) (id : Int) (a : Nat), 1 ≤ id → ∀ x ∈ (setGo l k id a).1, 1 ≤ x ∧ x < id + (k : Int)
  | 0, id, a, h, x, hx => by rw [setGo] at hx; cases hx
  | k + 1, id, a, h, x, hx => by
    have ih := setGo_bnd l k (id + 1) (dkA l a) (by omega)
    simp only [setGo] at hx
    split at hx
    · rcases List.mem_cons.1 hx with rfl | hx
      · omega
      · have := ih x hx; omega
    · have := ih x hx; omega
theorem setP_bnd (l : List Int) (a : Nat) : ∀ x ∈ (setP l a).1, 1 ≤ x ∧ x ≤ 7 := by
  intro x hx
  rw [setP] at hx
  split at hx
  · obtain rfl := List.mem_singleton.1 hx; decide
  · have := setGo_bnd l 6 1 a (by decide) x hx; omega
theorem lastD_bnd {P : Int → Prop} (h0 : P 0) : ∀ (l : List Int), (∀ x ∈ l, P x) → P (l.getLastD 0) := by
  intro l h
  cases hl : l with
  | nil => exact h0
  | cons x t =>
    rw [← hl]
    have hne : l ≠ [] := by rw [hl]; simp
    rw [List.getLastD_eq_getLast?, List.getLast?_eq_some_getLast hne]
    exact h _ (List.getLast_mem hne)
theorem getD_bnd {P : Int → Prop} (h0 : P 0) (l : List Int) (n : Nat) (h : ∀ x ∈ l, P x) : P (l.getD n 0) := by
  rw [List.getD_eq_getElem?_getD]
  cases e : l[n]? with
  | none => exact h0
  | some x => exact h x (List.mem_of_getElem? e)
theorem role_name {v : Int} (h : 0 ≤ v ∧ v < 4) : nameB (roleAt v) = true := by
  obtain ⟨n, rfl⟩ : ∃ n : Nat, v = (n : Int) := ⟨v.toNat, by omega⟩
  rcases n with _ | _ | _ | _ | n
  · decide
  · decide
  · decide
  · decide
  · omega
theorem recTx_rules {n : Nat} (h : n < 3) : okR (recTx n) = true := by
  rcases n with _ | _ | _ | n
  · decide +kernel
  · decide +kernel
  · decide +kernel
  · omega
set_option maxHeartbeats 1000000 in
theorem recP_proper (l : List Int) (a : Nat) (ha : a ≤ l.length) : properR okR (recP l a).1 = true ∧ Rwf (recP l a).1 := by
  have hk := dkN_rng l a 9 (by decide)
  rw [recP]
  have b1 := dkA_le ha
  generalize dkA l a = a1 at b1
  have hid := dkN_rng l a1 5 (by decide)
  have hkm := kindAt_mem (n := (dkN l a 9).toNat) (by omega)
  generalize kindAt (dkN l a 9).toNat = k at hkm
  rcases hkm with rfl | rfl | rfl | rfl | rfl | rfl | rfl
  · have h1 := role_name (dkN_rng l (dkA l a1) 4 (by decide))
    have h2 := dkN_rng l (dkA l (dkA l a1)) 2 (by decide)
    have h3 := dkN_rng l (dkA l (dkA l (dkA l a1))) 8 (by decide)
    have h4 := dkN_rng l (dkA l (dkA l (dkA l (dkA l a1)))) 1000 (by decide)
    simp only [recB, if_true, properR, aloneP, h1, Bool.and_eq_true, decide_eq_true_eq]
    exact ⟨⟨trivial, by omega, trivial, by omega, by omega, by omega, by omega⟩, by simp [Rwf]⟩
  · simp only [recB, Int.reduceEq, if_true, if_false, properR, aloneP, or_self, Bool.and_eq_true, decide_eq_true_eq]
    exact ⟨⟨trivial, by omega⟩, by simp [Rwf]⟩
  · have h1 := dkN_rng l (dkA l a1) 101 (by decide)
    simp only [recB, Int.reduceEq, if_true, if_false, properR, aloneP, true_or, Bool.and_eq_true, decide_eq_true_eq]
    exact ⟨⟨trivial, by omega, by omega⟩, by simp [Rwf]⟩
  · have h1 := dkN_rng l (dkA l a1) 2 (by decide)
    simp only [recB, Int.reduceEq, if_true, if_false, properR, aloneP, or_true, Bool.and_eq_true, decide_eq_true_eq]
    exact ⟨⟨trivial, by omega, by omega⟩, by simp [Rwf]⟩
  · have h1 := dkN_rng l (dkA l a1) 4 (by decide)
    simp only [recB, Int.reduceEq, if_true, if_false, properR, aloneP, or_self, Bool.and_eq_true, decide_eq_true_eq]
    exact ⟨⟨trivial, by omega, by omega⟩, ⟨by simp only; omega, by simp only; omega⟩, by simp⟩
  · obtain ⟨c1, c2, c3⟩ := choiceP_ok l a1 b1
    have hb : ∀ x ∈ (choiceP l a1).1.set, 1 ≤ x ∧ x ≤ 7 := setP_bnd l (dkA l a1)
    have hd : 0 ≤ (choiceP l a1).1.dev ∧ (choiceP l a1).1.dev ≤ 7 := by
      have := getD_bnd (P := fun x => 0 ≤ x ∧ x ≤ 7) (by decide) (setP l (dkA l a1)).1 (dkN l (setP l (dkA l a1)).2 ((setP l (dkA l a1)).1.length : Int)).toNat (fun x hx => by have := setP_bnd l (dkA l a1) x hx; omega)
      exact this
    have hl := lastD_bnd (P := fun x => x ≤ 7) (by decide) (choiceP l a1).1.set (fun x hx => (hb x hx).2)
    simp only [recB, Int.reduceEq, if_true, if_false, properR, aloneP, or_self, Bool.and_eq_true, decide_eq_true_eq]
    exact ⟨⟨trivial, c1, by omega⟩, ⟨by simp only; omega, by simp only; omega⟩, fun x hx => by have := hb x hx; omega⟩
  · have h1 := dkN_rng l a1 3 (by decide)
    have h2 := recTx_rules (n := (dkN l a1 3).toNat) (by omega)
    have h3 := recTx_len (dkN l a1 3).toNat
    simp only [recB, Int.reduceEq, if_true, if_false, properR, aloneP, or_self, Bool.and_eq_true, decide_eq_true_eq]
    exact ⟨⟨trivial, by omega, h2⟩, by simp [Rwf]⟩
abbrev llP (L : List (List UInt8)) : List (List PV) := L.map fun p => [PV.sl 1 (bsP p)]
end Go.Proofs.YtbbcokckealagaaGreat
