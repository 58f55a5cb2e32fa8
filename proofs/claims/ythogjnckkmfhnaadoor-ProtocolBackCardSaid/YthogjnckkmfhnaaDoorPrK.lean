/-
  Plain law of chapter 35: program and reference have the same requests.
-/
import Derived.Test.YthogjnckkmfhnaaDoorPrH
namespace Go.Proofs.YthogjnckkmfhnaaDoor
set_option linter.unusedVariables false
set_option linter.unusedSimpArgs false
theorem dig_ge : ∀ (t : List UInt8) (m n : Int), 0 ≤ m → dig t m = some n → m ≤ n
  | [], m, n, h, e => by simp only [dig, Option.some.injEq] at e; omega
  | c :: t, m, n, h, e => by
    rw [dig] at e
    split at e
    · rename_i hc
      split at e
      · have := dig_ge t _ n (by omega) e; omega
      · exact dig_ge t m n h e
    · cases e
theorem u8_eq {c d : UInt8} (h : (c.toNat : Int) = (d.toNat : Int)) : c = d := UInt8.toNat_inj.1 (by omega)
theorem dec_app : ∀ (t : List UInt8) (m : Nat) (n : Int), 1 ≤ m → dig t (m : Int) = some n → n ≤ 9007199254740992 → Lib.decDigits n.toNat = Lib.decDigits m ++ t
  | [], m, n, h, e, hn => by
    simp only [dig, Option.some.injEq] at e
    subst e
    simp
  | c :: t, m, n, h, e, hn => by
    have hge := dig_ge _ _ _ (by omega) e
    rw [dig] at e
    split at e
    · rename_i hc
      rw [if_pos (by omega)] at e
      obtain ⟨d, hd⟩ : ∃ d : Nat, (c.toNat : Int) = 48 + d := ⟨c.toNat - 48, by omega⟩
      rw [show 10 * (m : Int) + ((c.toNat : Int) - 48) = ((10 * m + d : Nat) : Int) by omega] at e
      have ih := dec_app t (10 * m + d) n (by omega) e hn
      rw [ih]
      rw [Lib.decDigits, dif_neg (by omega), show (10 * m + d) / 10 = m by omega, show (10 * m + d) % 10 = d by omega, List.append_assoc, List.singleton_append]
      congr 2
      refine u8_eq ?_
      rw [ofN _ (by omega)]
      omega
    · cases e
theorem itoa_number (w : List UInt8) (n : Int) (h : numberP w = (n, 0)) (hn : 0 ≤ n) : Lib.itoa n = w := by
  have hdone : ∀ c t, ¬ (c.toNat : Int) = 45 → numD false (c :: t) = (n, 0) → Lib.itoa n = c :: t := by
    intro c t hc h
    rw [numD] at h
    split at h
    · simp at h
    · rename_i h0
      split at h
      · simp at h
      · rename_i m hm
        split at h
        · simp at h
        · rename_i hb
          have hmn : m = n := by simpa using h
          subst hmn
          rw [Lib.itoa, if_neg (by omega)]
          have hm' := hm
          rw [dig] at hm
          split at hm
          · rename_i hd
            rw [if_pos (by decide)] at hm
            obtain ⟨d, hdd⟩ : ∃ d : Nat, (c.toNat : Int) = 48 + d := ⟨c.toNat - 48, by omega⟩
            rw [show 10 * (0 : Int) + ((c.toNat : Int) - 48) = ((d : Nat) : Int) by omega] at hm
            rcases Nat.eq_zero_or_pos d with hd0 | hd0
            · subst hd0
              have ht : t = [] := by
                by_cases ht : t = []
                · exact ht
                · exact absurd ⟨by omega, Or.inl ht⟩ h0
              subst ht
              simp only [dig, Option.some.injEq] at hm
              subst hm
              rw [show ((0 : Nat) : Int).toNat = 0 from rfl, Lib.decDigits, dif_pos (by omega)]
              congr 1
              refine u8_eq ?_
              rw [ofN _ (by omega)]
              omega
            · rw [dec_app t d m hd0 hm (by omega), Lib.decDigits, dif_pos (by omega), List.singleton_append]
              congr 1
              refine u8_eq ?_
              rw [ofN _ (by omega)]
              omega
          · cases hm
  rw [numberP.eq_def] at h
  split at h
  · simp at h
  · rename_i c t
    split at h
    · rename_i hc
      exfalso
      rw [numD.eq_def] at h
      split at h
      · simp at h
      · split at h
        · simp at h
        · rename_i h0
          split at h
          · simp at h
          · rename_i m hm
            split at h
            · simp at h
            · have := dig_ge _ _ _ (by omega) hm
              have hmn : -m = n := by simpa using h
              obtain rfl : m = 0 := by omega
              rename_i c' t' hb
              rw [dig] at hm
              split at hm
              · rw [if_pos (by decide)] at hm
                have := dig_ge _ _ _ (by omega) hm
                exact h0 ⟨by omega, Or.inr rfl⟩
              · cases hm
    · rename_i hc
      exact hdone c t hc h
/-- a word is a number that is not negative, or no field takes it -/
theorem num_cases (w : List UInt8) : (∃ n, 0 ≤ n ∧ n ≤ 9007199254740992 ∧ numberP w = (n, 0) ∧ numQ w = n ∧ Lib.itoa n = w) ∨ ((decide ((numberP w).2 = 0) && decide (0 ≤ (numberP w).1)) = false ∧ (0 ≤ numQ w → Lib.itoa (numQ w) ≠ w)) := by
  have hb := numberP_bd w
  by_cases h : (numberP w).2 = 0 ∧ 0 ≤ (numberP w).1
  · refine Or.inl ⟨(numberP w).1, h.2, hb.2, ?_, ?_, ?_⟩
    · rw [← h.1]
    · unfold numQ; rw [if_pos h.1]
    · exact itoa_number w _ (by rw [← h.1]) h.2
  · refine Or.inr ⟨by simpa using h, fun h0 he => h ?_⟩
    have hq := numQ_bd w
    have := number_itoa (numQ w) hq.1 hq.2
    rw [he] at this
    rw [this]
    exact ⟨rfl, h0⟩
theorem parseL_none (w0 : List UInt8) (t : List (List UInt8)) : ∀ (L : List Fm), (∀ f ∈ L, f.2.1 ≠ w0) → parseL L (w0 :: t) = none
  | [], _ => rfl
  | f :: L, h => by
    rw [parseL, if_neg (by simp only [List.head?_cons, Option.some.injEq, not_and]; exact fun _ e => h f (by simp) e.symm)]
    exact parseL_none w0 t L fun g hg => h g (List.mem_cons_of_mem _ hg)
theorem parseL_mem (w0 : List UInt8) (t : List (List UInt8)) (f : Fm) (hf : f.2.1 = w0) : ∀ (L : List Fm), L.Pairwise (fun a b => a.2.1 ≠ b.2.1) → f ∈ L →
    parseL L (w0 :: t) = if t.length = f.2.2.length ∧ (readL f.2.2 t { kind := f.1 } true).2 = true ∧ validQ (readL f.2.2 t { kind := f.1 } true).1 = true then some (readL f.2.2 t { kind := f.1 } true).1 else none
  | [], _, h => by cases h
  | g :: L, hp, h => by
    rw [List.pairwise_cons] at hp
    rcases List.mem_cons.1 h with rfl | h
    · have hn := parseL_none w0 t L (fun g hg => by rw [← hf]; exact fun e => hp.1 g hg e.symm)
      rw [parseL, hn]
      simp only [List.length_cons, Nat.add_right_cancel_iff, List.head?_cons, hf, and_true, List.drop_one, List.tail_cons]
      by_cases hl : t.length = f.2.2.length
      · rw [if_pos hl]
        simp [hl]
      · rw [if_neg hl, if_neg (fun q => hl q.1)]
    · rw [parseL, if_neg (by simp only [List.head?_cons, Option.some.injEq, not_and]; intro _ e; exact hp.1 f h (by rw [hf, e]))]
      exact parseL_mem w0 t f hf L hp.2 h
theorem formsL_pw : formsL.Pairwise (fun a b => a.2.1 ≠ b.2.1) := by decide
theorem kGo_none (w : List UInt8) : ∀ (vs : List (List UInt8)) (k : Nat) (a : Int), (∀ v ∈ vs, v ≠ w) → kGo w vs k a = a
  | [], _, _, _ => rfl
  | v :: vs, k, a, h => by
    rw [kGo, if_neg (fun e => h v (by simp) e.symm)]
    exact kGo_none w vs _ a fun v hv => h v (List.mem_cons_of_mem _ hv)
theorem kindQ_none (w : List UInt8) (h : ∀ f ∈ formsL, f.2.1 ≠ w) : kindQ w = 0 := by
  refine kGo_none w _ 1 0 fun v hv => ?_
  have he : wordsT.tail = formsL.map (·.2.1) := rfl
  rw [he] at hv
  obtain ⟨f, hf, rfl⟩ := List.mem_map.1 hv
  exact h f hf
theorem kindQ_mem : ∀ f ∈ formsL, kindQ f.2.1 = f.1 := by decide
end Go.Proofs.YthogjnckkmfhnaaDoor
