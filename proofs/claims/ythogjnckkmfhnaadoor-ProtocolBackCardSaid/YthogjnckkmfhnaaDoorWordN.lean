/-
  The laws WordsNumbers, WordsBack over values without addresses.
-/
import Derived.Test.YthogjnckkmfhnaaDoorWrd
import Derived.Test.YthogjnckkmfhnaaDoorNumS
import Derived.Test.YthogjnckkmfhnaaDoorName
namespace Go.Proofs.YthogjnckkmfhnaaDoor
set_option linter.unusedVariables false
set_option linter.unusedSimpArgs false
theorem ofN (k : Nat) (h : k < 256) : ((UInt8.ofNat k).toNat : Int) = k := by rw [UInt8.toNat_ofNat']; omega
theorem dig_dec : ∀ (m u : Nat) (rest : List UInt8), u < m → u ≤ 9007199254740992 → dig (Lib.decDigits u ++ rest) 0 = dig rest (u : Int) := by
  intro m
  induction m with
  | zero => intro u rest h; omega
  | succ m ih =>
    intro u rest h hu
    rw [Lib.decDigits]
    by_cases h10 : u < 10
    · rw [dif_pos h10, List.singleton_append, dig, ofN _ (by omega), if_pos (by omega), if_pos (by omega)]
      congr 1
      omega
    · rw [dif_neg h10, List.append_assoc, ih (u / 10) _ (by omega) (by omega), List.singleton_append, dig, ofN _ (by omega), if_pos (by omega), if_pos (by omega)]
      congr 1
      omega
theorem dec_head : ∀ (m u : Nat), u < m → 1 ≤ u → ∃ c t, Lib.decDigits u = c :: t ∧ 49 ≤ (c.toNat : Int) ∧ (c.toNat : Int) ≤ 57 := by
  intro m
  induction m with
  | zero => intro u h; omega
  | succ m ih =>
    intro u h hu
    rw [Lib.decDigits]
    by_cases h10 : u < 10
    · rw [dif_pos h10]
      exact ⟨_, _, rfl, by rw [ofN _ (by omega)]; omega, by rw [ofN _ (by omega)]; omega⟩
    · rw [dif_neg h10]
      obtain ⟨c, t, e, h1, h2⟩ := ih (u / 10) (by omega) (by omega)
      rw [e]
      exact ⟨c, _, rfl, h1, h2⟩
theorem number_itoa (k : Int) (h0 : -9007199254740992 ≤ k) (h1 : k ≤ 9007199254740992) : numberP (Lib.itoa k) = (k, 0) := by
  rcases Int.lt_trichotomy k 0 with h | h | h
  · obtain ⟨c, t, e, c1, c2⟩ := dec_head (k.natAbs + 1) k.natAbs (by omega) (by omega)
    have hd := dig_dec (k.natAbs + 1) k.natAbs [] (by omega) (by omega)
    rw [List.append_nil, e, dig] at hd
    rw [Lib.itoa, if_pos h, numberP, if_pos (by decide), e, numD, if_neg (by omega)]
    simp only [dig] at hd ⊢
    rw [hd]
    simp only
    rw [if_neg (by omega)]
    simp
    omega
  · subst h
    rw [Lib.itoa, if_neg (by omega), show (0 : Int).toNat = 0 from rfl, Lib.decDigits, dif_pos (by omega)]
    decide +kernel
  · obtain ⟨c, t, e, c1, c2⟩ := dec_head (k.natAbs + 1) k.natAbs (by omega) (by omega)
    have hd := dig_dec (k.natAbs + 1) k.natAbs [] (by omega) (by omega)
    rw [List.append_nil, e, dig] at hd
    rw [Lib.itoa, if_neg (by omega), show k.toNat = k.natAbs by omega, e, numberP, if_neg (by omega), numD, if_neg (by omega)]
    simp only [dig] at hd ⊢
    rw [hd]
    simp only
    rw [if_neg (by omega)]
    simp
    omega
theorem rNumber_c (s : List UInt8) (hs : s.length ≤ 1099511627776) : ACalls Tryd.prog 56 [.v (.string (bs s))] [] (.tup [.v (.int .i64 (numberP s).1), .v (.int .i64 (numberP s).2)]) [] := by
  rcases s with _ | ⟨c, t⟩
  · exact rNumber_0
  · by_cases h : (c.toNat : Int) = 45
    · rcases t with _ | ⟨e, t⟩
      · exact rNumber_m c h
      · exact rNumber_n c e t hs h
    · exact rNumber_p c t hs h
theorem tmod_bd (n : Int) : -9007199254740992 ≤ n.tmod 9007199254740992 ∧ n.tmod 9007199254740992 ≤ 9007199254740992 := by
  rcases Int.le_total 0 n with h | h
  · rw [Int.tmod_eq_emod_of_nonneg h]; omega
  · obtain ⟨m, rfl⟩ : ∃ m, n = -m := ⟨-n, by omega⟩
    rw [Int.neg_tmod, Int.tmod_eq_emod_of_nonneg (by omega)]; omega
end Go.Proofs.YthogjnckkmfhnaaDoor
