/-
  Plain law of chapter 35: program and reference read the same requests.
-/
import Derived.Test.YthogjnckkmfhnaaDoorPrL
namespace Go.Proofs.YthogjnckkmfhnaaDoor
set_option linter.unusedVariables false
set_option linter.unusedSimpArgs false
theorem fin_eq {c1 c2 : Prop} {d1 : Decidable c1} {d2 : Decidable c2} {R G : Rq} (h : c1 ↔ c2) (hRG : c1 → R = G) :
    (match (if c1 then some R else none) with | some r => (r, (0 : Int)) | none => (({} : Rq), (5 : Int))) = (if c2 then (G, 0) else ({}, 5)) := by
  by_cases hc : c1
  · rw [if_pos hc, if_pos (h.1 hc), hRG hc]
  · rw [if_neg hc, if_neg (fun q => hc (h.2 q))]
theorem rv_id (r : Rq) (hv : rvalidQ r = true) (h1 : r.kind ≠ 11) (h2 : r.kind ≠ 12) : 1 ≤ r.id ∧ r.id ≤ 9007199254740992 := by
  rw [rvalidQ] at hv
  split at hv
  · cases hv
  · rename_i h
    have : ¬ wiB r.id 1 9007199254740992 = false := fun e => h (Or.inr ⟨⟨h1, h2⟩, e⟩)
    simp [wiB] at this
    exact this
theorem rv_n (r : Rq) (hv : rvalidQ r = true) (h1 : r.kind = 6 ∨ r.kind = 9) : 0 ≤ r.n := by
  rw [rvalidQ] at hv
  split at hv
  · cases hv
  · (repeat (first | rw [if_pos (by omega)] at hv | rw [if_neg (by omega)] at hv))
    rcases h1 with h1 | h1
    · rw [if_pos h1] at hv; simp [wiB] at hv; exact hv.1
    · rw [if_neg (by omega), if_neg (by omega), if_neg (by omega), if_pos h1] at hv; simp [wiB] at hv; exact hv.1
theorem rv_dev (r : Rq) (hv : rvalidQ r = true) (h1 : r.kind = 10) : r.dev ≤ 9007199254740992 := by
  rw [rvalidQ] at hv
  split at hv
  · cases hv
  · (repeat (first | rw [if_pos (by omega)] at hv | rw [if_neg (by omega)] at hv))
    simpa using hv
theorem rv_open (r : Rq) (hv : rvalidQ r = true) (h1 : r.kind = 1) : 0 ≤ r.ch ∧ 0 ≤ r.rate ∧ 0 ≤ r.lat := by
  rw [rvalidQ] at hv
  split at hv
  · cases hv
  · (try rw [if_pos h1] at hv)
    rw [opensB] at hv
    simp [wiB] at hv
    omega
theorem guess_kind (w0 : List UInt8) (t : List (List UInt8)) (k : Int) (hk : kindQ w0 = k) : guessQ (w0 :: t) =
  (let g : Rq := if ¬ k = 11 ∧ ¬ k = 12 then { kind := k, id := numQ (atQ t 0) } else { kind := k }
  if k = 1 then (if atQ t 2 = [99, 97, 112, 116, 117, 114, 101] then { g with role := atQ t 1, dir := 2, ch := numQ (atQ t 3), rate := numQ (atQ t 4), lat := numQ (atQ t 5) } else { g with role := atQ t 1, dir := 1, ch := numQ (atQ t 3), rate := numQ (atQ t 4), lat := numQ (atQ t 5) })
  else if k = 6 ∨ k = 9 then { g with n := numQ (atQ t 1) }
  else if k = 7 then (if atQ t 1 = [111, 110] then { g with n := 1 } else g)
  else if k = 8 then { g with data := atQ t 1 }
  else if k = 10 then { g with dev := numQ (atQ t 1) % 18446744073709551616 }
  else if k = 11 then { g with text := atQ t 0 }
  else g) := by
  subst hk
  rfl
theorem p_id (w0 : List UInt8) (t : List (List UInt8)) (k : Int) (hk : kindQ w0 = k) (h : k = 2 ∨ k = 3 ∨ k = 4 ∨ k = 5) (hw : wordsT.getD k.toNat [] = w0) :
    (match (if t.length = 1 ∧ (readL [73] t { kind := k } true).2 = true ∧ rvalidQ (readL [73] t { kind := k } true).1 = true then some (readL [73] t { kind := k } true).1 else none) with | some r => (r, (0 : Int)) | none => (({} : Rq), (5 : Int))) = rparseW (w0 :: t) := by
  have hG : guessQ (w0 :: t) = { kind := k, id := numQ (atQ t 0) } := by
    rw [guess_kind w0 t k hk]
    rcases h with rfl | rfl | rfl | rfl <;> rfl
  rw [rparseW, hG]
  have hwk : ∀ i : Int, wkQ { kind := k, id := i } = [w0, Lib.itoa i] := by
    intro i
    unfold wkQ wkA
    subst hw
    rcases h with rfl | rfl | rfl | rfl <;> rfl
  rw [hwk]
  rcases t with _ | ⟨w1, _ | ⟨w2, t⟩⟩
  · rw [if_neg (by simp), if_neg (by simp)]
  · rcases num_cases w1 with ⟨n, a1, a2, a3, a4, a5⟩ | ⟨b1, b2⟩
    · refine fin_eq ?_ ?_
      · simp [readL, readQ, a3, a1, atQ, a4, a5]
      · simp [readL, readQ, a3, a1, atQ, a4, a5]
    · refine fin_eq ?_ ?_
      · simp only [readL, readQ, atQ] 
        simp [b1]
        intro hv
        exact b2 (by have := rv_id _ hv (by simp only; omega) (by simp only; omega); simp only at this; omega)
      · simp [readL, readQ, b1]
  · rw [if_neg (by simp), if_neg (by simp)]
theorem p_vol (t : List (List UInt8)) :
    (match (if t.length = 2 ∧ (readL [73, 86] t { kind := 6 } true).2 = true ∧ rvalidQ (readL [73, 86] t { kind := 6 } true).1 = true then some (readL [73, 86] t { kind := 6 } true).1 else none) with | some r => (r, (0 : Int)) | none => (({} : Rq), (5 : Int))) = rparseW ([118, 111, 108, 117, 109, 101] :: t) := by
  have hG : guessQ ([118, 111, 108, 117, 109, 101] :: t) = { kind := 6, id := numQ (atQ t 0), n := numQ (atQ t 1) } := rfl
  rw [rparseW, hG]
  have hwk : ∀ i n : Int, wkQ { kind := 6, id := i, n := n } = [[118, 111, 108, 117, 109, 101], Lib.itoa i, Lib.itoa n] := fun _ _ => rfl
  rw [hwk]
  rcases t with _ | ⟨w1, _ | ⟨w2, _ | ⟨w3, t⟩⟩⟩
  · rw [if_neg (by simp), if_neg (by simp)]
  · rw [if_neg (by simp), if_neg (by simp)]
  · rcases num_cases w1 with ⟨n1, a1, a2, a3, a4, a5⟩ | ⟨b1, b2⟩
    · rcases num_cases w2 with ⟨n2, d1, d2, d3, d4, d5⟩ | ⟨e1, e2⟩
      · refine fin_eq ?_ ?_
        · simp [readL, readQ, a3, a1, atQ, a4, a5, d3, d1, d4, d5]
        · simp [readL, readQ, a3, a1, atQ, a4, a5, d3, d1, d4, d5]
      · refine fin_eq ?_ ?_
        · simp only [readL, readQ, atQ]
          simp [a3, a1, e1]
          intro hv _
          exact e2 (rv_n _ hv (by simp))
        · simp [readL, readQ, a3, a1, e1]
    · refine fin_eq ?_ ?_
      · simp only [readL, readQ, atQ]
        simp [b1]
        intro hv h1
        exact absurd h1 (b2 (by have := rv_id _ hv (by simp) (by simp); simp only at this; omega))
      · simp [readL, readQ, b1]
  · rw [if_neg (by simp), if_neg (by simp)]
theorem p_read (t : List (List UInt8)) :
    (match (if t.length = 2 ∧ (readL [73, 70] t { kind := 9 } true).2 = true ∧ rvalidQ (readL [73, 70] t { kind := 9 } true).1 = true then some (readL [73, 70] t { kind := 9 } true).1 else none) with | some r => (r, (0 : Int)) | none => (({} : Rq), (5 : Int))) = rparseW ([114, 101, 97, 100] :: t) := by
  have hG : guessQ ([114, 101, 97, 100] :: t) = { kind := 9, id := numQ (atQ t 0), n := numQ (atQ t 1) } := rfl
  rw [rparseW, hG]
  have hwk : ∀ i n : Int, wkQ { kind := 9, id := i, n := n } = [[114, 101, 97, 100], Lib.itoa i, Lib.itoa n] := fun _ _ => rfl
  rw [hwk]
  rcases t with _ | ⟨w1, _ | ⟨w2, _ | ⟨w3, t⟩⟩⟩
  · rw [if_neg (by simp), if_neg (by simp)]
  · rw [if_neg (by simp), if_neg (by simp)]
  · rcases num_cases w1 with ⟨n1, a1, a2, a3, a4, a5⟩ | ⟨b1, b2⟩
    · rcases num_cases w2 with ⟨n2, d1, d2, d3, d4, d5⟩ | ⟨e1, e2⟩
      · refine fin_eq ?_ ?_
        · simp [readL, readQ, a3, a1, atQ, a4, a5, d3, d1, d4, d5]
        · simp [readL, readQ, a3, a1, atQ, a4, a5, d3, d1, d4, d5]
      · refine fin_eq ?_ ?_
        · simp only [readL, readQ, atQ]
          simp [a3, a1, e1]
          intro hv _
          exact e2 (rv_n _ hv (by simp))
        · simp [readL, readQ, a3, a1, e1]
    · refine fin_eq ?_ ?_
      · simp only [readL, readQ, atQ]
        simp [b1]
        intro hv h1
        exact absurd h1 (b2 (by have := rv_id _ hv (by simp) (by simp); simp only at this; omega))
      · simp [readL, readQ, b1]
  · rw [if_neg (by simp), if_neg (by simp)]
theorem p_mute (t : List (List UInt8)) :
    (match (if t.length = 2 ∧ (readL [73, 77] t { kind := 7 } true).2 = true ∧ rvalidQ (readL [73, 77] t { kind := 7 } true).1 = true then some (readL [73, 77] t { kind := 7 } true).1 else none) with | some r => (r, (0 : Int)) | none => (({} : Rq), (5 : Int))) = rparseW ([109, 117, 116, 101] :: t) := by
  have hG : guessQ ([109, 117, 116, 101] :: t) = (if atQ t 1 = [111, 110] then { kind := 7, id := numQ (atQ t 0), n := 1 } else { kind := 7, id := numQ (atQ t 0) }) := rfl
  rw [rparseW, hG]
  have hwk1 : ∀ i : Int, wkQ { kind := 7, id := i, n := 1 } = [[109, 117, 116, 101], Lib.itoa i, [111, 110]] := fun _ => rfl
  have hwk2 : ∀ i : Int, wkQ { kind := 7, id := i } = [[109, 117, 116, 101], Lib.itoa i, [111, 102, 102]] := fun _ => rfl
  rcases t with _ | ⟨w1, _ | ⟨w2, _ | ⟨w3, t⟩⟩⟩
  · rw [if_neg (by simp), if_neg (by split <;> simp [hwk1, hwk2])]
  · rw [if_neg (by simp), if_neg (by split <;> simp [hwk1, hwk2])]
  · rcases num_cases w1 with ⟨n1, a1, a2, a3, a4, a5⟩ | ⟨b1, b2⟩
    · by_cases h1 : w2 = [111, 110]
      · subst h1
        refine fin_eq ?_ ?_
        · simp [readL, readQ, namesP, a3, a1, atQ, a4, a5, hwk1]
        · simp [readL, readQ, namesP, a3, a1, atQ, a4, a5]
      · by_cases h2 : w2 = [111, 102, 102]
        · subst h2
          refine fin_eq ?_ ?_
          · simp [readL, readQ, namesP, a3, a1, atQ, a4, a5, hwk2]
          · simp [readL, readQ, namesP, a3, a1, atQ, a4, a5]
        · refine fin_eq ?_ ?_
          · simp [readL, readQ, namesP, a3, a1, atQ, a4, a5, h1, h2, hwk2]
            exact fun _ e => h2 e.symm
          · simp [readL, readQ, namesP, a3, a1, h1, h2]
    · refine fin_eq ?_ ?_
      · simp only [readL, readQ, atQ]
        simp [b1]
        by_cases h1 : w2 = [111, 110]
        · simp only [h1, if_true, hwk1]
          intro hv
          simp only [List.cons.injEq, not_and, true_and]
          intro h3
          exact absurd h3 (b2 (by have := rv_id _ hv (by simp) (by simp); simp only at this; omega))
        · simp only [h1, if_false, hwk2]
          intro hv
          simp only [List.cons.injEq, not_and, true_and]
          intro h3
          exact absurd h3 (b2 (by have := rv_id _ hv (by simp) (by simp); simp only at this; omega))
      · simp [readL, readQ, b1]
  · rw [if_neg (by simp), if_neg (by split <;> simp [hwk1, hwk2])]
theorem p_write (t : List (List UInt8)) :
    (match (if t.length = 2 ∧ (readL [73, 66] t { kind := 8 } true).2 = true ∧ rvalidQ (readL [73, 66] t { kind := 8 } true).1 = true then some (readL [73, 66] t { kind := 8 } true).1 else none) with | some r => (r, (0 : Int)) | none => (({} : Rq), (5 : Int))) = rparseW ([119, 114, 105, 116, 101] :: t) := by
  have hG : guessQ ([119, 114, 105, 116, 101] :: t) = { kind := 8, id := numQ (atQ t 0), data := atQ t 1 } := rfl
  rw [rparseW, hG]
  have hwk : ∀ (i : Int) (d : List UInt8), wkQ { kind := 8, id := i, data := d } = [[119, 114, 105, 116, 101], Lib.itoa i, d] := fun _ _ => rfl
  rw [hwk]
  rcases t with _ | ⟨w1, _ | ⟨w2, _ | ⟨w3, t⟩⟩⟩
  · rw [if_neg (by simp), if_neg (by simp)]
  · rw [if_neg (by simp), if_neg (by simp)]
  · rcases num_cases w1 with ⟨n1, a1, a2, a3, a4, a5⟩ | ⟨b1, b2⟩
    · refine fin_eq ?_ ?_
      · simp [readL, readQ, a3, a1, atQ, a4, a5]
      · simp [readL, readQ, a3, a1, atQ, a4, a5]
    · refine fin_eq ?_ ?_
      · simp only [readL, readQ, atQ]
        simp [b1]
        intro hv h1
        exact absurd h1 (b2 (by have := rv_id _ hv (by simp) (by simp); simp only at this; omega))
      · simp [readL, readQ, b1]
  · rw [if_neg (by simp), if_neg (by simp)]
theorem p_move (t : List (List UInt8)) :
    (match (if t.length = 2 ∧ (readL [73, 71] t { kind := 10 } true).2 = true ∧ rvalidQ (readL [73, 71] t { kind := 10 } true).1 = true then some (readL [73, 71] t { kind := 10 } true).1 else none) with | some r => (r, (0 : Int)) | none => (({} : Rq), (5 : Int))) = rparseW ([109, 111, 118, 101] :: t) := by
  have hG : guessQ ([109, 111, 118, 101] :: t) = { kind := 10, id := numQ (atQ t 0), dev := numQ (atQ t 1) % 18446744073709551616 } := rfl
  rw [rparseW, hG]
  have hwk : ∀ i n : Int, wkQ { kind := 10, id := i, dev := n } = [[109, 111, 118, 101], Lib.itoa i, Lib.itoa n] := fun _ _ => rfl
  rw [hwk]
  rcases t with _ | ⟨w1, _ | ⟨w2, _ | ⟨w3, t⟩⟩⟩
  · rw [if_neg (by simp), if_neg (by simp)]
  · rw [if_neg (by simp), if_neg (by simp)]
  · rcases num_cases w1 with ⟨n1, a1, a2, a3, a4, a5⟩ | ⟨b1, b2⟩
    · rcases num_cases w2 with ⟨n2, d1, d2, d3, d4, d5⟩ | ⟨e1, e2⟩
      · have hm : n2 % 18446744073709551616 = n2 := by omega
        have hx : max n2 0 = n2 := by omega
        refine fin_eq ?_ ?_
        · simp [readL, readQ, a3, a1, atQ, a4, a5, d3, d1, d4, d5, hm, hx]
        · simp [readL, readQ, a3, a1, atQ, a4, a5, d3, d1, d4, d5, hm, hx]
      · refine fin_eq ?_ ?_
        · simp only [readL, readQ, atQ]
          simp [a3, a1, e1]
          intro hv _
          have h3 := rv_dev _ hv rfl
          simp only at h3
          have hb := numQ_bd w2
          have h0 : 0 ≤ numQ w2 := by omega
          rw [show numQ w2 % 18446744073709551616 = numQ w2 by omega]
          exact e2 h0
        · simp [readL, readQ, a3, a1, e1]
    · refine fin_eq ?_ ?_
      · simp only [readL, readQ, atQ]
        simp [b1]
        intro hv h1
        exact absurd h1 (b2 (by have := rv_id _ hv (by simp) (by simp); simp only at this; omega))
      · simp [readL, readQ, b1]
  · rw [if_neg (by simp), if_neg (by simp)]
theorem p_rules (t : List (List UInt8)) :
    (match (if t.length = 1 ∧ (readL [84] t { kind := 11 } true).2 = true ∧ rvalidQ (readL [84] t { kind := 11 } true).1 = true then some (readL [84] t { kind := 11 } true).1 else none) with | some r => (r, (0 : Int)) | none => (({} : Rq), (5 : Int))) = rparseW ([114, 117, 108, 101, 115] :: t) := by
  have hG : guessQ ([114, 117, 108, 101, 115] :: t) = { kind := 11, text := atQ t 0 } := rfl
  rw [rparseW, hG]
  have hwk : ∀ d : List UInt8, wkQ { kind := 11, text := d } = [[114, 117, 108, 101, 115], d] := fun _ => rfl
  rw [hwk]
  rcases t with _ | ⟨w1, _ | ⟨w2, t⟩⟩
  · rw [if_neg (by simp), if_neg (by simp)]
  · refine fin_eq ?_ ?_
    · simp [readL, readQ, atQ]
    · simp [readL, readQ, atQ]
  · rw [if_neg (by simp), if_neg (by simp)]
theorem p_list (t : List (List UInt8)) :
    (match (if t.length = 0 ∧ (readL [] t { kind := 12 } true).2 = true ∧ rvalidQ (readL [] t { kind := 12 } true).1 = true then some (readL [] t { kind := 12 } true).1 else none) with | some r => (r, (0 : Int)) | none => (({} : Rq), (5 : Int))) = rparseW ([108, 105, 115, 116] :: t) := by
  have hG : guessQ ([108, 105, 115, 116] :: t) = { kind := 12 } := rfl
  rw [rparseW, hG]
  have hwk : wkQ { kind := 12 } = [[108, 105, 115, 116]] := rfl
  rw [hwk]
  rcases t with _ | ⟨w1, t⟩
  · decide +kernel
  · rw [if_neg (by simp), if_neg (by simp)]
theorem wk_open (i : Int) (ro : List UInt8) (d c ra la : Int) : wkQ { kind := 1, id := i, role := ro, dir := d, ch := c, rate := ra, lat := la } = [[111, 112, 101, 110], Lib.itoa i, ro, if d = 2 then [99, 97, 112, 116, 117, 114, 101] else [112, 108, 97, 121, 98, 97, 99, 107], Lib.itoa c, Lib.itoa ra, Lib.itoa la] := by
  unfold wkQ
  rw [if_pos rfl]
  simp only
  split <;> rfl
theorem p_open (t : List (List UInt8)) :
    (match (if t.length = 6 ∧ (readL [73, 82, 68, 67, 83, 76] t { kind := 1 } true).2 = true ∧ rvalidQ (readL [73, 82, 68, 67, 83, 76] t { kind := 1 } true).1 = true then some (readL [73, 82, 68, 67, 83, 76] t { kind := 1 } true).1 else none) with | some r => (r, (0 : Int)) | none => (({} : Rq), (5 : Int))) = rparseW ([111, 112, 101, 110] :: t) := by
  have hG : guessQ ([111, 112, 101, 110] :: t) = { kind := 1, id := numQ (atQ t 0), role := atQ t 1, dir := if atQ t 2 = [99, 97, 112, 116, 117, 114, 101] then 2 else 1, ch := numQ (atQ t 3), rate := numQ (atQ t 4), lat := numQ (atQ t 5) } := by
    rw [guess_kind [111, 112, 101, 110] t 1 rfl]
    by_cases h : atQ t 2 = [99, 97, 112, 116, 117, 114, 101]
    · simp only [h, if_true]
      rfl
    · simp only [h, if_false]
      rfl
  rw [rparseW, hG, wk_open]
  rcases t with _ | ⟨w1, _ | ⟨w2, _ | ⟨w3, _ | ⟨w4, _ | ⟨w5, _ | ⟨w6, _ | ⟨w7, t⟩⟩⟩⟩⟩⟩⟩
  · rw [if_neg (by simp), if_neg (by simp)]
  · rw [if_neg (by simp), if_neg (by simp)]
  · rw [if_neg (by simp), if_neg (by simp)]
  · rw [if_neg (by simp), if_neg (by simp)]
  · rw [if_neg (by simp), if_neg (by simp)]
  · rw [if_neg (by simp), if_neg (by simp)]
  · have hd : atQ (w1 :: w2 :: w3 :: w4 :: w5 :: w6 :: []) 0 = w1 ∧ atQ (w1 :: w2 :: w3 :: w4 :: w5 :: w6 :: []) 1 = w2 ∧ atQ (w1 :: w2 :: w3 :: w4 :: w5 :: w6 :: []) 2 = w3 ∧ atQ (w1 :: w2 :: w3 :: w4 :: w5 :: w6 :: []) 3 = w4 ∧ atQ (w1 :: w2 :: w3 :: w4 :: w5 :: w6 :: []) 4 = w5 ∧ atQ (w1 :: w2 :: w3 :: w4 :: w5 :: w6 :: []) 5 = w6 := ⟨rfl, rfl, rfl, rfl, rfl, rfl⟩
    obtain ⟨q0, q1, q2, q3, q4, q5⟩ := hd
    rw [q0, q1, q2, q3, q4, q5]
    clear hG q0 q1 q2 q3 q4 q5
    by_cases hc : w3 = [99, 97, 112, 116, 117, 114, 101]
    · subst hc
      simp only [if_true]
      rcases num_cases w1 with ⟨n1, a1, a2, a3, a4, a5⟩ | ⟨b1, b2⟩
      · rcases num_cases w4 with ⟨n4, c1, c2, c3, c4, c5⟩ | ⟨e1, e2⟩
        · rcases num_cases w5 with ⟨n5, f1, f2, f3, f4, f5⟩ | ⟨g1, g2⟩
          · rcases num_cases w6 with ⟨n6, i1, i2, i3, i4, i5⟩ | ⟨j1, j2⟩
            · refine fin_eq ?_ ?_
              · simp [readL, readQ, namesP, a3, a1, a4, a5, c1, c3, c4, c5, f1, f3, f4, f5, i1, i3, i4, i5]
              · simp [readL, readQ, namesP, a3, a1, a4, a5, c1, c3, c4, c5, f1, f3, f4, f5, i1, i3, i4, i5]
            · refine fin_eq ?_ ?_
              · simp only [readL, readQ]
                simp [namesP, a3, a1, c3, c1, f3, f1, j1]
                intro hv _ _ _
                exact j2 (rv_open _ hv rfl).2.2
              · simp [readL, readQ, namesP, a3, a1, c3, c1, f3, f1, j1]
          · refine fin_eq ?_ ?_
            · simp only [readL, readQ]
              simp [namesP, a3, a1, c3, c1, g1]
              intro hv _ _ h
              exact absurd h (g2 (rv_open _ hv rfl).2.1)
            · simp [readL, readQ, namesP, a3, a1, c3, c1, g1]
        · refine fin_eq ?_ ?_
          · simp only [readL, readQ]
            simp [namesP, a3, a1, e1]
            intro hv _ h
            exact absurd h (e2 (rv_open _ hv rfl).1)
          · simp [readL, readQ, namesP, a3, a1, e1]
      · refine fin_eq ?_ ?_
        · simp only [readL, readQ]
          simp [namesP, b1]
          intro hv h1
          exact absurd h1 (b2 (by have := rv_id _ hv (by simp) (by simp); simp only at this; omega))
        · simp [readL, readQ, namesP, b1]
    · by_cases hp : w3 = [112, 108, 97, 121, 98, 97, 99, 107]
      · subst hp
        rw [if_neg (show ¬ (([112, 108, 97, 121, 98, 97, 99, 107] : List UInt8) = [99, 97, 112, 116, 117, 114, 101]) by decide)]
        rw [if_neg (show ¬ ((1 : Int) = 2) by decide)]
        rcases num_cases w1 with ⟨n1, a1, a2, a3, a4, a5⟩ | ⟨b1, b2⟩
        · rcases num_cases w4 with ⟨n4, c1, c2, c3, c4, c5⟩ | ⟨e1, e2⟩
          · rcases num_cases w5 with ⟨n5, f1, f2, f3, f4, f5⟩ | ⟨g1, g2⟩
            · rcases num_cases w6 with ⟨n6, i1, i2, i3, i4, i5⟩ | ⟨j1, j2⟩
              · refine fin_eq ?_ ?_
                · simp [readL, readQ, namesP, a3, a1, a4, a5, c1, c3, c4, c5, f1, f3, f4, f5, i1, i3, i4, i5]
                · simp [readL, readQ, namesP, a3, a1, a4, a5, c1, c3, c4, c5, f1, f3, f4, f5, i1, i3, i4, i5]
              · refine fin_eq ?_ ?_
                · simp only [readL, readQ]
                  simp [namesP, a3, a1, c3, c1, f3, f1, j1]
                  intro hv _ _ _
                  exact j2 (rv_open _ hv rfl).2.2
                · simp [readL, readQ, namesP, a3, a1, c3, c1, f3, f1, j1]
            · refine fin_eq ?_ ?_
              · simp only [readL, readQ]
                simp [namesP, a3, a1, c3, c1, g1]
                intro hv _ _ h
                exact absurd h (g2 (rv_open _ hv rfl).2.1)
              · simp [readL, readQ, namesP, a3, a1, c3, c1, g1]
          · refine fin_eq ?_ ?_
            · simp only [readL, readQ]
              simp [namesP, a3, a1, e1]
              intro hv _ h
              exact absurd h (e2 (rv_open _ hv rfl).1)
            · simp [readL, readQ, namesP, a3, a1, e1]
        · refine fin_eq ?_ ?_
          · simp only [readL, readQ]
            simp [namesP, b1]
            intro hv h1
            exact absurd h1 (b2 (by have := rv_id _ hv (by simp) (by simp); simp only at this; omega))
          · simp [readL, readQ, namesP, b1]
      · have hc' : ¬ ([99, 97, 112, 116, 117, 114, 101] = w3) := fun e => hc e.symm
        have hp' : ¬ ([112, 108, 97, 121, 98, 97, 99, 107] = w3) := fun e => hp e.symm
        have hno : (readL [73, 82, 68, 67, 83, 76] [w1, w2, w3, w4, w5, w6] { kind := 1 } true).2 = false := by
          simp [readL, readQ, namesP, hc, hp]
          split <;> rfl
        refine fin_eq ?_ ?_
        · simp only [hno]
          simp [hc, hp']
        · simp only [hno]
          simp
  · rw [if_neg (by simp), if_neg (by simp)]
theorem parse_eqW (l : List (List UInt8)) : parseW l = rparseW l := by
  rcases l with _ | ⟨w0, t⟩
  · decide +kernel
  · by_cases h : ∃ f ∈ formsL, f.2.1 = w0
    · obtain ⟨f, hf, hw⟩ := h
      have hp := parseL_mem w0 t f hw formsL formsL_pw hf
      rw [valid_eq] at hp
      unfold parseW
      rw [hp]
      clear hp
      have hk := kindQ_mem f hf
      rw [hw] at hk
      simp only [formsL, List.mem_cons, List.not_mem_nil, or_false] at hf
      rcases hf with rfl | rfl | rfl | rfl | rfl | rfl | rfl | rfl | rfl | rfl | rfl | rfl
      all_goals (simp only at hw; subst hw)
      · exact p_open t
      · exact p_id _ t 2 hk (by omega) rfl
      · exact p_id _ t 3 hk (by omega) rfl
      · exact p_id _ t 4 hk (by omega) rfl
      · exact p_id _ t 5 hk (by omega) rfl
      · exact p_vol t
      · exact p_mute t
      · exact p_write t
      · exact p_read t
      · exact p_move t
      · exact p_rules t
      · exact p_list t
    · have hn : ∀ f ∈ formsL, f.2.1 ≠ w0 := fun f hf e => h ⟨f, hf, e⟩
      unfold parseW
      rw [parseL_none w0 t formsL hn, rparseW, if_neg]
      rintro ⟨hv, _⟩
      have hk := kindQ_none w0 hn
      rw [guess_kind w0 t 0 hk] at hv
      simp [rvalidQ, wiB] at hv
theorem parse_eq (s : List UInt8) : parseP s = rparseP s := by
  rw [parseP, rparseP, parse_eqW]
end Go.Proofs.YthogjnckkmfhnaaDoor
