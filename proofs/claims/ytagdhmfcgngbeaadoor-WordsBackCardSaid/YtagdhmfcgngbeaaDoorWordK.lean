/-
  Plain facts about Join, and about Split behind Join.
-/
import Derived.Test.YtagdhmfcgngbeaaDoorWordJ
namespace Go.Proofs.YtagdhmfcgngbeaaDoor
set_option linter.unusedVariables false
set_option linter.unusedSimpArgs false
theorem esc_ge (c : UInt8) : 1 ≤ (esc c).length := by unfold esc; (repeat' split) <;> simp
theorem flat_esc_ge (s : List UInt8) : s.length ≤ (s.flatMap esc).length := by
  induction s with
  | nil => simp
  | cons c s ih =>
    rw [List.flatMap_cons, List.length_append]
    have := esc_ge c
    simp only [List.length_cons]; omega
theorem writtenL_ge (s : List UInt8) : s.length ≤ (writtenL s).length := by
  unfold writtenL
  split
  · exact Nat.le_refl _
  · have := flat_esc_ge s
    simp only [List.length_cons, List.length_append]; omega
theorem jW_ge : ∀ (l : List (List UInt8)) (f : Bool) (b b' : List UInt8), jW l f b = some b' → b.length ≤ b'.length := by
  intro l
  induction l with
  | nil => intro f b b' h; rw [jW] at h; injection h with h; rw [h]; exact Nat.le_refl _
  | cons w l ih =>
    intro f b b' h
    rw [jW] at h
    split at h
    · cases h
    · have := ih _ _ _ h
      cases f <;> simp at this <;> omega
theorem join_run : ∀ (l : List (List UInt8)) (f : Bool) (b : List UInt8), b.length ≤ 4096 → (match jW l f b with | none => none | some b' => if 4096 < b'.length then none else some b') = jR l f b := by
  intro l
  induction l with
  | nil => intro f b h; simp only [jW, jR]; rw [if_neg (by omega)]
  | cons w l ih =>
    intro f b h
    rw [jW, jR]
    have hg := writtenL_ge w
    generalize hb : (if f = true then b else b ++ [32]) ++ writtenL w = b1
    have hb1 : (writtenL w).length ≤ b1.length := by rw [← hb, List.length_append]; omega
    by_cases h1 : 4096 < b1.length
    · rw [if_pos h1]
      by_cases h2 : 4096 < w.length
      · rw [if_pos h2]
      · rw [if_neg h2]
        cases hj : jW l false b1 with
        | none => rfl
        | some b' =>
          have := jW_ge _ _ _ _ hj
          simp only
          rw [if_pos (by omega)]
    · rw [if_neg h1, if_neg (show ¬ 4096 < w.length by omega)]
      exact ih false b1 (by omega)
theorem join_eq (l : List (List UInt8)) : joinP l = rJoinP l := by
  unfold joinP rJoinP
  split
  · rfl
  · rw [← join_run l true [] (by simp)]
    cases jW l true [] with
    | none => rfl
    | some b =>
      simp only
      by_cases h : 4096 < b.length
      · rw [if_pos h, if_pos h]
      · rw [if_neg h, if_neg h]
/-- the line of some words -/
def J : List (List UInt8) → List UInt8
  | [] => []
  | [w] => writtenL w
  | w :: v :: ws => writtenL w ++ 32 :: J (v :: ws)
/-- what joins behind a beginning -/
def Jb (f : Bool) (b : List UInt8) : List (List UInt8) → List UInt8
  | [] => b
  | w :: ws => Jb false ((if f then b else b ++ [32]) ++ writtenL w) ws
theorem Jb_ge : ∀ (l : List (List UInt8)) (f : Bool) (b : List UInt8), b.length ≤ (Jb f b l).length := by
  intro l
  induction l with
  | nil => intro f b; exact Nat.le_refl _
  | cons w l ih =>
    intro f b
    have := ih false ((if f then b else b ++ [32]) ++ writtenL w)
    rw [Jb]
    cases f <;> simp at this ⊢ <;> omega
theorem jR_eq : ∀ (l : List (List UInt8)) (f : Bool) (b : List UInt8), b.length ≤ 4096 → jR l f b = if 4096 < (Jb f b l).length then none else some (Jb f b l) := by
  intro l
  induction l with
  | nil => intro f b h; rw [jR, Jb, if_neg (by omega)]
  | cons w l ih =>
    intro f b h
    rw [jR, Jb]
    have hg := Jb_ge l false ((if f then b else b ++ [32]) ++ writtenL w)
    by_cases h1 : 4096 < ((if f then b else b ++ [32]) ++ writtenL w).length
    · rw [if_pos h1, if_pos (by omega)]
    · rw [if_neg h1]
      exact ih false _ (by omega)
theorem Jb_false : ∀ (ws : List (List UInt8)) (w b : List UInt8), Jb false (b ++ writtenL w) ws = b ++ J (w :: ws) := by
  intro ws
  induction ws with
  | nil => intro w b; rfl
  | cons v ws ih =>
    intro w b
    rw [Jb, J]
    have := ih v (b ++ writtenL w ++ [32])
    simp only [Bool.false_eq_true, if_false]
    rw [this]; simp
theorem Jb_true (l : List (List UInt8)) : Jb true [] l = J l := by
  cases l with
  | nil => rfl
  | cons w ws =>
    rw [Jb]
    have := Jb_false ws w []
    simpa using this
theorem rJoin_J (l : List (List UInt8)) : rJoinP l = if 64 < l.length ∨ 4096 < (J l).length then ([], 3) else (J l, 0) := by
  unfold rJoinP
  rw [jR_eq l true [] (by simp), Jb_true]
  by_cases h1 : 64 < l.length
  · rw [if_pos h1, if_pos (Or.inl h1)]
  · rw [if_neg h1]
    by_cases h2 : 4096 < (J l).length
    · rw [if_pos h2, if_pos (Or.inr h2)]
    · rw [if_neg h2, if_neg (by omega)]
theorem bare_simple {w : List UInt8} (h : bareB w = true) : (∀ c ∈ w, simpleB c = true) ∧ w ≠ [] := by
  simp only [bareB, Bool.and_eq_true, List.all_eq_true, decide_eq_true_eq] at h
  exact h
theorem qRead_esc : ∀ (w rest out : List UInt8) (n : Nat), (w.flatMap esc ++ 34 :: rest).length < n → qRead n (w.flatMap esc ++ 34 :: rest) out = some (out ++ w, rest) := by
  intro w
  induction w with
  | nil =>
    intro rest out n hn
    obtain ⟨m, rfl⟩ : ∃ m, n = m + 1 := ⟨n - 1, by omega⟩
    simp [qRead]
  | cons c w ih =>
    intro rest out n hn
    obtain ⟨m, rfl⟩ : ∃ m, n = m + 1 := ⟨n - 1, by omega⟩
    rw [List.flatMap_cons, List.append_assoc]
    rw [List.flatMap_cons, List.append_assoc, List.length_append] at hn
    have hp : ∀ d x : UInt8, meant d = some x → (esc c) = [92, d] → x = c → qRead (m + 1) (esc c ++ (w.flatMap esc ++ 34 :: rest)) out = some (out ++ c :: w, rest) := by
      intro d x h1 h2 h3
      rw [h2] at hn ⊢
      simp only [List.cons_append, List.nil_append, List.length_cons, List.length_nil] at hn ⊢
      rw [qRead]
      simp only [show ¬ (((92 : UInt8).toNat : Int) = 34) by decide, show ¬ (((92 : UInt8).toNat : Int) = 10 ∨ ((92 : UInt8).toNat : Int) = 13) by decide, show ((92 : UInt8).toNat : Int) = 92 from rfl, if_true, if_false, h1]
      subst h3
      rw [ih rest (out ++ [x]) m (by omega)]; simp
    by_cases h1 : (c.toNat : Int) = 34 ∨ (c.toNat : Int) = 92
    · exact hp c c (by simp [meant, h1]) (by rw [esc, if_pos h1]) rfl
    · by_cases h2 : (c.toNat : Int) = 10
      · exact hp 110 10 rfl (by rw [esc, if_neg h1, if_pos h2]) (by apply UInt8.toNat_inj.1; have : ((10 : UInt8).toNat) = 10 := rfl; omega)
      · by_cases h3 : (c.toNat : Int) = 13
        · exact hp 114 13 rfl (by rw [esc, if_neg h1, if_neg h2, if_pos h3]) (by apply UInt8.toNat_inj.1; have : ((13 : UInt8).toNat) = 13 := rfl; omega)
        · have he : esc c = [c] := by rw [esc, if_neg h1, if_neg h2, if_neg h3]
          rw [he] at hn ⊢
          simp only [List.cons_append, List.nil_append, List.length_cons, List.length_nil] at hn ⊢
          rw [qRead.eq_def]
          simp only
          rw [if_neg (by omega), if_neg (by omega), if_neg (by omega), ih rest (out ++ [c]) m (by omega)]; simp
/-- behind a word: nothing, or a space -/
def Aft (l : List UInt8) : Prop := l = [] ∨ ∃ t, l = 32 :: t
theorem aft_tw {l : List UInt8} (h : Aft l) : l.takeWhile simpleB = [] ∧ l.dropWhile simpleB = l := by
  rcases h with rfl | ⟨t, rfl⟩
  · exact ⟨rfl, rfl⟩
  · have : simpleB 32 = false := by decide
    simp [this]
theorem tw_all {w l : List UInt8} (h : ∀ c ∈ w, simpleB c = true) : (w ++ l).takeWhile simpleB = w ++ l.takeWhile simpleB ∧ (w ++ l).dropWhile simpleB = l.dropWhile simpleB := by
  induction w with
  | nil => exact ⟨rfl, rfl⟩
  | cons c w ih =>
    obtain ⟨h1, h2⟩ := ih (fun c hc => h c (List.mem_cons_of_mem _ hc))
    have := h c (by simp)
    simp [this, h1, h2]
theorem wordR_written (w rest : List UInt8) (h : Aft rest) : wordR (writtenL w ++ rest) = (w, some rest) := by
  unfold writtenL
  by_cases hb : bareB w = true
  · rw [if_pos hb]
    obtain ⟨h1, h2⟩ := bare_simple hb
    obtain ⟨t1, t2⟩ := tw_all (l := rest) h1
    obtain ⟨a1, a2⟩ := aft_tw h
    rw [a1, List.append_nil] at t1
    rw [a2] at t2
    obtain ⟨p1, _⟩ := wordR_plain [] (w ++ rest) (fun c r e => by
      rcases w with _ | ⟨c', w⟩
      · exact absurd rfl h2
      · injection e with e1 e2
        have := h1 c' (by simp)
        subst e1
        simp only [simpleB, decide_eq_true_eq] at this
        exact this.2.2.1)
    rw [p1, t1, t2, if_neg h2]
  · rw [if_neg hb]
    simp only [List.cons_append, List.append_assoc, List.nil_append]
    simp only [wordR, show (((34 : UInt8).toNat : Int) = 34) from rfl, if_true]
    rw [qRead_esc w rest [] _ (by omega)]; rfl
theorem meant_esc (d x : UInt8) (h : meant d = some x) : (esc x).length = 2 := by
  unfold meant at h
  (repeat' split at h) <;> first | (cases h; done) | skip
  · injection h with h; subst h; simp [esc, *]
  · injection h with h; subst h; decide
  · injection h with h; subst h; decide
theorem qRead_len : ∀ (n : Nat) (l out w t : List UInt8), qRead n l out = some (w, t) → ∃ d e, l = d ++ t ∧ w = out ++ e ∧ (e.flatMap esc).length + 1 ≤ d.length := by
  intro n
  induction n with
  | zero => intro l out w t h; simp [qRead] at h
  | succ n ih =>
    intro l out w t h
    rcases l with _ | ⟨c, l⟩
    · simp [qRead] at h
    · simp only [qRead] at h
      split at h
      · simp at h; exact ⟨[c], [], by simp [h.2], by simp [h.1], by simp⟩
      · split at h
        · cases h
        · split at h
          · rcases l with _ | ⟨e, l⟩
            · simp at h
            · simp only at h
              cases hm : meant e with
              | none => rw [hm] at h; simp at h
              | some x =>
                rw [hm] at h
                obtain ⟨d, f, rfl, rfl, hl⟩ := ih _ _ _ _ h
                refine ⟨c :: e :: d, x :: f, by simp, by simp, ?_⟩
                have := meant_esc e x hm
                simp only [List.flatMap_cons, List.length_append, List.length_cons]; omega
          · obtain ⟨d, f, rfl, rfl, hl⟩ := ih _ _ _ _ h
            refine ⟨c :: d, c :: f, by simp, by simp, ?_⟩
            have : (esc c).length = 1 := by
              unfold esc
              rw [if_neg (by omega), if_neg (by omega), if_neg (by omega)]; rfl
            simp only [List.flatMap_cons, List.length_append, List.length_cons]; omega
theorem wordR_len (l w t : List UInt8) (h : wordR l = (w, some t)) : ∃ d, l = d ++ t ∧ (writtenL w).length ≤ d.length := by
  rcases l with _ | ⟨c, r⟩
  · simp [wordR] at h
  · simp only [wordR] at h
    split at h
    · rename_i hc
      cases hq : qRead (r.length + 1) r [] with
      | none => rw [hq] at h; simp at h
      | some p =>
        obtain ⟨w', t'⟩ := p
        rw [hq] at h
        simp at h
        obtain ⟨rfl, rfl⟩ := h
        obtain ⟨d, e, h1, h2, h3⟩ := qRead_len _ _ _ _ _ hq
        rw [List.nil_append] at h2
        subst h2
        refine ⟨c :: d, by rw [h1]; rfl, ?_⟩
        have := flat_esc_ge w'
        unfold writtenL
        split <;> simp only [List.length_cons, List.length_append, List.length_nil] <;> omega
    · rename_i hc
      injection h with h1 h2
      split at h2
      · cases h2
      · rename_i hne
        injection h2 with h2
        refine ⟨w, by rw [← h1, ← h2]; exact (List.takeWhile_append_dropWhile ..).symm, ?_⟩
        have : bareB w = true := by
          rw [← h1]
          simp only [bareB, Bool.and_eq_true, decide_eq_true_eq]
          refine ⟨?_, hne⟩
          rw [List.all_eq_true]
          intro x hx
          have := List.all_takeWhile (p := simpleB) (l := c :: r)
          exact (List.all_eq_true.1 this) x hx
        unfold writtenL
        rw [if_pos this]; exact Nat.le_refl _
theorem rSplit_len : ∀ (n : Nat) (l : List UInt8) (out r : List (List UInt8)), rSplit n l out = some r → ∃ ws, ws ≠ [] ∧ r = out ++ ws ∧ (J ws).length ≤ l.length := by
  intro n
  induction n with
  | zero => intro l out r h; simp [rSplit] at h
  | succ n ih =>
    intro l out r h
    rw [rSplit] at h
    generalize hw : wordR l = wr at h
    obtain ⟨w, to⟩ := wr
    rcases to with _ | t
    · simp at h
    · obtain ⟨d, hd, hl⟩ := wordR_len l w t hw
      rcases t with _ | ⟨c, t⟩
      · simp at h
        refine ⟨[w], by simp, h.symm, ?_⟩
        rw [hd]; simp only [J, List.append_nil]; exact hl
      · simp only at h
        split at h
        · obtain ⟨ws, h1, h2, h3⟩ := ih _ _ _ h
          rcases ws with _ | ⟨v, ws⟩
          · exact absurd rfl h1
          · refine ⟨w :: v :: ws, by simp, by rw [h2]; simp, ?_⟩
            rw [hd]; simp only [J, List.length_append, List.length_cons]; omega
        · cases h
theorem aft_J (v : List UInt8) (ws : List (List UInt8)) : Aft (32 :: J (v :: ws)) := Or.inr ⟨_, rfl⟩
theorem rSplit_J : ∀ (ws : List (List UInt8)) (n : Nat) (out : List (List UInt8)), ws ≠ [] → (J ws).length < n → rSplit n (J ws) out = some (out ++ ws) := by
  intro ws
  induction ws with
  | nil => intro n out h; exact absurd rfl h
  | cons w ws ih =>
    intro n out _ hn
    obtain ⟨m, rfl⟩ : ∃ m, n = m + 1 := ⟨n - 1, by omega⟩
    rw [rSplit]
    rcases ws with _ | ⟨v, ws⟩
    · have := wordR_written w [] (Or.inl rfl)
      rw [List.append_nil] at this
      simp only [J, this]
    · have := wordR_written w (32 :: J (v :: ws)) (aft_J v ws)
      simp only [J] at hn ⊢
      rw [this]
      simp only [show (((32 : UInt8).toNat : Int) = 32) from rfl, if_true]
      rw [ih m (out ++ [w]) (by simp) (by simp only [List.length_append, List.length_cons] at hn; omega)]
      simp
theorem writtenL_pos (w : List UInt8) : 1 ≤ (writtenL w).length := by
  unfold writtenL
  split
  · rename_i h
    have := (bare_simple h).2
    cases w
    · exact absurd rfl this
    · simp
  · simp
theorem J_nil {ws : List (List UInt8)} (h : J ws = []) : ws = [] := by
  rcases ws with _ | ⟨w, _ | ⟨v, ws⟩⟩
  · rfl
  · have := writtenL_pos w
    rw [J] at h; rw [h] at this; simp at this
  · rw [J] at h; simp at h
theorem split_J (ws : List (List UInt8)) : splitP (J ws) = if 4096 < (J ws).length ∨ 64 < ws.length then ([], 3) else (ws, 0) := by
  rw [split_eq, rSplitP]
  by_cases h1 : 4096 < (J ws).length
  · rw [if_pos h1, if_pos (Or.inl h1)]
  · rw [if_neg h1]
    by_cases h2 : ws = []
    · subst h2; simp [J]
    · rw [if_neg (fun e => h2 (J_nil e)), rSplit_J ws _ [] h2 (by omega)]
      simp only [List.nil_append]
      by_cases h3 : 64 < ws.length
      · rw [if_pos h3, if_pos (Or.inr h3)]
      · rw [if_neg h3, if_neg (by omega)]
/-- what a line that was split joins to -/
theorem split_join (s : List UInt8) (h : (splitP s).2 = 0) : (splitP s).1.length ≤ 64 ∧ (J (splitP s).1).length ≤ s.length ∧ s.length ≤ 4096 := by
  rw [split_eq] at h ⊢
  unfold rSplitP at h ⊢
  by_cases h1 : 4096 < s.length
  · rw [if_pos h1] at h; simp at h
  · rw [if_neg h1] at h ⊢
    by_cases h2 : s = []
    · rw [if_pos h2]; simp [J]; omega
    · rw [if_neg h2] at h ⊢
      cases hr : rSplit (s.length + 1) s [] with
      | none => rw [hr] at h; simp at h
      | some r =>
        rw [hr] at h
        simp only at h ⊢
        by_cases h3 : 64 < r.length
        · rw [if_pos h3] at h; simp at h
        · rw [if_neg h3]
          obtain ⟨ws, _, e, hl⟩ := rSplit_len _ _ _ _ hr
          rw [List.nil_append] at e
          subst e
          exact ⟨by simp only; omega, hl, by omega⟩
theorem split_err (s : List UInt8) (h : (splitP s).2 ≠ 0) : (splitP s).1 = [] := by
  unfold splitP at h ⊢
  (repeat' split) <;> first | rfl | skip
  all_goals simp_all
end Go.Proofs.YtagdhmfcgngbeaaDoor
