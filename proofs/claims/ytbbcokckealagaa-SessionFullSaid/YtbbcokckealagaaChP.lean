/-
  Plain facts of chapter 30.
-/
import Derived.Test.YtbbcokckealagaaChE
namespace Go.Proofs.Ytbbcokckealagaa
set_option linter.unusedVariables false
set_option linter.unusedSimpArgs false
theorem asc_gt : ∀ (l : List Int) (b : Int), ascI b l = true → ∀ x ∈ l, b < x := by
  intro l
  induction l with
  | nil => intro b _ x hx; cases hx
  | cons y r ih =>
    intro b h x hx
    simp only [ascI, Bool.and_eq_true, decide_eq_true_eq] at h
    rcases List.mem_cons.1 hx with rfl | hx
    · exact h.1
    · have := ih y h.2 x hx; omega
theorem asc_len : ∀ (ys xs : List Int) (b c : Int), ascI b xs = true → ascI c ys = true → (∀ x ∈ xs, x ∈ ys) → xs.length ≤ ys.length := by
  intro ys
  induction ys with
  | nil =>
    intro xs b c _ _ h
    cases xs with
    | nil => exact Nat.le_refl _
    | cons x r => exact absurd (h x (by simp)) (by simp)
  | cons y ys ih =>
    intro xs b c hx hy h
    cases xs with
    | nil => simp
    | cons x xs =>
      have hxx := hx
      simp only [ascI, Bool.and_eq_true, decide_eq_true_eq] at hx hy
      by_cases e : x = y
      · subst e
        have := ih xs x x hx.2 hy.2 (fun z hz => by
          have h1 := asc_gt xs x hx.2 z hz
          rcases List.mem_cons.1 (h z (List.mem_cons_of_mem _ hz)) with rfl | q
          · omega
          · exact q)
        simp only [List.length_cons]; omega
      · have hxy : x ∈ ys := by
          rcases List.mem_cons.1 (h x (by simp)) with q | q
          · exact absurd q e
          · exact q
        have h2 := asc_gt ys y hy.2 x hxy
        have := ih (x :: xs) b y hxx hy.2 (fun z hz => by
          rcases List.mem_cons.1 hz with rfl | hz
          · exact hxy
          · have h1 := asc_gt xs x hx.2 z hz
            rcases List.mem_cons.1 (h z (List.mem_cons_of_mem _ hz)) with rfl | q
            · omega
            · exact q)
        simp only [List.length_cons] at this ⊢; omega
theorem asc_eq : ∀ (ys xs : List Int) (b c : Int), ascI b xs = true → ascI c ys = true → (∀ x ∈ xs, x ∈ ys) → xs.length = ys.length → xs = ys := by
  intro ys
  induction ys with
  | nil => intro xs b c _ _ h hl; exact List.eq_nil_of_length_eq_zero hl
  | cons y ys ih =>
    intro xs b c hx hy h hl
    cases xs with
    | nil => simp at hl
    | cons x xs =>
      have hxx := hx
      simp only [ascI, Bool.and_eq_true, decide_eq_true_eq] at hx hy
      simp only [List.length_cons] at hl
      by_cases e : x = y
      · subst e
        rw [ih xs x x hx.2 hy.2 (fun z hz => by
          have h1 := asc_gt xs x hx.2 z hz
          rcases List.mem_cons.1 (h z (List.mem_cons_of_mem _ hz)) with rfl | q
          · omega
          · exact q) (by omega)]
      · exfalso
        have hxy : x ∈ ys := by
          rcases List.mem_cons.1 (h x (by simp)) with q | q
          · exact absurd q e
          · exact q
        have h2 := asc_gt ys y hy.2 x hxy
        have := asc_len ys (x :: xs) b y hxx hy.2 (fun z hz => by
          rcases List.mem_cons.1 hz with rfl | hz
          · exact hxy
          · have h1 := asc_gt xs x hx.2 z hz
            rcases List.mem_cons.1 (h z (List.mem_cons_of_mem _ hz)) with rfl | q
            · omega
            · exact q)
        simp only [List.length_cons] at this; omega
theorem proper_asc {c : Ch} (h : properB c = true) : ascI 0 c.set = true ∧ c.dev ∈ c.set ∧ 1 ≤ c.set.length ∧ c.set.length ≤ 8 := by
  have := proper_small h
  simp only [properB, Bool.and_eq_true, decide_eq_true_eq] at h
  exact ⟨h.2.2.2.1, h.2.2.2.2, this.1, this.2⟩
theorem alike_like {c d : Ch} (hc : properB c = true) (hd : properB d = true) : alikeB c d = likeB c d := by
  obtain ⟨c1, _⟩ := proper_asc hc
  obtain ⟨d1, _⟩ := proper_asc hd
  rw [Bool.eq_iff_iff]
  simp only [alikeB, likeB, partB, Bool.and_eq_true, decide_eq_true_eq, List.all_eq_true]
  constructor
  · rintro ⟨h1, h2, h3⟩
    exact ⟨h1, asc_eq _ _ 0 0 c1 d1 h3 (by omega)⟩
  · rintro ⟨h1, h2⟩
    exact ⟨h1, by rw [h2], fun x hx => by rw [← h2]; exact hx⟩
theorem like_comm (c d : Ch) : likeB c d = likeB d c := by
  unfold likeB
  rw [Bool.eq_iff_iff]
  simp only [Bool.and_eq_true, decide_eq_true_eq]
  exact ⟨fun h => ⟨h.1.symm, h.2.symm⟩, fun h => ⟨h.1.symm, h.2.symm⟩⟩
theorem any_congr' {s : List Ch} {f g : Ch → Bool} (h : ∀ d ∈ s, f d = g d) : s.any f = s.any g := by
  induction s with
  | nil => rfl
  | cons d r ih => simp only [List.any_cons]; rw [h d (by simp), ih (fun x hx => h x (List.mem_cons_of_mem _ hx))]
theorem valid_rv : ∀ (l s : List Ch), (∀ d ∈ s, properB d = true) → validGo s l = rvGo s l := by
  intro l
  induction l with
  | nil => intro s _; rfl
  | cons c r ih =>
    intro s hs
    rw [validGo, rvGo]
    cases hp : properB c with
    | false => rfl
    | true =>
      rw [any_congr' (fun d hd => (alike_like hp (hs d hd)).symm), ih (s ++ [c]) (fun d hd => (List.mem_append.1 hd).elim (hs d) (fun h => by rw [List.mem_singleton.1 h]; exact hp))]
theorem validM_eq (l : List Ch) : validM l = rvalidM l := by
  unfold validM rvalidM
  rw [valid_rv l [] (fun _ h => by cases h), Bool.and_comm]
theorem rem_eq (l : List Ch) (c : Ch) : rememberP l c = rRemP l c := by
  unfold rememberP rRemP
  rw [← validM_eq]
  cases hv : validM l with
  | false => rfl
  | true =>
    cases hp : properB c with
    | false => rfl
    | true =>
      simp only [Bool.true_eq_false, if_false]
      have hm : validGo [] l = true := by simp only [validM, Bool.and_eq_true] at hv; exact hv.2
      have e : l.filter (fun d => !likeB c d) = keepR c l := by
        unfold keepR
        refine List.filter_congr fun d hd => ?_
        rw [alike_like (validGo_mem l [] hm d hd) hp, like_comm]
      rw [e]
      have hl := (valid_small hv).1
      have hk : (keepR c l).length ≤ l.length := List.length_filter_le _ _
      congr 1
      split
      · rename_i h
        congr 1
        simp only [List.length_append, List.length_cons, List.length_nil] at h ⊢; omega
      · rename_i h
        have : (keepR c l ++ [c]).length - 32 = 0 := by omega
        rw [this, List.drop_zero]
theorem valid_iff : ∀ (l s : List Ch), validGo s l = true ↔ (∀ d ∈ l, properB d = true) ∧ l.Pairwise (fun x y => likeB y x = false) ∧ ∀ x ∈ s, ∀ y ∈ l, likeB y x = false := by
  intro l
  induction l with
  | nil => intro s; simp [validGo]
  | cons c r ih =>
    intro s
    rw [validGo]
    simp only [Bool.and_eq_true, ih, List.pairwise_cons, Bool.not_eq_true', List.any_eq_false]
    constructor
    · rintro ⟨h1, h2, h3, h4, h5⟩
      refine ⟨fun d hd => (List.mem_cons.1 hd).elim (fun e => by rw [e]; exact h1) (h3 d), ⟨fun y hy => h5 c (by simp) y hy, h4⟩, fun x hx y hy => ?_⟩
      rcases List.mem_cons.1 hy with rfl | hy
      · simpa using h2 x hx
      · exact h5 x (List.mem_append_left _ hx) y hy
    · rintro ⟨h1, ⟨h2, h3⟩, h4⟩
      refine ⟨h1 c (by simp), fun x hx => by simpa using h4 x hx c (by simp), fun d hd => h1 d (List.mem_cons_of_mem _ hd), h3, fun x hx y hy => ?_⟩
      rcases List.mem_append.1 hx with hx | hx
      · exact h4 x hx y (List.mem_cons_of_mem _ hy)
      · rw [List.mem_singleton.1 hx]; exact h2 y hy
theorem valid_rem (l : List Ch) (c : Ch) (hv : validM l = true) (hp : properB c = true) : ∃ X, rememberP l c = (X ++ [c], 0) ∧ X.Sublist (l.filter fun d => !likeB c d) ∧ (l.length < 32 → X = l.filter fun d => !likeB c d) ∧ validM (X ++ [c]) = true := by
  obtain ⟨s1, _⟩ := valid_small hv
  have hF : (l.filter fun d => !likeB c d).length ≤ l.length := List.length_filter_le _ _
  have main : ∀ X : List Ch, X.Sublist (l.filter fun d => !likeB c d) → X.length + 1 ≤ 32 → validM (X ++ [c]) = true := by
    intro X hX hl
    simp only [validM, Bool.and_eq_true, decide_eq_true_eq] at hv ⊢
    obtain ⟨v1, v2, v3⟩ := (valid_iff l []).1 hv.2
    have hXl : X.Sublist l := hX.trans List.filter_sublist
    refine ⟨by simp only [List.length_append, List.length_cons, List.length_nil]; omega, (valid_iff _ []).2 ⟨fun d hd => ?_, ?_, fun _ h => by cases h⟩⟩
    · rcases List.mem_append.1 hd with h | h
      · exact v1 d (hXl.subset h)
      · rw [List.mem_singleton.1 h]; exact hp
    · rw [List.pairwise_append]
      refine ⟨v2.sublist hXl, by simp, fun x hx y hy => ?_⟩
      rw [List.mem_singleton.1 hy]
      simpa using (List.mem_filter.1 (hX.subset hx)).2
  unfold rememberP
  rw [hv, hp, if_neg (by simp), if_neg (by simp)]
  by_cases h : 32 < ((l.filter fun d => !likeB c d) ++ [c]).length
  · rw [if_pos h]
    simp only [List.length_append, List.length_cons, List.length_nil] at h
    have hne : 1 ≤ (l.filter fun d => !likeB c d).length := by omega
    refine ⟨(l.filter fun d => !likeB c d).drop 1, ?_, List.drop_sublist _ _, fun hl => by omega, main _ (List.drop_sublist _ _) (by rw [List.length_drop]; omega)⟩
    rw [List.drop_append_of_le_length hne]
  · rw [if_neg h]
    simp only [List.length_append, List.length_cons, List.length_nil] at h
    exact ⟨_, rfl, List.Sublist.refl _, fun _ => rfl, main _ (List.Sublist.refl _) (by omega)⟩
theorem hit_sub {role : List UInt8} {set : List Int} {m : Nat} {c : Ch} (h : lookHit role set m c = true) : c.role = role ∧ m ≤ c.set.length ∧ ∀ x ∈ c.set, x ∈ set := by
  simp only [lookHit, Bool.and_eq_true, decide_eq_true_eq, Bool.not_eq_true', List.any_eq_false] at h
  exact ⟨h.1, h.2.1, fun x hx => by simpa using h.2.2 x hx⟩
theorem look_last (set : List Int) (c : Ch) (hcs : c.set = set) (hs : ascI 0 set = true) : ∀ (X : List Ch) (d : Int) (m : Nat), (∀ x ∈ X, properB x = true) → m ≤ set.length → lookGo c.role set (X ++ [c]) d m = c.dev := by
  intro X
  induction X with
  | nil =>
    intro d m _ hm
    have : lookHit c.role set m c = true := by
      simp only [lookHit, Bool.and_eq_true, decide_eq_true_eq, Bool.not_eq_true', List.any_eq_false]
      exact ⟨by trivial, by rw [hcs]; exact hm, fun x hx => by rw [hcs] at hx; simpa using hx⟩
    simp [lookGo, this]
  | cons y X ih =>
    intro d m hX hm
    rw [List.cons_append, lookGo]
    have hX' : ∀ x ∈ X, properB x = true := fun x hx => hX x (List.mem_cons_of_mem _ hx)
    split
    · rename_i h
      obtain ⟨_, _, h3⟩ := hit_sub h
      exact ih _ _ hX' (asc_len _ _ 0 0 (proper_asc (hX y (by simp))).1 hs h3)
    · exact ih _ _ hX' hm
theorem look_in (role : List UInt8) (set : List Int) : ∀ (l : List Ch) (d : Int) (m : Nat), (∀ x ∈ l, properB x = true) → (d = 0 ∨ d ∈ set) → lookGo role set l d m = 0 ∨ lookGo role set l d m ∈ set := by
  intro l
  induction l with
  | nil => intro d m _ h; exact h
  | cons y l ih =>
    intro d m hl h
    rw [lookGo]
    have hl' : ∀ x ∈ l, properB x = true := fun x hx => hl x (List.mem_cons_of_mem _ hx)
    split
    · rename_i hh
      exact ih _ _ hl' (Or.inr ((hit_sub hh).2.2 _ (proper_asc (hl y (by simp))).2.1))
    · exact ih _ _ hl' h
theorem look_role (role : List UInt8) (set : List Int) (c : Ch) (hr : c.role ≠ role) : ∀ (X : List Ch) (d : Int) (m : Nat), lookGo role set (X ++ [c]) d m = lookGo role set X d m := by
  intro X
  induction X with
  | nil =>
    intro d m
    have : lookHit role set m c = false := by simp [lookHit, hr]
    simp [lookGo, this]
  | cons y X ih => intro d m; rw [List.cons_append, lookGo, lookGo]; split <;> exact ih _ _
theorem look_filter (role : List UInt8) (set : List Int) (p : Ch → Bool) : ∀ (l : List Ch) (d : Int) (m : Nat), (∀ x ∈ l, p x = false → x.role ≠ role) → lookGo role set (l.filter p) d m = lookGo role set l d m := by
  intro l
  induction l with
  | nil => intro d m _; rfl
  | cons y l ih =>
    intro d m h
    have h' : ∀ x ∈ l, p x = false → x.role ≠ role := fun x hx => h x (List.mem_cons_of_mem _ hx)
    cases hp : p y with
    | true => rw [List.filter_cons_of_pos hp, lookGo, lookGo]; split <;> exact ih _ _ h'
    | false =>
      rw [List.filter_cons_of_neg (by simp [hp]), lookGo]
      have : lookHit role set m y = false := by simp [lookHit, h y (by simp) hp]
      rw [this]
      exact ih _ _ h'
theorem look_ne (role : List UInt8) (set : List Int) (x : Int) : ∀ (l : List Ch) (d : Int) (m : Nat), (∀ y ∈ l, y.dev ≠ x) → d ≠ x → lookGo role set l d m ≠ x := by
  intro l
  induction l with
  | nil => intro d m _ h; exact h
  | cons y l ih =>
    intro d m hl h
    rw [lookGo]
    have hl' : ∀ z ∈ l, z.dev ≠ x := fun z hz => hl z (List.mem_cons_of_mem _ hz)
    split
    · exact ih _ _ hl' (hl y (by simp))
    · exact ih _ _ hl' h
theorem lookup_last (l : List Ch) (c : Ch) (hv : validM l = true) (hp : properB c = true) : lookupP (rememberP l c).1 c.role c.set = c.dev := by
  obtain ⟨X, e, _, _, hX⟩ := valid_rem l c hv hp
  rw [e]
  obtain ⟨a1, _⟩ := proper_asc hp
  unfold lookupP
  rw [if_neg (by rw [hX, a1]; simp)]
  refine look_last c.set c rfl a1 X 0 0 (fun x hx => ?_) (Nat.zero_le _)
  simp only [validM, Bool.and_eq_true] at hX
  exact validGo_mem _ [] hX.2 x (List.mem_append_left _ hx)
theorem lookup_in (l : List Ch) (role : List UInt8) (set : List Int) : lookupP l role set = 0 ∨ lookupP l role set ∈ set := by
  unfold lookupP
  split
  · exact Or.inl rfl
  · rename_i h
    have hv : validM l = true := by cases hv : validM l <;> simp [hv] at h ⊢
    simp only [validM, Bool.and_eq_true] at hv
    exact look_in role set l 0 0 (validGo_mem _ [] hv.2) (Or.inl rfl)
theorem lookup_other (l : List Ch) (c : Ch) (role : List UInt8) (set : List Int) (hv : validM l = true) (hp : properB c = true) (hl : l.length < 32) (hr : role ≠ c.role) : lookupP (rememberP l c).1 role set = lookupP l role set := by
  obtain ⟨X, e, _, hX1, hX⟩ := valid_rem l c hv hp
  rw [e]
  unfold lookupP
  rw [hX, hv]
  cases ha : ascI 0 set with
  | false => simp
  | true =>
    rw [if_neg (by simp), if_neg (by simp)]
    rw [look_role role set c (fun e => hr e.symm), hX1 hl]
    refine look_filter role set _ l 0 0 fun x hx h => ?_
    simp only [likeB, Bool.not_eq_false', Bool.and_eq_true, decide_eq_true_eq] at h
    exact fun e => hr (e.symm.trans h.1.symm)
theorem lookup_forget (l : List Ch) (x : Int) (role : List UInt8) (set : List Int) (hv : validM l = true) (hx : x ≠ 0) : lookupP (forgetP l x) role set ≠ x := by
  unfold lookupP
  split
  · exact fun e => hx e.symm
  · refine look_ne role set x _ 0 0 (fun y hy => ?_) (fun e => hx e.symm)
    have := (List.mem_filter.1 hy).2
    simpa [hv] using this
theorem memGo_valid (l : List Int) : ∀ (k : Nat) (m : List Ch) (a : Nat), a ≤ l.length → validM m = true → validM (memGo l k m a).1 = true := by
  intro k
  induction k with
  | zero => intro m a _ h; exact h
  | succ k ih =>
    intro m a ha hv
    obtain ⟨c1, c2, c3⟩ := choiceP_ok l a ha
    obtain ⟨X, e, _, _, hX⟩ := valid_rem m _ hv c1
    rw [memGo]
    refine ih _ _ c3 ?_
    rw [← rem_eq, e]; exact hX
theorem memP_valid (l : List Int) (a : Nat) (ha : a ≤ l.length) : validM (memP l a).1 = true := memGo_valid l _ [] _ (dkA_le ha) (by decide)
end Go.Proofs.Ytbbcokckealagaa
