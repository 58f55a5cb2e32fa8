/-
  Walks of chapter 30: sets, choices and memories that are made out of a deck.
-/
import Derived.Test.YtbbcokckealagaaGreatQAA
import Derived.Test.YtbbcokckealagaaGreatQCE
import Derived.Test.YtbbcokckealagaaGreatQCF
import Derived.Test.YtbbcokckealagaaGreatQCD
namespace Go.Proofs.YtbbcokckealagaaGreat
set_option linter.unusedVariables false
set_option linter.unusedSimpArgs false
def setGo (l : List Int) : Nat → Int → Nat → List Int × Nat
  | 0, _, a => ([], a)
  | k + 1, id, a => (if dkN l a 2 = 0 then id :: (setGo l k (id + 1) (dkA l a)).1 else (setGo l k (id + 1) (dkA l a)).1, (setGo l k (id + 1) (dkA l a)).2)
def setP (l : List Int) (a : Nat) : List Int × Nat := (if (setGo l 6 1 a).1 = [] then [7] else (setGo l 6 1 a).1, (setGo l 6 1 a).2)
theorem setGo_ok (l : List Int) : ∀ (k : Nat) (id : Int) (a : Nat), a ≤ l.length → (setGo l k id a).2 ≤ l.length ∧ (setGo l k id a).1.length ≤ k ∧ ∀ b, b < id → ascI b (setGo l k id a).1 = true := by
  intro k
  induction k with
  | zero => intro id a ha; exact ⟨ha, Nat.le_refl _, fun b hb => rfl⟩
  | succ k ih =>
    intro id a ha
    obtain ⟨h1, h2, h3⟩ := ih (id + 1) (dkA l a) (dkA_le ha)
    refine ⟨h1, ?_, fun b hb => ?_⟩
    · simp only [setGo]; split
      · simp only [List.length_cons]; omega
      · omega
    · simp only [setGo]; split
      · simp only [ascI, Bool.and_eq_true, decide_eq_true_eq]
        exact ⟨hb, h3 id (by omega)⟩
      · exact h3 b (by omega)
theorem setP_ok (l : List Int) (a : Nat) (ha : a ≤ l.length) : (setP l a).2 ≤ l.length ∧ 1 ≤ (setP l a).1.length ∧ (setP l a).1.length ≤ 6 ∧ ascI 0 (setP l a).1 = true := by
  obtain ⟨h1, h2, h3⟩ := setGo_ok l 6 1 a ha
  unfold setP
  split
  · exact ⟨h1, by simp, by simp, by show ascI 0 [7] = true; decide⟩
  · rename_i h
    refine ⟨h1, ?_, h2, h3 0 (by omega)⟩
    cases hq : (setGo l 6 1 a).1 with
    | nil => exact absurd hq h
    | cons x r => simp
set_option maxHeartbeats 4000000 in
theorem Set_c (l : List Int) (hl : Fits l) (a : Nat) (ha : a ≤ l.length) : ACalls Tryz.prog 71 [.ptr 0 0] [dkR l a] (.sl 1 (ids (setP l a).1) false) [dkR l (setP l a).2] := by
  generalize hr : setP l a = r
  rw [setP] at hr
  refine (ACalls.of (fn := Tryz.f71) Tryz.func71 O O Tryz.ntmps71 (fun I M w own => ?_))
  (repeat' (first|refine AW.seq_k (fun K hK=>?_)|(refine hK _ ?_;clear hK)|refine AW.block ?_|refine AW.rI [0, 1, 2] O ?_|refine UA ?_|fail))
  refine AW.loopF (X := Nat × List Int × Nat) (fun x => ⟨[(0, .ptr 0 0), (3, .row 1 (ids x.2.1).length), (4, .v (.int .i64 ((7 : Int) - x.1)))], [dkR l x.2.2, .row 1 (ids x.2.1)]⟩)
    (fun x => x.1 ≤ 6 ∧ x.2.2 ≤ l.length ∧ (setGo l 6 1 a).1 = x.2.1 ++ (setGo l x.1 (7 - x.1) x.2.2).1 ∧ (setGo l 6 1 a).2 = (setGo l x.1 (7 - x.1) x.2.2).2 ∧ x.2.1.length + x.1 ≤ 6) (fun x => x.1) (6, [], a) ?_ ?_ ?_
  · refine Conv.own 3 1 [] (Or.inr ⟨rfl, rfl⟩) ?_
    refine Conv.mk [0, 1] O O O ?_ O ?_
    (repeat' (first|exact V0|refine V3 ?_|refine V2 ?_ ?_|fail))
    (all_goals (try (first|refine CvL.eq ?_|refine Cv.eq ?_)))
    all_goals simp [AV.ren, AV.rens, renL]
  · exact ⟨Nat.le_refl _, ha, by simp, by simp, by simp⟩
  · rintro ⟨k, acc, a'⟩ ⟨h1, h2, h3, h4, h5⟩
    simp only at h1 h2 h3 h4 h5 ⊢
    have hal : (ids acc).length = acc.length := by simp
    rcases k with _ | k
    · have e0 : setGo l 0 (7 - ((0 : Nat) : Int)) a' = ([], a') := rfl
      rw [e0] at h3 h4
      simp only [List.append_nil] at h3 h4
      rw [h3, h4] at hr
      (repeat' (first|refine AW.seq_k (fun K hK=>?_)|(refine hK _ ?_;clear hK)|refine AW.uC (fun hc=>?_) (fun hc=>?_)|refine AW.exit ?_|refine AW.ret ?_|refine AW.skip ?_|(clear hK;refine hK _ ?_;clear hK)|exact trivial|refine AW.rI [3, 7, 8, 9] O ?_|refine UA ?_|fail))
      · obtain rfl : acc = [] := by cases acc with
          | nil => rfl
          | cons x t => simp only [List.length_cons] at hal; omega
        rw [if_pos O] at hr
        subst hr
        ((first|refine RetOk.tupS [0] O O O O O ?_ ?_|refine RetOk.oneS [0] O O O O ?_ ?_)<;>(repeat' (first|exact V0|refine V1 ?_|refine V2 ?_ ?_|fail)))
        (all_goals (try (first|refine CvL.eq ?_|refine Cv.eq ?_)))
        all_goals simp [AV.ren, AV.rens, renL]
      · rw [if_neg (by intro e; apply hc; rw [e]; rfl)] at hr
        subst hr
        ((first|refine RetOk.tupS [0] O O O O O ?_ ?_|refine RetOk.oneS [0] O O O O ?_ ?_)<;>(repeat' (first|exact V0|refine V1 ?_|refine V2 ?_ ?_|fail)))
        (all_goals (try (first|refine CvL.eq ?_|refine Cv.eq ?_)))
        all_goals simp [AV.ren, AV.rens, renL]
    · have hN := Next_c l hl a' h2 2 (by decide)
      have e1 : (7 : Int) - ((k + 1 : Nat) : Int) + 1 = 7 - (k : Int) := by omega
      have e2 : setGo l (k + 1) (7 - ((k + 1 : Nat) : Int)) a' = (if dkN l a' 2 = 0 then (7 - ((k + 1 : Nat) : Int)) :: (setGo l k (7 - (k : Int)) (dkA l a')).1 else (setGo l k (7 - (k : Int)) (dkA l a')).1, (setGo l k (7 - (k : Int)) (dkA l a')).2) := by rw [setGo, e1]
      rw [e2] at h3 h4
      by_cases hz : dkN l a' 2 = 0
      · rw [hz] at hN
        rw [if_pos hz] at h3
        (repeat' (first|refine AW.seq_k (fun K hK=>?_)|(refine hK _ ?_;clear hK)|refine AW.uC (fun hc=>?_) (fun hc=>?_)|refine AW.block ?_|refine AW.skip ?_|exact trivial|refine AW.rI [3, 5, 6, 4] O ?_|refine Run.cSA [0] hN O O O O O O O O O O O O ?_|refine UA ?_|fail))
        ((repeat (with_reducible refine inB_n ?_)); refine thenA_n ?_)
        refine ⟨(k, acc ++ [7 - ((k + 1 : Nat) : Int)], dkA l a'), ⟨by simp only; omega, dkA_le h2, by rw [h3]; simp, h4, by simp only [List.length_append, List.length_cons, List.length_nil]; omega⟩, by simp only; omega, ?_⟩
        refine Conv.mk [0, 1] O O O ?_ O ?_
        (repeat' (first|exact V0|refine V3 ?_|refine V2 ?_ ?_|fail))
        (all_goals (try (first|refine CvL.eq ?_|refine Cv.eq ?_)))
        all_goals (simp [AV.ren, AV.rens, renL]; try omega)
      · rw [if_neg hz] at h3
        (repeat' (first|refine AW.seq_k (fun K hK=>?_)|(refine hK _ ?_;clear hK)|refine AW.uC (fun hc=>?_) (fun hc=>?_)|refine AW.block ?_|refine AW.skip ?_|exact trivial|refine AW.rI [3, 5, 4] O ?_|refine Run.cSA [0] hN O O O O O O O O O O O O ?_|refine UA ?_|fail))
        all_goals first | (exfalso; omega) | skip
        ((repeat (with_reducible refine inB_n ?_)); refine thenA_n ?_)
        refine ⟨(k, acc, dkA l a'), ⟨by simp only; omega, dkA_le h2, h3, h4, by simp only; omega⟩, by simp only; omega, ?_⟩
        refine Conv.mk [0, 1] O O O ?_ O ?_
        (repeat' (first|exact V0|refine V3 ?_|refine V2 ?_ ?_|fail))
        (all_goals (try (first|refine CvL.eq ?_|refine Cv.eq ?_)))
        all_goals (simp [AV.ren, AV.rens, renL]; try omega)
def choiceP (l : List Int) (a : Nat) : Ch × Nat :=
  (⟨roleAt (dkN l a 4), (setP l (dkA l a)).1, (setP l (dkA l a)).1.getD (dkN l (setP l (dkA l a)).2 ((setP l (dkA l a)).1.length : Int)).toNat 0⟩, dkA l (setP l (dkA l a)).2)
set_option maxHeartbeats 4000000 in
theorem Choice_c (l : List Int) (hl : Fits l) (a : Nat) (ha : a ≤ l.length) : ACalls Tryz.prog 36 [.ptr 0 0] [dkR l a] (.agg (choiceP l a).1.cells) [dkR l (choiceP l a).2] := by
  have hR := Role_c l hl a ha
  have hS := Set_c l hl (dkA l a) (dkA_le ha)
  obtain ⟨s1, s2, s3, s4⟩ := setP_ok l (dkA l a) (dkA_le ha)
  have hN := Next_c l hl (setP l (dkA l a)).2 s1 ((setP l (dkA l a)).1.length : Int) (by omega)
  obtain ⟨g1, g2⟩ := dkN_rng l (setP l (dkA l a)).2 ((setP l (dkA l a)).1.length : Int) (by omega)
  generalize hr : choiceP l a = r
  rw [choiceP] at hr
  subst hr
  simp only
  generalize hsp : (setP l (dkA l a)).1 = sp at *
  obtain ⟨n, hn⟩ : ∃ n : Nat, dkN l (setP l (dkA l a)).2 (sp.length : Int) = (n : Int) := ⟨(dkN l (setP l (dkA l a)).2 (sp.length : Int)).toNat, by omega⟩
  rw [hn] at hN g1 g2 ⊢
  have hnl : n < sp.length := by omega
  have hll : (ids sp).length = sp.length := by simp
  have hA : At (ids sp) (n : Int) [PV.v (.int .u64 (sp.getD (n : Int).toNat 0))] := At.mk n O (by simp [hnl])
  rw [← hll] at hN
  refine (ACalls.of (fn := Tryz.f36) Tryz.func36 O O Tryz.ntmps36 (fun I M w own => ?_))
  (repeat' (first|refine AW.seq_k (fun K hK=>?_)|(refine hK _ ?_;clear hK)|refine AW.ret ?_|refine AW.draw (id := 2) (by kernel_rfl) ?_|refine AW.region ?_|refine Run.cSA [0] hR O O O O O O O O O O O O ?_|refine Run.cSA [0] hS O O O O O O O O O O O O ?_|refine Run.cSA [0] hN O O O O O O O O O O O O ?_|refine UA ?_|fail))
  ((first|refine RetOk.tupS [0] O O O O O ?_ ?_|refine RetOk.oneS [0] O O O O ?_ ?_)<;>(repeat' (first|exact V0|refine V1 ?_|refine V2 ?_ ?_|fail)))
theorem choiceP_ok (l : List Int) (a : Nat) (ha : a ≤ l.length) : properB (choiceP l a).1 = true ∧ (choiceP l a).1.ok ∧ (choiceP l a).2 ≤ l.length := by
  obtain ⟨s1, s2, s3, s4⟩ := setP_ok l (dkA l a) (dkA_le ha)
  obtain ⟨g1, g2⟩ := dkN_rng l (setP l (dkA l a)).2 ((setP l (dkA l a)).1.length : Int) (by omega)
  obtain ⟨g3, g4⟩ := dkN_rng l a 4 (by decide)
  have hn : nameB (roleAt (dkN l a 4)) = true := by
    obtain ⟨n, hn⟩ : ∃ n : Nat, dkN l a 4 = (n : Int) := ⟨(dkN l a 4).toNat, by omega⟩
    rw [hn] at g4 ⊢
    rcases n with _ | _ | _ | _ | n
    · decide
    · decide
    · decide
    · decide
    · omega
  have hl64 : (roleAt (dkN l a 4)).length ≤ 64 := by
    simp only [nameB, Bool.and_eq_true, decide_eq_true_eq] at hn
    exact hn.2.2
  refine ⟨?_, ⟨by simp only [choiceP]; omega, by simp only [choiceP]; omega⟩, dkA_le s1⟩
  simp only [properB, Bool.and_eq_true, decide_eq_true_eq]
  refine ⟨hn, ?_, ?_, s4, ?_⟩
  · show (1 : Int) ≤ ((setP l (dkA l a)).1.length : Int); omega
  · show ((setP l (dkA l a)).1.length : Int) ≤ 8; omega
  show (setP l (dkA l a)).1.getD (dkN l (setP l (dkA l a)).2 ((setP l (dkA l a)).1.length : Int)).toNat 0 ∈ (setP l (dkA l a)).1
  have : (dkN l (setP l (dkA l a)).2 ((setP l (dkA l a)).1.length : Int)).toNat < (setP l (dkA l a)).1.length := by omega
  simp [List.getD, this]
def memGo (l : List Int) : Nat → List Ch → Nat → List Ch × Nat
  | 0, m, a => (m, a)
  | k + 1, m, a => memGo l k (rRemP m (choiceP l a).1).1 (choiceP l a).2
def memP (l : List Int) (a : Nat) : List Ch × Nat := memGo l (dkN l a 7).toNat [] (dkA l a)
theorem asc_gt : ∀ (l : List Int) (b : Int), ascI b l = true → ∀ x ∈ l, b < x := by
  intro l
  induction l with
  | nil => intro b _ x hx; cases hx
  | cons y r ih =>
    intro b h x hx
    simp only [ascI, Bool.and_eq_true, decide_eq_true_eq] at h
    rcases List.mem_cons.1 hx with rfl | hx
    · exact h.1
    · have := ih y h.2 x hx; omega
theorem asc_len : ∀ (ys xs : List Int) (b c : Int), ascI b xs = true → ascI c ys = true → (∀ x ∈ xs, x ∈ ys) → xs.length ≤ ys.length := by
  intro ys
  induction ys with
  | nil =>
    intro xs b c _ _ h
    cases xs with
    | nil => exact Nat.le_refl _
    | cons x r => exact absurd (h x (by simp)) (by simp)
  | cons y ys ih =>
    intro xs b c hx hy h
    cases xs with
    | nil => simp
    | cons x xs =>
      have hxx := hx
      simp only [ascI, Bool.and_eq_true, decide_eq_true_eq] at hx hy
      by_cases e : x = y
      · subst e
        have := ih xs x x hx.2 hy.2 (fun z hz => by
          have h1 := asc_gt xs x hx.2 z hz
          rcases List.mem_cons.1 (h z (List.mem_cons_of_mem _ hz)) with rfl | q
          · omega
          · exact q)
        simp only [List.length_cons]; omega
      · have hxy : x ∈ ys := by
          rcases List.mem_cons.1 (h x (by simp)) with q | q
          · exact absurd q e
          · exact q
        have h2 := asc_gt ys y hy.2 x hxy
        have := ih (x :: xs) b y hxx hy.2 (fun z hz => by
          rcases List.mem_cons.1 hz with rfl | hz
          · exact hxy
          · have h1 := asc_gt xs x hx.2 z hz
            rcases List.mem_cons.1 (h z (List.mem_cons_of_mem _ hz)) with rfl | q
            · omega
            · exact q)
        simp only [List.length_cons] at this ⊢; omega
theorem asc_eq : ∀ (ys xs : List Int) (b c : Int), ascI b xs = true → ascI c ys = true → (∀ x ∈ xs, x ∈ ys) → xs.length = ys.length → xs = ys := by
  intro ys
  induction ys with
  | nil => intro xs b c _ _ h hl; exact List.eq_nil_of_length_eq_zero hl
  | cons y ys ih =>
    intro xs b c hx hy h hl
    cases xs with
    | nil => simp at hl
    | cons x xs =>
      have hxx := hx
      simp only [ascI, Bool.and_eq_true, decide_eq_true_eq] at hx hy
      simp only [List.length_cons] at hl
      by_cases e : x = y
      · subst e
        rw [ih xs x x hx.2 hy.2 (fun z hz => by
          have h1 := asc_gt xs x hx.2 z hz
          rcases List.mem_cons.1 (h z (List.mem_cons_of_mem _ hz)) with rfl | q
          · omega
          · exact q) (by omega)]
      · exfalso
        have hxy : x ∈ ys := by
          rcases List.mem_cons.1 (h x (by simp)) with q | q
          · exact absurd q e
          · exact q
        have h2 := asc_gt ys y hy.2 x hxy
        have := asc_len ys (x :: xs) b y hxx hy.2 (fun z hz => by
          rcases List.mem_cons.1 hz with rfl | hz
          · exact hxy
          · have h1 := asc_gt xs x hx.2 z hz
            rcases List.mem_cons.1 (h z (List.mem_cons_of_mem _ hz)) with rfl | q
            · omega
            · exact q)
        simp only [List.length_cons] at this; omega
theorem proper_asc {c : Ch} (h : properB c = true) : ascI 0 c.set = true ∧ c.dev ∈ c.set ∧ 1 ≤ c.set.length ∧ c.set.length ≤ 8 := by
  have := proper_small h
  simp only [properB, Bool.and_eq_true, decide_eq_true_eq] at h
  exact ⟨h.2.2.2.1, h.2.2.2.2, this.1, this.2⟩
theorem alike_like {c d : Ch} (hc : properB c = true) (hd : properB d = true) : alikeB c d = likeB c d := by
  obtain ⟨c1, _⟩ := proper_asc hc
  obtain ⟨d1, _⟩ := proper_asc hd
  rw [Bool.eq_iff_iff]
  simp only [alikeB, likeB, partB, Bool.and_eq_true, decide_eq_true_eq, List.all_eq_true]
  constructor
  · rintro ⟨h1, h2, h3⟩
    exact ⟨h1, asc_eq _ _ 0 0 c1 d1 h3 (by omega)⟩
  · rintro ⟨h1, h2⟩
    exact ⟨h1, by rw [h2], fun x hx => by rw [← h2]; exact hx⟩
theorem like_comm (c d : Ch) : likeB c d = likeB d c := by
  unfold likeB
  rw [Bool.eq_iff_iff]
  simp only [Bool.and_eq_true, decide_eq_true_eq]
  exact ⟨fun h => ⟨h.1.symm, h.2.symm⟩, fun h => ⟨h.1.symm, h.2.symm⟩⟩
theorem any_congr' {s : List Ch} {f g : Ch → Bool} (h : ∀ d ∈ s, f d = g d) : s.any f = s.any g := by
  induction s with
  | nil => rfl
  | cons d r ih => simp only [List.any_cons]; rw [h d (by simp), ih (fun x hx => h x (List.mem_cons_of_mem _ hx))]
theorem valid_rv : ∀ (l s : List Ch), (∀ d ∈ s, properB d = true) → validGo s l = rvGo s l := by
  intro l
  induction l with
  | nil => intro s _; rfl
  | cons c r ih =>
    intro s hs
    rw [validGo, rvGo]
    cases hp : properB c with
    | false => rfl
    | true =>
      rw [any_congr' (fun d hd => (alike_like hp (hs d hd)).symm), ih (s ++ [c]) (fun d hd => (List.mem_append.1 hd).elim (hs d) (fun h => by rw [List.mem_singleton.1 h]; exact hp))]
theorem validM_eq (l : List Ch) : validM l = rvalidM l := by
  unfold validM rvalidM
  rw [valid_rv l [] (fun _ h => by cases h), Bool.and_comm]
theorem rem_eq (l : List Ch) (c : Ch) : rememberP l c = rRemP l c := by
  unfold rememberP rRemP
  rw [← validM_eq]
  cases hv : validM l with
  | false => rfl
  | true =>
    cases hp : properB c with
    | false => rfl
    | true =>
      simp only [Bool.true_eq_false, if_false]
      have hm : validGo [] l = true := by simp only [validM, Bool.and_eq_true] at hv; exact hv.2
      have e : l.filter (fun d => !likeB c d) = keepR c l := by
        unfold keepR
        refine List.filter_congr fun d hd => ?_
        rw [alike_like (validGo_mem l [] hm d hd) hp, like_comm]
      rw [e]
      have hl := (valid_small hv).1
      have hk : (keepR c l).length ≤ l.length := List.length_filter_le _ _
      congr 1
      split
      · rename_i h
        congr 1
        simp only [List.length_append, List.length_cons, List.length_nil] at h ⊢; omega
      · rename_i h
        have : (keepR c l ++ [c]).length - 32 = 0 := by omega
        rw [this, List.drop_zero]
theorem valid_iff : ∀ (l s : List Ch), validGo s l = true ↔ (∀ d ∈ l, properB d = true) ∧ l.Pairwise (fun x y => likeB y x = false) ∧ ∀ x ∈ s, ∀ y ∈ l, likeB y x = false := by
  intro l
  induction l with
  | nil => intro s; simp [validGo]
  | cons c r ih =>
    intro s
    rw [validGo]
    simp only [Bool.and_eq_true, ih, List.pairwise_cons, Bool.not_eq_true', List.any_eq_false]
    constructor
    · rintro ⟨h1, h2, h3, h4, h5⟩
      refine ⟨fun d hd => (List.mem_cons.1 hd).elim (fun e => by rw [e]; exact h1) (h3 d), ⟨fun y hy => h5 c (by simp) y hy, h4⟩, fun x hx y hy => ?_⟩
      rcases List.mem_cons.1 hy with rfl | hy
      · simpa using h2 x hx
      · exact h5 x (List.mem_append_left _ hx) y hy
    · rintro ⟨h1, ⟨h2, h3⟩, h4⟩
      refine ⟨h1 c (by simp), fun x hx => by simpa using h4 x hx c (by simp), fun d hd => h1 d (List.mem_cons_of_mem _ hd), h3, fun x hx y hy => ?_⟩
      rcases List.mem_append.1 hx with hx | hx
      · exact h4 x hx y (List.mem_cons_of_mem _ hy)
      · rw [List.mem_singleton.1 hx]; exact h2 y hy
theorem valid_rem (l : List Ch) (c : Ch) (hv : validM l = true) (hp : properB c = true) : ∃ X, rememberP l c = (X ++ [c], 0) ∧ X.Sublist (l.filter fun d => !likeB c d) ∧ (l.length < 32 → X = l.filter fun d => !likeB c d) ∧ validM (X ++ [c]) = true := by
  obtain ⟨s1, _⟩ := valid_small hv
  have hF : (l.filter fun d => !likeB c d).length ≤ l.length := List.length_filter_le _ _
  have main : ∀ X : List Ch, X.Sublist (l.filter fun d => !likeB c d) → X.length + 1 ≤ 32 → validM (X ++ [c]) = true := by
    intro X hX hl
    simp only [validM, Bool.and_eq_true, decide_eq_true_eq] at hv ⊢
    obtain ⟨v1, v2, v3⟩ := (valid_iff l []).1 hv.2
    have hXl : X.Sublist l := hX.trans List.filter_sublist
    refine ⟨by simp only [List.length_append, List.length_cons, List.length_nil]; omega, (valid_iff _ []).2 ⟨fun d hd => ?_, ?_, fun _ h => by cases h⟩⟩
    · rcases List.mem_append.1 hd with h | h
      · exact v1 d (hXl.subset h)
      · rw [List.mem_singleton.1 h]; exact hp
    · rw [List.pairwise_append]
      refine ⟨v2.sublist hXl, by simp, fun x hx y hy => ?_⟩
      rw [List.mem_singleton.1 hy]
      simpa using (List.mem_filter.1 (hX.subset hx)).2
  unfold rememberP
  rw [hv, hp, if_neg (by simp), if_neg (by simp)]
  by_cases h : 32 < ((l.filter fun d => !likeB c d) ++ [c]).length
  · rw [if_pos h]
    simp only [List.length_append, List.length_cons, List.length_nil] at h
    have hne : 1 ≤ (l.filter fun d => !likeB c d).length := by omega
    refine ⟨(l.filter fun d => !likeB c d).drop 1, ?_, List.drop_sublist _ _, fun hl => by omega, main _ (List.drop_sublist _ _) (by rw [List.length_drop]; omega)⟩
    rw [List.drop_append_of_le_length hne]
  · rw [if_neg h]
    simp only [List.length_append, List.length_cons, List.length_nil] at h
    exact ⟨_, rfl, List.Sublist.refl _, fun _ => rfl, main _ (List.Sublist.refl _) (by omega)⟩
def Asc (l : List Kp) : Prop := l.Pairwise fun a b => a.id < b.id
theorem Asc.get {l : List Kp} (h : Asc l) : ∀ (i j : Nat) (hi : i < l.length) (hj : j < l.length), i < j → l[i].id < l[j].id := fun i j hi hj hij => List.pairwise_iff_getElem.1 h i j hi hj hij
structure Plc (l : List Kp) (id : Int) (R : Nat) : Prop where
  le : R ≤ l.length
  lo : ∀ m (h : m < l.length), m < R → l[m].id < id
  hi : ∀ m (h : m < l.length), R ≤ m → ¬ l[m].id < id
theorem Plc.eq {l : List Kp} {id : Int} {R S : Nat} (h : Plc l id R) (k : Plc l id S) : R = S := by
  rcases Nat.lt_trichotomy R S with q | q | q
  · have h1 : R < l.length := by have := k.le; omega
    exact absurd (k.lo R h1 q) (h.hi R h1 (Nat.le_refl _))
  · exact q
  · have h1 : S < l.length := by have := h.le; omega
    exact absurd (h.lo S h1 q) (k.hi S h1 (Nat.le_refl _))
theorem ins_plc {l : List Kp} (h : Asc l) (id : Int) : Plc l id (insI l id) := by
  refine ⟨ins_le l id, fun m hm hlt => ins_lt l id m hm hlt, fun m hm hge => ?_⟩
  have h1 : insI l id < l.length := by omega
  have h2 := ins_at l id h1
  rcases Nat.lt_or_ge (insI l id) m with q | q
  · have := h.get _ _ h1 hm q
    omega
  · have e : insI l id = m := by omega
    subst e
    exact h2
theorem bs_plc {l : List Kp} (h : Asc l) (id : Int) : ∀ i j, i ≤ j → j ≤ l.length → (∀ m (hm : m < l.length), m < i → l[m].id < id) → (∀ m (hm : m < l.length), j ≤ m → ¬ l[m].id < id) → Plc l id (bsW l id i j) := by
  intro i j
  fun_induction bsW l id i j with
  | case1 i j hij h2 ih =>
    intro _ hj hlo hhi
    have hm : (i + j) / 2 < l.length := by omega
    have hg : l.getD ((i + j) / 2) kp0 = l[(i + j) / 2] := by simp [hm]
    rw [hg] at h2
    refine ih (by omega) hj (fun m hm' hlt => ?_) hhi
    rcases Nat.lt_or_ge m ((i + j) / 2) with q | q
    · have := h.get m _ hm' hm q
      omega
    · have e : m = (i + j) / 2 := by omega
      subst e
      exact h2
  | case2 i j hij h2 ih =>
    intro _ hj hlo hhi
    have hm : (i + j) / 2 < l.length := by omega
    have hg : l.getD ((i + j) / 2) kp0 = l[(i + j) / 2] := by simp [hm]
    rw [hg] at h2
    refine ih (by omega) (by omega) hlo (fun m hm' hge => ?_)
    rcases Nat.lt_or_ge ((i + j) / 2) m with q | q
    · have := h.get _ m hm hm' q
      omega
    · have e : m = (i + j) / 2 := by omega
      subst e
      exact h2
  | case3 i j hij =>
    intro h0 hj hlo hhi
    have e : i = j := by omega
    subst e
    exact ⟨hj, hlo, hhi⟩
theorem bs_ins {l : List Kp} (h : Asc l) (id : Int) : bsW l id 0 l.length = insI l id :=
  (bs_plc h id 0 l.length (Nat.zero_le _) (Nat.le_refl _) (fun m _ hm => absurd hm (Nat.not_lt_zero _)) (fun m hm hge => by omega)).eq (ins_plc h id)
theorem place_none (id : Int) : ∀ (l : List Kp) (n : Nat), (∀ k ∈ l, k.id ≠ id) → placeGo id l n = -1
  | [], _, _ => rfl
  | k :: t, n, h => by
    rw [placeGo, if_neg (h k (List.mem_cons_self ..))]
    exact place_none id t _ fun x hx => h x (List.mem_cons_of_mem _ hx)
theorem place_eq (id : Int) : ∀ (l : List Kp) (n : Nat), Asc l → placeGo id l n = if hasW l id (insI l id) = true then ((n + insI l id : Nat) : Int) else -1
  | [], n, _ => by simp [placeGo, hasW]
  | k :: t, n, h => by
    have h' : Asc t := (List.pairwise_cons.1 h).2
    have hk := (List.pairwise_cons.1 h).1
    rw [placeGo]
    by_cases e : k.id = id
    · have e0 : insI (k :: t) id = 0 := by simp [insI, List.takeWhile_cons, e]
      rw [if_pos e, e0]
      simp [hasW, e]
    · rw [if_neg e]
      by_cases q : k.id < id
      · have e1 : insI (k :: t) id = insI t id + 1 := by simp [insI, List.takeWhile_cons, q]
        rw [place_eq id t (n + 1) h', e1]
        have e2 : hasW (k :: t) id (insI t id + 1) = hasW t id (insI t id) := by simp [hasW]
        rw [e2]
        split
        · congr 1; omega
        · rfl
      · have e0 : insI (k :: t) id = 0 := by simp [insI, List.takeWhile_cons, q]
        rw [e0, place_none id t (n + 1) (fun x hx => by have := hk x hx; omega)]
        simp [hasW, e]
theorem step_eq (s : Se) (r : Rc) (h : Asc s.streams) : stepP s r (bsW s.streams r.id 0 s.streams.length) (hasW s.streams r.id (bsW s.streams r.id 0 s.streams.length)) = rstepP s r (placeGo r.id s.streams 0) := by
  rw [bs_ins h, place_eq _ _ _ h, stepP, rstepP, rem_eq]
  generalize insI s.streams r.id = T
  generalize hasW s.streams r.id T = H
  have a1 : (0 : Int) ≤ ((0 + T : Nat) : Int) := by omega
  have a2 : ¬ ((0 + T : Nat) : Int) < 0 := by omega
  have a3 : ((0 + T : Nat) : Int).toNat = T := by omega
  cases H with
  | true => rw [if_pos O, if_pos O, if_pos a1, if_neg (show ¬ true = false by decide), if_neg a2, a3]
  | false => rw [if_neg (show ¬ false = true by decide), if_neg (show ¬ false = true by decide), if_neg (show ¬ (0 : Int) ≤ -1 by decide), if_pos O, if_pos (show (-1 : Int) < 0 by decide)]
theorem apply_eq (okT : List UInt8 → Bool) (s : Se) (r : Rc) (h : Asc s.streams) : applyP okT s r = rapplyP okT s r := by
  rw [applyP, rapplyP, step_eq s r h]
abbrev Rc.pv (r : Rc) : List PV := [.v (.int .i64 r.kind), .v (.int .i64 r.id), .v (.string (bs r.role)), .v (.int .i64 r.dir), .v (.int .i64 r.ch), .v (.int .i64 r.rate), .v (.int .i64 r.lat), .v (.int .i64 r.n), .v (.int .u64 r.dev), .sl 1 (ids r.set), .v (.string (bs r.text))]
abbrev rcs (l : List Rc) : List (List PV) := l.map Rc.pv
def replayGo (okT : List UInt8 → Bool) : List Rc → Se → Nat → Se × Nat × Int
  | [], s, n => (s, n, 0)
  | r :: t, s, n => if (applyP okT s r).2 = 0 then replayGo okT t (applyP okT s r).1 (n + 1) else (s, n, (applyP okT s r).2)
theorem rem_ok (l : List Ch) (c : Ch) : (rememberP l c).1.length ≤ 32 ∧ ∀ d ∈ (rememberP l c).1, properB d = true := by
  cases hv : validM l with
  | false => rw [rememberP, hv]; simp
  | true =>
    cases hp : properB c with
    | false => rw [rememberP, hv, hp]; simp
    | true =>
      obtain ⟨X, e, h1, h2, h3⟩ := valid_rem l c hv hp
      rw [e]
      refine ⟨(valid_small h3).1, fun d hd => ?_⟩
      have := ((valid_iff _ _).1 (by simp only [validM, Bool.and_eq_true] at h3; exact h3.2)).1
      exact this d hd
theorem Ch.ok_of {c : Ch} (h : properB c = true) : c.ok := by
  have h2 := proper_small h
  simp only [properB, nameB, Bool.and_eq_true, decide_eq_true_eq] at h
  exact ⟨by omega, by omega⟩
theorem stepP_ok {s : Se} {r : Rc} (h : s.ok) (i : Nat) (b : Bool) : (stepP s r i b).1.ok := by
  have hz : Se.zero.ok := ⟨by simp [Se.zero], by simp [Se.zero], fun c hc => by simp [Se.zero] at hc, fun c hc => by simp [Se.zero] at hc⟩
  obtain ⟨r1, r2⟩ := rem_ok s.mem ⟨r.role, r.set, r.dev⟩
  obtain ⟨h1, h2, h3, h4⟩ := h
  rw [stepP]
  (repeat' split)
  all_goals first
    | exact hz
    | exact ⟨h1, h2, h3, h4⟩
    | exact ⟨h1, Nat.le_trans r1 (by decide), fun c hc => Ch.ok_of (r2 c hc), fun c hc => by have := proper_small (r2 c hc); omega⟩
    | (refine ⟨?_, h2, h3, h4⟩; simp only [List.length_append, List.length_cons, List.length_take, List.length_drop, List.length_modify]; omega)
theorem applyP_ok {okT : List UInt8 → Bool} {s : Se} {r : Rc} (h : s.ok) : (applyP okT s r).1.ok := by
  rw [applyP]
  split
  · exact ⟨by simp [Se.zero], by simp [Se.zero], fun c hc => by simp [Se.zero] at hc, fun c hc => by simp [Se.zero] at hc⟩
  · exact stepP_ok h _ _
set_option maxHeartbeats 4000000 in
theorem Replay_c (okT : List UInt8 → Bool) (l : List Rc) (f : Bool) (hl : l.length ≤ 9223372036854775807) (ho : ∀ r ∈ l, r.ok) (hP : ∀ r ∈ l, PsOk okT 52 r) : ACalls Tryz.prog 17 [.sl 11 (rcs l) f] [] (.tup [.agg (replayGo okT l Se.zero 0).1.cells, .v (.int .i64 ((replayGo okT l Se.zero 0).2.1 : Int)), .v (.int .i64 (replayGo okT l Se.zero 0).2.2)]) [] := by
  have hll : (rcs l).length = l.length := by simp
  generalize hr : replayGo okT l Se.zero 0 = R
  refine (ACalls.of (fn := Tryz.f17) Tryz.func17 O O Tryz.ntmps17 (fun I M w own => ?_))
  (repeat' (first|refine AW.seq_k (fun K hK=>?_)|(refine hK _ ?_;clear hK)|refine AW.block ?_|refine AW.rI [0, 1, 2] O ?_|refine UA ?_|fail))
  refine AW.loopF (X := Nat × Se) (fun x => ⟨[(0, .sl 11 (rcs l) f), (2, .ptr 0 0), (5, .ptr 1 0), (10, .sl 11 (rcs l) f), (11, .v (.int .i64 (l.length : Int))), (12, .v (.int .i64 (x.1 : Int)))], [.box [.v (.slice none 0 0), .v (.slice none 0 0), .v (.string (bs []))], .box x.2.cells]⟩)
    (fun x => x.1 ≤ l.length ∧ x.2.ok ∧ replayGo okT (l.drop x.1) x.2 x.1 = R) (fun x => l.length - x.1) (0, Se.zero) ?_ ?_ ?_
  · refine Conv.mk [0, 1] O O O ?_ O ?_
    · (repeat' (first|exact V0|refine V3 ?_|refine V2 ?_ ?_|fail))
      (all_goals (try (first|refine CvL.eq ?_|refine Cv.eq ?_)))
      all_goals simp [AV.ren, renL]
    · refine Crs.cons (Cr.box ?_) O (Crs.cons (Cr.box ?_) O Crs.nil)
      all_goals (repeat' (first|exact V0|refine V3 ?_|refine V2 ?_ ?_|fail))
      (all_goals (try (first|refine CvL.eq ?_|refine Cv.eq ?_)))
      all_goals simp [AV.ren, renL]
  · exact ⟨Nat.zero_le _, ⟨by simp [Se.zero], by simp [Se.zero], fun c hc => by simp [Se.zero] at hc, fun c hc => by simp [Se.zero] at hc⟩, hr⟩
  · rintro ⟨i, s⟩ ⟨h1, h2, h3⟩
    simp only at h1 h2 h3 ⊢
    rcases Nat.lt_or_ge i l.length with h | h
    · have hA : At (rcs l) (i : Int) l[i].pv := At.mk i O (by simp [h])
      have hmem := List.getElem_mem h
      have hap := Apply_c okT s l[i] h2 (ho _ hmem) (hP _ hmem)
      have hok := applyP_ok (okT := okT) (r := l[i]) h2
      rw [List.drop_eq_getElem_cons h, replayGo] at h3
      generalize applyP okT s l[i] = q at hap hok h3
      (repeat' (first|refine AW.seq_k (fun K hK=>?_)|(refine hK _ ?_;clear hK)|refine AW.uC (fun hc=>?_) (fun hc=>?_)|refine AW.block ?_|refine AW.ret ?_|refine AW.skip ?_|exact trivial|refine AW.rI [3, 4, 5, 6, 7, 8, 9] O ?_|refine Run.c0 hap O O O O O O O O ?_|refine UA ?_|fail))
      · rw [if_neg hc] at h3
        subst h3
        ((first|refine RetOk.tup O O ?_|refine RetOk.one O ?_)<;>(repeat' (first|exact V0|refine V1 ?_|refine V2 ?_ ?_|fail)))
      · rw [if_pos (by omega)] at h3
        ((repeat (with_reducible refine inB_n ?_)); refine thenA_n ?_)
        refine ⟨(i + 1, q.1), ⟨h, hok, h3⟩, by simp only; omega, ?_⟩
        refine Conv.mk [0, 1] O O O ?_ O ?_
        · (repeat' (first|exact V0|refine V3 ?_|refine V2 ?_ ?_|fail))
          (all_goals (try (first|refine CvL.eq ?_|refine Cv.eq ?_)))
          all_goals simp [AV.ren, renL]
        · refine Crs.cons (Cr.box ?_) O (Crs.cons (Cr.box ?_) O Crs.nil)
          all_goals (repeat' (first|exact V0|refine V3 ?_|refine V2 ?_ ?_|fail))
    · rw [List.drop_eq_nil_of_le h, replayGo] at h3
      subst h3
      (repeat' (first|refine AW.seq_k (fun K hK=>?_)|(refine hK _ ?_;clear hK)|refine AW.uC (fun hc=>?_) (fun hc=>?_)|refine AW.exit ?_|refine AW.ret ?_|(clear hK;refine hK _ ?_;clear hK)|exact trivial|refine AW.rI [3, 10] O ?_|refine UA ?_|fail))
      ((first|refine RetOk.tup O O ?_|refine RetOk.one O ?_)<;>(repeat' (first|exact V0|refine V1 ?_|refine V2 ?_ ?_|fail)))
      (all_goals (try (first|refine CvL.eq ?_|refine Cv.eq ?_)))
      all_goals first | (simp [AV.ren]; done) | (simp [AV.ren]; omega)
end Go.Proofs.YtbbcokckealagaaGreat
