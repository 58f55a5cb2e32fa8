/-
  Walk of the law's text of rules: the lines of rules, changed here and there.
-/
import Derived.Test.YtpacgphnpalepaaQAA
import Derived.Test.YtpacgphnpalepaaQAJ
import Derived.Test.YtpacgphnpalepaaQBJ
import Derived.Test.YtpacgphnpalepaaQAP
namespace Go.Proofs.Ytpacgphnpalepaa
set_option linter.unusedVariables false
set_option linter.unusedSimpArgs false
def RuOk (r : Ru) : Prop := r.cond.length ≤ 16 ∧ (∀ t ∈ r.cond, t.2.length ≤ 100) ∧ r.hd.role.length ≤ 100 ∧ r.hd.cls.length ≤ 100
theorem ruL_ok (l : List Int) (a : Nat) : RuOk (ruL l a) := by
  obtain ⟨_, c2, c3⟩ := condL_ok l (dkA l (dkA l a))
  refine ⟨c2, c3, ?_, ?_⟩
  · show (ruRo l a).length ≤ 100
    rw [ruRo]
    split
    · decide
    · exact (role_ok (dkN_rng l _ 4 (by decide))).2
  · show (if ruK l a = 1 then classAt (dkN l (ruA4 l a) 4) else []).length ≤ 100
    split
    · exact (class_ok (dkN_rng l _ 4 (by decide))).2
    · simp
theorem rusL_ok (l : List Int) : ∀ (k a : Nat) (o : List Ru), (∀ r ∈ o, RuOk r) → a ≤ l.length → (∀ r ∈ (rusL l k a o).1, RuOk r) ∧ (rusL l k a o).1.length = o.length + k ∧ (rusL l k a o).2 ≤ l.length
  | 0, a, o, h, ha => ⟨h, by simp [rusL], ha⟩
  | k + 1, a, o, h, ha => by
    rw [rusL]
    have := rusL_ok l k (ruA l a) (o ++ [ruL l a]) (fun r hr => by
      rcases List.mem_append.1 hr with hr | hr
      · exact h r hr
      · obtain rfl := List.mem_singleton.1 hr
        exact ruL_ok l a) (ruA_le ha)
    rw [List.length_append, List.length_singleton] at this
    refine ⟨this.1, by omega, this.2.2⟩
theorem rulesL_ok (l : List Int) (a : Nat) (ha : a ≤ l.length) : (∀ r ∈ rulesL l a, RuOk r) ∧ (rulesL l a).length ≤ 5 ∧ rulesA l a ≤ l.length := by
  obtain ⟨h1, h2, h3⟩ := rusL_ok l (dkN l a 6).toNat (dkA l a) [] (by simp) (dkA_le ha)
  have := dkN_rng l a 6 (by decide)
  refine ⟨h1, ?_, h3⟩
  show (rusL l (dkN l a 6).toNat (dkA l a) []).1.length ≤ 5
  rw [h2, List.length_nil]
  omega
theorem fmtGo_len : ∀ (t : List Ru) (s : List UInt8), (fmtGo s t).1.length ≤ s.length + 4000 * t.length
  | [], s => by simp [fmtGo]
  | r :: t, s => by
    rw [fmtGo]
    split
    · rename_i h
      have := fmtGo_len t (s ++ lineP r)
      obtain ⟨w1, w2⟩ := lineP_len h
      have w3 : (lineP r).length ≤ 2201 := by rw [lineP]; simp only [List.length_append, List.length_cons, List.length_nil]; omega
      rw [List.length_append] at this
      rw [List.length_cons]
      omega
    · simp
theorem formatF_len (t : List Ru) : (formatF t).1.length ≤ 256000 := by
  rw [formatF]
  split
  · simp
  · have := fmtGo_len t []
    simp only [List.length_nil] at this
    omega
def litA : List UInt8 := [32, 40, 32, 110, 111, 116, 32, 97, 110, 100, 32, 111, 114, 32, 119, 104, 101, 110, 32, 53, 32, 97, 110, 121, 10, 35, 32, 120, 10]
def litB : List UInt8 := [32, 10, 40, 41, 48, 35, 34, 97]
def tStep (l : List Int) (b : List UInt8) (a : Nat) : List UInt8 × Nat :=
  let i := (dkN l a (b.length : Int)).toNat
  let a1 := dkA l a
  let c := dkN l a1 5
  let a2 := dkA l a1
  if c = 0 then (b.take i ++ litA.drop (dkN l a2 28).toNat ++ b.drop i, dkA l a2)
  else if c = 1 then (b.take i ++ b.drop (i + 1), a2)
  else if c = 2 then (b.set i (litB.getD (dkN l a2 8).toNat 0), dkA l a2)
  else if c = 3 then (b.take i, a2) else (b, a2)
def tGo (l : List Int) : Nat → List UInt8 → Nat → List UInt8
  | 0, b, _ => b
  | k + 1, b, a => if b = [] then b else tGo l k (tStep l b a).1 (tStep l b a).2
def textL (l : List Int) : List UInt8 := tGo l (dkN l (rulesA l 0) 3).toNat (formatF (rulesL l 0)).1 (dkA l (rulesA l 0))
theorem tStep_len (l : List Int) (b : List UInt8) (a : Nat) : (tStep l b a).1.length ≤ b.length + 29 := by
  have hl : litA.length = 29 := rfl
  rw [tStep]
  split
  · simp only [List.length_append, List.length_take, List.length_drop]; omega
  split
  · simp only [List.length_append, List.length_take, List.length_drop]; omega
  split
  · simp
  split
  · simp only [List.length_take]; omega
  · simp
theorem tGo_len (l : List Int) : ∀ (k : Nat) (b : List UInt8) (a : Nat), (tGo l k b a).length ≤ b.length + 29 * k
  | 0, b, a => by simp [tGo]
  | k + 1, b, a => by
    rw [tGo]
    split
    · omega
    · have := tGo_len l k (tStep l b a).1 (tStep l b a).2
      have := tStep_len l b a
      omega
theorem textL_len (l : List Int) : (textL l).length ≤ 260000 := by
  have h1 := tGo_len l (dkN l (rulesA l 0) 3).toNat (formatF (rulesL l 0)).1 (dkA l (rulesA l 0))
  have h2 := formatF_len (rulesL l 0)
  have h3 := dkN_rng l (rulesA l 0) 3 (by decide)
  rw [textL]
  omega
theorem tStep_a {l : List Int} {b : List UInt8} {a : Nat} (h : a ≤ l.length) : (tStep l b a).2 ≤ l.length := by
  have h1 := dkA_le h
  have h2 := dkA_le h1
  have h3 := dkA_le h2
  rw [tStep]
  split
  · exact h3
  split
  · exact h2
  split
  · exact h3
  split <;> exact h2
set_option maxHeartbeats 4000000 in
theorem text_c (l : List Int) (f : Bool) (hl : Fits l) : ACalls Try.prog 8 [.sl 1 (ivs l) f] [] (.v (.string (bs (textL l)))) [] := by
  obtain ⟨g1, g2, g3⟩ := rulesL_ok l 0 (Nat.zero_le _)
  have hN0 := New_c l f
  have hR := Rules_c l hl 0 (Nat.zero_le _)
  have hF := rform_c (rulesL l 0) false (by omega) (fun r hr => by
    obtain ⟨q1, q2, q3, q4⟩ := g1 r hr
    exact ⟨by omega, fun t ht => by have := q2 t ht; omega, by omega, by omega⟩)
  have hS := formatF_len (rulesL l 0)
  have hN3 := Next_c l hl (rulesA l 0) g3 3 (by decide)
  have hk := dkN_rng l (rulesA l 0) 3 (by decide)
  have ha0 := dkA_le g3
  generalize hT : textL l = T
  rw [textL] at hT
  generalize rulesL l 0 = R at hR hF hS hT
  generalize rulesA l 0 = a0 at hR hN3 hk ha0 hT
  generalize dkN l a0 3 = k0 at hN3 hk hT
  generalize dkA l a0 = a1 at hN3 ha0 hT
  generalize formatF R = S at hF hS hT
  obtain ⟨S, er⟩ := S
  obtain ⟨k0, rfl⟩ : ∃ k : Nat, k0 = (k : Int) := ⟨k0.toNat, by omega⟩
  simp only [Int.toNat_natCast] at hT hF hS
  refine (ACalls.of (fn := Try.f8) Try.func8 Z Z Try.ntmps8 (fun I M w own => ?_))
  (repeat' (first|refine AW.seq_k (fun K hK=>?_)|(refine hK _ ?_;clear hK)|refine AW.block ?_|refine AW.rI [0, 1, 2, 3, 4] Z ?_|refine Run.cSA [] hN0 Z Z Z Z Z Z Z Z Z Z Z Z ?_|refine Run.cSA [0] hR Z Z Z Z Z Z Z Z Z Z Z Z ?_|refine Run.c0 hF Z Z Z Z Z Z Z Z ?_|refine Run.cSA [0] hN3 Z Z Z Z Z Z Z Z Z Z Z Z ?_|refine Ut2 ?_|fail))
  refine AW.loopF (X := Nat × List UInt8 × Nat) (fun y => ⟨[(3, .ptr 0 0), (6, .mb 1 0 (some y.2.1.length)), (7, .v (.int .i64 (y.1 : Int)))], [dkR l y.2.2, .mby y.2.1]⟩)
    (fun y => y.2.2 ≤ l.length ∧ y.1 ≤ k0 ∧ y.2.1.length + 29 * y.1 ≤ 256000 + 29 * k0 ∧ tGo l y.1 y.2.1 y.2.2 = T) (fun y => y.1) (k0, S, a1) ?_ ⟨ha0, Nat.le_refl _, by simp only; omega, hT⟩ ?_
  · refine Conv.mk [0, 1] Z Z Z ?_ Z ?_
    · (repeat' (first|exact V0|refine V3 ?_|refine V2 ?_ ?_|fail))
    · (repeat' (first|exact V0|refine V3 ?_|refine V2 ?_ ?_|fail))
      all_goals rfl
  rintro ⟨k, b, a⟩ ⟨j1, j2, j3, j4⟩
  simp only at j1 j2 j3 j4 ⊢
  cases k with
  | zero =>
    rw [tGo] at j4
    subst j4
    have d0 : ¬ ((0 : Nat) : Int) > 0 := by omega
    (repeat' (first|refine AW.seq_k (fun K hK=>?_)|(refine hK _ ?_;clear hK)|refine AW.uC (fun hc=>?_) (fun hc=>?_)|refine AW.exit ?_|refine AW.ret ?_|(clear hK;refine hK _ ?_;clear hK)|exact trivial|refine AW.rI [5, 17] Z ?_|refine Udt2 ?_|fail))
    ((first|refine RetOk.tupS [] Z Z Z Z Z ?_ ?_|refine RetOk.oneS [] Z Z Z Z ?_ ?_)<;>(repeat' (first|exact V0|refine V1 ?_|refine V2 ?_ ?_|fail)))
    all_goals first | rfl | (refine Cv.eq ?_; simp [AV.ren, renL]; done)
  | succ k =>
  rw [tGo] at j4
  have d0 : ((k + 1 : Nat) : Int) > 0 := by omega
  by_cases hb : b = []
  · rw [if_pos hb] at j4
    subst hb
    subst j4
    have d1 : ¬ ((([] : List UInt8).length : Nat) : Int) > 0 := by simp
    (repeat' (first|refine AW.seq_k (fun K hK=>?_)|(refine hK _ ?_;clear hK)|refine AW.uC (fun hc=>?_) (fun hc=>?_)|refine AW.exit ?_|refine AW.ret ?_|(clear hK;refine hK _ ?_;clear hK)|exact trivial|refine AW.rI [5, 17] Z ?_|refine Udt2 ?_|fail))
    ((first|refine RetOk.tupS [] Z Z Z Z Z ?_ ?_|refine RetOk.oneS [] Z Z Z Z ?_ ?_)<;>(repeat' (first|exact V0|refine V1 ?_|refine V2 ?_ ?_|fail)))
    all_goals first | rfl | (refine Cv.eq ?_; simp [AV.ren, renL]; done)
  rw [if_neg hb] at j4
  have hbp : 0 < b.length := List.length_pos_iff.2 hb
  have d1 : ((b.length : Nat) : Int) > 0 := by omega
  have hNi := Next_c l hl a j1 (b.length : Int) ⟨by omega, by omega⟩
  have hi := dkN_rng l a (b.length : Int) (by omega)
  have b1 := dkA_le j1
  have hsl := tStep_len l b a
  have hsa := tStep_a (b := b) j1
  have hS' : tStep l b a = tStep l b a := rfl
  conv at hS' => rhs; rw [tStep]
  generalize tStep l b a = st at hS' hsl hsa j4
  obtain ⟨sb, sa⟩ := st
  simp only at hS' hsl hsa j4
  generalize dkN l a (b.length : Int) = i at hNi hi hS'
  generalize dkA l a = a1 at hNi b1 hS'
  obtain ⟨i, rfl⟩ : ∃ q : Nat, i = (q : Int) := ⟨i.toNat, by omega⟩
  have hN5 := Next_c l hl a1 b1 5 (by decide)
  have hc := dkN_rng l a1 5 (by decide)
  have b2 := dkA_le b1
  generalize dkN l a1 5 = c at hN5 hc hS'
  generalize dkA l a1 = a2 at hN5 b2 hS'
  have hN28 := Next_c l hl a2 b2 28 (by decide)
  have h28 := dkN_rng l a2 28 (by decide)
  have hN8 := Next_c l hl a2 b2 8 (by decide)
  have h8 := dkN_rng l a2 8 (by decide)
  generalize dkN l a2 28 = p at hN28 h28 hS'
  generalize dkN l a2 8 = q at hN8 h8 hS'
  generalize dkA l a2 = a3 at hN28 hN8 hS'
  obtain ⟨p, rfl⟩ : ∃ q : Nat, p = (q : Int) := ⟨p.toNat, by omega⟩
  obtain ⟨q, rfl⟩ : ∃ r : Nat, q = (r : Int) := ⟨q.toNat, by omega⟩
  simp only [Int.toNat_natCast] at hS'
  have hil : i < b.length := by omega
  obtain ⟨B1, hB1⟩ : ∃ B, b.take i = B := ⟨_, rfl⟩
  obtain ⟨B2, hB2⟩ : ∃ B, b.drop i = B := ⟨_, rfl⟩
  obtain ⟨B3, hB3⟩ : ∃ B, b.drop (i + 1) = B := ⟨_, rfl⟩
  have r1 : (b.drop 0).take ((i : Int)).toNat = B1 := by simpa using hB1
  have r2 : (b.drop (0 + ((i : Int)).toNat)).take (b.length - ((i : Int)).toNat) = B2 := by rw [← hB2]; simp [List.take_of_length_le]
  have r3 : (b.drop (0 + ((i : Int) + 1).toNat)).take (b.length - ((i : Int) + 1).toNat) = B3 := by
    have : ((i : Int) + 1).toNat = i + 1 := by omega
    rw [this, ← hB3]
    simp [List.take_of_length_le]
  have n1 : B1.length = i := by rw [← hB1, List.length_take]; omega
  have n2 : B2.length = b.length - i := by rw [← hB2, List.length_drop]
  have n3 : B3.length = b.length - (i + 1) := by rw [← hB3, List.length_drop]
  rw [hB1, hB2, hB3] at hS'
  have hcc : c = 0 ∨ c = 1 ∨ c = 2 ∨ c = 3 ∨ c = 4 := by omega
  rcases hcc with rfl | rfl | rfl | rfl | rfl
  · rw [if_pos Z] at hS'
    obtain ⟨rfl, rfl⟩ := Prod.mk.inj hS'
    have e0 : (0 : Int) = 0 := rfl
    (repeat' (first|refine AW.seq_k (fun K hK=>?_)|(refine hK _ ?_;clear hK)|refine AW.uC (fun hc=>?_) (fun hc=>?_)|refine AW.block ?_|refine AW.skip ?_|exact trivial|refine AW.draw (id := 10) (by kernel_rfl) ?_|refine AW.rI [5, 7, 8, 9, 6] Z ?_|refine Run.cSA [0] hNi Z Z Z Z Z Z Z Z Z Z Z Z ?_|refine Run.cSA [0] hN5 Z Z Z Z Z Z Z Z Z Z Z Z ?_|refine Run.cSA [0] hN28 Z Z Z Z Z Z Z Z Z Z Z Z ?_|refine Udt2 ?_|fail))
    ((repeat (with_reducible refine inB_n ?_)); refine thenA_n ?_)
    refine ⟨(k, _, _), ⟨hsa, by simp only; omega, by simp only at hsl ⊢; omega, j4⟩, by simp only; omega, ?_⟩
    refine Conv.mk [0, 4] Z Z Z ?_ Z ?_
    · (repeat' (first|exact V0|refine V3 ?_|refine V2 ?_ ?_|fail))
      all_goals first | rfl | (refine Cv.eq ?_; simp [AV.ren, renL]; done) | (refine Cv.eq ?_; simp [AV.ren, renL]; exact IntWalk.i64_in _ (by omega)) | (refine Cv.eq ?_; simp [AV.ren, renL, litA]; omega)
    · (repeat' (first|exact V0|refine V3 ?_|refine V2 ?_ ?_|fail))
      all_goals rfl
  · rw [if_neg (by decide), if_pos Z] at hS'
    obtain ⟨rfl, rfl⟩ := Prod.mk.inj hS'
    have e0 : ¬ (1 : Int) = 0 := by decide
    have e1 : (1 : Int) = 1 := rfl
    (repeat' (first|refine AW.seq_k (fun K hK=>?_)|(refine hK _ ?_;clear hK)|refine AW.uC (fun hc=>?_) (fun hc=>?_)|refine AW.block ?_|refine AW.skip ?_|exact trivial|refine AW.draw (id := 12) (by kernel_rfl) ?_|refine AW.rI [5, 7, 8, 9, 11, 6] Z ?_|refine Run.cSA [0] hNi Z Z Z Z Z Z Z Z Z Z Z Z ?_|refine Run.cSA [0] hN5 Z Z Z Z Z Z Z Z Z Z Z Z ?_|refine Udt2 ?_|fail))
    ((repeat (with_reducible refine inB_n ?_)); refine thenA_n ?_)
    refine ⟨(k, _, _), ⟨hsa, by simp only; omega, by simp only at hsl ⊢; omega, j4⟩, by simp only; omega, ?_⟩
    refine Conv.mk [0, 3] Z Z Z ?_ Z ?_
    · (repeat' (first|exact V0|refine V3 ?_|refine V2 ?_ ?_|fail))
      all_goals first | rfl | (refine Cv.eq ?_; simp [AV.ren, renL]; done) | (refine Cv.eq ?_; simp [AV.ren, renL]; exact IntWalk.i64_in _ (by omega)) | (refine Cv.eq ?_; simp [AV.ren, renL, litA]; omega)
    · (repeat' (first|exact V0|refine V3 ?_|refine V2 ?_ ?_|fail))
      all_goals rfl
  · rw [if_neg (by decide), if_neg (by decide), if_pos Z] at hS'
    obtain ⟨rfl, rfl⟩ := Prod.mk.inj hS'
    have e0 : ¬ (2 : Int) = 0 := by decide
    have e1 : ¬ (2 : Int) = 1 := by decide
    have e2 : (2 : Int) = 2 := rfl
    have hch : [32, 10, 40, 41, 48, 35, 34, 97][((q : Int)).toNat]? = some (litB.getD q 0) := by
      have : q < 8 := by omega
      have hl : litB.length = 8 := rfl
      simp only [Int.toNat_natCast, List.getD]
      show litB[q]? = _
      rw [List.getElem?_eq_getElem (by omega)]
      rfl
    generalize litB.getD q 0 = ch at hch hsl j4
    (repeat' (first|refine AW.seq_k (fun K hK=>?_)|(refine hK _ ?_;clear hK)|refine AW.uC (fun hc=>?_) (fun hc=>?_)|refine AW.block ?_|refine AW.skip ?_|exact trivial|refine AW.rI [5, 7, 8, 9, 11, 13, 14, 6] Z ?_|refine Run.cSA [0] hNi Z Z Z Z Z Z Z Z Z Z Z Z ?_|refine Run.cSA [0] hN5 Z Z Z Z Z Z Z Z Z Z Z Z ?_|refine Run.cSA [0] hN8 Z Z Z Z Z Z Z Z Z Z Z Z ?_|refine Udt2 ?_|fail))
    ((repeat (with_reducible refine inB_n ?_)); refine thenA_n ?_)
    refine ⟨(k, _, _), ⟨hsa, by simp only; omega, by simp only at hsl ⊢; omega, j4⟩, by simp only; omega, ?_⟩
    refine Conv.mk [0, 1] Z Z Z ?_ Z ?_
    · (repeat' (first|exact V0|refine V3 ?_|refine V2 ?_ ?_|fail))
      all_goals first | rfl | (refine Cv.eq ?_; simp [AV.ren, renL]; done) | (refine Cv.eq ?_; simp [AV.ren, renL]; exact IntWalk.i64_in _ (by omega)) | (refine Cv.eq ?_; simp [AV.ren, renL, litA]; omega)
    · (repeat' (first|exact V0|refine V3 ?_|refine V2 ?_ ?_|fail))
      all_goals first | rfl | (simp; done)
  · rw [if_neg (by decide), if_neg (by decide), if_neg (by decide), if_pos Z] at hS'
    obtain ⟨rfl, rfl⟩ := Prod.mk.inj hS'
    have e0 : ¬ (3 : Int) = 0 := by decide
    have e1 : ¬ (3 : Int) = 1 := by decide
    have e2 : ¬ (3 : Int) = 2 := by decide
    have e3 : (3 : Int) = 3 := rfl
    (repeat' (first|refine AW.seq_k (fun K hK=>?_)|(refine hK _ ?_;clear hK)|refine AW.uC (fun hc=>?_) (fun hc=>?_)|refine AW.block ?_|refine AW.skip ?_|exact trivial|refine AW.rI [5, 7, 8, 9, 11, 13, 15, 16, 6] Z ?_|refine Run.cSA [0] hNi Z Z Z Z Z Z Z Z Z Z Z Z ?_|refine Run.cSA [0] hN5 Z Z Z Z Z Z Z Z Z Z Z Z ?_|refine Udt2 ?_|fail))
    ((repeat (with_reducible refine inB_n ?_)); refine thenA_n ?_)
    refine ⟨(k, _, _), ⟨hsa, by simp only; omega, by simp only at hsl ⊢; omega, j4⟩, by simp only; omega, ?_⟩
    refine Conv.mk [0, 1] Z Z Z ?_ Z ?_
    · (repeat' (first|exact V0|refine V3 ?_|refine V2 ?_ ?_|fail))
      all_goals first | rfl | (refine Cv.eq ?_; simp [AV.ren, renL]; done) | (refine Cv.eq ?_; simp [AV.ren, renL]; exact IntWalk.i64_in _ (by omega)) | (refine Cv.eq ?_; simp [AV.ren, renL, litA]; omega)
    · refine Crs.cons ?_ Z (Crs.cons (Cr.mbyP (by rw [← hB1]; exact List.take_prefix _ _)) Z Crs.nil)
      (repeat' (first|exact V0|refine V3 ?_|refine V2 ?_ ?_|fail))
      all_goals rfl
  · rw [if_neg (by decide), if_neg (by decide), if_neg (by decide), if_neg (by decide)] at hS'
    obtain ⟨rfl, rfl⟩ := Prod.mk.inj hS'
    have e0 : ¬ (4 : Int) = 0 := by decide
    have e1 : ¬ (4 : Int) = 1 := by decide
    have e2 : ¬ (4 : Int) = 2 := by decide
    have e3 : ¬ (4 : Int) = 3 := by decide
    (repeat' (first|refine AW.seq_k (fun K hK=>?_)|(refine hK _ ?_;clear hK)|refine AW.uC (fun hc=>?_) (fun hc=>?_)|refine AW.block ?_|refine AW.skip ?_|exact trivial|refine AW.rI [5, 7, 8, 9, 11, 13, 15, 6] Z ?_|refine Run.cSA [0] hNi Z Z Z Z Z Z Z Z Z Z Z Z ?_|refine Run.cSA [0] hN5 Z Z Z Z Z Z Z Z Z Z Z Z ?_|refine Udt2 ?_|fail))
    ((repeat (with_reducible refine inB_n ?_)); refine thenA_n ?_)
    refine ⟨(k, _, _), ⟨hsa, by simp only; omega, by simp only at hsl ⊢; omega, j4⟩, by simp only; omega, ?_⟩
    refine Conv.mk [0, 1] Z Z Z ?_ Z ?_
    · (repeat' (first|exact V0|refine V3 ?_|refine V2 ?_ ?_|fail))
      all_goals first | rfl | (refine Cv.eq ?_; simp [AV.ren, renL]; done) | (refine Cv.eq ?_; simp [AV.ren, renL]; exact IntWalk.i64_in _ (by omega)) | (refine Cv.eq ?_; simp [AV.ren, renL, litA]; omega)
    · (repeat' (first|exact V0|refine V3 ?_|refine V2 ?_ ?_|fail))
      all_goals rfl
end Go.Proofs.Ytpacgphnpalepaa
