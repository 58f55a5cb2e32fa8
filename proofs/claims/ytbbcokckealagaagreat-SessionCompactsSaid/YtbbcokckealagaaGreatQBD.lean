/-
  Walks of the reference's rules: the rule of a line.
-/
import Derived.Test.YtbbcokckealagaaGreatQAA
import Derived.Test.YtbbcokckealagaaGreatQBA
import Derived.Test.YtbbcokckealagaaGreatQBB
import Derived.Test.YtbbcokckealagaaGreatRdE
import Derived.Test.YtbbcokckealagaaGreatNumS
import Derived.Test.YtbbcokckealagaaGreatQAN
namespace Go.Proofs.YtbbcokckealagaaGreat
set_option linter.unusedVariables false
set_option linter.unusedSimpArgs false
def rCond (t : List Wd) : Option (List Tm) :=
  if t = [] then some [] else if qIs wWhen t ⟨0, false, []⟩ = true then
    (if (qEither (qPart t t.length) t ⟨1, false, []⟩).bad = true ∨ (qEither (qPart t t.length) t ⟨1, false, []⟩).pos < t.length then none else some (qEither (qPart t t.length) t ⟨1, false, []⟩).ts)
  else none
def rTail (hd : Hd) (t : List Wd) : Ru ⊕ Int :=
  match rCond t with
  | none => .inr 5
  | some c => if 16 < c.length ∧ validF ⟨hd, []⟩ = true then .inr 3 else if validF ⟨hd, c⟩ = true then .inl ⟨hd, c⟩ else .inr 5
def rRuleE : Ru ⊕ Int → AV
  | .inl r => .tup [.agg r.cells, .v (.int .i64 0)]
  | .inr e => .tup [.agg [.any, .any, .any, .any, .any], .v (.int .i64 e)]
abbrev zRu : List AV := [.v (.int .i64 0), .v (.string (bs [])), .v (.string (bs [])), .v (.int .i64 0), .v (.slice none 0 0)]
theorem qPart_nm (l : List Wd) (hs : ∀ x ∈ l, x.length ≤ 1099511627776) : ∀ (N : Nat) (s : Rq), (∀ t ∈ s.ts, t.2.length ≤ 1099511627776) → ∀ t ∈ (qPart l N s).ts, t.2.length ≤ 1099511627776 := by
  have hnamed : ∀ (k : Int) (s : Rq), (∀ t ∈ s.ts, t.2.length ≤ 1099511627776) → ∀ t ∈ (qNamed k l s).ts, t.2.length ≤ 1099511627776 := by
    intro k s h t ht
    rw [qNamed] at ht
    split at ht
    · exact h t ht
    · rename_i y hy
      split at ht
      · rcases List.mem_append.1 ht with h1 | h1
        · exact h t h1
        · obtain rfl := List.mem_singleton.1 h1
          exact hs y (List.mem_of_getElem? hy)
      · exact h t ht
  have happ : ∀ (k : Int) (s : Rq), (∀ t ∈ s.ts, t.2.length ≤ 1099511627776) → ∀ t ∈ (s.app k).ts, t.2.length ≤ 1099511627776 := by
    intro k s h t ht
    rcases List.mem_append.1 ht with h1 | h1
    · exact h t h1
    · obtain rfl := List.mem_singleton.1 h1
      exact Nat.zero_le _
  have hrest : ∀ (elem : Rq → Rq), (∀ s : Rq, (∀ t ∈ s.ts, t.2.length ≤ 1099511627776) → ∀ t ∈ (elem s).ts, t.2.length ≤ 1099511627776) → ∀ (x : Wd) (k : Int) (f : Nat) (s : Rq), (∀ t ∈ s.ts, t.2.length ≤ 1099511627776) → ∀ t ∈ (qRest elem x k l f s).ts, t.2.length ≤ 1099511627776 := by
    intro elem he x k f
    induction f with
    | zero => intro s h; exact h
    | succ f ih =>
      intro s h
      rw [qRest]
      split
      · exact ih _ (happ k _ (he _ h))
      · exact h
  have hjoin : ∀ (elem : Rq → Rq), (∀ s : Rq, (∀ t ∈ s.ts, t.2.length ≤ 1099511627776) → ∀ t ∈ (elem s).ts, t.2.length ≤ 1099511627776) → ∀ (x : Wd) (k : Int) (s : Rq), (∀ t ∈ s.ts, t.2.length ≤ 1099511627776) → ∀ t ∈ (qJoin elem x k l s).ts, t.2.length ≤ 1099511627776 :=
    fun elem he x k s h => hrest elem he x k _ _ (he s h)
  intro N
  induction N with
  | zero => intro s h; exact h
  | succ N ih =>
    intro s h
    rw [qPart]
    split
    · exact hnamed 1 _ h
    split
    · exact hnamed 2 _ h
    split
    · exact happ 3 _ (ih _ h)
    split
    · split
      · exact hjoin _ (fun s h => hjoin _ ih wAnd 4 s h) wOr 5 _ h
      · exact hjoin _ (fun s h => hjoin _ ih wAnd 4 s h) wOr 5 _ h
    · exact h
theorem qEither_nm (l : List Wd) (hs : ∀ x ∈ l, x.length ≤ 1099511627776) (N : Nat) (s : Rq) (h : ∀ t ∈ s.ts, t.2.length ≤ 1099511627776) : ∀ t ∈ (qEither (qPart l N) l s).ts, t.2.length ≤ 1099511627776 := by
    have hj : ∀ (elem : Rq → Rq), (∀ s : Rq, (∀ t ∈ s.ts, t.2.length ≤ 1099511627776) → ∀ t ∈ (elem s).ts, t.2.length ≤ 1099511627776) → ∀ (x : Wd) (k : Int) (s : Rq), (∀ t ∈ s.ts, t.2.length ≤ 1099511627776) → ∀ t ∈ (qJoin elem x k l s).ts, t.2.length ≤ 1099511627776 := by
      intro elem he x k s h
      rw [qJoin]
      generalize l.length - (elem s).pos = f
      have h' := he s h
      generalize elem s = s' at h'
      induction f generalizing s' with
      | zero => exact h'
      | succ f ih =>
        rw [qRest]
        split
        · refine ih _ ?_
          intro t ht
          rcases List.mem_append.1 ht with h1 | h1
          · exact he s'.adv h' t h1
          · obtain rfl := List.mem_singleton.1 h1
            exact Nat.zero_le _
        · exact h'
    exact hj _ (fun s h => hj _ (qPart_nm l hs N) wAnd 4 s h) wOr 5 s h
set_option maxHeartbeats 4000000 in
theorem ruleTail (l : List Wd) (f : Bool) (n : Nat) (hd : Hd) (hl : l.length ≤ 1000000) (hs : ∀ x ∈ l, x.length ≤ 1099511627776) (hn : n ≤ l.length) (h1 : hd.role.length ≤ 9223372036854775807) (h2 : hd.cls.length ≤ 9223372036854775807) (I : Nat → CI) (M : Nat → Nat) (w : World) (own : Nat → Prop) :
    ∃ c, c = (match Tryz.f102.body with | some (.seq _ (.seq _ (.seq _ (.seq _ (.seq _ (.seq _ (.seq _ (.seq _ c)))))))) => c | _ => .skip) ∧
    AW Tryz.prog ⟨109, 0, I, M, w, own⟩ c (RetOk Tryz.prog Tryz.f102 (rRuleE (rTail hd (l.drop n))) [] ⟨109, 0, I, M, w, own⟩) ⟨[(0, .sl 1 (wdsP l) f), (2, .ptr 0 0), (4, .ptr 1 0), (5, .v (.int .i64 (n : Int)))], [.box zRu, .box (hd.cells ++ [.v (.slice none 0 0)])]⟩ := by
  refine ⟨_, rfl, ?_⟩
  generalize hR : rTail hd (l.drop n) = R
  rw [rTail] at hR
  have hcl : (wdsP l).length = l.length := by simp
  refine AW.join (X := List Tm) (fun c => ⟨[(0, .sl 1 (wdsP l) f), (2, .ptr 0 0), (4, .ptr 1 0)], [.box zRu, .box (hd.cells ++ [.sl 2 (tmP c) false])]⟩) (fun c => rCond (l.drop n) = some c ∧ c.length ≤ 1000000 ∧ ∀ t ∈ c, t.2.length ≤ 1099511627776) ?_ ?_
  · generalize hC : rCond (l.drop n) = C at hR
    rw [rCond] at hC
    by_cases he : l.drop n = []
    · rw [if_pos he] at hC
      subst hC
      have hle := List.drop_eq_nil_iff.1 he
      have hg : ¬ ((wdsP l).length : Int) > (n : Int) := by omega
      (repeat' (first|refine AW.seq_k (fun K hK=>?_)|(refine hK _ ?_;clear hK)|refine AW.uC (fun hc=>?_) (fun hc=>?_)|refine AW.skip ?_|exact trivial|refine rG 20 ?_|refine Ud ?_|fail))
      ((repeat (with_reducible refine inB_n ?_)); refine thenA_n ?_)
      refine ⟨[], ⟨rfl, by simp, by simp⟩, ?_⟩
      refine Conv.mk [0, 1] O O O ?_ O ?_
      · (repeat' (first|exact V0|refine V3 ?_|refine V2 ?_ ?_|fail))
      · (repeat' (first|exact V0|refine V3 ?_|refine V2 ?_ ?_|fail))
    rw [if_neg he] at hC
    have hlt : n < l.length := by
      have : ¬ l.length ≤ n := fun h => he (List.drop_eq_nil_iff.2 h)
      omega
    have hg : ((wdsP l).length : Int) > (n : Int) := by omega
    have hdr : (wdsP l).drop ((n : Int)).toNat = wdsP (l.drop n) := by simp
    have htl : (l.drop n).length ≤ 1000000 := by rw [List.length_drop]; omega
    have hts : ∀ x ∈ l.drop n, x.length ≤ 1099511627776 := fun x hx => hs x (List.mem_of_mem_drop hx)
    have hpos : 0 < (l.drop n).length := by rw [List.length_drop]; omega
    generalize l.drop n = t at hC hdr htl hts hpos
    have hO : Okq t ⟨0, false, []⟩ := ⟨Nat.zero_le _, Nat.le_refl _⟩
    have hi := qis_c wWhen t ⟨0, false, []⟩ htl hO
    (repeat' (first|refine AW.seq_k (fun K hK=>?_)|(refine hK _ ?_;clear hK)|refine AW.uC (fun hc=>?_) (fun hc=>?_)|exact trivial|refine AW.rI [20, 21] O ?_|refine Ud ?_|fail))
    rw [hdr]
    refine AW.conv (s' := ⟨[(0, .sl 1 (wdsP l) f), (2, .ptr 0 0), (4, .ptr 1 0), (8, .ptr 2 0)], [.box zRu, .box (hd.cells ++ [.v (.slice none 0 0)]), .box [.sl 1 (wdsP t) false, .v (.int .i64 0), .v (.bool false), .row 3 0], .row 2 []]⟩) ?_ ?_
    · (refine Conv.ownB 2 3 2 [] O O (Or.inr ⟨rfl, rfl⟩) (by repeat constructor) (by repeat constructor) ?_)
      refine Conv.mk [0, 1, 2, 3] O O O ?_ O ?_
      · (repeat' (first|exact V0|refine V3 ?_|refine V2 ?_ ?_|fail))
      · (repeat' (first|exact V0|refine V3 ?_|refine V2 ?_ ?_|fail))
        all_goals rfl
    cases hx : qIs wWhen t ⟨0, false, []⟩ with
    | false =>
      rw [hx, if_neg (by decide)] at hi hC
      subst hC
      simp only at hR
      subst hR
      (repeat' (first|refine AW.seq_k (fun K hK=>?_)|(refine hK _ ?_;clear hK)|refine AW.uC (fun hc=>?_) (fun hc=>?_)|refine AW.ret ?_|exact trivial|refine AW.rI [22, 23] O ?_|refine Run.cSA [2, 3] hi O O O O O O O O O O O O ?_|refine Ud ?_|fail))
      ((first|refine RetOk.tupS [] O O O O O ?_ ?_|refine RetOk.oneS [] O O O O ?_ ?_)<;>(repeat' (first|exact V0|refine V1 ?_|refine V2 ?_ ?_|fail)))
      all_goals first | exact Cv.any | rfl | (refine Cv.eq ?_; simp [AV.ren, AV.rens, renL]; done)
    | true =>
      rw [hx, if_pos O] at hi hC
      have hOa : Okq t ⟨1, false, []⟩ := ⟨hpos, Nat.zero_le _⟩
      have he := reither_c t htl (fun x hx => by have := hts x hx; omega) t.length ⟨1, false, []⟩ (by simp only; omega) hOa
      have hv := qJoin_v (qJoin_v (qPart_v t t.length) wAnd 4) wOr 5 ⟨1, false, []⟩ hOa.1
      change Qv t ⟨1, false, []⟩ (qEither (qPart t t.length) t ⟨1, false, []⟩) at hv
      have hnm := qEither_nm t hts t.length ⟨1, false, []⟩ (by simp)
      generalize qEither (qPart t t.length) t ⟨1, false, []⟩ = q at hC he hv hnm
      obtain ⟨pos, bad, ts⟩ := q
      have hvh := hv.hi
      have hvl := hv.len
      simp only at hC hvh hvl hnm
      cases bad with
      | true =>
        rw [if_pos (.inl O)] at hC
        subst hC
        simp only at hR
        subst hR
        (repeat' (first|refine AW.seq_k (fun K hK=>?_)|(refine hK _ ?_;clear hK)|refine AW.uC (fun hc=>?_) (fun hc=>?_)|refine AW.ret ?_|refine AW.skip ?_|exact trivial|refine AW.draw (id := 25) (by kernel_rfl) ?_|refine AW.rI [22, 24, 26] O ?_|refine Run.cSA [2, 3] hi O O O O O O O O O O O O ?_|refine Run.cSA [2, 3] he O O O O O O O O O O O O ?_|refine Ud ?_|fail))
        ((first|refine RetOk.tupS [] O O O O O ?_ ?_|refine RetOk.oneS [] O O O O ?_ ?_)<;>(repeat' (first|exact V0|refine V1 ?_|refine V2 ?_ ?_|fail)))
        all_goals first | exact Cv.any | rfl | (refine Cv.eq ?_; simp [AV.ren, AV.rens, renL]; done)
      | false =>
        have htcl : (wdsP t).length = t.length := by simp
        by_cases hpt : pos < t.length
        · rw [if_pos (.inr hpt)] at hC
          subst hC
          simp only at hR
          subst hR
          have hpt' : (pos : Int) < ((wdsP t).length : Int) := by omega
          (repeat' (first|refine AW.seq_k (fun K hK=>?_)|(refine hK _ ?_;clear hK)|refine AW.uC (fun hc=>?_) (fun hc=>?_)|refine AW.ret ?_|refine AW.skip ?_|exact trivial|refine AW.draw (id := 25) (by kernel_rfl) ?_|refine AW.rI [22, 24, 26] O ?_|refine Run.cSA [2, 3] hi O O O O O O O O O O O O ?_|refine Run.cSA [2, 3] he O O O O O O O O O O O O ?_|refine Ud ?_|fail))
          ((first|refine RetOk.tupS [] O O O O O ?_ ?_|refine RetOk.oneS [] O O O O ?_ ?_)<;>(repeat' (first|exact V0|refine V1 ?_|refine V2 ?_ ?_|fail)))
          all_goals first | exact Cv.any | rfl | (refine Cv.eq ?_; simp [AV.ren, AV.rens, renL]; done)
        · rw [if_neg (by simp [hpt])] at hC
          have hpt' : ¬ (pos : Int) < ((wdsP t).length : Int) := by omega
          (repeat' (first|refine AW.seq_k (fun K hK=>?_)|(refine hK _ ?_;clear hK)|refine AW.uC (fun hc=>?_) (fun hc=>?_)|refine AW.skip ?_|exact trivial|refine AW.draw (id := 25) (by kernel_rfl) ?_|refine AW.rI [22, 24, 27] O ?_|refine Run.cSA [2, 3] hi O O O O O O O O O O O O ?_|refine Run.cSA [2, 3] he O O O O O O O O O O O O ?_|refine Ud ?_|fail))
          ((repeat (with_reducible refine inB_n ?_)); refine thenA_n ?_)
          refine ⟨ts, ⟨hC.symm, by simp only [List.length_nil] at hvl; omega, hnm⟩, ?_⟩
          refine Conv.mk [0, 1] O O O ?_ O ?_
          · (repeat' (first|exact V0|refine V3 ?_|refine V2 ?_ ?_|fail))
          · (repeat' (first|exact V0|refine V3 ?_|refine V2 ?_ ?_|fail))
            all_goals first | rfl | (simp [AV.ren, AV.rens, renL]; done)
  · rintro c ⟨hc, hcn, hcs⟩
    rw [hc] at hR
    simp only at hR
    have hcs' : ∀ t ∈ c, t.2.length ≤ 9223372036854775807 := fun t ht => by have := hcs t ht; omega
    have hmc : (tmP c).length = c.length := by simp
    have hv1 := rvalid_c false ⟨hd, c⟩ hcn hcs' h1 h2
    have hv0 := rvalid_c false ⟨hd, []⟩ (by simp) (by simp) h1 h2
    obtain ⟨kind, role, cls, pct⟩ := hd
    by_cases h16 : 16 < c.length
    · have h16' : ((tmP c).length : Int) > 16 := by omega
      cases hq0 : validF ⟨⟨kind, role, cls, pct⟩, []⟩ with
      | true =>
        rw [if_pos ⟨h16, hq0⟩] at hR
        rw [hq0] at hv0
        subst hR
        (repeat' (first|refine AW.seq_k (fun K hK=>?_)|(refine hK _ ?_;clear hK)|refine AW.uC (fun hc=>?_) (fun hc=>?_)|refine AW.ret ?_|exact trivial|refine AW.rI [28, 29, 30, 31, 32] O ?_|refine Run.c0 (hv0.weak (args' := [.agg [.v (.int .i64 kind), .v (.string (bs role)), .v (.string (bs cls)), .v (.int .i64 pct), .v (.slice none 0 0)]]) (.cons (.agg (.cons .same (.cons .same (.cons .same (.cons .same (.cons .nil .nil)))))) .nil)) O O O O O O O O ?_|refine Ud ?_|fail))
        ((first|refine RetOk.tupS [] O O O O O ?_ ?_|refine RetOk.oneS [] O O O O ?_ ?_)<;>(repeat' (first|exact V0|refine V1 ?_|refine V2 ?_ ?_|fail)))
        all_goals first | exact Cv.any | rfl | (refine Cv.eq ?_; simp [AV.ren, AV.rens, renL]; done)
      | false =>
        rw [if_neg (by simp [hq0])] at hR
        rw [hq0] at hv0
        cases hq1 : validF ⟨⟨kind, role, cls, pct⟩, c⟩ with
        | true =>
          rw [if_pos hq1] at hR
          rw [hq1] at hv1
          subst hR
          (repeat' (first|refine AW.seq_k (fun K hK=>?_)|(refine hK _ ?_;clear hK)|refine AW.uC (fun hc=>?_) (fun hc=>?_)|refine AW.ret ?_|refine AW.skip ?_|exact trivial|refine AW.rI [28, 29, 30, 31, 33, 35] O ?_|refine Run.c0 (hv0.weak (args' := [.agg [.v (.int .i64 kind), .v (.string (bs role)), .v (.string (bs cls)), .v (.int .i64 pct), .v (.slice none 0 0)]]) (.cons (.agg (.cons .same (.cons .same (.cons .same (.cons .same (.cons .nil .nil)))))) .nil)) O O O O O O O O ?_|refine Run.c0 hv1 O O O O O O O O ?_|refine Ud ?_|fail))
          ((first|refine RetOk.tupS [] O O O O O ?_ ?_|refine RetOk.oneS [] O O O O ?_ ?_)<;>(repeat' (first|exact V0|refine V1 ?_|refine V2 ?_ ?_|fail)))
          all_goals first | exact Cv.any | rfl | (refine Cv.eq ?_; simp [AV.ren, AV.rens, renL]; done)
        | false =>
          rw [if_neg (by simp [hq1])] at hR
          rw [hq1] at hv1
          subst hR
          (repeat' (first|refine AW.seq_k (fun K hK=>?_)|(refine hK _ ?_;clear hK)|refine AW.uC (fun hc=>?_) (fun hc=>?_)|refine AW.ret ?_|refine AW.skip ?_|exact trivial|refine AW.rI [28, 29, 30, 31, 33, 34] O ?_|refine Run.c0 (hv0.weak (args' := [.agg [.v (.int .i64 kind), .v (.string (bs role)), .v (.string (bs cls)), .v (.int .i64 pct), .v (.slice none 0 0)]]) (.cons (.agg (.cons .same (.cons .same (.cons .same (.cons .same (.cons .nil .nil)))))) .nil)) O O O O O O O O ?_|refine Run.c0 hv1 O O O O O O O O ?_|refine Ud ?_|fail))
          ((first|refine RetOk.tupS [] O O O O O ?_ ?_|refine RetOk.oneS [] O O O O ?_ ?_)<;>(repeat' (first|exact V0|refine V1 ?_|refine V2 ?_ ?_|fail)))
          all_goals first | exact Cv.any | rfl | (refine Cv.eq ?_; simp [AV.ren, AV.rens, renL]; done)
    · have h16' : ¬ ((tmP c).length : Int) > 16 := by omega
      rw [if_neg (by simp [h16])] at hR
      cases hq1 : validF ⟨⟨kind, role, cls, pct⟩, c⟩ with
      | true =>
        rw [if_pos hq1] at hR
        rw [hq1] at hv1
        subst hR
        (repeat' (first|refine AW.seq_k (fun K hK=>?_)|(refine hK _ ?_;clear hK)|refine AW.uC (fun hc=>?_) (fun hc=>?_)|refine AW.ret ?_|refine AW.skip ?_|exact trivial|refine AW.rI [28, 33, 35] O ?_|refine Run.c0 hv1 O O O O O O O O ?_|refine Ud ?_|fail))
        ((first|refine RetOk.tupS [] O O O O O ?_ ?_|refine RetOk.oneS [] O O O O ?_ ?_)<;>(repeat' (first|exact V0|refine V1 ?_|refine V2 ?_ ?_|fail)))
        all_goals first | exact Cv.any | rfl | (refine Cv.eq ?_; simp [AV.ren, AV.rens, renL]; done)
      | false =>
        rw [if_neg (by simp [hq1])] at hR
        rw [hq1] at hv1
        subst hR
        (repeat' (first|refine AW.seq_k (fun K hK=>?_)|(refine hK _ ?_;clear hK)|refine AW.uC (fun hc=>?_) (fun hc=>?_)|refine AW.ret ?_|refine AW.skip ?_|exact trivial|refine AW.rI [28, 33, 34] O ?_|refine Run.c0 hv1 O O O O O O O O ?_|refine Ud ?_|fail))
        ((first|refine RetOk.tupS [] O O O O O ?_ ?_|refine RetOk.oneS [] O O O O ?_ ?_)<;>(repeat' (first|exact V0|refine V1 ?_|refine V2 ?_ ?_|fail)))
        all_goals first | exact Cv.any | rfl | (refine Cv.eq ?_; simp [AV.ren, AV.rens, renL]; done)
def rHead : List Wd → Option (Hd × Nat)
  | [] => none
  | x :: r =>
    if x = wRoute then
      match r with
      | a :: b :: _ => some (⟨1, a, b, 0⟩, 3)
      | _ => none
    else if x = wDuck then
      match r with
      | a :: b :: _ => if (numberP b).2 = 0 then some (⟨2, a, [], (numberP b).1⟩, 3) else none
      | _ => none
    else if x = wMute then
      match r with
      | a :: _ => some (⟨3, a, [], 0⟩, 2)
      | _ => none
    else none
def rRule (l : List Wd) : Ru ⊕ Int :=
  match rHead l with
  | none => .inr 5
  | some y => rTail y.1 (l.drop y.2)
set_option maxHeartbeats 4000000 in
theorem rrule_c (x : Wd) (r : List Wd) (f : Bool) (hl : (x :: r).length ≤ 1000000) (hs : ∀ z ∈ x :: r, z.length ≤ 1099511627776) : ACalls Tryz.prog 102 [.sl 1 (wdsP (x :: r)) f] [] (rRuleE (rRule (x :: r))) [] := by
  generalize hR : rRule (x :: r) = R
  rw [rRule] at hR
  have hA0 : At (wdsP (x :: r)) (0 : Int) [PV.v (.string (bs x))] := At.mk 0 O O
  have hcl : (wdsP (x :: r)).length = r.length + 1 := by simp
  by_cases h1 : x = wRoute
  · rcases r with _ | ⟨a, _ | ⟨b, t⟩⟩
    · rw [show rHead [x] = none by rw [h1]; rfl] at hR
      simp only at hR
      subst hR
      have hlt : ((wdsP [x]).length : Int) < 3 := by simp
      refine (ACalls.of (fn := Tryz.f102) Tryz.func102 O O Tryz.ntmps102 (fun I M w own => ?_))
      (repeat' (first|refine AW.seq_k (fun K hK=>?_)|(refine hK _ ?_;clear hK)|refine AW.uC (fun hc=>?_) (fun hc=>?_)|refine AW.block ?_|refine AW.ret ?_|exact trivial|refine AW.rI [0, 1, 2, 3, 4, 5, 10, 11] O ?_|refine Ud ?_|fail))
      ((first|refine RetOk.tupS [] O O O O O ?_ ?_|refine RetOk.oneS [] O O O O ?_ ?_)<;>(repeat' (first|exact V0|refine V1 ?_|refine V2 ?_ ?_|fail)))
      all_goals exact Cv.any
    · rw [show rHead [x, a] = none by rw [h1]; rfl] at hR
      simp only at hR
      subst hR
      have hlt : ((wdsP [x, a]).length : Int) < 3 := by simp
      refine (ACalls.of (fn := Tryz.f102) Tryz.func102 O O Tryz.ntmps102 (fun I M w own => ?_))
      (repeat' (first|refine AW.seq_k (fun K hK=>?_)|(refine hK _ ?_;clear hK)|refine AW.uC (fun hc=>?_) (fun hc=>?_)|refine AW.block ?_|refine AW.ret ?_|exact trivial|refine AW.rI [0, 1, 2, 3, 4, 5, 10, 11] O ?_|refine Ud ?_|fail))
      ((first|refine RetOk.tupS [] O O O O O ?_ ?_|refine RetOk.oneS [] O O O O ?_ ?_)<;>(repeat' (first|exact V0|refine V1 ?_|refine V2 ?_ ?_|fail)))
      all_goals exact Cv.any
    · rw [show rHead (x :: a :: b :: t) = some (⟨1, a, b, 0⟩, 3) by rw [h1]; rfl] at hR
      simp only at hR
      subst hR
      have hlt : ¬ ((wdsP (x :: a :: b :: t)).length : Int) < 3 := by simp; omega
      have hA1 : At (wdsP (x :: a :: b :: t)) (1 : Int) [PV.v (.string (bs a))] := At.mk 1 O O
      have hA2 : At (wdsP (x :: a :: b :: t)) (2 : Int) [PV.v (.string (bs b))] := At.mk 2 O O
      refine (ACalls.of (fn := Tryz.f102) Tryz.func102 O O Tryz.ntmps102 (fun I M w own => ?_))
      (repeat' (first|(refine AW.seq_k (fun K hK=>?_);fail_if_success (first|refine rG 20 ?_|(refine AW.seq_k (fun K hK=>?_);refine rG 20 ?_)))|(refine hK _ ?_;clear hK)|refine AW.uC (fun hc=>?_) (fun hc=>?_)|refine AW.block ?_|refine AW.skip ?_|exact trivial|refine AW.rI [0, 1, 2, 3, 4, 5, 10, 12, 13, 14, 15] O ?_|refine Ud ?_|fail))
      obtain ⟨c, hc, hw⟩ := ruleTail (x :: a :: b :: t) f 3 ⟨1, a, b, 0⟩ hl hs (by simp) (by have := hs a (by simp); simp only; omega) (by have := hs b (by simp); simp only; omega) I M w own
      subst hc
      refine AW.conv ?_ hw
      refine Conv.mk [0, 1] O O O ?_ O ?_
      · (repeat' (first|exact V0|refine V3 ?_|refine V2 ?_ ?_|fail))
      · (repeat' (first|exact V0|refine V3 ?_|refine V2 ?_ ?_|fail))
  by_cases h2 : x = wDuck
  · rcases r with _ | ⟨a, _ | ⟨b, t⟩⟩
    · rw [show rHead [x] = none by rw [h2]; rfl] at hR
      simp only at hR
      subst hR
      have hlt : ((wdsP [x]).length : Int) < 3 := by simp
      refine (ACalls.of (fn := Tryz.f102) Tryz.func102 O O Tryz.ntmps102 (fun I M w own => ?_))
      (repeat' (first|refine AW.seq_k (fun K hK=>?_)|(refine hK _ ?_;clear hK)|refine AW.uC (fun hc=>?_) (fun hc=>?_)|refine AW.block ?_|refine AW.ret ?_|exact trivial|refine AW.rI [0, 1, 2, 3, 4, 6, 7, 10, 11] O ?_|refine Ud ?_|fail))
      ((first|refine RetOk.tupS [] O O O O O ?_ ?_|refine RetOk.oneS [] O O O O ?_ ?_)<;>(repeat' (first|exact V0|refine V1 ?_|refine V2 ?_ ?_|fail)))
      all_goals exact Cv.any
    · rw [show rHead [x, a] = none by rw [h2]; rfl] at hR
      simp only at hR
      subst hR
      have hlt : ((wdsP [x, a]).length : Int) < 3 := by simp
      refine (ACalls.of (fn := Tryz.f102) Tryz.func102 O O Tryz.ntmps102 (fun I M w own => ?_))
      (repeat' (first|refine AW.seq_k (fun K hK=>?_)|(refine hK _ ?_;clear hK)|refine AW.uC (fun hc=>?_) (fun hc=>?_)|refine AW.block ?_|refine AW.ret ?_|exact trivial|refine AW.rI [0, 1, 2, 3, 4, 6, 7, 10, 11] O ?_|refine Ud ?_|fail))
      ((first|refine RetOk.tupS [] O O O O O ?_ ?_|refine RetOk.oneS [] O O O O ?_ ?_)<;>(repeat' (first|exact V0|refine V1 ?_|refine V2 ?_ ?_|fail)))
      all_goals exact Cv.any
    · have hrh : rHead (x :: a :: b :: t) = if (numberP b).2 = 0 then some (⟨2, a, [], (numberP b).1⟩, 3) else none := by rw [h2]; rfl
      rw [hrh] at hR
      have hlt : ¬ ((wdsP (x :: a :: b :: t)).length : Int) < 3 := by simp; omega
      have hA1 : At (wdsP (x :: a :: b :: t)) (1 : Int) [PV.v (.string (bs a))] := At.mk 1 O O
      have hA2 : At (wdsP (x :: a :: b :: t)) (2 : Int) [PV.v (.string (bs b))] := At.mk 2 O O
      have hnb := rNumber_c b (hs b (by simp))
      generalize numberP b = q at hnb hR
      obtain ⟨q1, q2⟩ := q
      simp only at hnb hR
      by_cases hq : q2 = 0
      · rw [if_pos hq] at hR
        simp only at hR
        subst hR
        have hq' : ¬ (q2 ≠ 0) := fun h => h hq
        refine (ACalls.of (fn := Tryz.f102) Tryz.func102 O O Tryz.ntmps102 (fun I M w own => ?_))
        (repeat' (first|(refine AW.seq_k (fun K hK=>?_);fail_if_success (first|refine rG 20 ?_|(refine AW.seq_k (fun K hK=>?_);refine rG 20 ?_)))|(refine hK _ ?_;clear hK)|refine AW.uC (fun hc=>?_) (fun hc=>?_)|refine AW.block ?_|refine AW.skip ?_|exact trivial|refine AW.rI [0, 1, 2, 3, 4, 6, 7, 10, 12, 13, 15, 16, 17, 19] O ?_|refine Run.c0 hnb O O O O O O O O ?_|refine Ud ?_|fail))
        obtain ⟨c, hc, hw⟩ := ruleTail (x :: a :: b :: t) f 3 ⟨2, a, [], q1⟩ hl hs (by simp) (by have := hs a (by simp); simp only; omega) (by simp) I M w own
        subst hc
        refine AW.conv ?_ hw
        refine Conv.mk [0, 1] O O O ?_ O ?_
        · (repeat' (first|exact V0|refine V3 ?_|refine V2 ?_ ?_|fail))
        · (repeat' (first|exact V0|refine V3 ?_|refine V2 ?_ ?_|fail))
      · rw [if_neg hq] at hR
        simp only at hR
        subst hR
        have hq' : q2 ≠ 0 := hq
        refine (ACalls.of (fn := Tryz.f102) Tryz.func102 O O Tryz.ntmps102 (fun I M w own => ?_))
        (repeat' (first|refine AW.seq_k (fun K hK=>?_)|(refine hK _ ?_;clear hK)|refine AW.uC (fun hc=>?_) (fun hc=>?_)|refine AW.block ?_|refine AW.ret ?_|refine AW.skip ?_|exact trivial|refine AW.rI [0, 1, 2, 3, 4, 6, 7, 10, 12, 13, 15, 16, 17, 18] O ?_|refine Run.c0 hnb O O O O O O O O ?_|refine Ud ?_|fail))
        ((first|refine RetOk.tupS [] O O O O O ?_ ?_|refine RetOk.oneS [] O O O O ?_ ?_)<;>(repeat' (first|exact V0|refine V1 ?_|refine V2 ?_ ?_|fail)))
        all_goals exact Cv.any
  by_cases h3 : x = wMute
  · rcases r with _ | ⟨a, t⟩
    · rw [show rHead [x] = none by rw [h3]; rfl] at hR
      simp only at hR
      subst hR
      have hlt : ((wdsP [x]).length : Int) < 2 := by simp
      refine (ACalls.of (fn := Tryz.f102) Tryz.func102 O O Tryz.ntmps102 (fun I M w own => ?_))
      (repeat' (first|refine AW.seq_k (fun K hK=>?_)|(refine hK _ ?_;clear hK)|refine AW.uC (fun hc=>?_) (fun hc=>?_)|refine AW.block ?_|refine AW.ret ?_|exact trivial|refine AW.rI [0, 1, 2, 3, 4, 6, 8, 9, 10, 11] O ?_|refine Ud ?_|fail))
      ((first|refine RetOk.tupS [] O O O O O ?_ ?_|refine RetOk.oneS [] O O O O ?_ ?_)<;>(repeat' (first|exact V0|refine V1 ?_|refine V2 ?_ ?_|fail)))
      all_goals exact Cv.any
    · rw [show rHead (x :: a :: t) = some (⟨3, a, [], 0⟩, 2) by rw [h3]; rfl] at hR
      simp only at hR
      subst hR
      have hlt : ¬ ((wdsP (x :: a :: t)).length : Int) < 2 := by simp; omega
      have hA1 : At (wdsP (x :: a :: t)) (1 : Int) [PV.v (.string (bs a))] := At.mk 1 O O
      refine (ACalls.of (fn := Tryz.f102) Tryz.func102 O O Tryz.ntmps102 (fun I M w own => ?_))
      (repeat' (first|(refine AW.seq_k (fun K hK=>?_);fail_if_success (first|refine rG 20 ?_|(refine AW.seq_k (fun K hK=>?_);refine rG 20 ?_)))|(refine hK _ ?_;clear hK)|refine AW.uC (fun hc=>?_) (fun hc=>?_)|refine AW.block ?_|refine AW.skip ?_|exact trivial|refine AW.rI [0, 1, 2, 3, 4, 6, 8, 9, 10, 12, 13, 15] O ?_|refine Ud ?_|fail))
      obtain ⟨c, hc, hw⟩ := ruleTail (x :: a :: t) f 2 ⟨3, a, [], 0⟩ hl hs (by simp) (by have := hs a (by simp); simp only; omega) (by simp) I M w own
      subst hc
      refine AW.conv ?_ hw
      refine Conv.mk [0, 1] O O O ?_ O ?_
      · (repeat' (first|exact V0|refine V3 ?_|refine V2 ?_ ?_|fail))
      · (repeat' (first|exact V0|refine V3 ?_|refine V2 ?_ ?_|fail))
  · rw [show rHead (x :: r) = none by simp [rHead, h1, h2, h3]] at hR
    simp only at hR
    subst hR
    refine (ACalls.of (fn := Tryz.f102) Tryz.func102 O O Tryz.ntmps102 (fun I M w own => ?_))
    (repeat' (first|refine AW.seq_k (fun K hK=>?_)|(refine hK _ ?_;clear hK)|refine AW.uC (fun hc=>?_) (fun hc=>?_)|refine AW.block ?_|refine AW.ret ?_|refine AW.skip ?_|exact trivial|refine AW.rI [0, 1, 2, 3, 4, 6, 8, 10, 11] O ?_|refine Ud ?_|fail))
    ((first|refine RetOk.tupS [] O O O O O ?_ ?_|refine RetOk.oneS [] O O O O ?_ ?_)<;>(repeat' (first|exact V0|refine V1 ?_|refine V2 ?_ ?_|fail)))
    all_goals exact Cv.any
end Go.Proofs.YtbbcokckealagaaGreat
