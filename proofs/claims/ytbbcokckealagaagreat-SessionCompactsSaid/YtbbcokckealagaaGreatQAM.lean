/-
  Walk of the reader of rules: a line of a text.
-/
import Derived.Test.YtbbcokckealagaaGreatQAA
import Derived.Test.YtbbcokckealagaaGreatQAF
import Derived.Test.YtbbcokckealagaaGreatQAL
namespace Go.Proofs.YtbbcokckealagaaGreat
set_option linter.unusedVariables false
set_option linter.unusedSimpArgs false
theorem J_ge : ∀ (ws : List (List UInt8)), ∀ w ∈ ws, w.length ≤ (J ws).length
  | [], w, h => by simp at h
  | [v], w, h => by
    obtain rfl := List.mem_singleton.1 h
    rw [J]; exact writtenL_ge w
  | v :: u :: ws, w, h => by
    rw [J, List.length_append, List.length_cons]
    rcases List.mem_cons.1 h with rfl | h
    · have := writtenL_ge w; omega
    · have := J_ge (u :: ws) w h; omega
theorem split_wd (s : List UInt8) : ∀ w ∈ (splitP s).1, w.length ≤ 4096 := by
  intro w hw
  by_cases h : (splitP s).2 = 0
  · obtain ⟨_, h2, h3⟩ := split_join s h
    have := J_ge _ w hw; omega
  · rw [split_err s h] at hw; simp at hw
theorem split_ct (s : List UInt8) : (splitP s).1.length ≤ 64 := by
  by_cases h : (splitP s).2 = 0
  · exact (split_join s h).1
  · rw [split_err s h]; simp
abbrev ruP (l : List Ru) : List (List PV) := l.map fun r => [PV.v (.int .i64 r.hd.kind), PV.v (.string (bs r.hd.role)), PV.v (.string (bs r.hd.cls)), PV.v (.int .i64 r.hd.pct), PV.sl 2 (tmP r.cond)]
abbrev PX := Nat × List Ru
def lineF (x : PX) (line : List UInt8) : PX ⊕ (Nat × Int) :=
  if trimSuf line [10] = [] ∨ (trimSuf line [10]).head? = some 35 then .inl (x.1 + 1, x.2)
  else if (splitP (trimSuf line [10])).2 ≠ 0 then .inr (x.1, (splitP (trimSuf line [10])).2)
  else match ruleF (splitP (trimSuf line [10])).1 with
    | none => .inr (x.1, 5)
    | some r => if 16 < r.cond.length ∨ 64 ≤ x.2.length then .inr (x.1, 3) else .inl (x.1 + 1, x.2 ++ [r])
abbrev pX (x : PX) : List Res := [.box [.v (.slice none 0 0)], .box [.v (.int .i64 0)], .box [.v (.int .i64 0)], .box [.row 6 (ruP x.2).length], .box [.v (.int .i64 (x.1 : Int))], .row 5 (ruP x.2)]
abbrev pY (y : Nat × Int) : List Res := [.box [.v (.slice none 0 0)], .box [.v (.int .i64 (y.1 : Int))], .box [.v (.int .i64 y.2)], .no, .no, .no]
theorem pX_snoc (n : Nat) (l : List Ru) (r : Ru) : pX (n + 1, l ++ [r]) = [.box [.v (.slice none 0 0)], .box [.v (.int .i64 0)], .box [.v (.int .i64 0)], .box [.row 6 (ruP l ++ [[PV.v (.int .i64 r.hd.kind), PV.v (.string (bs r.hd.role)), PV.v (.string (bs r.hd.cls)), PV.v (.int .i64 r.hd.pct), PV.sl 2 (tmP r.cond)]]).length], .box [.v (.int .i64 ((n : Int) + 1))],
    .row 5 (ruP l ++ [[PV.v (.int .i64 r.hd.kind), PV.v (.string (bs r.hd.role)), PV.v (.string (bs r.hd.cls)), PV.v (.int .i64 r.hd.pct), PV.sl 2 (tmP r.cond)]])] := by simp [pX, ruP]
abbrev pFr : Fr := [(2, .ptr 1 0), (3, .ptr 2 0), (4, .ptr 3 0), (5, .ptr 4 0), (6, .ptr 5 0), (17, .fn 121 [.ptr 0 0])]
abbrev pF2 (line : List UInt8) : Fr := (7, .v (.string (bs line))) :: (18, .v (.string (bs line))) :: pFr
set_option maxHeartbeats 4000000 in
theorem bodyP (s : List UInt8) (hs : s.length ≤ 1099511627776) (x : PX) (line rest : List UInt8) (l : Nat) (I : Nat → CI) (M : Nat → Nat) (w : World) (own : Nat → Prop) (hx : x.1 ≤ 1099511627776) (hx2 : x.2.length ≤ 64) (hl : line.length ≤ s.length) :
    ∃ c, c = (match Tryz.f52.body with | some (.seq _ (.seq _ (.seq _ (.seq _ (.seq (.seq _ (.block _ (.rangeFunc _ _ _ b))) _))))) => b | _ => .skip) ∧
    AWR Tryz.prog l ⟨64, (Res.box [.v (.string (bs rest))] :: pX x).length, I, M, w, own⟩ c
      (BodyQ (fun σ' => ∃ x', lineF x line = .inl x' ∧ σ' = .box [.v (.string (bs rest))] :: pX x') (fun σ' => ∃ y, lineF x line = .inr y ∧ σ' = .box [.v (.string (bs rest))] :: pY y) ⟨64, (Res.box [.v (.string (bs rest))] :: pX x).length, I, M, w, own⟩) ⟨pF2 line, .box [.v (.string (bs rest))] :: pX x⟩ := by
  refine ⟨_, rfl, ?_⟩
  have hT := TrimSuffix_c line [10] (by omega) (by simp)
  generalize hF : lineF x line = R
  rw [lineF] at hF
  have htl : (trimSuf line [10]).length ≤ 1099511627776 := by
    rw [trimSuf]
    split
    · rw [List.length_take]; omega
    · omega
  generalize trimSuf line [10] = t at hT hF htl
  have hSp := Split_c t
  have hwd := split_wd t
  have hct := split_ct t
  generalize splitP t = sp at hSp hF hwd hct
  obtain ⟨ws, er⟩ := sp
  simp only at hSp hF hwd hct
  have hRd := read_c ws false (fun z hz => by have := hwd z hz; omega) (by omega)
  refine AWR.block ?_
  cases t with
  | nil =>
    simp only [true_or, if_true] at hF
    (repeat' (first|refine AWR.seq_k (fun K hK=>?_)|(refine hK _ ?_;clear hK)|refine AWR.uC (fun hc=>?_) (fun hc=>?_)|refine AWR.exit ?_|exact trivial|refine AWR.rI [7, 8, 9, 10] O ?_|refine Run.c0 hT O O O O O O O O ?_|refine Ud ?_|fail))
    refine ⟨_, ⟨(x.1 + 1, x.2), hF.symm, rfl⟩, ?_⟩
    refine Conv.mk [0, 1, 2, 3, 4, 5, 6] O O O ?_ O ?_
    · (repeat' (first|exact V0|refine V3 ?_|refine V2 ?_ ?_|fail))
    · (repeat' (first|exact V0|refine V3 ?_|refine V2 ?_ ?_|fail))
      all_goals first | rfl | (refine Cv.eq ?_; simp [AV.ren, AV.rens, renL]; done)
  | cons c t' =>
    by_cases h35 : c = 35
    · rw [if_pos (by simp [h35])] at hF
      subst h35
      have hn : ¬ ¬ (((35 : UInt8).toNat : Int) = 35) := fun h => h O
      (repeat' (first|refine AWR.seq_k (fun K hK=>?_)|(refine hK _ ?_;clear hK)|refine AWR.uC (fun hc=>?_) (fun hc=>?_)|refine AWR.exit ?_|exact trivial|refine AWR.rI [7, 8, 9, 10] O ?_|refine Run.c0 hT O O O O O O O O ?_|refine Ud ?_|fail))
      all_goals first | (exfalso; exact hn (by assumption)) | skip
      refine ⟨_, ⟨(x.1 + 1, x.2), hF.symm, rfl⟩, ?_⟩
      refine Conv.mk [0, 1, 2, 3, 4, 5, 6] O O O ?_ O ?_
      · (repeat' (first|exact V0|refine V3 ?_|refine V2 ?_ ?_|fail))
      · (repeat' (first|exact V0|refine V3 ?_|refine V2 ?_ ?_|fail))
        all_goals first | rfl | (refine Cv.eq ?_; simp [AV.ren, AV.rens, renL]; done)
    · rw [if_neg (by simp [h35])] at hF
      have hn : ¬ ((c.toNat : Int) = 35) := fun h => h35 (UInt8.toNat_inj.1 (by have : c.toNat = 35 := by omega
                                                                                rw [this]; rfl))
      by_cases he : er = 0
      · rw [if_neg (by simp [he])] at hF
        subst he
        cases hr : ruleF ws with
        | none =>
          rw [hr] at hF hRd
          rw [readE] at hRd
          (repeat' (first|refine AWR.seq_k (fun K hK=>?_)|(refine hK _ ?_;clear hK)|refine AWR.uC (fun hc=>?_) (fun hc=>?_)|refine AWR.ret ?_|refine AWR.skip ?_|exact trivial|refine AWR.rI [7, 8, 9, 10, 11, 12, 14, 15, 16] O ?_|refine Run.c0 hT O O O O O O O O ?_|refine Run.c0 hSp O O O O O O O O ?_|refine Run.c0 hRd O O O O O O O O ?_|refine Ud ?_|fail))
          all_goals first | (exfalso; exact hn (by assumption)) | skip
          refine ⟨_, ⟨(x.1, 5), hF.symm, rfl⟩, ?_⟩
          refine Conv.mk [0, 1, 2, 3, 4, 5, 6] O O O ?_ O ?_
          · (repeat' (first|exact V0|refine V3 ?_|refine V2 ?_ ?_|fail))
          · (repeat' (first|exact V0|refine V3 ?_|refine V2 ?_ ?_|fail))
            all_goals first | rfl | (refine Cv.eq ?_; simp [AV.ren, AV.rens, renL]; done)
        | some r =>
          rw [hr] at hF hRd
          rw [readE] at hRd
          simp only at hF
          have hml : (tmP r.cond).length = r.cond.length := by simp
          have hmo : (ruP x.2).length = x.2.length := by simp
          by_cases hg : 16 < r.cond.length
          · rw [if_pos (.inl hg)] at hF
            (repeat' (first|refine AWR.seq_k (fun K hK=>?_)|(refine hK _ ?_;clear hK)|refine AWR.uC (fun hc=>?_) (fun hc=>?_)|refine AWR.ret ?_|refine AWR.skip ?_|exact trivial|refine AWR.rI [7, 8, 9, 10, 11, 12, 14, 15, 17, 18] O ?_|refine Run.c0 hT O O O O O O O O ?_|refine Run.c0 hSp O O O O O O O O ?_|refine Run.c0 hRd O O O O O O O O ?_|refine Ud ?_|fail))
            all_goals first | (exfalso; exact hn (by assumption)) | skip
            refine ⟨_, ⟨((x.1, 3) : Nat × Int), hF.symm, rfl⟩, ?_⟩
            refine Conv.mk [0, 1, 2, 3, 4, 5, 6] O O O ?_ O ?_
            · (repeat' (first|exact V0|refine V3 ?_|refine V2 ?_ ?_|fail))
            · (repeat' (first|exact V0|refine V3 ?_|refine V2 ?_ ?_|fail))
              all_goals first | rfl | (refine Cv.eq ?_; simp [AV.ren, AV.rens, renL]; done)
          by_cases hg2 : 64 ≤ x.2.length
          · rw [if_pos (.inr hg2)] at hF
            (repeat' (first|refine AWR.seq_k (fun K hK=>?_)|(refine hK _ ?_;clear hK)|refine AWR.uC (fun hc=>?_) (fun hc=>?_)|refine AWR.ret ?_|refine AWR.skip ?_|exact trivial|refine AWR.rI [7, 8, 9, 10, 11, 12, 14, 15, 17, 18] O ?_|refine Run.c0 hT O O O O O O O O ?_|refine Run.c0 hSp O O O O O O O O ?_|refine Run.c0 hRd O O O O O O O O ?_|refine Ud ?_|fail))
            all_goals first | (exfalso; exact hn (by assumption)) | skip
            refine ⟨_, ⟨((x.1, 3) : Nat × Int), hF.symm, rfl⟩, ?_⟩
            refine Conv.mk [0, 1, 2, 3, 4, 5, 6] O O O ?_ O ?_
            · (repeat' (first|exact V0|refine V3 ?_|refine V2 ?_ ?_|fail))
            · (repeat' (first|exact V0|refine V3 ?_|refine V2 ?_ ?_|fail))
              all_goals first | rfl | (refine Cv.eq ?_; simp [AV.ren, AV.rens, renL]; done)
          · rw [if_neg (by omega)] at hF
            (repeat' (first|refine AWR.seq_k (fun K hK=>?_)|(refine hK _ ?_;clear hK)|refine AWR.uC (fun hc=>?_) (fun hc=>?_)|refine AWR.skip ?_|exact trivial|refine AWR.rI [7, 8, 9, 10, 11, 12, 14, 15, 17, 19] O ?_|refine Run.c0 hT O O O O O O O O ?_|refine Run.c0 hSp O O O O O O O O ?_|refine Run.c0 hRd O O O O O O O O ?_|refine Ud ?_|fail))
            all_goals first | (exfalso; exact hn (by assumption)) | skip
            refine ⟨_, ⟨(x.1 + 1, x.2 ++ [r]), hF.symm, rfl⟩, ?_⟩
            rw [pX_snoc]
            refine Conv.mk [0, 1, 2, 3, 4, 5, 6] O O O ?_ O ?_
            · (repeat' (first|exact V0|refine V3 ?_|refine V2 ?_ ?_|fail))
            · (repeat' (first|exact V0|refine V3 ?_|refine V2 ?_ ?_|fail))
              all_goals first | rfl | (refine Cv.eq ?_; simp [AV.ren, AV.rens, renL]; done)
      · rw [if_pos he] at hF
        (repeat' (first|refine AWR.seq_k (fun K hK=>?_)|(refine hK _ ?_;clear hK)|refine AWR.uC (fun hc=>?_) (fun hc=>?_)|refine AWR.ret ?_|refine AWR.skip ?_|exact trivial|refine AWR.rI [7, 8, 9, 10, 11, 12, 13] O ?_|refine Run.c0 hT O O O O O O O O ?_|refine Run.c0 hSp O O O O O O O O ?_|refine Ud ?_|fail))
        all_goals first | (exfalso; exact hn (by assumption)) | skip
        refine ⟨_, ⟨((x.1, er) : Nat × Int), hF.symm, rfl⟩, ?_⟩
        refine Conv.mk [0, 1, 2, 3, 4, 5, 6] O O O ?_ O ?_
        · (repeat' (first|exact V0|refine V3 ?_|refine V2 ?_ ?_|fail))
        · (repeat' (first|exact V0|refine V3 ?_|refine V2 ?_ ?_|fail))
          all_goals first | rfl | (refine Cv.eq ?_; simp [AV.ren, AV.rens, renL]; done)
def parseE : PX ⊕ (Nat × Int) → AV
  | .inl x => .tup [.sl 5 (ruP x.2) false, .v (.int .i64 (x.1 : Int)), .v (.int .i64 0)]
  | .inr y => .tup [.v (.slice none 0 0), .v (.int .i64 (y.1 : Int)), .v (.int .i64 y.2)]
def parseF (s : List UInt8) : PX ⊕ (Nat × Int) := if 65536 < s.length then .inr (0, 3) else foldS lineF (0, []) (linesG s.length s)
theorem AW.run {P : Program} {g : Ent} {c : Code} {Q : Exit → State → Prop} {s : State} {R : Exit → Act → World → Prop} {I : Nat → CI} {M : Nat → Nat} {w : World} {a : Act} (h : AW P g c Q s) (hst : St g I M w a s)
    (hk : ∀ e a' w', (∃ I' M' s', St g I' M' w' a' s' ∧ Q e s') → R e a' w') : c.wp P R a w := wp_mono (h I M w a hst) hk
theorem lineF_ok {x : PX} {line : List UInt8} {x' : PX} (h : lineF x line = .inl x') : x'.1 = x.1 + 1 ∧ (x.2.length ≤ 64 → x'.2.length ≤ 64) := by
  rw [lineF] at h
  split at h
  · obtain rfl := Sum.inl.inj h
    exact ⟨rfl, fun h => h⟩
  split at h
  · cases h
  split at h
  · cases h
  split at h
  · cases h
  · obtain rfl := Sum.inl.inj h
    refine ⟨rfl, fun h => ?_⟩
    rename_i h1
    simp only [List.length_append, List.length_cons, List.length_nil]
    omega
set_option maxHeartbeats 4000000 in
theorem Parse_c (s : List UInt8) (hs : s.length ≤ 1099511627776) : ACalls Tryz.prog 52 [.v (.string (bs s))] [] (parseE (parseF s)) [] := by
  have hrl : (parseE (parseF s)).lt 0 = true := by cases parseF s <;> rfl
  generalize hR : parseF s = R at hrl
  rw [parseF] at hR
  have hLi := Lines_c s
  refine ACalls.ofM (fn := Tryz.f52) Tryz.func52 O O Tryz.ntmps52 (fun I M w hno => ?_)
  refine DW.seq_k hno hrl (fun K hK => ?_)
  (repeat' (first|(refine hK _ ?_;clear hK)|refine rG 0 ?_|refine UA ?_|fail))
  refine DW.seq_k hno hrl (fun K hK => ?_)
  by_cases hb : 65536 < s.length
  · rw [if_pos hb] at hR
    subst hR
    (repeat' (first|refine AW.seq_k (fun K hK=>?_)|(refine hK _ ?_;clear hK)|refine AW.uC (fun hc=>?_) (fun hc=>?_)|refine AW.ret ?_|exact trivial|refine AW.rI [1, 2] O ?_|refine Ud ?_|fail))
    exact ⟨rfl, _, ResA.cell1 O O O O (ResA.cell1 O O O O (ResA.cell1 O O O O ResA.nil)), Cv.refl⟩
  rw [if_neg hb] at hR
  (repeat' (first|refine AW.seq_k (fun K hK=>?_)|(refine hK _ ?_;clear hK)|refine AW.uC (fun hc=>?_) (fun hc=>?_)|refine AW.skip ?_|exact trivial|refine rG 1 ?_|refine Ud ?_|fail))
  refine DW.seq_k hno hrl (fun K hK => ?_)
  (repeat' (first|(refine hK _ ?_;clear hK)|refine rG 3 ?_|refine Ud ?_|fail))
  refine DW.seq_k hno hrl (fun K hK => ?_)
  (repeat' (first|(refine hK _ ?_;clear hK)|refine rG 4 ?_|refine Ud ?_|fail))
  intro I1 M1 w1 a1 st1
  refine wp_seq (wp_seq (wp_mono (AW.region (id := 5) (g := EntM 64 I M w) (Q := fun e s' => e = .normal ∧ Conv (EntM 64 I M w) s' ⟨pFr, .box [.v (.string (bs s))] :: pX (0, [])⟩) ?_ I1 M1 w1 a1 st1) ?_))
  · (iterate 2 (try (first|refine Run.cSA [] hLi O O O O O O O O O O O O ?_|refine UA ?_|fail)))
    refine Run.fin O ⟨rfl, ?_⟩
    (refine Conv.ownB 3 0 5 [] O O (Or.inr ⟨rfl, rfl⟩) (by repeat constructor) (by repeat constructor) ?_)
    refine Conv.mk [5, 0, 1, 2, 3, 4, 6] O O O ?_ O ?_
    · (repeat' (first|exact V0|refine V3 ?_|refine V2 ?_ ?_|fail))
    · (repeat' (first|exact V0|refine V3 ?_|refine V2 ?_ ?_|fail))
      all_goals first | rfl | (refine Cv.eq ?_; simp [AV.ren, AV.rens, renL]; done)
  rintro e a2 w2 ⟨I2, M2, s2, st2, rfl, hcv⟩
  obtain ⟨I3, M3, st3⟩ := hcv _ _ _ _ st2
  simp only [Exit.then]
  refine range_wp lineF pX pY (fun x n => x.1 + n ≤ s.length ∧ x.2.length ≤ 64) 6 (fun _ => rfl) (fun _ => rfl) (fun x line x' n k hx hst hk => ?_) pF2 O s hs (0, []) ⟨by simp, by simp⟩ st3 O O (fun line σ l I M w own => ?_) (fun x line rest l I M w own n hx hn hl => ?_) (fun x rest D I' M' a' w' hf hD hDw st => ?_) (fun y rest D I' M' a' w' hf hD hDw st => ?_)
  · obtain ⟨h1, h2⟩ := lineF_ok hst
    exact ⟨by omega, h2 hx.2⟩
  · (repeat' (first|refine rH 6 ?_|refine UA ?_|fail))
    exact ⟨rfl, rfl⟩
  · obtain ⟨c, hc, h⟩ := bodyP s hs x line rest l I M w own (by omega) hx.2 hl
    subst hc
    exact h
  · rw [hf] at hR
    subst hR
    have hDl := (Array.getElem?_eq_some_iff.1 hD).1
    simp only [Exit.then]
    refine AW.run (g := @Ent.mk 64 7 I' M' w' (fun b => ∃ k, blkOf (I' k) (sto (.box [.v (.string (bs rest))] :: pX x) k) = some b) ⟨markD D⟩) (Q := fun e s => e = .ret ∧ RetQ Tryz.prog Tryz.f52 (parseE (.inl x)) s) (s := ⟨pFr, .box [.v (.string (bs rest))] :: pX x⟩) ?_ ⟨st.fr, st.df, st.st, Nat.le_refl _, st.no, Ext.refl _ _ _ _, fun k b hb => .inr ⟨k, hb⟩, st.no⟩ ?_
    · refine AW.seq_k (fun K hK => ?_)
      (repeat' (first|(refine hK _ ?_;clear hK)|refine AW.ret ?_|refine AW.draw (id := 20) (by kernel_rfl) ?_|refine UA ?_|fail))
      exact ⟨rfl, _, ResA.cell1 O O O O (ResA.cell1 O O O O (ResA.cell1 O O O O ResA.nil)), cv_resV (CvL.cons (Cv.rowf O O) (CvL.refl _)) O⟩
    rintro e a4 w4 ⟨I4, M4, s4, st4, rfl, vs, q1, q2⟩
    have hD4 : w4.heap[D]? = some (.deferred (some [])) := (st4.ext.oth D hDl (fun ⟨k, hk⟩ => (st.st.own k).notDef hD hk)).1.trans hD
    exact end_marks hno st st4 (.inr ⟨D, st4.df, hD4, hDw⟩) q1 q2 hrl
  · rw [hf] at hR
    subst hR
    simp only [Exit.then]
    exact end_marks (p1 := 7) (ds1 := ⟨markD D⟩) hno st ⟨st.fr, st.df, st.st, Nat.le_refl _, st.no, Ext.refl _ _ _ _, fun k b hb => .inr ⟨k, hb⟩, st.no⟩ (.inr ⟨D, st.df, hD, hDw⟩) (ResA.cell1 O O O O (ResA.cell1 O O O O (ResA.cell1 O O O O ResA.nil))) Cv.refl hrl
abbrev wAny : Wd := [97, 110, 121]
def inB (l : List Wd) (x : Wd) : Bool := decide (x ∈ l) || (decide (x = wAny) && decide (0 < l.length))
def arityF (k : Int) : Int := if k = 1 ∨ k = 2 then 0 else if k = 3 then 1 else if k = 4 ∨ k = 5 then 2 else -1
end Go.Proofs.YtbbcokckealagaaGreat
