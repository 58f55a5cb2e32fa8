/-
  Walk of the law SessionCompacts.
-/
import Derived.Test.YtbbcokckealagaaGreatQAA
import Derived.Test.YtbbcokckealagaaGreatQFD
namespace Go.Proofs.YtbbcokckealagaaGreat
set_option linter.unusedVariables false
set_option linter.unusedSimpArgs false
set_option maxHeartbeats 4000000 in
theorem SessionCompacts_c (l : List Int) (fl : Bool) (hl : Fits l) (v0 : Int) (hw : -9223372036854775808 ≤ v0 ∧ v0 ≤ 9223372036854775807) :
    ACalls Tryz.prog 6 [.sl 1 (ivs l) fl, .v (.int .i64 v0)] [] (.v (.bool true)) [] := by
  refine (ACalls.of (fn := Tryz.f6) Tryz.func6 O O Tryz.ntmps6 (fun I M w own => ?_))
  have hNl := New_c l fl
  have hSe := Session_c l hl 0 (Nat.zero_le _)
  obtain ⟨s1, s2, s3⟩ := sesP_ok l 0 (Nat.zero_le _)
  obtain ⟨oa, ol⟩ := sesP_all l
  have hRp := sesP_replay l 0
  have hGd := sesP_gd l 0
  generalize sesP l 0 = S at hSe s1 s2 s3 oa ol hRp hGd
  obtain ⟨s, o, a0⟩ := S
  simp only at hSe s1 s2 s3 oa ol hRp hGd
  have hol : (rcs o).length = o.length := by simp
  have hdec : ∀ r ∈ o, decM (encR r) = some r := fun r hr => decM_enc (oa r hr).1 (oa r hr).2.1
  have hsl : (kps s.streams).length = s.streams.length := by simp
  have hml : (chs s.mem).length = s.mem.length := by simp
  have hsl2 := hGd.len
  have hml2 : s.mem.length ≤ 32 := by
    have := hGd.mem
    simp only [validM, Bool.and_eq_true, decide_eq_true_eq] at this
    omega
  have hR1 := Records_c s s1
  have hfew := recsP_few s
  have hrr := rep_recs hGd s2
  generalize recsP s = R at hR1 hfew hrr
  have hrl : (rcs R).length = R.length := by simp
  have hpr := replay_proper R Se.zero 0 (by rw [hrr])
  have hRe := Replay_c okR R false (by omega) (fun r hr => (proper_ok (hpr r hr)).1) (fun r hr => ps_prog r (by have := (proper_ok (hpr r hr)).2; omega))
  rw [hrr] at hRe
  simp only at hRe
  rw [← hrl] at hRe
  have hS := SameS_c s s1
  have d1 : ¬ (((rcs R).length : Int) ≠ ((rcs R).length : Int)) := fun h => h O
  have d2 : ¬ ((0 : Int) ≠ 0) := fun h => h O
  have d3 : ¬ (((rcs R).length : Int) > 4 * ((kps s.streams).length : Int) + ((chs s.mem).length : Int) + 1) := by omega
  (repeat' (first|refine AW.seq_k (fun K hK=>?_)|(refine hK _ ?_;clear hK)|refine AW.uC (fun hc=>?_) (fun hc=>?_)|refine AW.block ?_|refine AW.skip ?_|exact trivial|refine AW.rI [0, 1, 3, 4, 5, 6, 8, 9] O ?_|refine Run.c0 sane_c O O O O O O O O ?_|refine Run.cSA [] hNl O O O O O O O O O O O O ?_|refine Run.cSA [0] hSe O O O O O O O O O O O O ?_|refine Run.c0 hR1 O O O O O O O O ?_|refine Run.c0 hRe O O O O O O O O ?_|refine Run.c0 hS O O O O O O O O ?_|refine Ud ?_|fail))
  refine AW.loopF (X := Nat × List UInt8) (fun y => ⟨[(1, .v (.int .i64 v0)), (5, .ptr 0 0), (6, .sl 11 (rcs o) false), (11, bsl y.2 false), (70, .sl 11 (rcs o) false), (71, .v (.int .i64 ((rcs o).length : Int))), (72, .v (.int .i64 (y.1 : Int)))], [.box s.cells]⟩)
    (fun y => y.1 ≤ o.length ∧ Jl o y.1 y.2) (fun y => o.length - y.1) (0, []) ?_ ⟨Nat.zero_le _, jl_nil o⟩ ?_
  · refine Conv.mk [1] O O O ?_ O ?_
    · (repeat' (first|exact V0|refine V3 ?_|refine V2 ?_ ?_|fail))
    · (repeat' (first|exact V0|refine V3 ?_|refine V2 ?_ ?_|fail))
  rintro ⟨i, b⟩ ⟨i1, i2⟩
  simp only at i1 i2 ⊢
  have hbl : (bsP b).length = b.length := by simp
  have hb3 := i2.len
  rcases Nat.lt_or_ge i o.length with h | h
  · have hlt : (i : Int) < ((rcs o).length : Int) := by omega
    have hA : At (rcs o) (i : Int) o[i].pv := At.mk i O (by simp [h])
    have hmem := List.getElem_mem h
    obtain ⟨p1, p2, p3, p4⟩ := oa o[i] hmem
    have hlen := encR_few p1 p2 p4
    have hJ := jl_snoc i2 h ol hlen
    have hdc := hdec _ hmem
    have hps := proper_set p1
    generalize o[i] = r at hA p1 p2 p3 p4 hlen hJ hdc hps
    have hE := sEncode_c r p3 p2 (by omega)
    rw [encE, if_pos p1] at hE
    generalize encR r = E at hE hlen hJ hdc
    have hD := sDecode_c E false (by omega)
    rw [hdc] at hD
    unfold decE at hD
    have hSr := SameRecord_c r r (by omega)
    rw [decide_eq_true O] at hSr
    have hAp := rAppend_c b E false false (by omega) (by omega)
    generalize apM b E = q at hAp hJ
    obtain ⟨b', e'⟩ := q
    simp only at hAp hJ
    (repeat' (first|refine AW.seq_k (fun K hK=>?_)|(refine hK _ ?_;clear hK)|refine AW.uC (fun hc=>?_) (fun hc=>?_)|refine AW.block ?_|refine AW.skip ?_|exact trivial|refine AW.rI [10, 11, 12, 13, 14, 16, 17] O ?_|refine Run.c0 hE O O O O O O O O ?_|refine Run.c0 hD O O O O O O O O ?_|refine Run.c0 hSr O O O O O O O O ?_|refine Run.c0 hAp O O O O O O O O ?_|refine Ud ?_|fail))
    ((repeat (with_reducible refine inB_n ?_)); refine thenA_n ?_)
    refine ⟨(i + 1, b'), ⟨h, hJ⟩, by simp only; omega, ?_⟩
    refine Conv.mk [0] O O O ?_ O ?_
    · (repeat' (first|exact V0|refine V3 ?_|refine V2 ?_ ?_|fail))
      all_goals first | rfl | (refine Cv.eq ?_; simp [AV.ren, renL]; done)
    · (repeat' (first|exact V0|refine V3 ?_|refine V2 ?_ ?_|fail))
  have hge : ¬ (i : Int) < ((rcs o).length : Int) := by omega
  obtain rfl : i = o.length := by omega
  have hj := i2.rs
  rw [List.take_length] at hj
  have hM := Mod_c v0 ((bsP b).length + 1 : Int) hw (by omega)
  have hm : 0 ≤ v0 % ((bsP b).length + 1 : Int) ∧ v0 % ((bsP b).length + 1 : Int) < ((bsP b).length + 1 : Int) := ⟨Int.emod_nonneg _ (by omega), Int.emod_lt_of_pos _ (by omega)⟩
  generalize v0 % ((bsP b).length + 1 : Int) = k at hM hm
  have hW := resP_whole hj hdec
  obtain ⟨n, hn, hT⟩ := resP_torn k.toNat hj hdec
  have ho0 : (replayGo okR o Se.zero 0).2.2 = 0 := by rw [hRp]
  have hT2 := replay_take o Se.zero 0 ho0 n hn
  have hRg := replay_gd (o.take n) Se.zero 0 zero_gd
  have hRo := replay_ok (okT := okR) (o.take n) Se.zero 0 zero_ok
  have hr1 := sRestore_c (b.take k.toNat) false (by rw [List.length_take]; omega)
  have hr2 := sRestore_c b false (by omega)
  have hlt : (o.take n).length = n := by rw [List.length_take]; omega
  have hRe2 := Replay_c okR (o.take n) false (by omega) (fun r hr => (oa r (List.mem_of_mem_take hr)).2.2.1) (fun r hr => ps_prog r (by have := (oa r (List.mem_of_mem_take hr)).2.2.2; omega))
  rw [hT] at hr1
  rw [hW, hRp] at hr2
  generalize replayGo okR (o.take n) Se.zero 0 = Q at hr1 hT2 hRg hRo hRe2
  obtain ⟨q1, q2⟩ := Q
  simp only at hr1 hT2 hRg hRo hRe2 hr2
  subst hT2
  simp only [Nat.zero_add] at hr1 hRe2
  rw [← hol] at hr2
  have hS1 := SameS_c q1 hRo
  have hV := rValid_c q1.mem false hRo.oks (by have := hRo.mem; omega)
  rw [← validM_eq, hRg.mem] at hV
  have hbt : bsl (b.take k.toNat) false = .sl 1 ((bsP b).take k.toNat) false := by
    show AV.sl 1 (bsP (b.take k.toNat)) false = _
    rw [show bsP (b.take k.toNat) = (bsP b).take k.toNat from List.map_take]
  have hot : (rcs o).take ((n : Nat) : Int).toNat = rcs (o.take n) := by rw [Int.toNat_natCast]; exact List.map_take.symm
  rw [hbt] at hr1
  rw [← hot] at hRe2
  have d4 : ¬ ((n : Int) > ((rcs o).length : Int)) := by omega
  have d5 : ¬ ((n : Int) < 0) := by omega
  have d6 : ¬ (((rcs o).length : Int) ≠ ((rcs o).length : Int)) := fun h => h O
  (repeat' (first|refine AW.seq_k (fun K hK=>?_)|(refine hK _ ?_;clear hK)|refine AW.uC (fun hc=>?_) (fun hc=>?_)|refine AW.exit ?_|refine AW.ret ?_|refine AW.skip ?_|(clear hK;refine hK _ ?_;clear hK)|exact trivial|refine AW.rI [10, 18, 19, 20, 22, 23] O ?_|refine Run.c0 hM O O O O O O O O ?_|refine Run.c0 hr1 O O O O O O O O ?_|refine Run.c0 hr2 O O O O O O O O ?_|refine Run.c0 hS O O O O O O O O ?_|refine Run.c0 hRe2 O O O O O O O O ?_|refine Run.c0 hS1 O O O O O O O O ?_|refine Run.c0 hV O O O O O O O O ?_|refine Ud ?_|fail))
  ((first|refine RetOk.tup O O ?_|refine RetOk.one O ?_)<;>(repeat' (first|exact V0|refine V1 ?_|refine V2 ?_ ?_|fail)))
end Go.Proofs.YtbbcokckealagaaGreat
