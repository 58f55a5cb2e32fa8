/-
  Walks of chapter 41: the records of a session.
-/
import Derived.Test.YtbbcokckealagaaGreatQAA
import Derived.Test.YtbbcokckealagaaGreatQCG
import Derived.Test.YtbbcokckealagaaGreatQAN
namespace Go.Proofs.YtbbcokckealagaaGreat
set_option linter.unusedVariables false
set_option linter.unusedSimpArgs false
def addL (b : Bool) (l : List Rc) (r : Rc) : List Rc := if b = true then l ++ [r] else l
theorem addL_len (b : Bool) (l : List Rc) (r : Rc) : (addL b l r).length ≤ l.length + 1 := by cases b <;> simp [addL]
theorem rcs_app (a b : List Rc) : rcs (a ++ b) = rcs a ++ rcs b := List.map_append
set_option maxHeartbeats 4000000 in
theorem add_c (b : Bool) (l : List Rc) (r : Rc) (hl : l.length ≤ 1000000000) : ACalls Tryz.prog 68 [.v (.bool b), .agg r.cells, .ptr 0 0] [.box [.row 1 (rcs l).length], .row 11 (rcs l)] (.tup []) [.box [.row 1 (rcs (addL b l r)).length], .row 11 (rcs (addL b l r))] := by
  have hll : (rcs l).length = l.length := by simp
  cases b with
  | false =>
    rw [addL, if_neg (by decide)]
    refine (ACalls.of (fn := Tryz.f68) Tryz.func68 O O Tryz.ntmps68 (fun I M w own => ?_))
    (repeat' (first|refine AW.seq_k (fun K hK=>?_)|(refine hK _ ?_;clear hK)|refine AW.uC (fun hc=>?_) (fun hc=>?_)|refine AW.skip ?_|exact trivial|refine AW.rI [0, 1] O ?_|refine UA ?_|fail))
    all_goals first | (exfalso; simp at hc; done) | skip
    ((first|refine RetOk.tupS [0, 1] O O O O O ?_ ?_|refine RetOk.oneS [0, 1] O O O O ?_ ?_)<;>(repeat' (first|exact V0|refine V1 ?_|refine V2 ?_ ?_|fail)))
    all_goals rfl
  | true =>
    rw [addL, if_pos O, rcs_app]
    refine (ACalls.of (fn := Tryz.f68) Tryz.func68 O O Tryz.ntmps68 (fun I M w own => ?_))
    (repeat' (first|refine AW.seq_k (fun K hK=>?_)|(refine hK _ ?_;clear hK)|refine AW.uC (fun hc=>?_) (fun hc=>?_)|exact trivial|refine AW.region ?_|refine UA ?_|fail))
    all_goals first | (exfalso; simp at hc; done) | skip
    ((first|refine RetOk.tupS [0, 1] O O O O O ?_ ?_|refine RetOk.oneS [0, 1] O O O O ?_ ?_)<;>(repeat' (first|exact V0|refine V1 ?_|refine V2 ?_ ?_|fail)))
    all_goals simp [AV.ren, AV.rens, renL]
theorem add_n (b : Bool) (l : List Rc) (kind id : Int) (role : List UInt8) (dir ch rate lat n dev : Int) (text : List UInt8) (hl : l.length ≤ 1000000000) : ACalls Tryz.prog 68 [.v (.bool b), .agg [.v (.int .i64 kind), .v (.int .i64 id), .v (.string (bs role)), .v (.int .i64 dir), .v (.int .i64 ch), .v (.int .i64 rate), .v (.int .i64 lat), .v (.int .i64 n), .v (.int .u64 dev), .v (.slice none 0 0), .v (.string (bs text))], .ptr 0 0] [.box [.row 1 (rcs l).length], .row 11 (rcs l)] (.tup [])
    [.box [.row 1 (rcs (addL b l ⟨kind, id, role, dir, ch, rate, lat, n, dev, [], text⟩)).length], .row 11 (rcs (addL b l ⟨kind, id, role, dir, ch, rate, lat, n, dev, [], text⟩))] :=
  (add_c b l ⟨kind, id, role, dir, ch, rate, lat, n, dev, [], text⟩ hl).weak (.cons .same (.cons (.agg (.cons .same (.cons .same (.cons .same (.cons .same (.cons .same (.cons .same (.cons .same (.cons .same (.cons .same (.cons .nil (.cons .same .nil)))))))))))) (.cons .same .nil)))
def recK (l : List Rc) (k : Kp) : List Rc :=
  addL (decide (k.pin ≠ 0)) (addL k.muted (addL (decide (k.vol ≠ 100)) (addL true l ⟨1, k.id, k.role, k.dir, k.ch, k.rate, k.lat, 0, 0, [], []⟩) ⟨3, k.id, [], 0, 0, 0, 0, k.vol, 0, [], []⟩) ⟨4, k.id, [], 0, 0, 0, 0, 1, 0, [], []⟩) ⟨5, k.id, [], 0, 0, 0, 0, 0, k.pin, [], []⟩
def recC (l : List Rc) (c : Ch) : List Rc := addL true l ⟨6, 0, c.role, 0, 0, 0, 0, 0, c.dev, c.set, []⟩
def recsP (s : Se) : List Rc := addL (decide (s.text ≠ [])) (s.mem.foldl recC (s.streams.foldl recK [])) ⟨7, 0, [], 0, 0, 0, 0, 0, 0, [], s.text⟩
theorem recK_len (l : List Rc) (k : Kp) : (recK l k).length ≤ l.length + 4 := by
  have h1 := addL_len true l ⟨1, k.id, k.role, k.dir, k.ch, k.rate, k.lat, 0, 0, [], []⟩
  have h2 := addL_len (decide (k.vol ≠ 100)) (addL true l ⟨1, k.id, k.role, k.dir, k.ch, k.rate, k.lat, 0, 0, [], []⟩) ⟨3, k.id, [], 0, 0, 0, 0, k.vol, 0, [], []⟩
  have h3 := addL_len k.muted (addL (decide (k.vol ≠ 100)) (addL true l ⟨1, k.id, k.role, k.dir, k.ch, k.rate, k.lat, 0, 0, [], []⟩) ⟨3, k.id, [], 0, 0, 0, 0, k.vol, 0, [], []⟩) ⟨4, k.id, [], 0, 0, 0, 0, 1, 0, [], []⟩
  have h4 := addL_len (decide (k.pin ≠ 0)) (addL k.muted (addL (decide (k.vol ≠ 100)) (addL true l ⟨1, k.id, k.role, k.dir, k.ch, k.rate, k.lat, 0, 0, [], []⟩) ⟨3, k.id, [], 0, 0, 0, 0, k.vol, 0, [], []⟩) ⟨4, k.id, [], 0, 0, 0, 0, 1, 0, [], []⟩) ⟨5, k.id, [], 0, 0, 0, 0, 0, k.pin, [], []⟩
  rw [recK]; omega
set_option maxHeartbeats 4000000 in
theorem Records_c (s : Se) (hs : s.ok) : ACalls Tryz.prog 30 [.agg s.cells] [] (.sl 11 (rcs (recsP s)) false) [] := by
  have hkl : (kps s.streams).length = s.streams.length := by simp
  have hcl : (chs s.mem).length = s.mem.length := by simp
  generalize hr : recsP s = r
  rw [recsP] at hr
  refine (ACalls.of (fn := Tryz.f30) Tryz.func30 O O Tryz.ntmps30 (fun I M w own => ?_))
  (repeat' (first|refine AW.seq_k (fun K hK=>?_)|(refine hK _ ?_;clear hK)|refine AW.block ?_|refine AW.rI [0, 1, 2, 3] O ?_|refine UA ?_|fail))
  refine AW.loopF (X := Nat × List Rc) (fun x => ⟨[(1, .ptr 0 0), (3, .ptr 1 0), (4, .fn 68 [.ptr 1 0]), (11, .sl 9 (kps s.streams) false), (12, .v (.int .i64 (s.streams.length : Int))), (13, .v (.int .i64 (x.1 : Int)))], [.box s.cells, .box [.row 2 (rcs x.2).length], .row 11 (rcs x.2)]⟩)
    (fun x => x.1 ≤ s.streams.length ∧ (s.streams.drop x.1).foldl recK x.2 = s.streams.foldl recK [] ∧ x.2.length ≤ 4 * x.1) (fun x => s.streams.length - x.1) (0, []) ?_ ?_ ?_
  · (refine Conv.ownB 1 0 11 [] O O (Or.inr ⟨rfl, rfl⟩) (by repeat constructor) (by repeat constructor) ?_)
    refine Conv.mk [0, 1, 2] O O O ?_ O ?_
    · (repeat' (first|exact V0|refine V3 ?_|refine V2 ?_ ?_|fail))
      (all_goals (try (first|refine CvL.eq ?_|refine Cv.eq ?_)))
      all_goals simp [AV.ren, renL]
    · (repeat' (first|exact V0|refine V3 ?_|refine V2 ?_ ?_|fail))
      all_goals rfl
  · simp
  · rintro ⟨i, L⟩ ⟨h1, h2, h3⟩
    simp only at h1 h2 h3 ⊢
    rcases Nat.lt_or_ge i s.streams.length with h | h
    · have hA : At (kps s.streams) (i : Int) s.streams[i].pv := At.mk i O (by simp [h])
      have hk4 := recK_len L s.streams[i]
      rw [List.drop_eq_getElem_cons h, List.foldl_cons] at h2
      obtain ⟨k, hk⟩ : ∃ k, k = s.streams[i] := ⟨_, rfl⟩
      rw [← hk] at hA h2 hk4
      obtain ⟨L4, hL4⟩ : ∃ L4, L4 = recK L k := ⟨_, rfl⟩
      rw [← hL4] at h2 hk4
      rw [recK] at hL4
      have hst := hs.st
      have ha1 := add_n true L 1 k.id k.role k.dir k.ch k.rate k.lat 0 0 [] (by omega)
      have l1 := addL_len true L ⟨1, k.id, k.role, k.dir, k.ch, k.rate, k.lat, 0, 0, [], []⟩
      generalize addL true L ⟨1, k.id, k.role, k.dir, k.ch, k.rate, k.lat, 0, 0, [], []⟩ = L1 at ha1 l1 hL4
      have ha2 := add_n (decide (k.vol ≠ 100)) L1 3 k.id [] 0 0 0 0 k.vol 0 [] (by omega)
      have l2 := addL_len (decide (k.vol ≠ 100)) L1 ⟨3, k.id, [], 0, 0, 0, 0, k.vol, 0, [], []⟩
      generalize addL (decide (k.vol ≠ 100)) L1 ⟨3, k.id, [], 0, 0, 0, 0, k.vol, 0, [], []⟩ = L2 at ha2 l2 hL4
      have ha3 := add_n k.muted L2 4 k.id [] 0 0 0 0 1 0 [] (by omega)
      have l3 := addL_len k.muted L2 ⟨4, k.id, [], 0, 0, 0, 0, 1, 0, [], []⟩
      generalize addL k.muted L2 ⟨4, k.id, [], 0, 0, 0, 0, 1, 0, [], []⟩ = L3 at ha3 l3 hL4
      have ha4 := add_n (decide (k.pin ≠ 0)) L3 5 k.id [] 0 0 0 0 0 k.pin [] (by omega)
      rw [← hL4] at ha4
      clear hk
      (repeat' (first|refine AW.seq_k (fun K hK=>?_)|(refine hK _ ?_;clear hK)|refine AW.uC (fun hc=>?_) (fun hc=>?_)|refine AW.block ?_|refine AW.skip ?_|exact trivial|refine AW.rI [4, 5, 6, 7, 8, 9, 10] O ?_|refine Run.cSA [1, 2] ha1 O O O O O O O O O O O O ?_|refine Run.cSA [1, 2] ha2 O O O O O O O O O O O O ?_|refine Run.cSA [1, 2] ha3 O O O O O O O O O O O O ?_|refine Run.cSA [1, 2] ha4 O O O O O O O O O O O O ?_|refine UA ?_|fail))
      ((repeat (with_reducible refine inB_n ?_)); refine thenA_n ?_)
      refine ⟨(i + 1, L4), ⟨h, h2, by simp only; omega⟩, by simp only; omega, ?_⟩
      refine Conv.mk [0, 1, 2] O O O ?_ O ?_
      · (repeat' (first|exact V0|refine V3 ?_|refine V2 ?_ ?_|fail))
        (all_goals (try (first|refine CvL.eq ?_|refine Cv.eq ?_)))
        all_goals simp [AV.ren, renL]
      · (repeat' (first|exact V0|refine V3 ?_|refine V2 ?_ ?_|fail))
        all_goals rfl
    · have hge : s.streams.drop i = [] := List.drop_eq_nil_of_le h
      rw [hge, List.foldl_nil] at h2
      rw [← h2] at hr
      have hst := hs.st
      have hi : i = s.streams.length := by omega
      subst hi
      (repeat' (first|refine AW.seq_k (fun K hK=>?_)|(refine hK _ ?_;clear hK)|refine AW.uC (fun hc=>?_) (fun hc=>?_)|refine AW.block ?_|refine AW.exit ?_|(clear hK;refine hK _ ?_;clear hK)|exact trivial|refine AW.rI [4, 11] O ?_|refine UA ?_|fail))
      refine AW.loopF (X := Nat × List Rc) (fun x => ⟨[(1, .ptr 0 0), (3, .ptr 1 0), (4, .fn 68 [.ptr 1 0]), (62, .sl 3 (chs s.mem) false), (63, .v (.int .i64 (s.mem.length : Int))), (64, .v (.int .i64 (x.1 : Int)))], [.box s.cells, .box [.row 2 (rcs x.2).length], .row 11 (rcs x.2)]⟩)
        (fun x => x.1 ≤ s.mem.length ∧ (s.mem.drop x.1).foldl recC x.2 = s.mem.foldl recC L ∧ x.2.length ≤ 4 * s.streams.length + x.1) (fun x => s.mem.length - x.1) (0, L) ?_ ?_ ?_
      · refine Conv.mk [0, 1, 2] O O O ?_ O ?_
        · (repeat' (first|exact V0|refine V3 ?_|refine V2 ?_ ?_|fail))
          (all_goals (try (first|refine CvL.eq ?_|refine Cv.eq ?_)))
          all_goals simp [AV.ren, renL]
        · (repeat' (first|exact V0|refine V3 ?_|refine V2 ?_ ?_|fail))
          all_goals rfl
      · simpa using h3
      · rintro ⟨j, N⟩ ⟨g1, g2, g3⟩
        simp only at g1 g2 g3 ⊢
        have hm := hs.mem
        rcases Nat.lt_or_ge j s.mem.length with g | g
        · have hA : At (chs s.mem) (j : Int) s.mem[j].pv := At.mk j O (by simp [g])
          rw [List.drop_eq_getElem_cons g, List.foldl_cons] at g2
          have hcl1 := Clone_c s.mem[j].set false (hs.small _ (List.getElem_mem g))
          obtain ⟨c, hc0⟩ : ∃ c, c = s.mem[j] := ⟨_, rfl⟩
          rw [← hc0] at hA g2 hcl1
          clear hc0
          have ha1 := add_c true N ⟨6, 0, c.role, 0, 0, 0, 0, 0, c.dev, c.set, []⟩ (by omega)
          have l1 := addL_len true N ⟨6, 0, c.role, 0, 0, 0, 0, 0, c.dev, c.set, []⟩
          rw [recC] at g2
          generalize addL true N ⟨6, 0, c.role, 0, 0, 0, 0, 0, c.dev, c.set, []⟩ = N1 at ha1 l1 g2
          (repeat' (first|refine AW.seq_k (fun K hK=>?_)|(refine hK _ ?_;clear hK)|refine AW.uC (fun hc=>?_) (fun hc=>?_)|refine AW.block ?_|refine AW.skip ?_|exact trivial|refine AW.draw (id := 14) (by kernel_rfl) ?_|refine AW.rI [12, 13, 15] O ?_|refine Run.c0 hcl1 O O O O O O O O ?_|refine Run.cSA [1, 2] ha1 O O O O O O O O O O O O ?_|refine UA ?_|fail))
          ((repeat (with_reducible refine inB_n ?_)); refine thenA_n ?_)
          refine ⟨(j + 1, N1), ⟨g, g2, by simp only; omega⟩, by simp only; omega, ?_⟩
          refine Conv.mk [0, 1, 2] O O O ?_ O ?_
          · (repeat' (first|exact V0|refine V3 ?_|refine V2 ?_ ?_|fail))
            (all_goals (try (first|refine CvL.eq ?_|refine Cv.eq ?_)))
            all_goals simp [AV.ren, renL]
          · (repeat' (first|exact V0|refine V3 ?_|refine V2 ?_ ?_|fail))
            all_goals rfl
        · have hge2 : s.mem.drop j = [] := List.drop_eq_nil_of_le g
          rw [hge2, List.foldl_nil] at g2
          rw [← g2] at hr
          have ha1 := add_n (decide (s.text ≠ [])) N 7 0 [] 0 0 0 0 0 0 s.text (by omega)
          rw [hr] at ha1
          (repeat' (first|refine AW.seq_k (fun K hK=>?_)|(refine hK _ ?_;clear hK)|refine AW.uC (fun hc=>?_) (fun hc=>?_)|refine AW.exit ?_|refine AW.ret ?_|(clear hK;refine hK _ ?_;clear hK)|exact trivial|refine AW.rI [12, 16, 17] O ?_|refine Run.cSA [1, 2] ha1 O O O O O O O O O O O O ?_|refine UA ?_|fail))
          ((first|refine RetOk.tup O O ?_|refine RetOk.one O ?_)<;>(repeat' (first|exact V0|refine V1 ?_|refine V2 ?_ ?_|fail)))
theorem ACalls.cv {P : Program} {f : FuncId} {args args' : List AV} {σ σ' : List Res} {r : AV} (h : ACalls P f args σ r σ') (hc : CvL (sto σ) args' args) : ACalls P f args' σ r σ' := fun I M w cargs hs hav hsto hno =>
  h I M w cargs (by rw [hs, hc.len]) (fun i v c hv hcc => by
    obtain ⟨p, hp, hpq⟩ := hc.get hcc
    exact hpq I M w v hsto (hav i v p hv hp)) hsto hno
def noT : List UInt8 → Bool := fun _ => false
def musicN : List UInt8 := [109, 117, 115, 105, 99]
def gameN : List UInt8 := [103, 97, 109, 101]
abbrev o3 : Rc := ⟨1, 3, musicN, 1, 2, 48000, 0, 0, 0, [], []⟩
abbrev v3 : Rc := ⟨3, 3, [], 0, 0, 0, 0, 50, 0, [], []⟩
abbrev c3 : Rc := ⟨2, 3, [], 0, 0, 0, 0, 0, 0, [], []⟩
abbrev k3 : Kp := ⟨3, musicN, 1, 2, 48000, 0, 50, false, 0⟩
abbrev s3 : Se := ⟨[k3], [], []⟩
theorem zero_ok : Se.zero.ok := ⟨by simp [Se.zero], by simp [Se.zero], fun c hc => by simp [Se.zero] at hc, fun c hc => by simp [Se.zero] at hc⟩
theorem s3_ok : s3.ok := ⟨by simp, by simp, fun c hc => by simp at hc, fun c hc => by simp at hc⟩
theorem ap1 : applyP noT Se.zero o3 = (⟨[o3.kept], [], []⟩, 0) := by
  rw [apply_eq noT Se.zero o3 List.Pairwise.nil]; kernel_rfl
theorem ap2 : applyP noT ⟨[o3.kept], [], []⟩ v3 = (s3, 0) := by
  rw [apply_eq noT ⟨[o3.kept], [], []⟩ v3 (List.pairwise_singleton ..)]; kernel_rfl
theorem ap3 : applyP noT s3 c3 = (Se.zero, 0) := by
  rw [apply_eq noT s3 c3 (List.pairwise_singleton ..)]; kernel_rfl
theorem rp3 : replayGo noT [o3, v3] Se.zero 0 = (s3, 2, 0) := by
  rw [replayGo, ap1, if_pos O, replayGo, ap2, if_pos O, replayGo]
abbrev Rc.nv (r : Rc) : List PV := [.v (.int .i64 r.kind), .v (.int .i64 r.id), .v (.string (bs r.role)), .v (.int .i64 r.dir), .v (.int .i64 r.ch), .v (.int .i64 r.rate), .v (.int .i64 r.lat), .v (.int .i64 r.n), .v (.int .u64 r.dev), .v (.slice none 0 0), .v (.string (bs r.text))]
theorem rowN (r : Rc) (h : r.set = []) : NilRow r.nv r.pv := by
  obtain ⟨kind, id, role, dir, ch, rate, lat, n, dev, set, text⟩ := r
  subst h
  exact .cons (.same O) (.cons (.same O) (.cons (.same O) (.cons (.same O) (.cons (.same O) (.cons (.same O) (.cons (.same O) (.cons (.same O) (.cons (.same O) (.cons .nil (.cons (.same O) (.nil)))))))))))
abbrev Rc.ncells (r : Rc) : List AV := [.v (.int .i64 r.kind), .v (.int .i64 r.id), .v (.string (bs r.role)), .v (.int .i64 r.dir), .v (.int .i64 r.ch), .v (.int .i64 r.rate), .v (.int .i64 r.lat), .v (.int .i64 r.n), .v (.int .u64 r.dev), .v (.slice none 0 0), .v (.string (bs r.text))]
theorem wkN (r : Rc) (h : r.set = []) : Wk (.agg r.cells) (.agg r.ncells) := by
  obtain ⟨kind, id, role, dir, ch, rate, lat, n, dev, set, text⟩ := r
  subst h
  exact .agg (.cons .same (.cons .same (.cons .same (.cons .same (.cons .same (.cons .same (.cons .same (.cons .same (.cons .same (.cons .nil (.cons .same .nil)))))))))))
set_option maxHeartbeats 4000000 in
theorem sane_c : ACalls Tryz.prog 7 [] [] (.v (.bool true)) [] := by
  have hps : ∀ f (r : Rc), r.kind ≠ 7 → PsOk noT f r := fun f r h h7 => absurd h7 h
  have h1 := Replay_c noT [o3, v3] true (by simp) (fun r hr => by
    simp only [List.mem_cons, List.not_mem_nil, or_false] at hr
    rcases hr with rfl | rfl <;> exact ⟨by simp [musicN], by simp, by simp⟩) (fun r hr => hps _ _ (by
    simp only [List.mem_cons, List.not_mem_nil, or_false] at hr
    rcases hr with rfl | rfl <;> simp))
  rw [rp3] at h1
  have h2 := Apply_c noT s3 c3 s3_ok ⟨by simp, by simp, by simp⟩ (hps _ _ (by simp))
  rw [ap3] at h2
  have h3 := Records_c Se.zero zero_ok
  have h4 := Records_c s3 s3_ok
  have h1' := h1.cv (args' := [.sl 11 [o3.nv, v3.nv] true]) (.cons (Cv.slN (.cons (rowN o3 O) (.cons (rowN v3 O) .nil))) .nil)
  have h2' := h2.weak (args' := [.agg s3.cells, .agg c3.ncells]) (.cons .same (.cons (wkN c3 O) .nil))
  refine (ACalls.of (fn := Tryz.f7) Tryz.func7 O O Tryz.ntmps7 (fun I M w own => ?_))
  (repeat' (first|refine AW.seq_k (fun K hK=>?_)|(refine hK _ ?_;clear hK)|refine AW.ret ?_|refine AW.region ?_|refine Run.c0 h1' O O O O O O O O ?_|refine Run.c0 h2' O O O O O O O O ?_|refine Run.c0 h3 O O O O O O O O ?_|refine Run.c0 h4 O O O O O O O O ?_|refine Ud ?_|fail))
  ((first|refine RetOk.tup O O ?_|refine RetOk.one O ?_)<;>(repeat' (first|exact V0|refine V1 ?_|refine V2 ?_ ?_|fail)))
  (all_goals (try (first|refine CvL.eq ?_|refine Cv.eq ?_)))
  all_goals (simp only [AV.ren, AV.v.injEq, Value.bool.injEq]; kernel_rfl)
abbrev opK (i : Int) : Rc := ⟨1, 2 * i, musicN, 1, 1, 48000, 0, 0, 0, [], []⟩
def fullS (m : Nat) : Se := ⟨(List.range m).map fun j : Nat => (opK ((j : Int) + 1)).kept, [], []⟩
end Go.Proofs.YtbbcokckealagaaGreat
