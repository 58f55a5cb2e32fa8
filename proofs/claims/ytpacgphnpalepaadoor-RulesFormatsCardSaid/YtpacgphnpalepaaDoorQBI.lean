/-
  Walks of the reference's writer of rules: a condition.
-/
import Derived.Test.YtpacgphnpalepaaDoorQAA
import Derived.Test.YtpacgphnpalepaaDoorQBA
import Derived.Test.YtpacgphnpalepaaDoorQAP
import Derived.Test.YtpacgphnpalepaaDoorQAI
import Derived.Test.YtpacgphnpalepaaDoorQAJ
namespace Go.Proofs.YtpacgphnpalepaaDoor
set_option linter.unusedVariables false
set_option linter.unusedSimpArgs false
abbrev Pc := List UInt8 × Int
abbrev pcP (l : List Pc) : List (List PV) := l.map fun p => [PV.v (.string (bs p.1)), PV.v (.int .i64 p.2)]
def aroundP (p : Pc) (b : Bool) : List UInt8 := if b = true then [40, 32] ++ p.1 ++ [32, 41] else p.1
def joinedP (p : Pc) : Bool := decide (p.2 = 4) || decide (p.2 = 5)
def pieceP (k : Int) (nm : Wd) (st : List Pc) : Pc :=
  if k = 1 then ([97, 99, 116, 105, 118, 101, 32] ++ nm, k) else if k = 2 then ([112, 114, 101, 115, 101, 110, 116, 32] ++ nm, k)
  else if k = 3 then ([110, 111, 116, 32] ++ aroundP (st.getD 0 ([], 0)) (joinedP (st.getD 0 ([], 0))), k)
  else if k = 4 then (aroundP (st.getD 0 ([], 0)) (decide ((st.getD 0 ([], 0)).2 = 5)) ++ [32, 97, 110, 100, 32] ++ aroundP (st.getD 1 ([], 0)) (joinedP (st.getD 1 ([], 0))), k)
  else ((st.getD 0 ([], 0)).1 ++ [32, 111, 114, 32] ++ aroundP (st.getD 1 ([], 0)) (joinedP (st.getD 1 ([], 0))), k)
def foldP : List Pc → List Tm → List Pc
  | st, [] => st
  | st, t :: r => foldP (st.take (st.length - (arityF t.1).toNat) ++ [pieceP t.1 t.2 (st.drop (st.length - (arityF t.1).toNat))]) r
def condP (c : List Tm) : List UInt8 := ((foldP [] c).getD 0 ([], 0)).1
set_option maxHeartbeats 4000000 in
theorem around_c (p : Pc) (b : Bool) (hp : p.1.length ≤ 9223372036854775000) : ACalls Tryd.prog 49 [.agg [.v (.string (bs p.1)), .v (.int .i64 p.2)], .v (.bool b)] [] (.v (.string (bs (aroundP p b)))) [] := by
  cases b with
  | true =>
    refine (ACalls.of (fn := Tryd.f49) Tryd.func49 Z Z Tryd.ntmps49 (fun I M w own => ?_))
    (repeat' (first|refine AW.seq_k (fun K hK=>?_)|(refine hK _ ?_;clear hK)|refine AW.uC (fun hc=>?_) (fun hc=>?_)|refine AW.ret ?_|exact trivial|refine AW.rI [0, 1, 2] Z ?_|refine UA ?_|fail))
    ((first|refine RetOk.tupS [] Z Z Z Z Z ?_ ?_|refine RetOk.oneS [] Z Z Z Z ?_ ?_)<;>(repeat' (first|exact V0|refine V1 ?_|refine V2 ?_ ?_|fail)))
    all_goals (refine Cv.eq ?_; simp [aroundP, AV.ren, renL]; done)
  | false =>
    refine (ACalls.of (fn := Tryd.f49) Tryd.func49 Z Z Tryd.ntmps49 (fun I M w own => ?_))
    (repeat' (first|refine AW.seq_k (fun K hK=>?_)|(refine hK _ ?_;clear hK)|refine AW.uC (fun hc=>?_) (fun hc=>?_)|refine AW.ret ?_|refine AW.skip ?_|exact trivial|refine AW.rI [0, 1, 3] Z ?_|refine UA ?_|fail))
    ((first|refine RetOk.tupS [] Z Z Z Z Z ?_ ?_|refine RetOk.oneS [] Z Z Z Z ?_ ?_)<;>(repeat' (first|exact V0|refine V1 ?_|refine V2 ?_ ?_|fail)))
set_option maxHeartbeats 4000000 in
theorem joined_c (p : Pc) : ACalls Tryd.prog 50 [.agg [.v (.string (bs p.1)), .v (.int .i64 p.2)]] [] (.v (.bool (joinedP p))) [] := by
  by_cases h4 : p.2 = 4
  · rw [show joinedP p = true by simp [joinedP, h4]]
    refine (ACalls.of (fn := Tryd.f50) Tryd.func50 Z Z Tryd.ntmps50 (fun I M w own => ?_))
    (repeat' (first|refine AW.seq_k (fun K hK=>?_)|(refine hK _ ?_;clear hK)|refine AW.ret ?_|refine AW.region ?_|refine Ud ?_|fail))
    ((first|refine RetOk.tupS [] Z Z Z Z Z ?_ ?_|refine RetOk.oneS [] Z Z Z Z ?_ ?_)<;>(repeat' (first|exact V0|refine V1 ?_|refine V2 ?_ ?_|fail)))
  by_cases h5 : p.2 = 5
  · rw [show joinedP p = true by simp [joinedP, h5]]
    refine (ACalls.of (fn := Tryd.f50) Tryd.func50 Z Z Tryd.ntmps50 (fun I M w own => ?_))
    (repeat' (first|refine AW.seq_k (fun K hK=>?_)|(refine hK _ ?_;clear hK)|refine AW.ret ?_|refine AW.region ?_|refine Ud ?_|fail))
    ((first|refine RetOk.tupS [] Z Z Z Z Z ?_ ?_|refine RetOk.oneS [] Z Z Z Z ?_ ?_)<;>(repeat' (first|exact V0|refine V1 ?_|refine V2 ?_ ?_|fail)))
  · rw [show joinedP p = false by simp [joinedP, h4, h5]]
    refine (ACalls.of (fn := Tryd.f50) Tryd.func50 Z Z Tryd.ntmps50 (fun I M w own => ?_))
    (repeat' (first|refine AW.seq_k (fun K hK=>?_)|(refine hK _ ?_;clear hK)|refine AW.ret ?_|refine AW.region ?_|refine Ud ?_|fail))
    ((first|refine RetOk.tupS [] Z Z Z Z Z ?_ ?_|refine RetOk.oneS [] Z Z Z Z ?_ ?_)<;>(repeat' (first|exact V0|refine V1 ?_|refine V2 ?_ ?_|fail)))
theorem len_two {α : Type} {x : List α} (h : x.length = 2) : ∃ a b, x = [a, b] := by
  rcases x with _ | ⟨a, _ | ⟨b, _ | ⟨c, r⟩⟩⟩
  · simp at h
  · simp at h
  · exact ⟨a, b, rfl⟩
  · simp at h
theorem bx2_sub (p q : PV) : ∀ (xs : List (List PV)) (i : Nat), (∀ y ∈ xs, y.length = 2) → xs[i]? = some [p, q] → Sub (bxs xs) (0 * 2 + i * 2) 2 [p.av, q.av] := by
  intro xs
  induction xs with
  | nil => intro i _ h; simp at h
  | cons x t ih =>
    intro i hz h
    obtain ⟨a, b, rfl⟩ : ∃ a b, x = [a, b] := len_two (hz x (List.mem_cons_self ..))
    cases i with
    | zero =>
      have : a = p ∧ b = q := by simpa using h
      obtain ⟨rfl, rfl⟩ := this
      exact .take (.take .zero)
    | succ i =>
      have := ih i (fun y hy => hz y (List.mem_cons_of_mem _ hy)) (by simpa using h)
      rw [show 0 * 2 + (i + 1) * 2 = (0 * 2 + i * 2) + 1 + 1 by omega]
      exact .skip (.skip this)
theorem bx2_put (p q : PV) : ∀ (xs : List (List PV)) (i : Nat), (∀ y ∈ xs, y.length = 2) → i < xs.length → Over (bxs xs) (0 * 2 + i * 2) [p.av, q.av] (bxs (xs.set i [p, q])) := by
  intro xs
  induction xs with
  | nil => intro i _ h; simp at h
  | cons x t ih =>
    intro i hz h
    obtain ⟨a, b, rfl⟩ : ∃ a b, x = [a, b] := len_two (hz x (List.mem_cons_self ..))
    cases i with
    | zero => exact .at_ (.cons (.cons .nil))
    | succ i =>
      have := ih i (fun y hy => hz y (List.mem_cons_of_mem _ hy)) (by simpa using h)
      rw [show 0 * 2 + (i + 1) * 2 = (0 * 2 + i * 2) + 1 + 1 by omega]
      exact .skip (.skip this)
theorem pcP_two (l : List Pc) : ∀ y ∈ pcP l, y.length = 2 := by
  intro y hy
  obtain ⟨b, _, rfl⟩ := List.mem_map.1 hy
  rfl
theorem pc_get {l : List Pc} {i : Nat} {a : Pc} (h : l[i]? = some a) : Sub (bxs (pcP l)) (0 * 2 + i * 2) 2 [.v (.string (bs a.1)), .v (.int .i64 a.2)] := bx2_sub (PV.v (.string (bs a.1))) (PV.v (.int .i64 a.2)) (pcP l) i (pcP_two l) (by simp [h])
theorem pc_put {l m : List Pc} {i : Nat} {a : Pc} (h : i < l.length) (hm : l.set i a = m) : Over (bxs (pcP l)) (0 * 2 + i * 2) [.v (.string (bs a.1)), .v (.int .i64 a.2)] (bxs (pcP m)) := by
  have := bx2_put (PV.v (.string (bs a.1))) (PV.v (.int .i64 a.2)) (pcP l) i (pcP_two l) (by simpa using h)
  rw [← hm, show pcP (l.set i a) = (pcP l).set i [PV.v (.string (bs a.1)), PV.v (.int .i64 a.2)] by simp [List.map_set]]
  exact this
theorem pc_zs (st : List Pc) (j : Pc) (jr : List Pc) (b : Pc) : (pcP (st ++ j :: jr)).take st.length ++ ([[PV.v (.string (bs b.1)), PV.v (.int .i64 b.2)]] ++ (pcP (st ++ j :: jr)).drop (st.length + 1)) = pcP (st ++ [b] ++ jr) := by
  have e1 : (pcP (st ++ j :: jr)).take st.length = pcP st := by
    rw [show pcP (st ++ j :: jr) = pcP st ++ pcP (j :: jr) from List.map_append]
    exact List.take_left' (by simp)
  have e2 : (pcP (st ++ j :: jr)).drop (st.length + 1) = pcP jr := by
    rw [show pcP (st ++ j :: jr) = pcP (st ++ [j]) ++ pcP jr by rw [← List.map_append]; simp]
    exact List.drop_left' (by simp)
  rw [e1, e2]
  simp
theorem pc_full (st : List Pc) (b : Pc) (dd : Nat) : (pcP (st ++ [])).take st.length ++ [[PV.v (.string (bs b.1)), PV.v (.int .i64 b.2)]] ++ List.replicate dd [PV.v (.string (bs [])), PV.v (.int .i64 0)] = pcP (st ++ [b] ++ List.replicate dd ([], 0)) := by
  rw [List.append_nil, List.take_of_length_le (by simp)]
  simp
def totP : List Pc → Nat
  | [] => 0
  | p :: r => p.1.length + totP r
theorem totP_app : ∀ (a b : List Pc), totP (a ++ b) = totP a + totP b
  | [], b => by simp [totP]
  | p :: r, b => by rw [List.cons_append, totP, totP, totP_app r b]; omega
theorem around_len (p : Pc) (b : Bool) : (aroundP p b).length ≤ p.1.length + 4 := by
  cases b <;> simp [aroundP]
theorem foldN_cons {n : Nat} {k : Int} {nm : Wd} {r : List Tm} (h : foldN n ((k, nm) :: r) = some 1) : (0 ≤ arityF k ∧ arityF k ≤ n) ∧ foldN (n - (arityF k).toNat + 1) r = some 1 := by
  rw [foldN] at h
  split at h
  · cases h
  · rename_i hb
    have := badT_false hb
    exact ⟨⟨this.1, this.2.1⟩, h⟩
theorem plast1 {st : List Pc} (h : 1 ≤ st.length) : ∃ s a, st = s ++ [a] ∧ st.length = s.length + 1 := by
  refine ⟨st.dropLast, st.getLast (by intro e; simp [e] at h), (List.dropLast_concat_getLast _).symm, by rw [List.length_dropLast]; omega⟩
theorem plast2 {st : List Pc} (h : 2 ≤ st.length) : ∃ s a b, st = s ++ [a, b] ∧ st.length = s.length + 2 := by
  obtain ⟨s, b, h1, h2⟩ := plast1 (st := st) (by omega)
  obtain ⟨s', a, h3, h4⟩ := plast1 (st := s) (by omega)
  exact ⟨s', a, b, by rw [h1, h3]; simp, by omega⟩
set_option maxHeartbeats 4000000 in
theorem condition_c (f : Bool) (c : List Tm) (hc : c.length ≤ 16) (hn : ∀ t ∈ c, t.2.length ≤ 1099511627776) (hp : foldN 0 c = some 1) : ACalls Tryd.prog 26 [.sl 2 (tmP c) f] [] (.v (.string (bs (condP c)))) [] := by
  have hcl : (tmP c).length = c.length := by simp
  generalize hR : condP c = R
  rw [condP] at hR
  refine (ACalls.of (fn := Tryd.f26) Tryd.func26 Z Z Tryd.ntmps26 (fun I M w own => ?_))
  (repeat' (first|refine AW.seq_k (fun K hK=>?_)|(refine hK _ ?_;clear hK)|refine AW.block ?_|refine AW.rI [0, 1, 2] Z ?_|refine Ud ?_|fail))
  refine AW.loopF (X := Nat × Option (List Pc × List Pc)) (fun y => match y.2 with
      | none => ⟨[(0, .sl 2 (tmP c) f), (3, .v (.slice none 0 0)), (4, .v (.int .i64 (y.1 : Int)))], []⟩
      | some (st, ju) => ⟨[(0, .sl 2 (tmP c) f), (3, .bsl 0 2 0 st.length (st.length + ju.length)), (4, .v (.int .i64 (y.1 : Int)))], [.box (bxs (pcP (st ++ ju)))]⟩)
    (fun y => y.1 ≤ c.length ∧ (match y.2 with | none => foldN 0 (c.drop y.1) = some 1 ∧ foldP [] (c.drop y.1) = foldP [] c | some (st, ju) => st.length ≤ y.1 ∧ totP st ≤ 2199023255552 * y.1 ∧ foldN st.length (c.drop y.1) = some 1 ∧ foldP st (c.drop y.1) = foldP [] c)) (fun y => c.length - y.1) (0, none) ?_ ⟨Nat.zero_le _, hp, rfl⟩ ?_
  · refine Conv.mk [] Z Z Z ?_ Z ?_
    · (repeat' (first|exact V0|refine V3 ?_|refine V2 ?_ ?_|fail))
    · (repeat' (first|exact V0|refine V3 ?_|refine V2 ?_ ?_|fail))
  rintro ⟨i, st⟩ ⟨h1, h2⟩
  simp only at h1 h2 ⊢
  rcases Nat.lt_or_ge i c.length with h | h
  · obtain ⟨t, ht⟩ : ∃ t, c[i]? = some t := ⟨c[i], by simp [h]⟩
    have hdr : c.drop i = t :: c.drop (i + 1) := by
      rw [List.drop_eq_getElem_cons h]
      congr 1
      simpa [h] using ht
    have hlt : (i : Int) < ((tmP c).length : Int) := by omega
    have hnl := hn t (List.mem_of_getElem? ht)
    have hA : At (tmP c) (i : Int) [PV.v (.int .i64 t.1), PV.v (.string (bs t.2))] := At.mk i Z (by simp [ht])
    rw [hdr] at h2
    obtain ⟨k, nm⟩ := t
    simp only at hnl hA
    cases st with
    | none =>
      simp only at h2
      obtain ⟨h2, h5⟩ := h2
      obtain ⟨⟨a1, a2⟩, h3⟩ := foldN_cons h2
      have ha0 : arityF k = 0 := by omega
      have k12 : k = 1 ∨ k = 2 := by
        rw [arityF] at ha0
        split at ha0
        · assumption
        · split at ha0
          · omega
          · split at ha0 <;> omega
      rw [ha0] at h3
      rw [foldP] at h5
      simp only at h5
      rw [ha0] at h5
      by_cases k1 : k = 1
      · subst k1
        have h4 : foldP [([97, 99, 116, 105, 118, 101, 32] ++ nm, 1)] (c.drop (i + 1)) = foldP [] c := by simpa [pieceP] using h5
        (repeat' (first|refine AW.seq_k (fun K hK=>?_)|(refine hK _ ?_;clear hK)|refine AW.uC (fun hc=>?_) (fun hc=>?_)|refine AW.block ?_|refine AW.skip ?_|exact trivial|refine AW.rI [3, 5, 6, 12, 13, 4] Z ?_|refine Run.apBS (fun _=>rfl) Z Z Z Z (Or.inl ⟨_, rfl⟩) Z Z (Or.inr ⟨rfl, rfl⟩) (SrcNI.dat Dat.sl) (m := 1) Z (by simp) (by simp) (by simp [maxLen]) Z (by simp [keys]) (fun dd=>?_)|refine Ud ?_|fail))
        ((repeat (with_reducible refine inB_n ?_)); refine thenA_n ?_)
        refine ⟨(i + 1, some ([([97, 99, 116, 105, 118, 101, 32] ++ nm, 1)], List.replicate dd ([], 0))), ⟨h, by simp only [List.length_append, List.length_cons, List.length_nil]; omega, by simp only [totP, List.length_append, List.length_cons, List.length_nil]; omega, by simpa using h3, h4⟩, by simp only; omega, ?_⟩
        refine Conv.mk [0] Z Z Z ?_ Z ?_
        · (repeat' (first|exact V0|refine V3 ?_|refine V2 ?_ ?_|fail))
          all_goals first | rfl | (refine Cv.eq ?_; simp [AV.ren, renL]; done) | (refine Cv.eq ?_; simp only [AV.ren, renL, List.length_append, List.length_replicate, List.length_cons, List.length_nil]; congr 1 <;> omega)
        · refine Crs.cons (Cr.bxs ?_) (bxs_lt' _ _) Crs.nil
          first | rfl | (simp; done) | (simp; exact .inr Z)
      · obtain rfl : k = 2 := by omega
        have h4 : foldP [([112, 114, 101, 115, 101, 110, 116, 32] ++ nm, 2)] (c.drop (i + 1)) = foldP [] c := by simpa [pieceP] using h5
        (repeat' (first|refine AW.seq_k (fun K hK=>?_)|(refine hK _ ?_;clear hK)|refine AW.uC (fun hc=>?_) (fun hc=>?_)|refine AW.block ?_|refine AW.skip ?_|exact trivial|refine AW.rI [3, 5, 6, 12, 14, 15, 4] Z ?_|refine Run.apBS (fun _=>rfl) Z Z Z Z (Or.inl ⟨_, rfl⟩) Z Z (Or.inr ⟨rfl, rfl⟩) (SrcNI.dat Dat.sl) (m := 1) Z (by simp) (by simp) (by simp [maxLen]) Z (by simp [keys]) (fun dd=>?_)|refine Ud ?_|fail))
        ((repeat (with_reducible refine inB_n ?_)); refine thenA_n ?_)
        refine ⟨(i + 1, some ([([112, 114, 101, 115, 101, 110, 116, 32] ++ nm, 2)], List.replicate dd ([], 0))), ⟨h, by simp only [List.length_append, List.length_cons, List.length_nil]; omega, by simp only [totP, List.length_append, List.length_cons, List.length_nil]; omega, by simpa using h3, h4⟩, by simp only; omega, ?_⟩
        refine Conv.mk [0] Z Z Z ?_ Z ?_
        · (repeat' (first|exact V0|refine V3 ?_|refine V2 ?_ ?_|fail))
          all_goals first | rfl | (refine Cv.eq ?_; simp [AV.ren, renL]; done) | (refine Cv.eq ?_; simp only [AV.ren, renL, List.length_append, List.length_replicate, List.length_cons, List.length_nil]; congr 1 <;> omega)
        · refine Crs.cons (Cr.bxs ?_) (bxs_lt' _ _) Crs.nil
          first | rfl | (simp; done) | (simp; exact .inr Z)
    | some p =>
      obtain ⟨st, ju⟩ := p
      simp only at h2
      obtain ⟨g1, g3, h2, h5⟩ := h2
      obtain ⟨⟨a1, a2⟩, h3⟩ := foldN_cons h2
      have hC : (pcP (st ++ ju)).length = st.length + ju.length := by simp
      rw [foldP] at h5
      simp only at h5
      by_cases k1 : k = 1
      · subst k1
        have ha0 : arityF 1 = 0 := rfl
        rw [ha0] at h3 h5
        have h4 : foldP (st ++ [([97, 99, 116, 105, 118, 101, 32] ++ nm, 1)]) (c.drop (i + 1)) = foldP [] c := by simpa [pieceP] using h5
        have htot : totP (st ++ [([97, 99, 116, 105, 118, 101, 32] ++ nm, 1)]) ≤ 2199023255552 * (i + 1) := by
          rw [totP_app]
          simp only [totP, List.length_append, List.length_cons, List.length_nil]
          omega
        cases ju with
        | nil =>
          (repeat' (first|refine AW.seq_k (fun K hK=>?_)|(refine hK _ ?_;clear hK)|refine AW.uC (fun hc=>?_) (fun hc=>?_)|refine AW.block ?_|refine AW.skip ?_|exact trivial|refine AW.rI [3, 5, 6, 12, 13, 4] Z ?_|refine Run.apBG (fun _=>rfl) Z Z Z Z (Or.inl ⟨_, rfl⟩) Z Z Z Z (SrcNI.dat Dat.sl) (pcP_two _) hC (mm := st.length + 1) (by simp) (by simp) Z (by simp) (by simp [keys]) (by first|omega|(simp;omega)) (by first|omega|(simp [maxLen];omega)) (fun dd=>?_)|refine Ud ?_|fail))
          ((repeat (with_reducible refine inB_n ?_)); refine thenA_n ?_)
          refine ⟨(i + 1, some (st ++ [([97, 99, 116, 105, 118, 101, 32] ++ nm, 1)], List.replicate dd ([], 0))), ⟨h, by simp only [List.length_append, List.length_cons, List.length_nil]; omega, htot, by simpa using h3, h4⟩, by simp only; omega, ?_⟩
          refine Conv.mk [1] Z Z Z ?_ Z ?_
          · (repeat' (first|exact V0|refine V3 ?_|refine V2 ?_ ?_|fail))
            all_goals first | rfl | (refine Cv.eq ?_; simp [AV.ren, renL]; done) | (refine Cv.eq ?_; simp only [AV.ren, renL, List.length_append, List.length_replicate, List.length_cons, List.length_nil]; congr 1 <;> omega)
          · refine Crs.cons (Cr.bxs ?_) (bxs_lt' _ _) Crs.nil
            first | rfl | exact pc_full st ([97, 99, 116, 105, 118, 101, 32] ++ nm, 1) dd | (simp; done)
        | cons j jr =>
          (repeat' (first|refine AW.seq_k (fun K hK=>?_)|(refine hK _ ?_;clear hK)|refine AW.uC (fun hc=>?_) (fun hc=>?_)|refine AW.block ?_|refine AW.skip ?_|exact trivial|refine AW.rI [3, 5, 6, 12, 13, 4] Z ?_|refine Run.apB Z Z Z Z (Or.inl ⟨_, rfl⟩) Z Z Z (SrcNI.dat Dat.sl) (pcP_two _) hC (mm := st.length + 1) (by simp) (by simp) (zs := pcP (st ++ [([97, 99, 116, 105, 118, 101, 32] ++ nm, 1)] ++ jr)) (pc_zs st j jr ([97, 99, 116, 105, 118, 101, 32] ++ nm, 1)) (by first|omega|(simp;omega)) (by first|omega|(simp [maxLen];omega)) (by repeat constructor) Z ?_|refine Ud ?_|fail))
          ((repeat (with_reducible refine inB_n ?_)); refine thenA_n ?_)
          refine ⟨(i + 1, some (st ++ [([97, 99, 116, 105, 118, 101, 32] ++ nm, 1)], jr)), ⟨h, by simp only [List.length_append, List.length_cons, List.length_nil]; omega, htot, by simpa using h3, h4⟩, by simp only; omega, ?_⟩
          refine Conv.mk [0] Z Z Z ?_ Z ?_
          · (repeat' (first|exact V0|refine V3 ?_|refine V2 ?_ ?_|fail))
            all_goals first | rfl | (refine Cv.eq ?_; simp [AV.ren, renL]; done) | (refine Cv.eq ?_; simp only [AV.ren, renL, List.length_append, List.length_replicate, List.length_cons, List.length_nil]; congr 1 <;> omega)
          · refine Crs.cons (Cr.bxs ?_) (bxs_lt' _ _) Crs.nil
            first | rfl | (simp; done)
      by_cases k2 : k = 2
      · subst k2
        have ha0 : arityF 2 = 0 := rfl
        rw [ha0] at h3 h5
        have h4 : foldP (st ++ [([112, 114, 101, 115, 101, 110, 116, 32] ++ nm, 2)]) (c.drop (i + 1)) = foldP [] c := by simpa [pieceP] using h5
        have htot : totP (st ++ [([112, 114, 101, 115, 101, 110, 116, 32] ++ nm, 2)]) ≤ 2199023255552 * (i + 1) := by
          rw [totP_app]
          simp only [totP, List.length_append, List.length_cons, List.length_nil]
          omega
        cases ju with
        | nil =>
          (repeat' (first|refine AW.seq_k (fun K hK=>?_)|(refine hK _ ?_;clear hK)|refine AW.uC (fun hc=>?_) (fun hc=>?_)|refine AW.block ?_|refine AW.skip ?_|exact trivial|refine AW.rI [3, 5, 6, 12, 14, 15, 4] Z ?_|refine Run.apBG (fun _=>rfl) Z Z Z Z (Or.inl ⟨_, rfl⟩) Z Z Z Z (SrcNI.dat Dat.sl) (pcP_two _) hC (mm := st.length + 1) (by simp) (by simp) Z (by simp) (by simp [keys]) (by first|omega|(simp;omega)) (by first|omega|(simp [maxLen];omega)) (fun dd=>?_)|refine Ud ?_|fail))
          ((repeat (with_reducible refine inB_n ?_)); refine thenA_n ?_)
          refine ⟨(i + 1, some (st ++ [([112, 114, 101, 115, 101, 110, 116, 32] ++ nm, 2)], List.replicate dd ([], 0))), ⟨h, by simp only [List.length_append, List.length_cons, List.length_nil]; omega, htot, by simpa using h3, h4⟩, by simp only; omega, ?_⟩
          refine Conv.mk [1] Z Z Z ?_ Z ?_
          · (repeat' (first|exact V0|refine V3 ?_|refine V2 ?_ ?_|fail))
            all_goals first | rfl | (refine Cv.eq ?_; simp [AV.ren, renL]; done) | (refine Cv.eq ?_; simp only [AV.ren, renL, List.length_append, List.length_replicate, List.length_cons, List.length_nil]; congr 1 <;> omega)
          · refine Crs.cons (Cr.bxs ?_) (bxs_lt' _ _) Crs.nil
            first | rfl | exact pc_full st ([112, 114, 101, 115, 101, 110, 116, 32] ++ nm, 2) dd | (simp; done)
        | cons j jr =>
          (repeat' (first|refine AW.seq_k (fun K hK=>?_)|(refine hK _ ?_;clear hK)|refine AW.uC (fun hc=>?_) (fun hc=>?_)|refine AW.block ?_|refine AW.skip ?_|exact trivial|refine AW.rI [3, 5, 6, 12, 14, 15, 4] Z ?_|refine Run.apB Z Z Z Z (Or.inl ⟨_, rfl⟩) Z Z Z (SrcNI.dat Dat.sl) (pcP_two _) hC (mm := st.length + 1) (by simp) (by simp) (zs := pcP (st ++ [([112, 114, 101, 115, 101, 110, 116, 32] ++ nm, 2)] ++ jr)) (pc_zs st j jr ([112, 114, 101, 115, 101, 110, 116, 32] ++ nm, 2)) (by first|omega|(simp;omega)) (by first|omega|(simp [maxLen];omega)) (by repeat constructor) Z ?_|refine Ud ?_|fail))
          ((repeat (with_reducible refine inB_n ?_)); refine thenA_n ?_)
          refine ⟨(i + 1, some (st ++ [([112, 114, 101, 115, 101, 110, 116, 32] ++ nm, 2)], jr)), ⟨h, by simp only [List.length_append, List.length_cons, List.length_nil]; omega, htot, by simpa using h3, h4⟩, by simp only; omega, ?_⟩
          refine Conv.mk [0] Z Z Z ?_ Z ?_
          · (repeat' (first|exact V0|refine V3 ?_|refine V2 ?_ ?_|fail))
            all_goals first | rfl | (refine Cv.eq ?_; simp [AV.ren, renL]; done) | (refine Cv.eq ?_; simp only [AV.ren, renL, List.length_append, List.length_replicate, List.length_cons, List.length_nil]; congr 1 <;> omega)
          · refine Crs.cons (Cr.bxs ?_) (bxs_lt' _ _) Crs.nil
            first | rfl | (simp; done)
      by_cases k3 : k = 3
      · subst k3
        have ha0 : arityF 3 = 1 := rfl
        obtain ⟨s', a, e1, e2⟩ := plast1 (st := st) (by omega)
        rw [ha0, e2] at h3 h5
        have htt : totP st = totP s' + a.1.length := by rw [e1, totP_app]; simp [totP]
        have hj := joined_c a
        have hr := around_c a (joinedP a) (by omega)
        have hul := around_len a (joinedP a)
        have h4 : foldP (s' ++ [([110, 111, 116, 32] ++ aroundP a (joinedP a), 3)]) (c.drop (i + 1)) = foldP [] c := by simpa [pieceP, e1] using h5
        generalize aroundP a (joinedP a) = u at hr hul h4
        have hL : Sub (bxs (pcP (st ++ ju))) (0 * 2 + ((st.length : Int) - 1).toNat * 2) 2 [.v (.string (bs a.1)), .v (.int .i64 a.2)] := by
          rw [show ((st.length : Int) - 1).toNat = s'.length by omega]
          exact pc_get (by simp [e1])
        have hO : Over (bxs (pcP (st ++ ju))) (0 * 2 + ((st.length : Int) - 1).toNat * 2) [.v (.string (bs ([110, 111, 116, 32] ++ u))), .v (.int .i64 3)] (bxs (pcP (s' ++ [([110, 111, 116, 32] ++ u, 3)] ++ ju))) := by
          rw [show ((st.length : Int) - 1).toNat = s'.length by omega]
          exact pc_put (a := ([110, 111, 116, 32] ++ u, 3)) (by simp [e1]) (by simp [e1])
        have htot : totP (s' ++ [([110, 111, 116, 32] ++ u, 3)]) ≤ 2199023255552 * (i + 1) := by
          rw [totP_app]
          simp only [totP, List.length_append, List.length_cons, List.length_nil]
          omega
        (repeat' (first|refine AW.seq_k (fun K hK=>?_)|(refine hK _ ?_;clear hK)|refine AW.uC (fun hc=>?_) (fun hc=>?_)|refine AW.block ?_|refine AW.skip ?_|exact trivial|refine AW.draw (id := 17) (by kernel_rfl) ?_|refine AW.rI [3, 5, 6, 12, 14, 16, 4] Z ?_|refine Run.c0 hj Z Z Z Z Z Z Z Z ?_|refine Run.c0 hr Z Z Z Z Z Z Z Z ?_|refine Ud ?_|fail))
        ((repeat (with_reducible refine inB_n ?_)); refine thenA_n ?_)
        refine ⟨(i + 1, some (s' ++ [([110, 111, 116, 32] ++ u, 3)], ju)), ⟨h, by simp only [List.length_append, List.length_cons, List.length_nil]; omega, htot, by simpa using h3, h4⟩, by simp only; omega, ?_⟩
        refine Conv.mk [0] Z Z Z ?_ Z ?_
        · (repeat' (first|exact V0|refine V3 ?_|refine V2 ?_ ?_|fail))
          all_goals first | rfl | (refine Cv.eq ?_; simp [AV.ren, renL]; done) | (refine Cv.eq ?_; simp only [AV.ren, renL, List.length_append, List.length_replicate, List.length_cons, List.length_nil]; congr 1 <;> omega)
        · refine Crs.cons (Cr.bxs ?_) (bxs_lt' _ _) Crs.nil
          first | rfl | (simp; done)
      by_cases k4 : k = 4
      · subst k4
        have ha0 : arityF 4 = 2 := rfl
        obtain ⟨s', a, b, e1, e2⟩ := plast2 (st := st) (by omega)
        rw [ha0, e2] at h3 h5
        have hL2 : Sub (bxs (pcP (st ++ ju))) (0 * 2 + ((st.length : Int) - 2).toNat * 2) 2 [.v (.string (bs a.1)), .v (.int .i64 a.2)] := by
          rw [show ((st.length : Int) - 2).toNat = s'.length by omega]
          exact pc_get (by simp [e1])
        have hL1 : Sub (bxs (pcP (st ++ ju))) (0 * 2 + ((st.length : Int) - 1).toNat * 2) 2 [.v (.string (bs b.1)), .v (.int .i64 b.2)] := by
          rw [show ((st.length : Int) - 1).toNat = s'.length + 1 by omega]
          exact pc_get (by simp [e1])
        have hS2 : ((st.length : Int) - 2).toNat = s'.length := by omega
        have htt : totP st = totP s' + (a.1.length + b.1.length) := by rw [e1, totP_app]; simp [totP]
        have hj := joined_c b
        have hr2 := around_c b (joinedP b) (by omega)
        have hul2 := around_len b (joinedP b)
        by_cases a5 : a.2 = 5
        · have h4 : foldP (s' ++ [(aroundP a true ++ [32, 97, 110, 100, 32] ++ aroundP b (joinedP b), 4)]) (c.drop (i + 1)) = foldP [] c := by simpa [pieceP, e1, a5] using h5
          have hr1 := around_c a true (by omega)
          have hul1 := around_len a true
          generalize aroundP a true = u1 at hr1 hul1 h4
          generalize aroundP b (joinedP b) = u2 at hr2 hul2 h4
          have htot : totP (s' ++ [(u1 ++ [32, 97, 110, 100, 32] ++ u2, 4)]) ≤ 2199023255552 * (i + 1) := by
            rw [totP_app]
            simp only [totP, List.length_append, List.length_cons, List.length_nil]
            omega
          have hz : (pcP (st ++ ju)).take ((st.length : Int) - 2).toNat ++ ([[PV.v (.string (bs (u1 ++ [32, 97, 110, 100, 32] ++ u2))), PV.v (.int .i64 4)]] ++ (pcP (st ++ ju)).drop (s'.length + 1)) = pcP (s' ++ [(u1 ++ [32, 97, 110, 100, 32] ++ u2, 4)] ++ (b :: ju)) := by
            rw [hS2, e1, show s' ++ [a, b] ++ ju = s' ++ a :: (b :: ju) by simp]
            exact pc_zs s' a (b :: ju) (u1 ++ [32, 97, 110, 100, 32] ++ u2, 4)
          (repeat' (first|refine AW.seq_k (fun K hK=>?_)|(refine hK _ ?_;clear hK)|refine AW.uC (fun hc=>?_) (fun hc=>?_)|refine AW.block ?_|refine AW.skip ?_|exact trivial|refine AW.draw (id := 7) (by kernel_rfl) ?_|refine AW.draw (id := 10) (by kernel_rfl) ?_|refine AW.rI [3, 5, 6, 12, 14, 16, 8, 9, 11, 4] Z ?_|refine Run.c0 hr1 Z Z Z Z Z Z Z Z ?_|refine Run.c0 hj Z Z Z Z Z Z Z Z ?_|refine Run.c0 hr2 Z Z Z Z Z Z Z Z ?_|refine Run.apB Z Z Z Z (Or.inl ⟨_, rfl⟩) Z Z Z (SrcNI.dat Dat.sl) (pcP_two _) hC (mm := s'.length + 1) (by rw [hS2];rfl) (by omega) hz (by first|omega|(simp;omega)) (by first|omega|(simp [maxLen];omega)) (by repeat constructor) Z ?_|refine Ud ?_|fail))
          ((repeat (with_reducible refine inB_n ?_)); refine thenA_n ?_)
          refine ⟨(i + 1, some (s' ++ [(u1 ++ [32, 97, 110, 100, 32] ++ u2, 4)], b :: ju)), ⟨h, by simp only [List.length_append, List.length_cons, List.length_nil]; omega, htot, by simpa using h3, h4⟩, by simp only; omega, ?_⟩
          refine Conv.mk [0] Z Z Z ?_ Z ?_
          · (repeat' (first|exact V0|refine V3 ?_|refine V2 ?_ ?_|fail))
            all_goals first | rfl | (refine Cv.eq ?_; simp [AV.ren, renL]; done) | (refine Cv.eq ?_; simp only [AV.ren, renL, List.length_append, List.length_replicate, List.length_cons, List.length_nil]; congr 1 <;> omega)
          · refine Crs.cons (Cr.bxs ?_) (bxs_lt' _ _) Crs.nil
            rfl
        · have h4 : foldP (s' ++ [(aroundP a false ++ [32, 97, 110, 100, 32] ++ aroundP b (joinedP b), 4)]) (c.drop (i + 1)) = foldP [] c := by simpa [pieceP, e1, a5] using h5
          have hr1 := around_c a false (by omega)
          have hul1 := around_len a false
          generalize aroundP a false = u1 at hr1 hul1 h4
          generalize aroundP b (joinedP b) = u2 at hr2 hul2 h4
          have htot : totP (s' ++ [(u1 ++ [32, 97, 110, 100, 32] ++ u2, 4)]) ≤ 2199023255552 * (i + 1) := by
            rw [totP_app]
            simp only [totP, List.length_append, List.length_cons, List.length_nil]
            omega
          have hz : (pcP (st ++ ju)).take ((st.length : Int) - 2).toNat ++ ([[PV.v (.string (bs (u1 ++ [32, 97, 110, 100, 32] ++ u2))), PV.v (.int .i64 4)]] ++ (pcP (st ++ ju)).drop (s'.length + 1)) = pcP (s' ++ [(u1 ++ [32, 97, 110, 100, 32] ++ u2, 4)] ++ (b :: ju)) := by
            rw [hS2, e1, show s' ++ [a, b] ++ ju = s' ++ a :: (b :: ju) by simp]
            exact pc_zs s' a (b :: ju) (u1 ++ [32, 97, 110, 100, 32] ++ u2, 4)
          (repeat' (first|refine AW.seq_k (fun K hK=>?_)|(refine hK _ ?_;clear hK)|refine AW.uC (fun hc=>?_) (fun hc=>?_)|refine AW.block ?_|refine AW.skip ?_|exact trivial|refine AW.draw (id := 7) (by kernel_rfl) ?_|refine AW.draw (id := 10) (by kernel_rfl) ?_|refine AW.rI [3, 5, 6, 12, 14, 16, 8, 9, 11, 4] Z ?_|refine Run.c0 hr1 Z Z Z Z Z Z Z Z ?_|refine Run.c0 hj Z Z Z Z Z Z Z Z ?_|refine Run.c0 hr2 Z Z Z Z Z Z Z Z ?_|refine Run.apB Z Z Z Z (Or.inl ⟨_, rfl⟩) Z Z Z (SrcNI.dat Dat.sl) (pcP_two _) hC (mm := s'.length + 1) (by rw [hS2];rfl) (by omega) hz (by first|omega|(simp;omega)) (by first|omega|(simp [maxLen];omega)) (by repeat constructor) Z ?_|refine Ud ?_|fail))
          ((repeat (with_reducible refine inB_n ?_)); refine thenA_n ?_)
          refine ⟨(i + 1, some (s' ++ [(u1 ++ [32, 97, 110, 100, 32] ++ u2, 4)], b :: ju)), ⟨h, by simp only [List.length_append, List.length_cons, List.length_nil]; omega, htot, by simpa using h3, h4⟩, by simp only; omega, ?_⟩
          refine Conv.mk [0] Z Z Z ?_ Z ?_
          · (repeat' (first|exact V0|refine V3 ?_|refine V2 ?_ ?_|fail))
            all_goals first | rfl | (refine Cv.eq ?_; simp [AV.ren, renL]; done) | (refine Cv.eq ?_; simp only [AV.ren, renL, List.length_append, List.length_replicate, List.length_cons, List.length_nil]; congr 1 <;> omega)
          · refine Crs.cons (Cr.bxs ?_) (bxs_lt' _ _) Crs.nil
            rfl
      · obtain rfl : k = 5 := by
          rw [arityF, if_neg (by omega), if_neg k3] at a1
          split at a1
          · omega
          · omega
        have ha0 : arityF 5 = 2 := rfl
        obtain ⟨s', a, b, e1, e2⟩ := plast2 (st := st) (by omega)
        rw [ha0, e2] at h3 h5
        have hL2 : Sub (bxs (pcP (st ++ ju))) (0 * 2 + ((st.length : Int) - 2).toNat * 2) 2 [.v (.string (bs a.1)), .v (.int .i64 a.2)] := by
          rw [show ((st.length : Int) - 2).toNat = s'.length by omega]
          exact pc_get (by simp [e1])
        have hL1 : Sub (bxs (pcP (st ++ ju))) (0 * 2 + ((st.length : Int) - 1).toNat * 2) 2 [.v (.string (bs b.1)), .v (.int .i64 b.2)] := by
          rw [show ((st.length : Int) - 1).toNat = s'.length + 1 by omega]
          exact pc_get (by simp [e1])
        have hS2 : ((st.length : Int) - 2).toNat = s'.length := by omega
        have htt : totP st = totP s' + (a.1.length + b.1.length) := by rw [e1, totP_app]; simp [totP]
        have hj := joined_c b
        have hr2 := around_c b (joinedP b) (by omega)
        have hul2 := around_len b (joinedP b)
        have h4 : foldP (s' ++ [(aroundP a false ++ [32, 111, 114, 32] ++ aroundP b (joinedP b), 5)]) (c.drop (i + 1)) = foldP [] c := by simpa [pieceP, e1, aroundP] using h5
        have hr1 := around_c a false (by omega)
        have hul1 := around_len a false
        generalize aroundP a false = u1 at hr1 hul1 h4
        generalize aroundP b (joinedP b) = u2 at hr2 hul2 h4
        have htot : totP (s' ++ [(u1 ++ [32, 111, 114, 32] ++ u2, 5)]) ≤ 2199023255552 * (i + 1) := by
          rw [totP_app]
          simp only [totP, List.length_append, List.length_cons, List.length_nil]
          omega
        have hz : (pcP (st ++ ju)).take ((st.length : Int) - 2).toNat ++ ([[PV.v (.string (bs (u1 ++ [32, 111, 114, 32] ++ u2))), PV.v (.int .i64 5)]] ++ (pcP (st ++ ju)).drop (s'.length + 1)) = pcP (s' ++ [(u1 ++ [32, 111, 114, 32] ++ u2, 5)] ++ (b :: ju)) := by
          rw [hS2, e1, show s' ++ [a, b] ++ ju = s' ++ a :: (b :: ju) by simp]
          exact pc_zs s' a (b :: ju) (u1 ++ [32, 111, 114, 32] ++ u2, 5)
        (repeat' (first|refine AW.seq_k (fun K hK=>?_)|(refine hK _ ?_;clear hK)|refine AW.uC (fun hc=>?_) (fun hc=>?_)|refine AW.block ?_|refine AW.skip ?_|exact trivial|refine AW.draw (id := 7) (by kernel_rfl) ?_|refine AW.draw (id := 10) (by kernel_rfl) ?_|refine AW.rI [3, 5, 6, 12, 14, 16, 8, 11, 4] Z ?_|refine Run.c0 hr1 Z Z Z Z Z Z Z Z ?_|refine Run.c0 hj Z Z Z Z Z Z Z Z ?_|refine Run.c0 hr2 Z Z Z Z Z Z Z Z ?_|refine Run.apB Z Z Z Z (Or.inl ⟨_, rfl⟩) Z Z Z (SrcNI.dat Dat.sl) (pcP_two _) hC (mm := s'.length + 1) (by rw [hS2];rfl) (by omega) hz (by first|omega|(simp;omega)) (by first|omega|(simp [maxLen];omega)) (by repeat constructor) Z ?_|refine Ud ?_|fail))
        ((repeat (with_reducible refine inB_n ?_)); refine thenA_n ?_)
        refine ⟨(i + 1, some (s' ++ [(u1 ++ [32, 111, 114, 32] ++ u2, 5)], b :: ju)), ⟨h, by simp only [List.length_append, List.length_cons, List.length_nil]; omega, htot, by simpa using h3, h4⟩, by simp only; omega, ?_⟩
        refine Conv.mk [0] Z Z Z ?_ Z ?_
        · (repeat' (first|exact V0|refine V3 ?_|refine V2 ?_ ?_|fail))
          all_goals first | rfl | (refine Cv.eq ?_; simp [AV.ren, renL]; done) | (refine Cv.eq ?_; simp only [AV.ren, renL, List.length_append, List.length_replicate, List.length_cons, List.length_nil]; congr 1 <;> omega)
        · refine Crs.cons (Cr.bxs ?_) (bxs_lt' _ _) Crs.nil
          rfl
  · have hge : ¬ (i : Int) < ((tmP c).length : Int) := by omega
    rw [List.drop_eq_nil_of_le h] at h2
    cases st with
    | none =>
      simp only [foldN] at h2
      cases h2.1
    | some p =>
      obtain ⟨st, ju⟩ := p
      simp only at h2
      obtain ⟨g1, g3, h2, h5⟩ := h2
      rw [foldN] at h2
      rw [foldP] at h5
      have hs1 : st.length = 1 := Option.some.inj h2
      obtain ⟨q, hq⟩ : ∃ q, st = [q] := List.length_eq_one_iff.1 hs1
      rw [← h5, hq] at hR
      obtain rfl : q.1 = R := hR
      have hL : (bxs (pcP (st ++ ju)))[0 * 2 + (0 : Int).toNat * 2 + 0]? = some (AV.v (.string (bs q.1))) := by rw [hq]; rfl
      (repeat' (first|refine AW.seq_k (fun K hK=>?_)|(refine hK _ ?_;clear hK)|refine AW.uC (fun hc=>?_) (fun hc=>?_)|refine AW.exit ?_|refine AW.ret ?_|(clear hK;refine hK _ ?_;clear hK)|exact trivial|refine AW.rI [3, 18] Z ?_|refine Ud ?_|fail))
      ((first|refine RetOk.tupS [] Z Z Z Z Z ?_ ?_|refine RetOk.oneS [] Z Z Z Z ?_ ?_)<;>(repeat' (first|exact V0|refine V1 ?_|refine V2 ?_ ?_|fail)))
end Go.Proofs.YtpacgphnpalepaaDoor
