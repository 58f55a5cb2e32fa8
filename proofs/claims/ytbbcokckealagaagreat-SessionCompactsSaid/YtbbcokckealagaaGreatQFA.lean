/-
  Plain functions of the journal (chapter 40) on lists of bytes; no dump; no condition.
-/
import Derived.Test.YtbbcokckealagaaGreatQEA
import Derived.Test.YtbbcokckealagaaGreatQAA
import Derived.Test.YtbbcokckealagaaGreatQEB
import Derived.Test.YtbbcokckealagaaGreatQAL
namespace Go.Proofs.YtbbcokckealagaaGreat
set_option linter.unusedVariables false
set_option linter.unusedSimpArgs false
def fnvStep (h : Nat) (c : UInt8) : Nat := (h ^^^ c.toNat) * 1099511628211 % 18446744073709551616
def fnvOf (l : List UInt8) : Nat := l.foldl fnvStep 14695981039346656037
theorem fnvOf_snoc (l : List UInt8) (k : Nat) (h : k < l.length) : fnvOf (l.take (k + 1)) = fnvStep (fnvOf (l.take k)) l[k] := by
  unfold fnvOf; rw [List.take_succ_eq_append_getElem h, List.foldl_append, List.foldl_cons, List.foldl_nil]
theorem fnvStep_lt (h : Nat) (c : UInt8) : fnvStep h c < 18446744073709551616 := by
  unfold fnvStep
  exact Nat.mod_lt _ (by omega)
theorem fnvFold_lt (l : List UInt8) : ∀ r, r < 18446744073709551616 → l.foldl fnvStep r < 18446744073709551616 := by
  induction l with
  | nil => exact fun _ h => h
  | cons c l ih => exact fun r h => ih _ (fnvStep_lt _ c)
theorem fnvOf_lt (l : List UInt8) : fnvOf l < 18446744073709551616 := fnvFold_lt l _ (by omega)
theorem fnv_step (q : Nat) (c : UInt8) (h : q < 18446744073709551616) : IntKind.u64.wrap (bits .xor .u64 (q : Int) (IntKind.u64.wrap (c.toNat : Int)) * 1099511628211) = ((fnvStep q c : Nat) : Int) := by
  have hc := c.toNat_lt
  rw [byte_u64, u64_xor_nat q _ h (by omega), IntKind.wrap_u64]
  exact (cast_mulmod _ 1099511628211 18446744073709551616).symm
def jone (r : List UInt8) (last : Nat) : Int ⊕ (List UInt8 × Nat) :=
  if r.length = 0 then .inl 0
  else if r.length < 10 then .inl 4
  else if 4096 < unle (seg r 0 2) then .inl 3
  else if r.length < unle (seg r 0 2) + 10 then .inl 4
  else if unle (seg r (unle (seg r 0 2) + 2) 8) = fnvOf (le last 8 ++ seg r 0 (unle (seg r 0 2) + 2)) then .inr (seg r 2 (unle (seg r 0 2)), fnvOf (le last 8 ++ seg r 0 (unle (seg r 0 2) + 2)))
  else .inl 6
def jall : Nat → List UInt8 → Nat → List (List UInt8) × Nat × Nat × Int
  | 0, _, last => ([], 0, last, 0)
  | f + 1, r, last => match jone r last with
    | .inl e => ([], 0, last, e)
    | .inr (x, h) => (x :: (jall f (r.drop (x.length + 10)) h).1, x.length + 10 + (jall f (r.drop (x.length + 10)) h).2.1, (jall f (r.drop (x.length + 10)) h).2.2.1, (jall f (r.drop (x.length + 10)) h).2.2.2)
def jr (r : List UInt8) (last : Nat) : List (List UInt8) × Nat × Nat × Int := jall (r.length + 1) r last
theorem jone_inr {r : List UInt8} {last : Nat} {x : List UInt8} {h : Nat} (e : jone r last = .inr (x, h)) : x.length + 10 ≤ r.length ∧ x.length ≤ 4096 := by
  unfold jone at e
  repeat (split at e; · cases e)
  rename_i h1 h2 h3 h4
  split at e
  · injection e with e
    injection e with e1 e2
    have : x.length = unle (seg r 0 2) := by rw [← e1, seg_length]; omega
    omega
  · cases e
theorem jall_fuel : ∀ (f g : Nat) (r : List UInt8) (last : Nat), r.length < f → r.length < g → jall f r last = jall g r last := by
  intro f
  induction f with
  | zero => intro g r last h; omega
  | succ f ih =>
    intro g r last h1 h2
    cases g with
    | zero => omega
    | succ g =>
      simp only [jall]
      cases hj : jone r last with
      | inl e => rfl
      | inr p =>
        obtain ⟨x, h⟩ := p
        have := jone_inr hj
        simp only
        rw [ih g _ h (by simp; omega) (by simp; omega)]
theorem jr_inl {r : List UInt8} {last : Nat} {e : Int} (h : jone r last = .inl e) : jr r last = ([], 0, last, e) := by
  unfold jr; simp only [jall, h]
theorem jr_inr {r : List UInt8} {last : Nat} {x : List UInt8} {h : Nat} (hj : jone r last = .inr (x, h)) :
    jr r last = (x :: (jr (r.drop (x.length + 10)) h).1, x.length + 10 + (jr (r.drop (x.length + 10)) h).2.1, (jr (r.drop (x.length + 10)) h).2.2.1, (jr (r.drop (x.length + 10)) h).2.2.2) := by
  have hl := jone_inr hj
  unfold jr
  rw [jall]
  simp only [hj]
  rw [jall_fuel r.length ((r.drop (x.length + 10)).length + 1) _ h (by simp; omega) (by simp)]
def jrThen (rs : List (List UInt8)) (k : Nat) (q : List (List UInt8) × Nat × Nat × Int) : List (List UInt8) × Nat × Nat × Int := (rs ++ q.1, k + q.2.1, q.2.2.1, q.2.2.2)
theorem jrThen_nil (q : List (List UInt8) × Nat × Nat × Int) : jrThen [] 0 q = q := by simp [jrThen]
theorem jrThen_step {b : List UInt8} {rs : List (List UInt8)} {k last : Nat} {x : List UInt8} {h : Nat} (hj : jone (b.drop k) last = .inr (x, h)) :
    jrThen rs k (jr (b.drop k) last) = jrThen (rs ++ [x]) (k + (x.length + 10)) (jr (b.drop (k + (x.length + 10))) h) := by
  rw [jr_inr hj, List.drop_drop]
  simp [jrThen, Nat.add_assoc]
theorem le_unle : ∀ s : List UInt8, le (unle s) s.length = s := by
  intro s
  induction s with
  | nil => rfl
  | cons c r ih =>
    have hc := c.toNat_lt
    simp only [unle, List.length_cons, le]
    rw [show (c.toNat + 256 * unle r) % 256 = c.toNat by omega, show (c.toNat + 256 * unle r) / 256 = unle r by omega, ih]
    simp
theorem seg_split (r : List UInt8) (v : Nat) : seg r 0 (2 + v) = seg r 0 2 ++ seg r 2 v := by
  unfold seg
  rw [List.drop_zero, List.take_add]
theorem unle2_lt (r : List UInt8) : unle (seg r 0 2) < 65536 := by
  have h := unle_lt (seg r 0 2)
  have hl : (seg r 0 2).length ≤ 2 := by simp [seg]; omega
  have : 256 ^ (seg r 0 2).length ≤ 256 ^ 2 := Nat.pow_le_pow_right (by omega) hl
  omega
section
variable {r : List UInt8} {last v : Nat}
theorem jone_end (h : r.length = 0) : jone r last = .inl 0 := by unfold jone; rw [if_pos h]
theorem jone_short (h0 : r.length ≠ 0) (h : r.length < 10) : jone r last = .inl 4 := by unfold jone; rw [if_neg h0, if_pos h]
theorem jone_limit (h : 10 ≤ r.length) (hv : unle (seg r 0 2) = v) (h2 : 4096 < v) : jone r last = .inl 3 := by
  subst hv; unfold jone; rw [if_neg (by omega), if_neg (by omega), if_pos h2]
theorem jone_short2 (h : 10 ≤ r.length) (hv : unle (seg r 0 2) = v) (h2 : v ≤ 4096) (h3 : r.length < v + 10) : jone r last = .inl 4 := by
  subst hv; unfold jone; rw [if_neg (by omega), if_neg (by omega), if_neg (by omega), if_pos h3]
theorem jone_bad (hv : unle (seg r 0 2) = v) (h2 : v ≤ 4096) (h3 : v + 10 ≤ r.length) (h4 : unle (seg r (v + 2) 8) ≠ fnvOf (le last 8 ++ seg r 0 (v + 2))) : jone r last = .inl 6 := by
  subst hv; unfold jone; rw [if_neg (by omega), if_neg (by omega), if_neg (by omega), if_neg (by omega), if_neg h4]
theorem jone_ok (hv : unle (seg r 0 2) = v) (h2 : v ≤ 4096) (h3 : v + 10 ≤ r.length) (h4 : unle (seg r (v + 2) 8) = fnvOf (le last 8 ++ seg r 0 (v + 2))) : jone r last = .inr (seg r 2 v, fnvOf (le last 8 ++ seg r 0 (v + 2))) := by
  subst hv; unfold jone; rw [if_neg (by omega), if_neg (by omega), if_neg (by omega), if_neg (by omega), if_pos h4]
end
def apM (b x : List UInt8) : List UInt8 × Int :=
  if (jr b 0).2.2.2 ≠ 0 then ([], (jr b 0).2.2.2)
  else if 4096 < x.length ∨ 65536 < b.length + 10 + x.length then ([], 3)
  else (b ++ (le x.length 2 ++ x) ++ le (fnvOf (le (jr b 0).2.2.1 8 ++ (le x.length 2 ++ x))) 8, 0)
theorem jr_bd : ∀ (f : Nat) (r : List UInt8) (last : Nat), last < 18446744073709551616 → (jall f r last).2.2.1 < 18446744073709551616 ∧ (jall f r last).2.1 ≤ r.length := by
  intro f
  induction f with
  | zero => intro r last h; exact ⟨h, by simp [jall]⟩
  | succ f ih =>
    intro r last h
    simp only [jall]
    cases hj : jone r last with
    | inl e => exact ⟨h, by simp⟩
    | inr p =>
      obtain ⟨x, g⟩ := p
      have hl := jone_inr hj
      have hg : g < 18446744073709551616 := by
        unfold jone at hj
        repeat (split at hj; · cases hj)
        split at hj
        · injection hj with hj
          injection hj with e1 e2
          rw [← e2]; exact fnvOf_lt _
        · cases hj
      have := ih (r.drop (x.length + 10)) g hg
      simp only
      refine ⟨this.1, ?_⟩
      have h2 := this.2
      rw [List.length_drop] at h2
      omega
theorem jr_last (b : List UInt8) : (jr b 0).2.2.1 < 18446744073709551616 := (jr_bd _ b 0 (by omega)).1
end Go.Proofs.YtbbcokckealagaaGreat
namespace Go.Proofs.YtbbcokckealagaaGreat
set_option linter.unusedVariables false
set_option linter.unusedSimpArgs false
set_option maxHeartbeats 4000000 in
theorem put64R_c (l : List UInt8) (f : Bool) (n : Nat) (hn : n < 18446744073709551616) (hl : l.length ≤ 1000000000) : ACalls Tryz.prog 119 [bsl l f, .v (.int .u64 (n : Int)), .v (.int .i64 8)] [] (.row 0 (bsP (l ++ le n 8)).length) [.row 1 (bsP (l ++ le n 8))] := by
  have hll : (bsP l).length = l.length := by simp
  refine (ACalls.of (fn := Tryz.f119) Tryz.func119 O O Tryz.ntmps119 (fun I M w own => ?_))
  (repeat' (first|refine AW.seq_k (fun K hK=>?_)|(refine hK _ ?_;clear hK)|refine AW.rI [0, 1] O ?_|refine Run.apB (sz := 1) O O O O (Or.inl ⟨_, rfl⟩) O O O (SrcNI.dat Dat.sl) (by simp;rfl) (by simp) (mm := l.length) (by simp) (by omega) O (by omega) (by simp [maxLen];omega) (by (repeat constructor);first|done|fail) O ?_|refine Um ?_|fail))
  refine AW.freezeW 0 1 (bsP l) (List.replicate 8 [PV.v (.int .u8 0)]) ((bsP l).length + 8) O (by simp; rfl) (by simp; intro y hy; rcases hy with ⟨_, _, rfl⟩ | rfl <;> rfl) (by simp) (by omega) ?_
  (repeat' (first|(refine hK _ ?_;clear hK)|refine AW.block ?_|refine rG 2 ?_|refine UA ?_|fail))
  refine AW.loopF (X := Nat) (fun x => ⟨[(1, .v (.int .u64 ((n / 256 ^ x : Nat) : Int))), (7, .row 0 (bsP (l ++ le n x)).length), (15, .v (.int .i64 8)), (16, .v (.int .i64 (x : Int)))], [.row 1 (bsP (l ++ le n x))]⟩)
    (fun x => x ≤ 8) (fun x => 8 - x) 0 ?_ ?_ ?_
  · refine Conv.mk [1] O O O ?_ O ?_
    (repeat' (first|exact V0|refine V3 ?_|refine V2 ?_ ?_|fail))
    (all_goals (try (first|refine CvL.eq ?_|refine Cv.eq ?_)))
    all_goals simp [AV.ren, renL, le]
  · simp
  · intro j hj
    have hjl : (bsP (l ++ le n j)).length = l.length + j := by simp [le_length]
    have hjl2 : (le n j).length = j := le_length n j
    rcases Nat.lt_or_ge j 8 with h | h
    · have hb : n / 256 ^ j < 18446744073709551616 := Nat.lt_of_le_of_lt (Nat.div_le_self _ _) hn
      have hd : n / 256 ^ j / 256 = n / 256 ^ (j + 1) := by rw [Nat.pow_succ, Nat.div_div_eq_div_mul]
      have hs := bs_snoc' l n j
      generalize n / 256 ^ j = q at hb hd hs
      have hw := hs (IntKind.u8.wrap (q : Int)) (by rw [IntKind.wrap_u8]; omega)
      have hd' : (q : Int) / 256 = ((n / 256 ^ (j + 1) : Nat) : Int) := by rw [← hd]; rfl
      (repeat' (first|refine AW.seq_k (fun K hK=>?_)|(refine hK _ ?_;clear hK)|refine AW.uC (fun hc=>?_) (fun hc=>?_)|refine AW.block ?_|refine AW.skip ?_|exact trivial|refine AW.rI [3, 4, 5, 6] O ?_|refine UA ?_|fail))
      ((repeat (with_reducible refine inB_n ?_)); refine thenA_n ?_)
      refine ⟨j + 1, h, by omega, ?_⟩
      refine Conv.mk [0] O O O ?_ O ?_
      (repeat' (first|exact V0|refine V3 ?_|refine V2 ?_ ?_|fail))
      (all_goals (try (first|refine CvL.eq ?_|refine Cv.eq ?_)))
      all_goals (simp only [AV.ren, renL, hw, hd']; first | done | rfl | (rw [IntWalk.i64_in _ (by omega)]; first | done | rfl))
    · obtain rfl : j = 8 := by omega
      (repeat' (first|refine AW.seq_k (fun K hK=>?_)|(refine hK _ ?_;clear hK)|refine AW.uC (fun hc=>?_) (fun hc=>?_)|refine AW.exit ?_|refine AW.ret ?_|(clear hK;refine hK _ ?_;clear hK)|exact trivial|refine AW.rI [3, 7] O ?_|refine UA ?_|fail))
      ((first|refine RetOk.tupS [0] O O O O O ?_ ?_|refine RetOk.oneS [0] O O O O ?_ ?_)<;>(repeat' (first|exact V0|refine V1 ?_|refine V2 ?_ ?_|fail)))
      (all_goals (try (first|refine CvL.eq ?_|refine Cv.eq ?_)))
      all_goals rfl
set_option maxHeartbeats 4000000 in
theorem Put64R_c (l : List UInt8) (f : Bool) (n : Nat) (hn : n < 18446744073709551616) (hl : l.length ≤ 1000000000) : ACalls Tryz.prog 86 [bsl l f, .v (.int .u64 (n : Int))] [] (.row 0 (bsP (l ++ le n 8)).length) [.row 1 (bsP (l ++ le n 8))] := by
  have h := put64R_c l f n hn hl
  refine (ACalls.of (fn := Tryz.f86) Tryz.func86 O O Tryz.ntmps86 (fun I M w own => ?_))
  (repeat' (first|refine AW.seq_k (fun K hK=>?_)|(refine hK _ ?_;clear hK)|refine AW.ret ?_|refine AW.region ?_|refine Run.cSA [] h O O O O O O O O O O O O ?_|refine UA ?_|fail))
  ((first|refine RetOk.tupS [0] O O O O O ?_ ?_|refine RetOk.oneS [0] O O O O ?_ ?_)<;>(repeat' (first|exact V0|refine V1 ?_|refine V2 ?_ ?_|fail)))
  all_goals first | rfl | (refine Cv.eq ?_; rfl)
set_option maxHeartbeats 4000000 in
theorem hash_wc (l : List UInt8) (f : Bool) (hl : l.length ≤ 1000000000) : ACalls Tryz.prog 157 [bsl l f] [] (.v (.int .u64 (fnvOf l : Int))) [] := by
  have hll : (bsP l).length = l.length := by simp
  refine (ACalls.of (fn := Tryz.f157) Tryz.func157 O O Tryz.ntmps157 (fun I M w own => ?_))
  (repeat' (first|refine AW.seq_k (fun K hK=>?_)|(refine hK _ ?_;clear hK)|refine AW.block ?_|refine AW.rI [0, 1, 2] O ?_|refine UA ?_|fail))
  refine AW.loopF (X := Nat) (fun x => ⟨[(3, .v (.int .u64 (fnvOf (l.take x) : Int))), (6, bsl l f), (7, .v (.int .i64 ((bsP l).length : Int))), (8, .v (.int .i64 (x : Int)))], []⟩) (fun x => x ≤ l.length) (fun x => l.length - x) 0 ?_ (Nat.zero_le _) ?_
  · refine Conv.mk [] O O O ?_ O ?_
    · (repeat' (first|exact V0|refine V3 ?_|refine V2 ?_ ?_|fail))
    · (repeat' (first|exact V0|refine V3 ?_|refine V2 ?_ ?_|fail))
  rintro i hi
  rcases Nat.lt_or_ge i l.length with h | h
  · have hlt : (i : Int) < ((bsP l).length : Int) := by omega
    have hA : At (bsP l) (i : Int) [PV.v (.int .u8 (l[i].toNat : Int))] := At.mk i O (by simp [h])
    have hs := fnv_step (fnvOf (l.take i)) l[i] (fnvOf_lt _)
    rw [← fnvOf_snoc l i h] at hs
    generalize fnvOf (l.take i) = q at hs
    (repeat' (first|refine AW.seq_k (fun K hK=>?_)|(refine hK _ ?_;clear hK)|refine AW.uC (fun hc=>?_) (fun hc=>?_)|refine AW.block ?_|refine AW.skip ?_|exact trivial|refine AW.rI [3, 4, 5, 6, 7] O ?_|refine Ud ?_|fail))
    ((repeat (with_reducible refine inB_n ?_)); refine thenA_n ?_)
    refine ⟨i + 1, h, by omega, ?_⟩
    refine Conv.mk [] O O O ?_ O ?_
    · (repeat' (first|exact V0|refine V3 ?_|refine V2 ?_ ?_|fail))
      all_goals first | rfl | (refine Cv.eq ?_; simp [AV.ren, renL]; done) | (refine Cv.eq ?_; simp only [AV.ren]; rw [hs]; done)
    · (repeat' (first|exact V0|refine V3 ?_|refine V2 ?_ ?_|fail))
  · have hge : ¬ (i : Int) < ((bsP l).length : Int) := by omega
    obtain rfl : i = l.length := by omega
    (repeat' (first|refine AW.seq_k (fun K hK=>?_)|(refine hK _ ?_;clear hK)|refine AW.uC (fun hc=>?_) (fun hc=>?_)|refine AW.exit ?_|refine AW.ret ?_|(clear hK;refine hK _ ?_;clear hK)|exact trivial|refine AW.rI [3, 8] O ?_|refine Ud ?_|fail))
    ((first|refine RetOk.tupS [] O O O O O ?_ ?_|refine RetOk.oneS [] O O O O ?_ ?_)<;>(repeat' (first|exact V0|refine V1 ?_|refine V2 ?_ ?_|fail)))
    all_goals (refine Cv.eq ?_; simp [AV.ren, renL]; done)
set_option maxHeartbeats 4000000 in
theorem rhash_wc (l : List UInt8) (f : Bool) (hl : l.length ≤ 1000000000) : ACalls Tryz.prog 111 [bsl l f] [] (.v (.int .u64 (fnvOf l : Int))) [] := by
  have hll : (bsP l).length = l.length := by simp
  refine (ACalls.of (fn := Tryz.f111) Tryz.func111 O O Tryz.ntmps111 (fun I M w own => ?_))
  (repeat' (first|refine AW.seq_k (fun K hK=>?_)|(refine hK _ ?_;clear hK)|refine AW.block ?_|refine AW.rI [0, 1, 2] O ?_|refine UA ?_|fail))
  refine AW.loopF (X := Nat) (fun x => ⟨[(3, .v (.int .u64 (fnvOf (l.take x) : Int))), (6, bsl l f), (7, .v (.int .i64 ((bsP l).length : Int))), (8, .v (.int .i64 (x : Int)))], []⟩) (fun x => x ≤ l.length) (fun x => l.length - x) 0 ?_ (Nat.zero_le _) ?_
  · refine Conv.mk [] O O O ?_ O ?_
    · (repeat' (first|exact V0|refine V3 ?_|refine V2 ?_ ?_|fail))
    · (repeat' (first|exact V0|refine V3 ?_|refine V2 ?_ ?_|fail))
  rintro i hi
  rcases Nat.lt_or_ge i l.length with h | h
  · have hlt : (i : Int) < ((bsP l).length : Int) := by omega
    have hA : At (bsP l) (i : Int) [PV.v (.int .u8 (l[i].toNat : Int))] := At.mk i O (by simp [h])
    have hs := fnv_step (fnvOf (l.take i)) l[i] (fnvOf_lt _)
    rw [← fnvOf_snoc l i h] at hs
    generalize fnvOf (l.take i) = q at hs
    (repeat' (first|refine AW.seq_k (fun K hK=>?_)|(refine hK _ ?_;clear hK)|refine AW.uC (fun hc=>?_) (fun hc=>?_)|refine AW.block ?_|refine AW.skip ?_|exact trivial|refine AW.rI [3, 4, 5, 6] O ?_|refine Ud ?_|fail))
    ((repeat (with_reducible refine inB_n ?_)); refine thenA_n ?_)
    refine ⟨i + 1, h, by omega, ?_⟩
    refine Conv.mk [] O O O ?_ O ?_
    · (repeat' (first|exact V0|refine V3 ?_|refine V2 ?_ ?_|fail))
      all_goals first | rfl | (refine Cv.eq ?_; simp [AV.ren, renL]; done) | (refine Cv.eq ?_; simp only [AV.ren]; rw [hs]; done)
    · (repeat' (first|exact V0|refine V3 ?_|refine V2 ?_ ?_|fail))
  · have hge : ¬ (i : Int) < ((bsP l).length : Int) := by omega
    obtain rfl : i = l.length := by omega
    (repeat' (first|refine AW.seq_k (fun K hK=>?_)|(refine hK _ ?_;clear hK)|refine AW.uC (fun hc=>?_) (fun hc=>?_)|refine AW.exit ?_|refine AW.ret ?_|(clear hK;refine hK _ ?_;clear hK)|exact trivial|refine AW.rI [3, 7] O ?_|refine Ud ?_|fail))
    ((first|refine RetOk.tupS [] O O O O O ?_ ?_|refine RetOk.oneS [] O O O O ?_ ?_)<;>(repeat' (first|exact V0|refine V1 ?_|refine V2 ?_ ?_|fail)))
    all_goals (refine Cv.eq ?_; simp [AV.ren, renL]; done)
theorem ACalls.rowArg0 {P : Program} {f : FuncId} {sz : Nat} {xs : List (List PV)} {r : AV} (h : ACalls P f [.sl sz xs false] [] r []) (hr : r.lt 0 = true) : ACalls P f [.row 0 xs.length] [.row sz xs] r [.no] := by
  intro I M w cargs hsz hav hs hno
  have h0 : (sto [.row sz xs]) 0 = .row sz xs := rfl
  have hs0 : (sto [Res.no] : Nat → Res) = fun _ => .no := by
    funext k
    cases k <;> simp [sto]
  refine (h (fun _ => .no) M w cargs (by simpa using hsz) ?_ ?_ (fun _ _ => rfl)).mono ?_
  · intro i v c hv hc
    match i, hc with
    | 0, hc =>
      obtain rfl := Option.some.inj hc
      have hv0 := hav 0 v _ hv O
      exact (Cv.rowf (σ := sto [.row sz xs]) h0 O I M w v hs hv0).agree (n := 0) (fun k hk => absurd hk (Nat.not_lt_zero k)) O
    | i + 1, hc => cases hc
  · rw [sto_nil]
    exact ⟨fun k => trivial, fun k k' b _ hb => (blkno hb).elim, hs.top, hs.tab⟩
  · rintro e w' ⟨cv, I', M', rfl, k1, k2, k3, k4, k5⟩
    refine ⟨cv, I, M', rfl, k1.agree (n := 0) (fun k hk => absurd hk (Nat.not_lt_zero k)) hr, ?_, hno, ⟨k4.os, k4.tape, k4.output, fun _ => CI.le_refl _, k4.evo, fun b hb ho => k4.oth b hb fun ⟨k, hk⟩ => ?_⟩, fun k b hb => ?_⟩
    · rw [hs0]
      exact ⟨fun k => trivial, fun k k' b _ hb => (blkno hb).elim, k2.top, k2.tab⟩
    · rw [sto_nil] at hk; exact (blkno hk).elim
    · rw [hs0] at hb; exact (blkno hb).elim
set_option maxHeartbeats 4000000 in
theorem sum_c (q : Nat) (hq : q < 18446744073709551616) (l : List UInt8) (f : Bool) (hl : l.length ≤ 100000000) : ACalls Tryz.prog 138 [.v (.int .u64 (q : Int)), bsl l f] [] (.v (.int .u64 (fnvOf (le q 8 ++ l) : Int))) [] := by
  have hP := (Put64R_c [] false q hq (by simp)).weak (args' := [.v (.slice none 0 0), .v (.int .u64 (q : Int))]) (.cons .nil (.cons .same .nil))
  have hH := hash_wc (le q 8 ++ l) false (by simp [le_length]; omega)
  have hll : (bsP (le q 8)).length = 8 := by simp [le_length]
  have hbl : (bsP l).length = l.length := by simp
  have h8 : (le q 8).length = 8 := le_length q 8
  have e : bsP (le q 8 ++ l) = bsP ([] ++ le q 8) ++ bsP l := by simp
  have hH2 : ACalls Tryz.prog 157 [.sl 1 (bsP ([] ++ le q 8) ++ bsP l) false] [] (.v (.int .u64 (fnvOf (le q 8 ++ l) : Int))) [] := by rw [← e]; exact hH
  have hH3 := ACalls.rowArg0 hH2 O
  refine (ACalls.of (fn := Tryz.f138) Tryz.func138 O O Tryz.ntmps138 (fun I M w own => ?_))
  (repeat' (first|refine AW.seq_k (fun K hK=>?_)|(refine hK _ ?_;clear hK)|refine AW.ret ?_|refine AW.region ?_|refine Run.cSA [] hP O O O O O O O O O O O O ?_|refine Run.cSA [0] hH3 O O O O O O O O O O O O ?_|refine UA ?_|fail))
  ((first|refine RetOk.tupS [] O O O O O ?_ ?_|refine RetOk.oneS [] O O O O ?_ ?_)<;>(repeat' (first|exact V0|refine V1 ?_|refine V2 ?_ ?_|fail)))
end Go.Proofs.YtbbcokckealagaaGreat
namespace Go.Proofs.YtbbcokckealagaaGreat
set_option linter.unusedVariables false
set_option linter.unusedSimpArgs false
def frB (l : List (List UInt8)) : List (List PV) := l.map fun x => [PV.sl 1 (bsP x)]
@[simp] theorem frB_len (l : List (List UInt8)) : (frB l).length = l.length := by simp [frB]
set_option maxHeartbeats 4000000 in
theorem jClone_c (l : List UInt8) (f : Bool) (hl : l.length ≤ 1099511627776) : ACalls Tryz.prog 139 [.sl 1 (bsP l) f] [] (.sl 1 (bsP l) false) [] := by
  refine (ACalls.of (fn := Tryz.f139) Tryz.func139 O O Tryz.ntmps139 (fun I M w own => ?_))
  have hll : (bsP l).length = l.length := by simp
  (repeat' (first|refine AW.seq_k (fun K hK=>?_)|(refine hK _ ?_;clear hK)|refine AW.uC (fun hc=>?_) (fun hc=>?_)|refine AW.ret ?_|refine AW.skip ?_|exact trivial|refine AW.region ?_|refine Run.eqN O O (fun _=>rfl) O O (by first|exact Dat.sl|exact Dat.nil|exact Dat.rowf O O|exact Dat.row O) O (fun b hb=>?_)|refine UA ?_|fail))
  · have := hb hc
    rw [this]
    ((first|refine RetOk.tup O O ?_|refine RetOk.one O ?_)<;>(repeat' (first|exact V0|refine V1 ?_|refine V2 ?_ ?_|fail)))
  · ((first|refine RetOk.tup O O ?_|refine RetOk.one O ?_)<;>(repeat' (first|exact V0|refine V1 ?_|refine V2 ?_ ?_|fail)))
theorem jbP_take (l : List UInt8) (k : Nat) : (bsP l).take k = bsP (l.take k) := by simp [List.map_take]
theorem jbP_drop (l : List UInt8) (k : Nat) : (bsP l).drop k = bsP (l.drop k) := by simp [bsP]
set_option maxHeartbeats 4000000 in
theorem jread_c (b : List UInt8) (f : Bool) (hl : b.length ≤ 1000000) : ACalls Tryz.prog 112 [bsl b f] [] (.tup [.row 0 (frB (jr b 0).1).length, .v (.int .i64 ((jr b 0).2.1 : Int)), .v (.int .u64 ((jr b 0).2.2.1 : Int)), .v (.int .i64 (jr b 0).2.2.2)]) [.row 1 (frB (jr b 0).1)] := by
  have hR0 : jrThen [] 0 (jr (b.drop 0) 0) = jr b 0 := jrThen_nil _
  generalize jr b 0 = R at hR0
  refine (ACalls.of (fn := Tryz.f112) Tryz.func112 O O Tryz.ntmps112 (fun I M w own => ?_))
  (repeat' (first|refine AW.seq_k (fun K hK=>?_)|(refine hK _ ?_;clear hK)|refine AW.block ?_|refine rG 0 ?_|refine UA ?_|fail))
  refine AW.loopF (X := List (List UInt8) × Nat × Nat) (fun x => ⟨[(0, bsl b f), (2, .row 0 (frB x.1).length), (3, .v (.int .i64 (x.2.1 : Int))), (4, .v (.int .u64 (x.2.2 : Int))), (5, .v (.int .i64 0))], [.row 1 (frB x.1)]⟩)
    (fun x => x.1.length ≤ x.2.1 ∧ x.2.1 ≤ b.length ∧ x.2.2 < 18446744073709551616 ∧ jrThen x.1 x.2.1 (jr (b.drop x.2.1) x.2.2) = R) (fun x => b.length - x.2.1) ([], 0, 0) ?_ ?_ ?_
  · refine Conv.own 2 1 [] (Or.inr ⟨rfl, rfl⟩) ?_
    refine Conv.mk [0] O O O ?_ O ?_
    (repeat' (first|exact V0|refine V3 ?_|refine V2 ?_ ?_|fail))
    (all_goals (try (first|refine CvL.eq ?_|refine Cv.eq ?_)))
    all_goals simp [AV.ren, AV.rens, renL, frB]
  · exact ⟨by simp, by simp, by decide, hR0⟩
  · rintro ⟨out, k, last⟩ ⟨g0, g1, g2, g3⟩
    dsimp only at g0 g1 g2 g3
    have hbl : (bsP b).length = b.length := by simp
    (repeat' (first|refine AW.seq_k (fun K hK=>?_)|(refine hK _ ?_;clear hK)|refine AW.block ?_|refine rG 1 ?_|refine UA ?_|fail))
    have hdr : List.drop ((k : Int)).toNat (bsP b) = bsP (b.drop k) := by rw [Int.toNat_natCast, jbP_drop]
    rw [show List.drop (((out, k, last) : List (List UInt8) × Nat × Nat).snd.fst : Int).toNat (bsP b) = bsP (b.drop k) from hdr]
    have hrl : (b.drop k).length = b.length - k := by simp
    have hst := fun x h => @jrThen_step b out k last x h
    generalize hr : b.drop k = r at hrl g3 hst
    have hrl2 : (bsP r).length = r.length := by simp
    rcases Nat.eq_zero_or_pos r.length with h0 | h0
    · rw [jr_inl (jone_end h0), show ∀ e : Int, jrThen out k ([], 0, last, e) = (out, k, last, e) from fun e => by simp [jrThen]] at g3
      subst g3
      (repeat' (first|refine AW.seq_k (fun K hK=>?_)|(refine hK _ ?_;clear hK)|refine AW.uC (fun hc=>?_) (fun hc=>?_)|refine AW.ret ?_|exact trivial|refine AW.rI [2, 3] O ?_|refine UA ?_|fail))
      ((first|refine RetOk.tupS [0] O O O O O ?_ ?_|refine RetOk.oneS [0] O O O O ?_ ?_)<;>(repeat' (first|exact V0|refine V1 ?_|refine V2 ?_ ?_|fail)))
      all_goals rfl
    rcases Nat.lt_or_ge r.length 10 with h10 | h10
    · rw [jr_inl (jone_short (by omega) h10), show ∀ e : Int, jrThen out k ([], 0, last, e) = (out, k, last, e) from fun e => by simp [jrThen]] at g3
      subst g3
      (repeat' (first|refine AW.seq_k (fun K hK=>?_)|(refine hK _ ?_;clear hK)|refine AW.uC (fun hc=>?_) (fun hc=>?_)|refine AW.ret ?_|exact trivial|refine AW.rI [2, 4, 5] O ?_|refine UA ?_|fail))
      ((first|refine RetOk.tupS [0] O O O O O ?_ ?_|refine RetOk.oneS [0] O O O O ?_ ?_)<;>(repeat' (first|exact V0|refine V1 ?_|refine V2 ?_ ?_|fail)))
      all_goals rfl
    have hG := Get16_c r false 0 (by omega) (by omega)
    rw [show (0 : Int) = ((0 : Nat) : Int) from rfl, getM_in r 0 _ (by omega)] at hG
    have hv2 := unle2_lt r
    generalize hv : unle (seg r 0 2) = v at hG hv2
    dsimp only at hG
    rcases Nat.lt_or_ge 4096 v with h4 | h4
    · rw [jr_inl (jone_limit h10 hv h4), show ∀ e : Int, jrThen out k ([], 0, last, e) = (out, k, last, e) from fun e => by simp [jrThen]] at g3
      subst g3
      (repeat' (first|refine AW.seq_k (fun K hK=>?_)|(refine hK _ ?_;clear hK)|refine AW.uC (fun hc=>?_) (fun hc=>?_)|refine AW.block ?_|refine AW.ret ?_|refine AW.skip ?_|exact trivial|refine AW.rI [2, 4, 6, 7, 8, 9] O ?_|refine Run.c0 hG O O O O O O O O ?_|refine UA ?_|fail))
      ((first|refine RetOk.tupS [0] O O O O O ?_ ?_|refine RetOk.oneS [0] O O O O ?_ ?_)<;>(repeat' (first|exact V0|refine V1 ?_|refine V2 ?_ ?_|fail)))
      all_goals rfl
    rcases Nat.lt_or_ge r.length (v + 10) with h5 | h5
    · rw [jr_inl (jone_short2 h10 hv h4 h5), show ∀ e : Int, jrThen out k ([], 0, last, e) = (out, k, last, e) from fun e => by simp [jrThen]] at g3
      subst g3
      (repeat' (first|refine AW.seq_k (fun K hK=>?_)|(refine hK _ ?_;clear hK)|refine AW.uC (fun hc=>?_) (fun hc=>?_)|refine AW.block ?_|refine AW.ret ?_|refine AW.skip ?_|exact trivial|refine AW.rI [2, 4, 6, 7, 8, 10, 11] O ?_|refine Run.c0 hG O O O O O O O O ?_|refine UA ?_|fail))
      ((first|refine RetOk.tupS [0] O O O O O ?_ ?_|refine RetOk.oneS [0] O O O O ?_ ?_)<;>(repeat' (first|exact V0|refine V1 ?_|refine V2 ?_ ?_|fail)))
      all_goals rfl
    have hsp : seg r 0 (v + 2) = r.take (v + 2) := by simp [seg]
    have hS := sum_c last g2 (seg r 0 (v + 2)) false (by rw [seg_length _ _ _ (by omega)]; omega)
    have hG2 := Get64_c r false ((v + 2 : Nat) : Int) (by omega) (by omega)
    rw [getM_in r (v + 2) 8 (by omega)] at hG2
    have hok := @jone_ok r last v hv h4 h5
    have hbad := @jone_bad r last v hv h4 h5
    have hF := fnvOf_lt (le last 8 ++ seg r 0 (v + 2))
    generalize fnvOf (le last 8 ++ seg r 0 (v + 2)) = F at hS hok hbad hF
    have hU := unle_lt (seg r (v + 2) 8)
    rw [seg_length _ _ _ (by omega)] at hU
    generalize unle (seg r (v + 2) 8) = U at hG2 hok hbad hU
    have e1 : List.take (2 + (v : Int)).toNat (bsP r) = bsP (seg r 0 (v + 2)) := by rw [hsp, jbP_take, show (2 + (v : Int)).toNat = v + 2 by omega]
    unfold bsl at hS
    rw [← e1] at hS
    rw [show ((v + 2 : Nat) : Int) = 2 + (v : Int) by omega] at hG2
    dsimp only at hG2
    have e2 : List.drop (2 : Int).toNat (List.take (2 + (v : Int)).toNat (bsP r)) = bsP (seg r 2 v) := by
      rw [show (2 + (v : Int)).toNat = 2 + v by omega, jbP_take, jbP_drop]
      unfold seg
      rw [List.drop_take, show 2 + v - Int.toNat 2 = v by simp]; rfl
    have hl2 : (seg r 2 v).length = v := seg_length _ _ _ (by omega)
    have hC := jClone_c (seg r 2 v) false (by omega)
    rw [← e2] at hC
    by_cases hUF : U = F
    · have hj := hok hUF
      rw [hst _ _ hj, hl2] at g3
      (repeat' (first|refine AW.seq_k (fun K hK=>?_)|(refine hK _ ?_;clear hK)|refine AW.uC (fun hc=>?_) (fun hc=>?_)|refine AW.block ?_|refine AW.skip ?_|exact trivial|refine AW.rI [2, 4, 6, 7, 8, 10, 12, 13, 14, 16, 17] O ?_|refine Run.c0 hG O O O O O O O O ?_|refine Run.c0 hS O O O O O O O O ?_|refine Run.c0 hG2 O O O O O O O O ?_|refine Run.c0 hC O O O O O O O O ?_|refine UA ?_|fail))
      ((repeat (with_reducible refine inB_n ?_)); refine thenA_n ?_)
      refine ⟨(out ++ [seg r 2 v], k + (v + 10), F), ⟨by simp; omega, by dsimp only; omega, hF, g3⟩, by dsimp only; omega, ?_⟩
      refine Conv.mk [0] O O O ?_ O ?_
      (repeat' (first|exact V0|refine V3 ?_|refine V2 ?_ ?_|fail))
      (all_goals (try (first|refine CvL.eq ?_|refine Cv.eq ?_)))
      all_goals simp [AV.ren, renL, frB]
      all_goals first | exact e2 | (rw [IntWalk.i64_in (↑k + (2 + ↑v)) (by omega), IntWalk.i64_in _ (by omega)]; omega)
    · rw [jr_inl (hbad hUF), show ∀ e : Int, jrThen out k ([], 0, last, e) = (out, k, last, e) from fun e => by simp [jrThen]] at g3
      subst g3
      (repeat' (first|refine AW.seq_k (fun K hK=>?_)|(refine hK _ ?_;clear hK)|refine AW.uC (fun hc=>?_) (fun hc=>?_)|refine AW.block ?_|refine AW.ret ?_|refine AW.skip ?_|exact trivial|refine AW.rI [2, 4, 6, 7, 8, 10, 12, 13, 14, 15] O ?_|refine Run.c0 hG O O O O O O O O ?_|refine Run.c0 hS O O O O O O O O ?_|refine Run.c0 hG2 O O O O O O O O ?_|refine UA ?_|fail))
      ((first|refine RetOk.tupS [0] O O O O O ?_ ?_|refine RetOk.oneS [0] O O O O ?_ ?_)<;>(repeat' (first|exact V0|refine V1 ?_|refine V2 ?_ ?_|fail)))
      all_goals rfl
set_option maxHeartbeats 4000000 in
theorem jRead_c (b : List UInt8) (f : Bool) (hl : b.length ≤ 1000000) : ACalls Tryz.prog 66 [bsl b f] [] (.tup [.row 0 (frB (jr b 0).1).length, .v (.int .i64 ((jr b 0).2.1 : Int)), .v (.int .i64 (jr b 0).2.2.2)]) [.row 1 (frB (jr b 0).1)] := by
  have h := jread_c b f hl
  refine (ACalls.of (fn := Tryz.f66) Tryz.func66 O O Tryz.ntmps66 (fun I M w own => ?_))
  (repeat' (first|refine AW.seq_k (fun K hK=>?_)|(refine hK _ ?_;clear hK)|refine AW.ret ?_|refine AW.region ?_|refine Run.cSA [] h O O O O O O O O O O O O ?_|refine UA ?_|fail))
  ((first|refine RetOk.tupS [0] O O O O O ?_ ?_|refine RetOk.oneS [0] O O O O ?_ ?_)<;>(repeat' (first|exact V0|refine V1 ?_|refine V2 ?_ ?_|fail)))
  all_goals rfl
end Go.Proofs.YtbbcokckealagaaGreat
