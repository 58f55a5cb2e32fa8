/-
  Plain functions of layer 1 (bytes of numbers, check sums) on lists of bytes; the sum is linear.
-/
import Derived.Test.YtbbcokckealagaaGreatQAD
import Derived.Test.YtbbcokckealagaaGreatQAJ
import Derived.Test.YtbbcokckealagaaGreatQAI
import Derived.Test.YtbbcokckealagaaGreatQAA
import Derived.Test.YtbbcokckealagaaGreatTy
namespace Go.Proofs.YtbbcokckealagaaGreat
set_option linter.unusedVariables false
set_option linter.unusedSimpArgs false
def le (n : Nat) : Nat → List UInt8
  | 0 => []
  | k + 1 => UInt8.ofNat (n % 256) :: le (n / 256) k
theorem le_length (n k : Nat) : (le n k).length = k := by
  induction k generalizing n with
  | zero => rfl
  | succ k ih => simp [le, ih]
theorem le_snoc (n k : Nat) : le n (k + 1) = le n k ++ [UInt8.ofNat (n / 256 ^ k % 256)] := by
  induction k generalizing n with
  | zero => simp [le]
  | succ k ih =>
    rw [le, ih (n / 256), le]
    simp [Nat.div_div_eq_div_mul, Nat.pow_succ, Nat.mul_comm]
theorem pow_step' (x k : Nat) : (x : Int) / 2 ^ (8 * k) % 256 = (x : Int) / 256 ^ k % 256 := by
  rw [Int.pow_mul]; rfl
def unle : List UInt8 → Nat
  | [] => 0
  | c :: r => c.toNat + 256 * unle r
theorem unle_snoc (l : List UInt8) (c : UInt8) : unle (l ++ [c]) = unle l + c.toNat * 256 ^ l.length := by
  induction l with
  | nil => simp [unle]
  | cons d l ih => simp only [List.cons_append, unle, ih, List.length_cons, Nat.pow_succ, Nat.mul_add]; rw [Nat.add_assoc]; congr 2; rw [Nat.mul_left_comm, Nat.mul_comm 256]
theorem unle_lt (l : List UInt8) : unle l < 256 ^ l.length := by
  induction l with
  | nil => simp [unle]
  | cons d l ih =>
    have := d.toNat_lt
    simp only [unle, List.length_cons, Nat.pow_succ]
    omega
def seg (l : List UInt8) (a m : Nat) : List UInt8 := (l.drop a).take m
theorem seg_length (l : List UInt8) (a m : Nat) (h : a + m ≤ l.length) : (seg l a m).length = m := by
  simp [seg]; omega
theorem seg_snoc (l : List UInt8) (a m : Nat) (h : a + m < l.length) : seg l a (m + 1) = seg l a m ++ [l[a + m]] := by
  unfold seg
  rw [List.take_succ_eq_append_getElem (by simp; omega)]
  simp
theorem seg_cons (l : List UInt8) (a m : Nat) (h : a < l.length) : seg l a (m + 1) = l[a] :: seg l (a + 1) m := by
  unfold seg
  rw [List.drop_eq_getElem_cons h, List.take_succ_cons]
theorem or_low (r c k : Nat) (hr : r < 256 ^ k) : r ||| c * 2 ^ (8 * k) = r + c * 256 ^ k := by
  have e : 256 ^ k = 2 ^ (8 * k) := by rw [Nat.pow_mul]
  rw [e] at hr ⊢
  rw [Nat.or_comm, ← Nat.shiftLeft_eq, ← Nat.shiftLeft_add_eq_or_of_lt hr, Nat.add_comm]
theorem pow_le_of (k m c r : Nat) (hk : k < m) (hc : c < 256) (hr : r < 256 ^ k) : r + c * 256 ^ k < 256 ^ m := by
  have h1 : r + c * 256 ^ k < 256 ^ (k + 1) := by
    rw [Nat.pow_succ, Nat.mul_comm]
    have : 256 ^ k * c + 256 ^ k ≤ 256 ^ k * 256 := by rw [← Nat.mul_succ]; exact Nat.mul_le_mul_left _ hc
    omega
  exact Nat.lt_of_lt_of_le h1 (Nat.pow_le_pow_right (by omega) hk)
theorem u16_or_nat (a b : Nat) (ha : a < 65536) (hb : b < 65536) : bits .or .u16 (a : Int) (b : Int) = ((a ||| b : Nat) : Int) := by
  have hx : a ||| b < 2 ^ 16 := Nat.or_lt_two_pow (by omega) (by omega)
  have f : ∀ x : Nat, x < 65536 → (BitVec.ofInt 16 (x : Int)).toNat = x := fun x hx => by
    rw [BitVec.ofInt_natCast, BitVec.toNat_ofNat]; exact Nat.mod_eq_of_lt (by omega)
  show IntKind.u16.wrap ((BitVec.ofInt 16 (a : Int) ||| BitVec.ofInt 16 (b : Int)).toNat : Int) = _
  rw [BitVec.toNat_or, f a ha, f b hb]
  exact IntWalk.u16_in _ (by omega)
theorem or16 (r k : Nat) (c : UInt8) (hr : r < 256 ^ k) (hk : k < 2) : bits .or .u16 (r : Int) (IntKind.u16.wrap (IntKind.u16.wrap (c.toNat : Int) * 2 ^ (8 * k))) = ((r + c.toNat * 256 ^ k : Nat) : Int) := by
  have hc := c.toNat_lt
  have h1 := pow_le_of k 2 c.toNat r hk hc hr
  have h2 : c.toNat * 2 ^ (8 * k) < 65536 := by rw [Nat.pow_mul]; simp at h1 ⊢; omega
  rw [IntWalk.u16_in (c.toNat : Int) (by omega), show ((c.toNat : Int) * 2 ^ (8 * k)) = ((c.toNat * 2 ^ (8 * k) : Nat) : Int) from by simp, IntWalk.u16_in _ (by omega), u16_or_nat _ _ (by simp at h1; omega) h2, or_low r _ k hr]
theorem byte_u64 (c : UInt8) : IntKind.u64.wrap (c.toNat : Int) = c.toNat := by
  have hc := c.toNat_lt
  exact IntWalk.u64_in _ (by omega)
theorem or64 (r k : Nat) (c : UInt8) (hr : r < 256 ^ k) (hk : k < 8) : bits .or .u64 (r : Int) (IntKind.u64.wrap (IntKind.u64.wrap (c.toNat : Int) * 2 ^ (8 * k))) = ((r + c.toNat * 256 ^ k : Nat) : Int) := by
  have hc := c.toNat_lt
  have h1 := pow_le_of k 8 c.toNat r hk hc hr
  have h2 : c.toNat * 2 ^ (8 * k) < 18446744073709551616 := by rw [Nat.pow_mul]; simp at h1 ⊢; omega
  rw [byte_u64, show ((c.toNat : Int) * 2 ^ (8 * k)) = ((c.toNat * 2 ^ (8 * k) : Nat) : Int) from by simp, IntWalk.u64_in _ (by omega), u64_or_nat _ _ (by simp at h1; omega) h2, or_low r _ k hr]
theorem or64' (r j : Nat) (c : UInt8) (hr : r < 256 ^ j) (hj : j < 8) : bits .or .u64 (IntKind.u64.wrap ((r : Int) * 256)) (IntKind.u64.wrap (c.toNat : Int)) = ((c.toNat + 256 * r : Nat) : Int) := by
  have hc := c.toNat_lt
  have h1 : r * 256 < 256 ^ (j + 1) := by rw [Nat.pow_succ]; omega
  have h2 : 256 ^ (j + 1) ≤ 256 ^ 8 := Nat.pow_le_pow_right (by omega) hj
  have h3 : r * 256 < 18446744073709551616 := by simp at h2; omega
  rw [byte_u64, show ((r : Int) * 256) = ((r * 256 : Nat) : Int) from by simp, IntWalk.u64_in _ (by omega), u64_or_nat _ _ h3 (by omega)]
  have := or_low c.toNat r 1 (by simpa using hc)
  rw [Nat.or_comm] at this
  simp at this
  rw [this, Nat.mul_comm]
def getM (l : List UInt8) (a : Int) (m : Nat) : Nat × Int × Int :=
  if a < 0 ∨ (l.length : Int) < a then (0, 0, 2) else if (l.length : Int) - a < m then (0, 0, 4) else (unle (seg l a.toNat m), a + m, 0)
theorem getM_in (l : List UInt8) (a m : Nat) (h : a + m ≤ l.length) : getM l a m = (unle (seg l a m), (a : Int) + m, 0) := by
  unfold getM; rw [if_neg (by omega), if_neg (by omega)]; rfl
theorem getM_out (l : List UInt8) (a : Int) (m : Nat) (h : a < 0 ∨ (l.length : Int) < a) : getM l a m = (0, 0, 2) := by
  unfold getM; rw [if_pos h]
theorem getM_short (l : List UInt8) (a m : Nat) (h : a ≤ l.length) (h2 : l.length < a + m) : getM l a m = (0, 0, 4) := by
  unfold getM; rw [if_neg (by omega), if_pos (by omega)]
theorem getM_lt (l : List UInt8) (a : Int) (m : Nat) : (getM l a m).1 < 256 ^ m := by
  unfold getM
  split
  · exact Nat.pos_of_ne_zero (by simp)
  · split
    · exact Nat.pos_of_ne_zero (by simp)
    · have := unle_lt (seg l a.toNat m)
      rwa [seg_length] at this
      omega
def putT (l s : List UInt8) : List UInt8 := l ++ UInt8.ofNat s.length :: s
def ptM (l s : List UInt8) : List UInt8 × Int := if 64 < s.length then ([], 3) else (putT l s, 0)
theorem putT_length (l s : List UInt8) : (putT l s).length = l.length + (1 + s.length) := by simp [putT]; omega
def textM (l : List UInt8) (a : Int) : List UInt8 × Int × Int :=
  if a < 0 ∨ (l.length : Int) < a then ([], 0, 2)
  else match l[a.toNat]? with
    | none => ([], 0, 4)
    | some c => if 64 < c.toNat then ([], 0, 3) else if (l.length : Int) - a - 1 < c.toNat then ([], 0, 4) else (seg l (a.toNat + 1) c.toNat, a + 1 + c.toNat, 0)
theorem textM_out (l : List UInt8) (a : Int) (h : a < 0 ∨ (l.length : Int) < a) : textM l a = ([], 0, 2) := by
  unfold textM; rw [if_pos h]
theorem textM_end (l : List UInt8) : textM l l.length = ([], 0, 4) := by
  unfold textM; rw [if_neg (by omega)]; simp
theorem textM_at (l : List UInt8) (a : Nat) (h : a < l.length) : textM l a = if 64 < l[a].toNat then ([], 0, 3) else if (l.length : Int) - a - 1 < l[a].toNat then ([], 0, 4) else (seg l (a + 1) l[a].toNat, (a : Int) + 1 + l[a].toNat, 0) := by
  unfold textM; rw [if_neg (by omega)]
  simp only [Int.toNat_natCast, List.getElem?_eq_getElem h]
def crcBit (r : Nat) : Nat := if r % 2 = 1 then (r / 2) ^^^ 3988292384 else r / 2
def crcBits (r : Nat) : Nat → Nat
  | 0 => r
  | k + 1 => crcBit (crcBits r k)
def crcByte (r : Nat) (c : UInt8) : Nat := crcBits (r ^^^ c.toNat) 8
def crcOf (l : List UInt8) : Nat := l.foldl crcByte 4294967295
def crc (l : List UInt8) : Nat := 4294967295 - crcOf l
theorem cast_mulmod (a p M : Nat) : ((a * p % M : Nat) : Int) = (a : Int) * p % M := by push_cast; rfl
def gf (r : Nat) (l : List Nat) : Nat := l.foldl (fun r c => crcBits (r ^^^ c) 8) r
def unitAt (n i d : Nat) : List Nat := (List.replicate n 0).set i d
def chg (l : List UInt8) (i : Nat) (d : UInt8) : List UInt8 := l.set i (l.getD i 0 ^^^ d)
end Go.Proofs.YtbbcokckealagaaGreat
namespace Go.Proofs.YtbbcokckealagaaGreat
set_option linter.unusedVariables false
set_option linter.unusedSimpArgs false
open Go.RowKit
section
variable {P : Program} {o : Oper} {ρ : Operand → AV}
end
section
variable {P : Program} {n : Nat} {ops : List Oper} {chk : List FP → Bool} {K : State → Prop} {rest : List Oper} {o : Oper} {fr : Fr} {σ : List Res} {acc : List FP}
end
end Go.Proofs.YtbbcokckealagaaGreat
namespace Go.Proofs.YtbbcokckealagaaGreat
set_option linter.unusedVariables false
set_option linter.unusedSimpArgs false
open Go.RowKit
theorem OpS.makeBC {t e : TypeId} {o : Oper} {P : Program} {ρ : Operand → AV} {x y : Operand} {kl kc : IntKind} {q m k : Nat} {a c : Int} {z : Value} {sz bytes : Nat} [Und P t (.slice e)] [TyI P e z sz bytes] (ho : o.op = .makeSlice t x y) (hx : ρ x = .v (.int kl a)) (hy : ρ y = .v (.int kc c)) (ha : a = (q : Int)) (hc : c = (m : Int)) (hqm : q ≤ m)
    (hz : z.cells.toList.all (·.oneCell') = true) (hzs : z.cells.size = sz) (hb : m * bytes ≤ 140737488355328) (h63 : m ≤ maxLen) :
    OpS P o ρ [] (.bsl k sz 0 q m) [(k, .box (bxs (List.replicate m (z.cells.toList.map .v))))] := by
  intro I M w ac σ K Q hop hs _ hk hK
  obtain ⟨hk1, hk2⟩ := (hk k (by simp [keys])).resolve_left (by simp [keys])
  have q1 := (hx ▸ hop x (by simp [ho, Op.operands])).val
  have q2 := (hy ▸ hop y (by simp [ho, Op.operands])).val
  subst ha
  subst hc
  let zero : Array Value := if m * sz = 0 then #[] else z.cells
  let cur : Array Value := (Array.range (m * sz)).map (zero[· % zero.size]!)
  have hget : ∀ (i : Nat) (v : Value), cur[i]? = some v → i < m * sz ∧ z.cells[i % sz]? = some v := by
    intro i v hv
    have hi : i < m * sz := by have := (Array.getElem?_eq_some_iff.1 hv).1; simpa [cur] using this
    have h0 : ¬ m * sz = 0 := by omega
    have hsz : 0 < sz := by
      rcases Nat.eq_zero_or_pos sz with h | h
      · subst h; simp at h0
      · exact h
    have hlt : i % sz < z.cells.size := by rw [hzs]; exact Nat.mod_lt _ hsz
    refine ⟨hi, ?_⟩
    have : cur[i]? = some (z.cells[i % sz]!) := by simp [cur, zero, h0, hi, hzs]
    rw [this] at hv
    rw [← hv]; simp [hlt]
  have hone : ∀ (i : Nat) (v : Value), cur[i]? = some v → v.oneCell' = true := by
    intro i v hv
    obtain ⟨_, h⟩ := hget i v hv
    exact List.all_eq_true.1 hz v (by simpa using Array.mem_of_getElem? h)
  let cs := bxs (List.replicate m (z.cells.toList.map PV.v))
  have hlen : cs.length = m * sz := by
    have := bx_len (sz := sz) (xs := List.replicate m (z.cells.toList.map PV.v)) (fun ys h => by rw [(List.mem_replicate.1 h).2]; simp [hzs])
    simpa [cs] using this
  have hRp : Rp I M w (.agg cur) (.agg cs) := by
    refine .agg (by simp [cur, hlen]) hone fun i v c hv hc' => ?_
    obtain ⟨hi, h⟩ := hget i v hv
    simp only [cs, zbx_get, List.length_map, Array.length_toList, hzs] at hc'
    rw [if_pos hi, List.getElem?_map, Array.getElem?_toList, h] at hc'
    obtain rfl : AV.v v = c := by simpa [PV.av] using hc'
    exact .v _
  obtain ⟨r1, r2, r3, r4⟩ := newVar_ok (t := e) hs hRp O k hk1 hk2
  obtain ⟨i, hi, hz', hs', hby, hti, hzv, hsz⟩ := run_typeInfo (P := P) (t := e) w
  have hm : (m : Int) ≤ 9223372036854775807 := by simp only [maxLen] at h63; omega
  have hw : IntKind.i64.wrap (m : Int) = m := IntWalk.i64_in _ (by omega)
  have hwq : IntKind.i64.wrap (q : Int) = q := IntWalk.i64_in _ (by omega)
  have hbm : bytes * (m : Int) ≤ 2 ^ 47 := by
    have : m * bytes = bytes * m := Nat.mul_comm _ _
    rw [this] at hb
    exact_mod_cast hb
  have hrun : (execOp ac.eval o).run P w = .ok (.value (.slice (some ⟨w.heap.size, 0, none⟩) q m)) (w.alloc (.cells cur e)) := by
    have n1 : ¬ (281474976710656 < (bytes : Int) * (m : Int)) := by omega
    have n3 : ¬ ((m : Int) < 0) := by omega
    have n4 : ¬ ((q : Int) < 0) := by omega
    have n5 : ¬ ((m : Int) < (q : Int)) := by omega
    have n6 : ¬ (m < q) := by omega
    have n2 : ¬ (140737488355328 < m * bytes) := by omega
    simp only [execOp, ho, q1, q2, Instr.makeSlice]
    by_cases h0 : m * sz = 0
    · simp [run_und, asInt, asIntOf, hti, hi, hw, hwq, hby, n1, n3, n4, n5, n6, hsz, h0, newRow, askRoom, roomBytes, n2, cur, zero]
    · simp [run_und, asInt, asIntOf, hti, hi, hw, hwq, hby, n1, n3, n4, n5, n6, hsz, h0, hzv, newRow, askRoom, roomBytes, n2, cur, zero]
  unfold Oper.wp
  rw [hrun]
  have hI : (if k = k then CI.box w.heap.size else I k) = .box w.heap.size := by simp
  refine hK _ _ M _ (.bsl (b := w.heap.size) (lo := 0) (C := m) (by simp) (by omega) (fun _ => by simp)) r2 (r3.wide fun _ _ h => h.elim) (fun i hi => r4 i (by simpa [keys] using hi)) fun i hi b hb => ?_
  obtain rfl : i = k := by simpa [keys] using hi
  simp only [updS, if_true, blkOf] at hb
  injection hb with hb
  exact .inl (by omega)
theorem Run.mkBC {P : Program} {n : Nat} {ops : List Oper} {chk : List (List Nat × List Nat) → Bool} {K : State → Prop} {rest : List Oper} {o : Oper} {fr : Fr} {σ : List Res} {acc : List (List Nat × List Nat)} {d t e k q m sz bytes : Nat} {x y : Operand} {kl kc : IntKind} {a c : Int} {z : Value} {σ' : List Res} [Und P t (.slice e)] [TyI P e z sz bytes] (ho : o.dst = some d) (hop : o.op = .makeSlice t x y) (hw : wantA ops fr o = some true) (hd : Nat.blt d n = true)
    (hx : evA fr x = .v (.int kl a)) (hy : evA fr y = .v (.int kc c)) (hr : Run P n ops chk K rest ⟨(d, .bsl k sz 0 q m) :: fr, σ'⟩ (acc ++ [([], [k])])) (ha : a = (q : Int) := by (first|assumption|rfl|exact nat_of (by omega))) (hc : c = (m : Int) := by (first|assumption|rfl|exact nat_of (by omega))) (hqm : q ≤ m := by (first|exact Nat.zero_le _|omega)) (he : Ends σ k := by ((repeat constructor);first|done|fail))
    (hz : z.cells.toList.all (·.oneCell') = true := by rfl) (hzs : z.cells.size = sz := by rfl) (hb : m * bytes ≤ 140737488355328 := by (first|omega|(simp [maxLen];omega))) (h63 : m ≤ maxLen := by (simp only [maxLen];omega))
    (hσ : PutAt σ k (.box (bxs (List.replicate m (z.cells.toList.map .v)))) σ' := by ((repeat constructor); first | done | fail)) : Run P n ops chk K (o :: rest) ⟨fr, σ⟩ acc :=
  .op (ins := []) (outs := [(k, .box (bxs (List.replicate m (z.cells.toList.map .v))))]) (v := .bsl k sz 0 q m) hw (by rw [ho]; exact hd) (OpS.makeBC hop hx hy ha hc hqm hz hzs hb h63) (fun _ h => by cases h) (okU_one hσ).1 (fun k' hk => by
    obtain rfl : k' = k := by simpa [keys] using hk
    exact .inr (Nat.le_of_eq he.spec.symm)) (by rw [ho, (okU_one hσ).2]; exact hr)
end Go.Proofs.YtbbcokckealagaaGreat
namespace Go.Proofs.YtbbcokckealagaaGreat
set_option linter.unusedVariables false
set_option linter.unusedSimpArgs false
abbrev bsl (l : List UInt8) (f : Bool) : AV := .sl 1 (bsP l) f
theorem bs_snoc (l : List UInt8) (n j : Nat) : bsP (l ++ le n (j + 1)) = bsP (l ++ le n j) ++ [[PV.v (.int .u8 ((n / 256 ^ j % 256 : Nat) : Int))]] := by
  rw [le_snoc, ← List.append_assoc]
  simp
theorem bs_snoc' (l : List UInt8) (n j : Nat) (x : Int) (h : x = ((n / 256 ^ j % 256 : Nat) : Int)) : bsP (l ++ le n j) ++ [[PV.v (.int .u8 x)]] = bsP (l ++ le n (j + 1)) := by rw [h, bs_snoc]
set_option maxHeartbeats 4000000 in
theorem put16_c (l : List UInt8) (f : Bool) (n : Nat) (hn : n < 65536) (hl : l.length ≤ 1000000000) : ACalls Tryz.prog 118 [bsl l f, .v (.int .u16 (n : Int)), .v (.int .i64 2)] [] (bsl (l ++ le n 2) false) [] := by
  have hll : (bsP l).length = l.length := by simp
  refine (ACalls.of (fn := Tryz.f118) Tryz.func118 O O Tryz.ntmps118 (fun I M w own => ?_))
  (repeat' (first|refine AW.seq_k (fun K hK=>?_)|(refine hK _ ?_;clear hK)|refine AW.rI [0, 1] O ?_|refine Run.apB (sz := 1) O O O O (Or.inl ⟨_, rfl⟩) O O O (SrcNI.dat Dat.sl) (by simp;rfl) (by simp) (mm := l.length) (by simp) (by omega) O (by omega) (by simp [maxLen];omega) (by (repeat constructor);first|done|fail) O ?_|refine Um ?_|fail))
  refine AW.freezeW 0 1 (bsP l) (List.replicate 2 [PV.v (.int .u8 0)]) ((bsP l).length + 2) O (by simp; rfl) (by simp; intro y hy; rcases hy with ⟨_, _, rfl⟩ | rfl <;> rfl) (by simp) (by omega) ?_
  (repeat' (first|(refine hK _ ?_;clear hK)|refine AW.block ?_|refine rG 2 ?_|refine UA ?_|fail))
  refine AW.loopF (X := Nat) (fun x => ⟨[(1, .v (.int .u16 ((n / 256 ^ x : Nat) : Int))), (7, .row 0 (bsP (l ++ le n x)).length), (15, .v (.int .i64 2)), (16, .v (.int .i64 (x : Int)))], [.row 1 (bsP (l ++ le n x))]⟩)
    (fun x => x ≤ 2) (fun x => 2 - x) 0 ?_ ?_ ?_
  · refine Conv.mk [1] O O O ?_ O ?_
    (repeat' (first|exact V0|refine V3 ?_|refine V2 ?_ ?_|fail))
    (all_goals (try (first|refine CvL.eq ?_|refine Cv.eq ?_)))
    all_goals simp [AV.ren, renL, le]
  · simp
  · intro j hj
    have hjl : (bsP (l ++ le n j)).length = l.length + j := by simp [le_length]
    have hjl2 : (le n j).length = j := le_length n j
    rcases Nat.lt_or_ge j 2 with h | h
    · have hb : n / 256 ^ j < 65536 := Nat.lt_of_le_of_lt (Nat.div_le_self _ _) hn
      have hd : n / 256 ^ j / 256 = n / 256 ^ (j + 1) := by rw [Nat.pow_succ, Nat.div_div_eq_div_mul]
      have hs := bs_snoc' l n j
      generalize n / 256 ^ j = q at hb hd hs
      have hw := hs (IntKind.u8.wrap (q : Int)) (by rw [IntKind.wrap_u8]; omega)
      have hd' : (q : Int) / 256 = ((n / 256 ^ (j + 1) : Nat) : Int) := by rw [← hd]; rfl
      (repeat' (first|refine AW.seq_k (fun K hK=>?_)|(refine hK _ ?_;clear hK)|refine AW.uC (fun hc=>?_) (fun hc=>?_)|refine AW.block ?_|refine AW.skip ?_|exact trivial|refine AW.rI [3, 4, 5, 6] O ?_|refine UA ?_|fail))
      ((repeat (with_reducible refine inB_n ?_)); refine thenA_n ?_)
      refine ⟨j + 1, h, by omega, ?_⟩
      refine Conv.mk [0] O O O ?_ O ?_
      (repeat' (first|exact V0|refine V3 ?_|refine V2 ?_ ?_|fail))
      (all_goals (try (first|refine CvL.eq ?_|refine Cv.eq ?_)))
      all_goals (simp only [AV.ren, renL, hw, hd']; first | done | rfl | (rw [IntWalk.i64_in _ (by omega)]; first | done | rfl))
    · obtain rfl : j = 2 := by omega
      (repeat' (first|refine AW.seq_k (fun K hK=>?_)|(refine hK _ ?_;clear hK)|refine AW.uC (fun hc=>?_) (fun hc=>?_)|refine AW.exit ?_|refine AW.ret ?_|(clear hK;refine hK _ ?_;clear hK)|exact trivial|refine AW.rI [3, 7] O ?_|refine UA ?_|fail))
      ((first|refine RetOk.tup O O ?_|refine RetOk.one O ?_)<;>(repeat' (first|exact V0|refine V1 ?_|refine V2 ?_ ?_|fail)))
set_option maxHeartbeats 4000000 in
theorem put64_c (l : List UInt8) (f : Bool) (n : Nat) (hn : n < 18446744073709551616) (hl : l.length ≤ 1000000000) : ACalls Tryz.prog 119 [bsl l f, .v (.int .u64 (n : Int)), .v (.int .i64 8)] [] (bsl (l ++ le n 8) false) [] := by
  have hll : (bsP l).length = l.length := by simp
  refine (ACalls.of (fn := Tryz.f119) Tryz.func119 O O Tryz.ntmps119 (fun I M w own => ?_))
  (repeat' (first|refine AW.seq_k (fun K hK=>?_)|(refine hK _ ?_;clear hK)|refine AW.rI [0, 1] O ?_|refine Run.apB (sz := 1) O O O O (Or.inl ⟨_, rfl⟩) O O O (SrcNI.dat Dat.sl) (by simp;rfl) (by simp) (mm := l.length) (by simp) (by omega) O (by omega) (by simp [maxLen];omega) (by (repeat constructor);first|done|fail) O ?_|refine Um ?_|fail))
  refine AW.freezeW 0 1 (bsP l) (List.replicate 8 [PV.v (.int .u8 0)]) ((bsP l).length + 8) O (by simp; rfl) (by simp; intro y hy; rcases hy with ⟨_, _, rfl⟩ | rfl <;> rfl) (by simp) (by omega) ?_
  (repeat' (first|(refine hK _ ?_;clear hK)|refine AW.block ?_|refine rG 2 ?_|refine UA ?_|fail))
  refine AW.loopF (X := Nat) (fun x => ⟨[(1, .v (.int .u64 ((n / 256 ^ x : Nat) : Int))), (7, .row 0 (bsP (l ++ le n x)).length), (15, .v (.int .i64 8)), (16, .v (.int .i64 (x : Int)))], [.row 1 (bsP (l ++ le n x))]⟩)
    (fun x => x ≤ 8) (fun x => 8 - x) 0 ?_ ?_ ?_
  · refine Conv.mk [1] O O O ?_ O ?_
    (repeat' (first|exact V0|refine V3 ?_|refine V2 ?_ ?_|fail))
    (all_goals (try (first|refine CvL.eq ?_|refine Cv.eq ?_)))
    all_goals simp [AV.ren, renL, le]
  · simp
  · intro j hj
    have hjl : (bsP (l ++ le n j)).length = l.length + j := by simp [le_length]
    have hjl2 : (le n j).length = j := le_length n j
    rcases Nat.lt_or_ge j 8 with h | h
    · have hb : n / 256 ^ j < 18446744073709551616 := Nat.lt_of_le_of_lt (Nat.div_le_self _ _) hn
      have hd : n / 256 ^ j / 256 = n / 256 ^ (j + 1) := by rw [Nat.pow_succ, Nat.div_div_eq_div_mul]
      have hs := bs_snoc' l n j
      generalize n / 256 ^ j = q at hb hd hs
      have hw := hs (IntKind.u8.wrap (q : Int)) (by rw [IntKind.wrap_u8]; omega)
      have hd' : (q : Int) / 256 = ((n / 256 ^ (j + 1) : Nat) : Int) := by rw [← hd]; rfl
      (repeat' (first|refine AW.seq_k (fun K hK=>?_)|(refine hK _ ?_;clear hK)|refine AW.uC (fun hc=>?_) (fun hc=>?_)|refine AW.block ?_|refine AW.skip ?_|exact trivial|refine AW.rI [3, 4, 5, 6] O ?_|refine UA ?_|fail))
      ((repeat (with_reducible refine inB_n ?_)); refine thenA_n ?_)
      refine ⟨j + 1, h, by omega, ?_⟩
      refine Conv.mk [0] O O O ?_ O ?_
      (repeat' (first|exact V0|refine V3 ?_|refine V2 ?_ ?_|fail))
      (all_goals (try (first|refine CvL.eq ?_|refine Cv.eq ?_)))
      all_goals (simp only [AV.ren, renL, hw, hd']; first | done | rfl | (rw [IntWalk.i64_in _ (by omega)]; first | done | rfl))
    · obtain rfl : j = 8 := by omega
      (repeat' (first|refine AW.seq_k (fun K hK=>?_)|(refine hK _ ?_;clear hK)|refine AW.uC (fun hc=>?_) (fun hc=>?_)|refine AW.exit ?_|refine AW.ret ?_|(clear hK;refine hK _ ?_;clear hK)|exact trivial|refine AW.rI [3, 7] O ?_|refine UA ?_|fail))
      ((first|refine RetOk.tup O O ?_|refine RetOk.one O ?_)<;>(repeat' (first|exact V0|refine V1 ?_|refine V2 ?_ ?_|fail)))
theorem orx16 (r k : Nat) (c : UInt8) (hr : r < 256 ^ k) (hk : k < 2) : bits .or .u16 (r : Int) (IntKind.u16.wrap ((c.toNat : Int) * 2 ^ (8 * (k : Int)).toNat)) = ((r + c.toNat * 256 ^ k : Nat) : Int) := by
  have hc := c.toNat_lt
  have hO := or16 r k c hr hk
  rw [IntWalk.u16_in (c.toNat : Int) (by omega)] at hO
  rw [show (8 * (k : Int)).toNat = 8 * k by omega, hO]
theorem orx64 (r k : Nat) (c : UInt8) (hr : r < 256 ^ k) (hk : k < 8) : bits .or .u64 (r : Int) (IntKind.u64.wrap ((c.toNat : Int) * 2 ^ (8 * (k : Int)).toNat)) = ((r + c.toNat * 256 ^ k : Nat) : Int) := by
  have hc := c.toNat_lt
  have hO := or64 r k c hr hk
  rw [byte_u64] at hO
  rw [show (8 * (k : Int)).toNat = 8 * k by omega, hO]
set_option maxHeartbeats 4000000 in
theorem get16_c (l : List UInt8) (f : Bool) (a : Int) (ha : -9223372036854775808 ≤ a ∧ a ≤ 9223372036854775807) (hl : l.length ≤ 1000000000) : ACalls Tryz.prog 155 [bsl l f, .v (.int .i64 a), .v (.int .i64 2)] [] (.tup [.v (.int .u16 ((getM l a 2).1 : Int)), .v (.int .i64 (getM l a 2).2.1), .v (.int .i64 (getM l a 2).2.2)]) [] := by
  have hll : (bsP l).length = l.length := by simp
  by_cases h1 : a < 0 ∨ (l.length : Int) < a
  · rw [getM_out l a _ h1]
    refine (ACalls.of (fn := Tryz.f155) Tryz.func155 O O Tryz.ntmps155 (fun I M w own => ?_))
    (repeat' (first|refine AW.seq_k (fun K hK=>?_)|(refine hK _ ?_;clear hK)|refine AW.uC (fun hc=>?_) (fun hc=>?_)|refine AW.block ?_|refine AW.ret ?_|exact trivial|refine AW.rI [0, 1, 2, 3] O ?_|refine UA ?_|fail))
    all_goals ((first|refine RetOk.tup O O ?_|refine RetOk.one O ?_)<;>(repeat' (first|exact V0|refine V1 ?_|refine V2 ?_ ?_|fail)))
  · obtain ⟨q, rfl⟩ : ∃ q : Nat, a = (q : Int) := ⟨a.toNat, by omega⟩
    by_cases h2 : l.length < q + 2
    · rw [getM_short l q _ (by omega) h2]
      refine (ACalls.of (fn := Tryz.f155) Tryz.func155 O O Tryz.ntmps155 (fun I M w own => ?_))
      (repeat' (first|refine AW.seq_k (fun K hK=>?_)|(refine hK _ ?_;clear hK)|refine AW.uC (fun hc=>?_) (fun hc=>?_)|refine AW.block ?_|refine AW.ret ?_|exact trivial|refine AW.rI [0, 1, 2, 4, 5] O ?_|refine UA ?_|fail))
      all_goals ((first|refine RetOk.tup O O ?_|refine RetOk.one O ?_)<;>(repeat' (first|exact V0|refine V1 ?_|refine V2 ?_ ?_|fail)))
    · rw [getM_in l q _ (by omega)]
      refine (ACalls.of (fn := Tryz.f155) Tryz.func155 O O Tryz.ntmps155 (fun I M w own => ?_))
      (repeat' (first|refine AW.seq_k (fun K hK=>?_)|(refine hK _ ?_;clear hK)|refine AW.uC (fun hc=>?_) (fun hc=>?_)|refine AW.block ?_|refine AW.skip ?_|exact trivial|refine AW.rI [0, 1, 2, 4, 6] O ?_|refine UA ?_|fail))
      refine AW.loopF (X := Nat) (fun x => ⟨[(0, bsl l f), (1, .v (.int .i64 (q : Int))), (2, .v (.int .i64 2)), (9, .v (.int .u16 (unle (seg l q x) : Int))), (27, .v (.int .i64 2)), (28, .v (.int .i64 (x : Int)))], []⟩)
        (fun x => x ≤ 2) (fun x => 2 - x) 0 ?_ ?_ ?_
      · refine Conv.mk [] O O O ?_ O ?_
        (repeat' (first|exact V0|refine V3 ?_|refine V2 ?_ ?_|fail))
        (all_goals (try (first|refine CvL.eq ?_|refine Cv.eq ?_)))
        all_goals simp [AV.ren, seg, unle]
      · simp
      · intro j hj
        rcases Nat.lt_or_ge j 2 with h | h
        · have hjl : q + j < l.length := by omega
          have hA : At (bsP l) ((q : Int) + (j : Int)) [PV.v (.int .u8 (l[q + j].toNat : Int))] := At.mk (q + j) (by omega) (by simp [hjl])
          have hss : unle (seg l q (j + 1)) = unle (seg l q j) + l[q + j].toNat * 256 ^ j := by rw [seg_snoc l q j hjl, unle_snoc, seg_length l q j (by omega)]
          have hr := unle_lt (seg l q j)
          rw [seg_length l q j (by omega)] at hr
          have hO := orx16 (unle (seg l q j)) j l[q + j] hr h
          generalize l[q + j] = c at hA hss hO
          have hcb := c.toNat_lt
          generalize unle (seg l q j) = r at hss hO hr
          (repeat' (first|refine AW.seq_k (fun K hK=>?_)|(refine hK _ ?_;clear hK)|refine AW.uC (fun hc=>?_) (fun hc=>?_)|refine AW.block ?_|refine AW.skip ?_|exact trivial|refine AW.rI [7, 8, 9, 10] O ?_|refine UA ?_|fail))
          ((repeat (with_reducible refine inB_n ?_)); refine thenA_n ?_)
          refine ⟨j + 1, h, by omega, ?_⟩
          refine Conv.mk [] O O O ?_ O ?_
          (repeat' (first|exact V0|refine V3 ?_|refine V2 ?_ ?_|fail))
          (all_goals (try (first|refine CvL.eq ?_|refine Cv.eq ?_)))
          all_goals (simp only [AV.ren, renL, hO, hss]; first | done | rfl)
        · obtain rfl : j = 2 := by omega
          (repeat' (first|refine AW.seq_k (fun K hK=>?_)|(refine hK _ ?_;clear hK)|refine AW.uC (fun hc=>?_) (fun hc=>?_)|refine AW.exit ?_|refine AW.ret ?_|(clear hK;refine hK _ ?_;clear hK)|exact trivial|refine AW.rI [7, 11] O ?_|refine UA ?_|fail))
          ((first|refine RetOk.tup O O ?_|refine RetOk.one O ?_)<;>(repeat' (first|exact V0|refine V1 ?_|refine V2 ?_ ?_|fail)))
set_option maxHeartbeats 4000000 in
theorem get64_c (l : List UInt8) (f : Bool) (a : Int) (ha : -9223372036854775808 ≤ a ∧ a ≤ 9223372036854775807) (hl : l.length ≤ 1000000000) : ACalls Tryz.prog 156 [bsl l f, .v (.int .i64 a), .v (.int .i64 8)] [] (.tup [.v (.int .u64 ((getM l a 8).1 : Int)), .v (.int .i64 (getM l a 8).2.1), .v (.int .i64 (getM l a 8).2.2)]) [] := by
  have hll : (bsP l).length = l.length := by simp
  by_cases h1 : a < 0 ∨ (l.length : Int) < a
  · rw [getM_out l a _ h1]
    refine (ACalls.of (fn := Tryz.f156) Tryz.func156 O O Tryz.ntmps156 (fun I M w own => ?_))
    (repeat' (first|refine AW.seq_k (fun K hK=>?_)|(refine hK _ ?_;clear hK)|refine AW.uC (fun hc=>?_) (fun hc=>?_)|refine AW.block ?_|refine AW.ret ?_|exact trivial|refine AW.rI [0, 1, 2, 3] O ?_|refine UA ?_|fail))
    all_goals ((first|refine RetOk.tup O O ?_|refine RetOk.one O ?_)<;>(repeat' (first|exact V0|refine V1 ?_|refine V2 ?_ ?_|fail)))
  · obtain ⟨q, rfl⟩ : ∃ q : Nat, a = (q : Int) := ⟨a.toNat, by omega⟩
    by_cases h2 : l.length < q + 8
    · rw [getM_short l q _ (by omega) h2]
      refine (ACalls.of (fn := Tryz.f156) Tryz.func156 O O Tryz.ntmps156 (fun I M w own => ?_))
      (repeat' (first|refine AW.seq_k (fun K hK=>?_)|(refine hK _ ?_;clear hK)|refine AW.uC (fun hc=>?_) (fun hc=>?_)|refine AW.block ?_|refine AW.ret ?_|exact trivial|refine AW.rI [0, 1, 2, 4, 5] O ?_|refine UA ?_|fail))
      all_goals ((first|refine RetOk.tup O O ?_|refine RetOk.one O ?_)<;>(repeat' (first|exact V0|refine V1 ?_|refine V2 ?_ ?_|fail)))
    · rw [getM_in l q _ (by omega)]
      refine (ACalls.of (fn := Tryz.f156) Tryz.func156 O O Tryz.ntmps156 (fun I M w own => ?_))
      (repeat' (first|refine AW.seq_k (fun K hK=>?_)|(refine hK _ ?_;clear hK)|refine AW.uC (fun hc=>?_) (fun hc=>?_)|refine AW.block ?_|refine AW.skip ?_|exact trivial|refine AW.rI [0, 1, 2, 4, 6] O ?_|refine UA ?_|fail))
      refine AW.loopF (X := Nat) (fun x => ⟨[(0, bsl l f), (1, .v (.int .i64 (q : Int))), (2, .v (.int .i64 8)), (9, .v (.int .u64 (unle (seg l q x) : Int))), (27, .v (.int .i64 8)), (28, .v (.int .i64 (x : Int)))], []⟩)
        (fun x => x ≤ 8) (fun x => 8 - x) 0 ?_ ?_ ?_
      · refine Conv.mk [] O O O ?_ O ?_
        (repeat' (first|exact V0|refine V3 ?_|refine V2 ?_ ?_|fail))
        (all_goals (try (first|refine CvL.eq ?_|refine Cv.eq ?_)))
        all_goals simp [AV.ren, seg, unle]
      · simp
      · intro j hj
        rcases Nat.lt_or_ge j 8 with h | h
        · have hjl : q + j < l.length := by omega
          have hA : At (bsP l) ((q : Int) + (j : Int)) [PV.v (.int .u8 (l[q + j].toNat : Int))] := At.mk (q + j) (by omega) (by simp [hjl])
          have hss : unle (seg l q (j + 1)) = unle (seg l q j) + l[q + j].toNat * 256 ^ j := by rw [seg_snoc l q j hjl, unle_snoc, seg_length l q j (by omega)]
          have hr := unle_lt (seg l q j)
          rw [seg_length l q j (by omega)] at hr
          have hO := orx64 (unle (seg l q j)) j l[q + j] hr h
          generalize l[q + j] = c at hA hss hO
          have hcb := c.toNat_lt
          generalize unle (seg l q j) = r at hss hO hr
          (repeat' (first|refine AW.seq_k (fun K hK=>?_)|(refine hK _ ?_;clear hK)|refine AW.uC (fun hc=>?_) (fun hc=>?_)|refine AW.block ?_|refine AW.skip ?_|exact trivial|refine AW.rI [7, 8, 9, 10] O ?_|refine UA ?_|fail))
          ((repeat (with_reducible refine inB_n ?_)); refine thenA_n ?_)
          refine ⟨j + 1, h, by omega, ?_⟩
          refine Conv.mk [] O O O ?_ O ?_
          (repeat' (first|exact V0|refine V3 ?_|refine V2 ?_ ?_|fail))
          (all_goals (try (first|refine CvL.eq ?_|refine Cv.eq ?_)))
          all_goals (simp only [AV.ren, renL, hO, hss]; first | done | rfl)
        · obtain rfl : j = 8 := by omega
          (repeat' (first|refine AW.seq_k (fun K hK=>?_)|(refine hK _ ?_;clear hK)|refine AW.uC (fun hc=>?_) (fun hc=>?_)|refine AW.exit ?_|refine AW.ret ?_|(clear hK;refine hK _ ?_;clear hK)|exact trivial|refine AW.rI [7, 11] O ?_|refine UA ?_|fail))
          ((first|refine RetOk.tup O O ?_|refine RetOk.one O ?_)<;>(repeat' (first|exact V0|refine V1 ?_|refine V2 ?_ ?_|fail)))
end Go.Proofs.YtbbcokckealagaaGreat
namespace Go.Proofs.YtbbcokckealagaaGreat
set_option linter.unusedVariables false
set_option linter.unusedSimpArgs false
set_option maxHeartbeats 4000000 in
theorem Put16_c (l : List UInt8) (f : Bool) (n : Nat) (hn : n < 65536) (hl : l.length ≤ 1000000000) : ACalls Tryz.prog 84 [bsl l f, .v (.int .u16 (n : Int))] [] (bsl (l ++ le n 2) false) [] := by
  have q := put16_c l f n hn hl
  refine (ACalls.of (fn := Tryz.f84) Tryz.func84 O O Tryz.ntmps84 (fun I M w own => ?_))
  (repeat' (first|refine AW.seq_k (fun K hK=>?_)|(refine hK _ ?_;clear hK)|refine AW.ret ?_|refine AW.region ?_|refine Run.c0 q O O O O O O O O ?_|refine UA ?_|fail))
  ((first|refine RetOk.tup O O ?_|refine RetOk.one O ?_)<;>(repeat' (first|exact V0|refine V1 ?_|refine V2 ?_ ?_|fail)))
set_option maxHeartbeats 4000000 in
theorem Get16_c (l : List UInt8) (f : Bool) (a : Int) (ha : -9223372036854775808 ≤ a ∧ a ≤ 9223372036854775807) (hl : l.length ≤ 1000000000) : ACalls Tryz.prog 135 [bsl l f, .v (.int .i64 a)] [] (.tup [.v (.int .u16 ((getM l a 2).1 : Int)), .v (.int .i64 (getM l a 2).2.1), .v (.int .i64 (getM l a 2).2.2)]) [] := by
  have q := get16_c l f a ha hl
  refine (ACalls.of (fn := Tryz.f135) Tryz.func135 O O Tryz.ntmps135 (fun I M w own => ?_))
  (repeat' (first|refine AW.seq_k (fun K hK=>?_)|(refine hK _ ?_;clear hK)|refine AW.ret ?_|refine AW.region ?_|refine Run.c0 q O O O O O O O O ?_|refine UA ?_|fail))
  ((first|refine RetOk.tup O O ?_|refine RetOk.one O ?_)<;>(repeat' (first|exact V0|refine V1 ?_|refine V2 ?_ ?_|fail)))
set_option maxHeartbeats 4000000 in
theorem Put64_c (l : List UInt8) (f : Bool) (n : Nat) (hn : n < 18446744073709551616) (hl : l.length ≤ 1000000000) : ACalls Tryz.prog 86 [bsl l f, .v (.int .u64 (n : Int))] [] (bsl (l ++ le n 8) false) [] := by
  have q := put64_c l f n hn hl
  refine (ACalls.of (fn := Tryz.f86) Tryz.func86 O O Tryz.ntmps86 (fun I M w own => ?_))
  (repeat' (first|refine AW.seq_k (fun K hK=>?_)|(refine hK _ ?_;clear hK)|refine AW.ret ?_|refine AW.region ?_|refine Run.c0 q O O O O O O O O ?_|refine UA ?_|fail))
  ((first|refine RetOk.tup O O ?_|refine RetOk.one O ?_)<;>(repeat' (first|exact V0|refine V1 ?_|refine V2 ?_ ?_|fail)))
set_option maxHeartbeats 4000000 in
theorem Get64_c (l : List UInt8) (f : Bool) (a : Int) (ha : -9223372036854775808 ≤ a ∧ a ≤ 9223372036854775807) (hl : l.length ≤ 1000000000) : ACalls Tryz.prog 137 [bsl l f, .v (.int .i64 a)] [] (.tup [.v (.int .u64 ((getM l a 8).1 : Int)), .v (.int .i64 (getM l a 8).2.1), .v (.int .i64 (getM l a 8).2.2)]) [] := by
  have q := get64_c l f a ha hl
  refine (ACalls.of (fn := Tryz.f137) Tryz.func137 O O Tryz.ntmps137 (fun I M w own => ?_))
  (repeat' (first|refine AW.seq_k (fun K hK=>?_)|(refine hK _ ?_;clear hK)|refine AW.ret ?_|refine AW.region ?_|refine Run.c0 q O O O O O O O O ?_|refine UA ?_|fail))
  ((first|refine RetOk.tup O O ?_|refine RetOk.one O ?_)<;>(repeat' (first|exact V0|refine V1 ?_|refine V2 ?_ ?_|fail)))
set_option maxHeartbeats 4000000 in
theorem PutText_c (l : List UInt8) (f : Bool) (s : List UInt8) (hs : s.length ≤ 64) (hl : l.length ≤ 1000000000) : ACalls Tryz.prog 87 [bsl l f, .v (.string (bs s))] [] (.tup [bsl (putT l s) false, .v (.int .i64 0)]) [] := by
  have hll : (bsP l).length = l.length := by simp
  refine (ACalls.of (fn := Tryz.f87) Tryz.func87 O O Tryz.ntmps87 (fun I M w own => ?_))
  (repeat' (first|refine AW.seq_k (fun K hK=>?_)|(refine hK _ ?_;clear hK)|refine AW.uC (fun hc=>?_) (fun hc=>?_)|refine AW.skip ?_|exact trivial|refine AW.rI [0, 1, 3] O ?_|refine Run.apB (sz := 1) O O O O (Or.inl ⟨_, rfl⟩) O O O (SrcNI.dat Dat.sl) (by simp;rfl) (by simp) (mm := l.length) (by simp) (by omega) O (by omega) (by simp [maxLen];omega) (by (repeat constructor);first|done|fail) O ?_|refine Um ?_|fail))
  refine AW.freezeW 0 1 (bsP l) (List.replicate (1 + s.length) [PV.v (.int .u8 0)]) ((bsP l).length + 1 + s.length) O (by simp; exact ⟨by omega, Or.inr O⟩) (by simp; intro y hy; rcases hy with ⟨_, _, rfl⟩ | ⟨_, rfl⟩ <;> rfl) (by simp; omega) (by omega) ?_
  (repeat' (first|(refine hK _ ?_;clear hK)|refine AW.ret ?_|refine rG 4 ?_|refine UA ?_|fail))
  ((first|refine RetOk.tup O O ?_|refine RetOk.one O ?_)<;>(repeat' (first|exact V0|refine V1 ?_|refine V2 ?_ ?_|fail)))
  (all_goals (try (first|refine CvL.eq ?_|refine Cv.eq ?_)))
  all_goals (simp [putT]; try omega)
set_option maxHeartbeats 4000000 in
theorem GetText_c (l : List UInt8) (f : Bool) (a : Int) (ha : -9223372036854775808 ≤ a ∧ a ≤ 9223372036854775807) (hl : l.length ≤ 1000000000) : ACalls Tryz.prog 106 [bsl l f, .v (.int .i64 a)] [] (.tup [.v (.string (bs (textM l a).1)), .v (.int .i64 (textM l a).2.1), .v (.int .i64 (textM l a).2.2)]) [] := by
  have hll : (bsP l).length = l.length := by simp
  by_cases h1 : a < 0 ∨ (l.length : Int) < a
  · rw [textM_out l a h1]
    refine (ACalls.of (fn := Tryz.f106) Tryz.func106 O O Tryz.ntmps106 (fun I M w own => ?_))
    (repeat' (first|refine AW.seq_k (fun K hK=>?_)|(refine hK _ ?_;clear hK)|refine AW.uC (fun hc=>?_) (fun hc=>?_)|refine AW.ret ?_|exact trivial|refine AW.rI [0, 1, 2] O ?_|refine UA ?_|fail))
    all_goals ((first|refine RetOk.tup O O ?_|refine RetOk.one O ?_)<;>(repeat' (first|exact V0|refine V1 ?_|refine V2 ?_ ?_|fail)))
  · obtain ⟨q, rfl⟩ : ∃ q : Nat, a = (q : Int) := ⟨a.toNat, by omega⟩
    rcases Nat.lt_or_ge q l.length with h2 | h2
    · have hA : At (bsP l) (q : Int) [PV.v (.int .u8 (l[q].toNat : Int))] := At.mk q O (by simp [h2])
      rw [textM_at l q h2]
      generalize l[q] = c at hA
      have hcb := c.toNat_lt
      by_cases h3 : 64 < c.toNat
      · rw [if_pos h3]
        refine (ACalls.of (fn := Tryz.f106) Tryz.func106 O O Tryz.ntmps106 (fun I M w own => ?_))
        (repeat' (first|refine AW.seq_k (fun K hK=>?_)|(refine hK _ ?_;clear hK)|refine AW.uC (fun hc=>?_) (fun hc=>?_)|refine AW.ret ?_|refine AW.skip ?_|exact trivial|refine AW.rI [0, 1, 3, 5, 6, 7] O ?_|refine UA ?_|fail))
        all_goals ((first|refine RetOk.tup O O ?_|refine RetOk.one O ?_)<;>(repeat' (first|exact V0|refine V1 ?_|refine V2 ?_ ?_|fail)))
      · rw [if_neg h3]
        by_cases h4 : (l.length : Int) - q - 1 < c.toNat
        · rw [if_pos h4]
          refine (ACalls.of (fn := Tryz.f106) Tryz.func106 O O Tryz.ntmps106 (fun I M w own => ?_))
          (repeat' (first|refine AW.seq_k (fun K hK=>?_)|(refine hK _ ?_;clear hK)|refine AW.uC (fun hc=>?_) (fun hc=>?_)|refine AW.ret ?_|refine AW.skip ?_|exact trivial|refine AW.rI [0, 1, 3, 5, 6, 8, 9] O ?_|refine UA ?_|fail))
          all_goals ((first|refine RetOk.tup O O ?_|refine RetOk.one O ?_)<;>(repeat' (first|exact V0|refine V1 ?_|refine V2 ?_ ?_|fail)))
        · rw [if_neg h4]
          have hB : IsB (List.drop ((q : Int) + 1).toNat (List.take ((q : Int) + 1 + (c.toNat : Int)).toNat (bsP l))) (seg l (q + 1) c.toNat) := by
            rw [show List.drop ((q : Int) + 1).toNat (List.take ((q : Int) + 1 + (c.toNat : Int)).toNat (bsP l)) = bsP (seg l (q + 1) c.toNat) by
              rw [show ((q : Int) + 1).toNat = q + 1 by omega, show ((q : Int) + 1 + (c.toNat : Int)).toNat = (q + 1) + c.toNat by omega, ← List.map_take, ← List.map_drop, List.drop_take, show (q + 1) + c.toNat - (q + 1) = c.toNat by omega]; rfl]
            exact IsB.base
          refine (ACalls.of (fn := Tryz.f106) Tryz.func106 O O Tryz.ntmps106 (fun I M w own => ?_))
          (repeat' (first|refine AW.seq_k (fun K hK=>?_)|(refine hK _ ?_;clear hK)|refine AW.uC (fun hc=>?_) (fun hc=>?_)|refine AW.ret ?_|refine AW.skip ?_|exact trivial|refine AW.rI [0, 1, 3, 5, 6, 8, 10] O ?_|refine UA ?_|fail))
          ((first|refine RetOk.tup O O ?_|refine RetOk.one O ?_)<;>(repeat' (first|exact V0|refine V1 ?_|refine V2 ?_ ?_|fail)))
    · obtain rfl : q = l.length := by omega
      rw [textM_end]
      refine (ACalls.of (fn := Tryz.f106) Tryz.func106 O O Tryz.ntmps106 (fun I M w own => ?_))
      (repeat' (first|refine AW.seq_k (fun K hK=>?_)|(refine hK _ ?_;clear hK)|refine AW.uC (fun hc=>?_) (fun hc=>?_)|refine AW.ret ?_|refine AW.skip ?_|exact trivial|refine AW.rI [0, 1, 3, 4] O ?_|refine UA ?_|fail))
      all_goals ((first|refine RetOk.tup O O ?_|refine RetOk.one O ?_)<;>(repeat' (first|exact V0|refine V1 ?_|refine V2 ?_ ?_|fail)))
end Go.Proofs.YtbbcokckealagaaGreat
namespace Go.Proofs.YtbbcokckealagaaGreat
set_option linter.unusedVariables false
set_option linter.unusedSimpArgs false
open Go.RowKit
variable {P : Program} {n : Nat} {ops : List Oper} {chk : List FP → Bool} {K : State → Prop} {o : Oper} {rest : List Oper} {fr : Fr} {σ : List Res} {acc : List FP}
end Go.Proofs.YtbbcokckealagaaGreat
