/-
  The operations that make and change memory, over values without addresses: variables, stores, new slices, append; and what is told of slices without memory. Nothing of the dump is used; no condition.
-/
import Derived.Test.YtbbcokckealagaaAMem
namespace Go.Proofs.Ytbbcokckealagaa
open Go.RowKit
set_option linter.unusedVariables false
set_option linter.unusedSimpArgs false
section
variable {P : Program} {o : Oper} {ρ : Operand → AV} {σ0 : Nat → Res}
/-- the integer operands of a slice expression: none, or one -/
def OpI (ρ : Operand → AV) : Option Operand → Option Nat → Prop
  | none, none => True
  | some x, some n => ∃ k i, ρ x = .v (.int k i) ∧ i = (n : Int)
  | _, _ => False
theorem OpI.no {ρ : Operand → AV} : OpI ρ none none := trivial
theorem OpI.so {ρ : Operand → AV} {x : Operand} {k : IntKind} {i : Int} {n : Nat} (h : ρ x = .v (.int k i)) (hi : i = (n : Int)) : OpI ρ (some x) (some n) := ⟨k, i, h, hi⟩
theorem run_bound {x : Value} {n y : Nat} (hx : ∃ k, x = .int k (n : Int)) (h : n ≤ y) (code : BoundsCode) (w : World) : (Instr.sliceBound x y code).run P w = .ok n w := by
  obtain ⟨k, rfl⟩ := hx
  simp [Instr.sliceBound, asIntOf, h]
theorem OpR.slice {t e : TypeId} {x : Operand} {lo hi mx : Option Operand} {l h m : Option Nat} {sz bytes : Nat} {z : Value} {xs : List (List PV)} {ins : Upds} [Und P t (.slice e)] [TyI P e z sz bytes]
    (ho : o.op = .slice t x lo hi mx) (hx : Dat σ0 (ρ x) sz xs ins) (hl : OpI ρ lo l) (hh : OpI ρ hi h) (hm : OpI ρ mx m) (hmh : m.isSome = true → h.isSome = true) {L H : Nat} (eL : l.getD 0 = L) (eH : h.getD xs.length = H) (h1 : L ≤ H) (h2 : H ≤ xs.length) (h3 : H ≤ m.getD H) (h4 : m.getD H ≤ xs.length)
    {f : Bool} (hf : f = true → m = some H ∨ m = none ∧ H = xs.length ∧ (match ρ x with | .sl _ _ f => f | _ => false) = true) : OpR P o ρ ins (.sl sz ((xs.take H).drop L) f) := by
  intro I M w a σ hop hs hi'
  have q1 := hop x (by simp [ho, Op.operands])
  obtain ⟨A, c, e1, q2⟩ := hx.rpv hi' hs q1
  obtain ⟨_, _, _, _, _, _, _, hsz⟩ := run_typeInfo (P := P) (t := e) w
  have hc := q2.len.2
  have vl : ∀ (y : Operand) (n : Nat), y ∈ o.op.operands.toList → (∃ k i, ρ y = .v (.int k i) ∧ i = (n : Int)) → ∃ k, a.eval y = .int k (n : Int) := by
    rintro y n hy ⟨k, i, r1, rfl⟩
    have := hop y hy
    rw [r1] at this
    exact ⟨k, this.val⟩
  have key : ∀ m' : Nat, (m = none → m' = c) → (∀ k, m = some k → m' = k) → H ≤ m' ∧ (m' ≤ c) := by
    intro m' n1 n2
    cases m with
    | none => have := n1 rfl; omega
    | some k => have := n2 k rfl; simp at h3 h4; omega
  have run : ∃ m', (m = none → m' = c) ∧ (∀ k, m = some k → m' = k) ∧ (execOp a.eval o).run P w = .ok (.value (.slice (if m' = L then A else A.map (·.add (L * sz))) (H - L) (m' - L))) w := by
    have bl : ∀ code, lo = none ∧ L = 0 ∨ ∃ y, lo = some y ∧ (Instr.sliceBound (a.eval y) H code).run P w = .ok L w := by
      intro code
      cases lo with
      | none => cases l with
        | none => left; exact ⟨rfl, by simpa using eL.symm⟩
        | some k => exact hl.elim
      | some y => cases l with
        | none => exact hl.elim
        | some k =>
          right
          obtain rfl : k = L := by simpa using eL
          exact ⟨y, rfl, run_bound (vl y k (by simp [ho, Op.operands]) hl) h1 code w⟩
    cases mx with
    | none =>
      cases m with
      | some k => exact hm.elim
      | none =>
        refine ⟨c, fun _ => rfl, (fun k hk => by cases hk), ?_⟩
        have bh : ∀ code, hi = none ∧ H = xs.length ∨ ∃ y, hi = some y ∧ (Instr.sliceBound (a.eval y) c code).run P w = .ok H w := by
          intro code
          cases hi with
          | none => cases h with
            | none => left; exact ⟨rfl, by simpa using eH.symm⟩
            | some k => exact hh.elim
          | some y => cases h with
            | none => exact hh.elim
            | some k =>
              right
              obtain rfl : k = H := by simpa using eH
              exact ⟨y, rfl, run_bound (vl y k (by simp [ho, Op.operands]) hh) (by omega) code w⟩
        rcases bh .sliceAcap with ⟨rfl, rH⟩ | ⟨y2, rfl, bh1⟩ <;> rcases bl .sliceB with ⟨rfl, rL⟩ | ⟨y1, rfl, bl1⟩
        · subst rH rL
          simp [execOp, ho, e1, Instr.sliceAt, run_und, Instr.slice, Instr.sliceBounds, hsz]
        · subst rH
          simp [execOp, ho, e1, Instr.sliceAt, run_und, Instr.slice, Instr.sliceBounds, hsz, bl1]
        · subst rL
          simp [execOp, ho, e1, Instr.sliceAt, run_und, Instr.slice, Instr.sliceBounds, hsz, bh1]
        · simp [execOp, ho, e1, Instr.sliceAt, run_und, Instr.slice, Instr.sliceBounds, hsz, bh1, bl1]
    | some y3 =>
      cases m with
      | none => exact hm.elim
      | some k =>
        simp at h3 h4
        refine ⟨k, (fun hk => by cases hk), (fun k' hk => by injection hk), ?_⟩
        have bm := run_bound (P := P) (vl y3 k (by simp [ho, Op.operands]) hm) (show k ≤ c by omega) .slice3Acap w
        cases hi with
        | none => cases h with
          | none => simp at hmh
          | some k => exact hh.elim
        | some y2 => cases h with
          | none => exact hh.elim
          | some k2 =>
            obtain rfl : k2 = H := by simpa using eH
            have bh := run_bound (P := P) (vl y2 k2 (by simp [ho, Op.operands]) hh) (show k2 ≤ k by omega) .slice3B w
            rcases bl .slice3C with ⟨rfl, rL⟩ | ⟨y1, rfl, bl1⟩
            · subst rL
              simp [execOp, ho, e1, Instr.sliceAt, run_und, Instr.slice, Instr.sliceBounds, hsz, bh, bm]
            · simp [execOp, ho, e1, Instr.sliceAt, run_und, Instr.slice, Instr.sliceBounds, hsz, bh, bm, bl1]
  obtain ⟨m', n1, n2, run⟩ := run
  obtain ⟨k1, k2⟩ := key m' n1 n2
  refine ⟨_, run, .sl (q2.part h1 h2 k1) fun hft => ?_⟩
  rcases hf hft with rfl | ⟨rfl, r1, r2⟩
  · have := n2 H rfl; omega
  · have hm' := n1 rfl
    have : c = xs.length := by
      rw [e1] at q1
      split at r2
      · rename_i eq
        rw [eq] at q1
        cases q1 with
        | sl hh hf => exact hf r2
      · cases r2
    omega
theorem OpP.sliceStr {t : TypeId} {x : Operand} {lo hi : Option Operand} {l h : Option Nat} {s r : List UInt8} [Und P t .string] (ho : o.op = .slice t x lo hi none) (hx : ρ x = .v (.string (bs s)))
    (hl : OpI ρ lo l) (hh : OpI ρ hi h) {L H : Nat} (eL : l.getD 0 = L) (eH : h.getD s.length = H) (h1 : L ≤ H) (h2 : H ≤ s.length) (hr : (s.take H).drop L = r) : OpP P o ρ (.v (.string (bs r))) := by
  intro I M w a hop
  have q1 := hop x (by simp [ho, Op.operands])
  rw [hx] at q1
  have e1 := q1.val
  have vl : ∀ (y : Operand) (n : Nat), y ∈ o.op.operands.toList → (∃ k i, ρ y = .v (.int k i) ∧ i = (n : Int)) → ∃ k, a.eval y = .int k (n : Int) := by
    rintro y n hy ⟨k, i, r1, rfl⟩
    have := hop y hy
    rw [r1] at this
    exact ⟨k, this.val⟩
  have ex : (bs s).extract L H = bs r := by
    subst hr
    apply ByteArray.ext
    rw [ByteArray.data_extract]
    apply Array.ext'
    simp [List.extract_eq_take_drop, List.take_drop, Nat.sub_add_cancel h1, Nat.add_sub_cancel' h1]
  refine ⟨_, ?_, .v _⟩
  have bl : ∀ code, lo = none ∧ L = 0 ∨ ∃ y, lo = some y ∧ (Instr.sliceBound (a.eval y) H code).run P w = .ok L w := by
    intro code
    cases lo with
    | none => cases l with
      | none => left; exact ⟨rfl, by simpa using eL.symm⟩
      | some k => exact hl.elim
    | some y => cases l with
      | none => exact hl.elim
      | some k =>
        right
        obtain rfl : k = L := by simpa using eL
        exact ⟨y, rfl, run_bound (vl y k (by simp [ho, Op.operands]) hl) h1 code w⟩
  have hsize := bs_size s
  have bh : ∀ code, hi = none ∧ H = s.length ∨ ∃ y, hi = some y ∧ (Instr.sliceBound (a.eval y) (bs s).size code).run P w = .ok H w := by
    intro code
    cases hi with
    | none => cases h with
      | none => left; exact ⟨rfl, by simpa using eH.symm⟩
      | some k => exact hh.elim
    | some y => cases h with
      | none => exact hh.elim
      | some k =>
        right
        obtain rfl : k = H := by simpa using eH
        exact ⟨y, rfl, run_bound (vl y k (by simp [ho, Op.operands]) hh) (by rw [hsize]; omega) code w⟩
  rcases bh .sliceAlen with ⟨rfl, rH⟩ | ⟨y2, rfl, bh1⟩ <;> rcases bl .sliceB with ⟨rfl, rL⟩ | ⟨y1, rfl, bl1⟩
  · rw [rH, rL, ← hsize] at ex
    have hsr : s = r := by rw [← hr, rH, rL]; simp
    simp [execOp, ho, e1, Instr.sliceAt, run_und, Instr.slice, Instr.sliceBounds, ex, hsr]
  · rw [rH, ← hsize] at bl1 ex
    simp [execOp, ho, e1, Instr.sliceAt, run_und, Instr.slice, Instr.sliceBounds, bl1, ex]
  · rw [rL] at ex
    simp [execOp, ho, e1, Instr.sliceAt, run_und, Instr.slice, Instr.sliceBounds, bh1, ex]
  · simp [execOp, ho, e1, Instr.sliceAt, run_und, Instr.slice, Instr.sliceBounds, bh1, bl1, ex]
theorem OpP.indexStr {t : TypeId} {x y : Operand} {k : IntKind} {i : Int} {s : List UInt8} {c : UInt8} [Und P t .string] (ho : o.op = .index t x y) (hx : ρ x = .v (.string (bs s))) (hy : ρ y = .v (.int k i)) (h0 : 0 ≤ i) (hc : s[i.toNat]? = some c) : OpP P o ρ (.v (.int .u8 (c.toNat : Int))) := by
  intro I M w a h
  have h1 := h x (by simp [ho, Op.operands])
  have h2 := h y (by simp [ho, Op.operands])
  rw [hx] at h1; rw [hy] at h2
  refine ⟨_, ?_, .v _⟩
  obtain ⟨hlt, hce⟩ := List.getElem?_eq_some_iff.1 hc
  have hg : (bs s)[i.toNat]? = some c := by
    have : i.toNat < (bs s).size := by rw [bs_size]; exact hlt
    rw [getElem?_pos (bs s) i.toNat this]
    congr 1
  simp [execOp, ho, h1.val, h2.val, Instr.index, run_und, asIntOf, h0, hg]
theorem OpR.len {x : Operand} {t ty : TypeId} {d : TypeDesc} {sz : Nat} {xs : List (List PV)} {ins : Upds} {e : TypeId} [Und P t (.slice e)] (ho : o.op = .call { callee := .builtin .len, args := #[x], argTypes := #[t] }) (hx : Dat σ0 (ρ x) sz xs ins) {n : Nat} (hn : xs.length = n) : OpR P o ρ ins (.v (.int .i64 n)) := by
  intro I M w a σ hop hs hi
  have q1 := hop x (by simp [ho, Op.operands, Call.operands])
  obtain ⟨A, c, e1, q2⟩ := hx.rpv hi hs q1
  subst hn
  exact ⟨_, by simp [execOp, ho, resolve, invoke, builtin, e1, Builtin.len_, run_und, goInt], .v _⟩
theorem OpP.lenRow {x : Operand} {t : TypeId} {e : TypeId} {k n : Nat} [Und P t (.slice e)] (ho : o.op = .call { callee := .builtin .len, args := #[x], argTypes := #[t] }) (hx : ρ x = .row k n) : OpP P o ρ (.v (.int .i64 n)) := by
  intro I M w a hop
  have q1 := hop x (by simp [ho, Op.operands, Call.operands])
  rw [hx] at q1
  generalize e1 : a.eval x = v at q1
  cases q1
  exact ⟨_, by simp [execOp, ho, resolve, invoke, builtin, e1, Builtin.len_, run_und, goInt], .v _⟩
theorem OpP.lenStr {x : Operand} {t : TypeId} {s : List UInt8} [Und P t .string] (ho : o.op = .call { callee := .builtin .len, args := #[x], argTypes := #[t] }) (hx : ρ x = .v (.string (bs s))) : OpP P o ρ (.v (.int .i64 s.length)) := by
  intro I M w a hop
  have q1 := hop x (by simp [ho, Op.operands, Call.operands])
  rw [hx] at q1
  have hsize := bs_size s
  exact ⟨_, by simp [execOp, ho, resolve, invoke, builtin, q1.val, Builtin.len_, run_und, goInt, hsize], .v _⟩
theorem OpP.max {x y : Operand} {ts : Array TypeId} {k : IntKind} {a b : Int} (ho : o.op = .call { callee := .builtin .max, args := #[x, y], argTypes := ts }) (hx : ρ x = .v (.int k a)) (hy : ρ y = .v (.int k b)) : OpP P o ρ (.v (.int k (Max.max a b))) := by
  intro I M w ac hop
  have q1 := hop x (by simp [ho, Op.operands, Call.operands])
  have q2 := hop y (by simp [ho, Op.operands, Call.operands])
  rw [hx] at q1; rw [hy] at q2
  have e1 := q1.val
  have e2 := q2.val
  exact ⟨_, by simp [execOp, ho, resolve, invoke, builtin, e1, e2, Builtin.max_, Builtin.max2]; (by_cases h : a < b) <;> simp [h] <;> omega, .v _⟩
theorem OpP.min {x y : Operand} {ts : Array TypeId} {k : IntKind} {a b : Int} (ho : o.op = .call { callee := .builtin .min, args := #[x, y], argTypes := ts }) (hx : ρ x = .v (.int k a)) (hy : ρ y = .v (.int k b)) : OpP P o ρ (.v (.int k (Min.min a b))) := by
  intro I M w ac hop
  have q1 := hop x (by simp [ho, Op.operands, Call.operands])
  have q2 := hop y (by simp [ho, Op.operands, Call.operands])
  rw [hx] at q1; rw [hy] at q2
  have e1 := q1.val
  have e2 := q2.val
  exact ⟨_, by simp [execOp, ho, resolve, invoke, builtin, e1, e2, Builtin.min_, Builtin.min2]; (by_cases h : b < a) <;> simp [h] <;> omega, .v _⟩
theorem OpP.extract {x : Operand} {i : Nat} {vs : List AV} {c : AV} (ho : o.op = .extract x i) (hx : ρ x = .tup vs) (hc : vs[i]? = some c) : OpP P o ρ c := by
  intro I M w a hop
  have q1 := hop x (by simp [ho, Op.operands])
  rw [hx] at q1
  generalize e1 : a.eval x = v at q1
  cases q1 with
  | @tup ws _ h hcs =>
    have hlt : i < ws.size := by rw [h]; exact (List.getElem?_eq_some_iff.1 hc).1
    exact ⟨ws[i], by simp [execOp, ho, e1, Instr.extract, hlt], hcs i _ c (by simp [hlt]) hc⟩
theorem OpP.nilCheck {x : Operand} {v : AV} (ho : o.op = .nilCheck x) (hx : ρ x = v) (hv : (match v with | .ptr _ _ => true | .ep _ _ => true | .fn _ _ => true | _ => false) = true) : OpP P o ρ v := by
  intro I M w a hop
  have q1 := hop x (by simp [ho, Op.operands])
  rw [hx] at q1
  refine ⟨a.eval x, ?_, q1⟩
  generalize e1 : a.eval x = u at q1
  cases q1 <;> simp at hv <;> simp [execOp, ho, e1]
theorem OpP.makeFunc {f : FuncId} {caps : Array Operand} {cs : List AV} (ho : o.op = .makeFunc (.func f) #[] caps) (hx : caps.toList.map ρ = cs) : OpP P o ρ (.fn f cs) := by
  intro I M w a hop
  subst hx
  refine ⟨.func (.func f) #[] (caps.map a.eval), by simp [execOp, ho, Instr.makeFunc], .fn (by simp) fun i v c hv hc => ?_⟩
  simp only [Array.getElem?_map, Option.map_eq_some_iff] at hv
  obtain ⟨x, hx, rfl⟩ := hv
  simp only [List.getElem?_map, Option.map_eq_some_iff] at hc
  obtain ⟨y, hy, rfl⟩ := hc
  have : x = y := by
    rw [Array.getElem?_toList] at hy
    rw [hx] at hy; injection hy
  subst this
  exact hop x (by simp [ho, Op.operands]; exact Array.mem_of_getElem? hx)
/-- bytes as elements -/
abbrev bsP (l : List UInt8) : List (List PV) := l.map fun c => [PV.v (.int .u8 (c.toNat : Int))]
theorem bsP_flat (l : List UInt8) : (bsP l).flatten = l.map fun c => PV.v (.int .u8 (c.toNat : Int)) := by
  induction l with
  | nil => rfl
  | cons c l ih => simp only [List.map_cons, List.flatten_cons, ih]; rfl
theorem OpR.toStr {x : Operand} {s d e : TypeId} {l : List UInt8} {xs : List (List PV)} {ins : Upds} [Und P s (.slice e)] [Und P e (.int .u8)] [Und P d .string] (ho : o.op = .convert s d x) (hx : Dat σ0 (ρ x) 1 xs ins) (hb : xs = bsP l) : OpR P o ρ ins (.v (.string (bs l))) := by
  intro I M w a σ hop hs hi
  have q1 := hop x (by simp [ho, Op.operands])
  obtain ⟨A, c, e1, q2⟩ := hx.rpv hi hs q1
  subst hb
  refine ⟨_, ?_, .v _⟩
  have hlen : (bsP l).length = l.length := by simp
  have hconv : (convert s d (.slice A (bsP l).length c)).run P w = .ok (.string (bs l)) w := by
    cases q2 with
    | sl b off u hn hc hz hA hM hcell ho1 hu =>
      rcases Nat.eq_zero_or_pos l.length with h0 | hpos
      · have : l = [] := List.eq_nil_of_length_eq_zero h0
        subst this
        cases A with
        | none => simp [convert, run_und, Conv.bytesToString, bs]; rfl
        | some ad => simp [convert, run_und, Conv.bytesToString, bs, loadCells, loadCellsFrom]; rfl
      · rw [hA (by rw [hlen]; exact hpos), hlen]
        have hcs : ∀ j, j < l.length → u j = Value.int .u8 ((l.getD j 0).toNat : Int) := by
          intro j hj
          have := hu j (PV.v (.int .u8 ((l.getD j 0).toNat : Int))) (by rw [bsP_flat, List.getElem?_map]; simp [hj])
          generalize u j = q at this ⊢
          cases this; rfl
        have := run_convert_bytes_arg (P := P) w s e Und.und Und.und b off l.length c (l.map fun c => (c.toNat : Int)) (by simp) (fun j hj => by
          rw [hcell j (by rw [hlen]; omega), hcs j hj]; simp [hj]) d Und.und
        rw [this]
        simp [strOfNums, bs, Function.comp_def]
  rw [hlen] at hconv e1
  simp [execOp, ho, e1, hconv]
end
end Go.Proofs.Ytbbcokckealagaa
