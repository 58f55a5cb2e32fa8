/-
  Operations of a region that draws its order and only reads: the conversion of bytes to a string; a walk that is handed tactics for such operations. Plain theorems, no dump, no condition.
-/
import Derived.Test.YtbifgoaceolpoaaLib
import Derived.Deep.QuietTactic
import Derived.BigQuiet
import Derived.OwnWalk
namespace Go.Proofs.Ytbifgoaceolpoaa
open Go.RowKit Go.BigFrame
/-- make of n zeros -/
theorem wpList_mkf {P : Program} (w : World) {ops : Array Oper} {rest : List Oper} {o : Oper} {a : Act} {Q : Exit → Act → World → Prop} (hgd : Region.wanted o (yielded ops a.tmps) = true) (l c : Operand) (t : TypeId)
    (ho : o.op = .makeSlice t l c) {e : TypeId} {size bytes : Nat} {z : Value} (T : SlT P t e size bytes z) {base : TypeId} {w0 : World} (hbel : Below base w0 w)
    {kl kc : IntKind} {L C : Int} (n : Nat) (hl : a.eval l = .int kl L) (hc : a.eval c = .int kc C) (hL : L = (n : Int)) (hC : C = (n : Int)) (hb : bytes * n ≤ 140737488355328) (h63 : n ≤ maxLen) (hbase : base ≤ w.heap.size)
    (h : ∀ A1 w1, w1.ownsRow base e size (.slice A1 n n) n (madeCells z.cells (n * size)).toList → Below base w0 w1 → w.heap.size ≤ w1.heap.size →
      wpList P ops Q rest (a.put o.dst (.slice A1 n n)) w1) : wpList P ops Q (o :: rest) a w := by
  obtain ⟨i, hi, hz, hs, hby⟩ := info_parts T.info
  refine wpList_do hgd fun K hK => ?_
  obtain ⟨w', hrun, r1, r2⟩ := run_make_full (P := P) w base t e i z size T.und hi hz hs kl kc n (by rw [hby]; omega) h63 hbase
  subst hL hC
  unfold Oper.wp
  simp [execOp, ho, hl, hc, hrun, Result.andThen]
  exact hK _ _ (h _ w' r1 (hbel.grown r2 hbase (fun _ h => by cases h)) r2.size)
theorem bv_zeros (n : Nat) : (madeCells (Value.int .u8 0).cells (n * 1)).toList = bv (List.replicate n 0) := by
  rw [Nat.mul_one, show (Value.int .u8 0).cells = #[Value.int .u8 0] from rfl, toList_madeCells_one]
  simp [bv]
theorem wpQuiet_b2s {P : Program} {ops : Array Oper} {Q : Act → Prop} {a : Act} {o : Oper} {rest : List Oper} {w : World} (hgd : Region.wanted o (yielded ops a.tmps) = true) (x : Operand) (t u e : TypeId)
    (ho : o.op = .convert t u x) (ht : P.underlying t = some (.slice e)) (he : P.underlying e = some (.int .u8)) (hu : P.underlying u = some .string)
    {B : Nat} {A : Option Addr} {n c : Nat} {l : List UInt8} (hx : a.eval x = .slice A n c) (hr : Rd w B 1 A n (bv l))
    (h : wpQuiet P ops (fun w' => ∃ n, w' = w.drewN n) Q rest (a.put o.dst (.string ⟨l.toArray⟩))) : wpQuiet P ops (fun w' => ∃ n, w' = w.drewN n) Q (o :: rest) a := by
  refine BigFrame.wpQuiet_want hgd fun K hK => ⟨.string ⟨l.toArray⟩, ?_, hK _ h⟩
  rintro w1 ⟨j, rfl⟩
  unfold Oper.quietAt execOp
  simp only [ho, hx, Sem.run_bind, run_b2s (w.drewN j) t u e ht he hu (c := c) (hr.drewN j), Result.andThen_ok, Sem.run_pure]
  exact ⟨rfl, rfl⟩
theorem run_cut0 {P : Program} (w : World) {t e : TypeId} {size bytes : Nat} {z : Value} (T : SlT P t e size bytes z) (A : Option Addr) (n c j : Nat) (hjc : j ≤ c) :
    (Instr.sliceAt t (.slice A n c) none (some (.int .i64 (j : Int))) none).run P w = .ok (.slice (if c = 0 then A else A.map (·.add 0)) j c) w := by
  obtain ⟨i0, hi0, hz, hs, hby⟩ := info_parts T.info
  have b1 : (0 : Int) ≤ j ∧ (j : Int) ≤ c := by omega
  simp [Instr.sliceAt, Instr.slice, Instr.sliceBounds, Instr.sliceBound, run_underlying T.und, sizeOf, typeInfo, asIntOf, *]
/-- b[:j] -/
theorem wpQuiet_cut {P : Program} {ops : Array Oper} {Q : Act → Prop} {a : Act} {o : Oper} {rest : List Oper} {w : World} (hgd : Region.wanted o (yielded ops a.tmps) = true) (x h_ : Operand) (t : TypeId)
    (ho : o.op = .slice t x none (some h_) none) {e : TypeId} {size bytes : Nat} {z : Value} (T : SlT P t e size bytes z)
    {B : Nat} {A : Option Addr} {n c : Nat} {xs : List Value} (hx : a.eval x = .slice A n c) (hr : Rd w B size A n xs) (hnc : n ≤ c) (j : Nat) {J : Int} (hh : a.eval h_ = .int .i64 J) (hJ : J = j) (hjn : j ≤ n)
    (h : ∀ A1, Rd w B size A1 j (xs.take (j * size)) → wpQuiet P ops (fun w' => ∃ n, w' = w.drewN n) Q rest (a.put o.dst (.slice A1 j c))) : wpQuiet P ops (fun w' => ∃ n, w' = w.drewN n) Q (o :: rest) a := by
  subst hJ
  have hr2 := (hr.cut (k := 0) (by omega) hnc).take (k := j) (by omega)
  simp only [Nat.zero_mul, List.drop_zero] at hr2
  refine BigFrame.wpQuiet_want hgd fun K hK => ⟨_, ?_, hK _ (h _ hr2)⟩
  rintro w1 ⟨k, rfl⟩
  unfold Oper.quietAt execOp
  simp only [ho, hx, hh, Option.map_none, Option.map_some, Sem.run_bind, run_cut0 (w.drewN k) T A n c j (by omega), Result.andThen_ok, Sem.run_pure]
  exact ⟨rfl, rfl⟩
end Go.Proofs.Ytbifgoaceolpoaa
