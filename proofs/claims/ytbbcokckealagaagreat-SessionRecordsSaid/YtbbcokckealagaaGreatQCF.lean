/-
  Walks of chapter 41: the place of a stream and the sameness of sessions, of the reference.
-/
import Derived.Test.YtbbcokckealagaaGreatQAA
import Derived.Test.YtbbcokckealagaaGreatQCE
import Derived.Laws.StructEq
import Derived.KernelRfl
namespace Go.Proofs.YtbbcokckealagaaGreat
set_option linter.unusedVariables false
set_option linter.unusedSimpArgs false
instance : NoIf Tryz.prog 67 := ⟨by kernel_rfl⟩
@[go_sem] theorem eqKp (a c d e f g j : Int) (b : ByteArray) (h : Bool) (w : World) : (Op.equalIn 10000 67 (.agg #[.int .i64 a, .string b, .int .i64 c, .int .i64 d, .int .i64 e, .int .i64 f, .int .i64 g, .bool h, .int .u64 j]) (.agg #[.int .i64 a, .string b, .int .i64 c, .int .i64 d, .int .i64 e, .int .i64 f, .int .i64 g, .bool h, .int .u64 j])).run Tryz.prog w = .ok true w := by
  have u3 := Tryz.underlying3
  have a3 := Tryz.isAgg3
  have z3 := Tryz.sizeOf3
  have u4 := Tryz.underlying9
  have a4 := Tryz.isAgg9
  have z4 := Tryz.sizeOf9
  have u5 := Tryz.underlying4
  have a5 := Tryz.isAgg4
  have z5 := Tryz.sizeOf4
  have u6 := Tryz.underlying23
  have a6 := Tryz.isAgg23
  have z6 := Tryz.sizeOf23
  have hS : Tryz.prog.underlying 67 = some (.struct (Tryz.prog.fieldsOf 67)) := by kernel_rfl
  have hp : Tryz.prog.stoodInHeld 67 = false := by kernel_rfl
  rw [show (10000 : Nat) = 9999 + 1 from rfl, run_equalIn_agg w 9999 67 _ _ hS hp]
  simp only [Program.fieldsOf, Tryz.underlying67]
  go_simp
def placeGo (id : Int) : List Kp → Nat → Int
  | [], _ => -1
  | k :: t, n => if k.id = id then n else placeGo id t (n + 1)
def insI (l : List Kp) (id : Int) : Nat := (l.takeWhile fun k => decide (k.id < id)).length
def rstepP (s : Se) (r : Rc) (i : Int) : Se × Int :=
  if r.kind = 1 then
    if 0 ≤ i then (Se.zero, 8) else if 24 ≤ s.streams.length then (Se.zero, 3)
    else (⟨s.streams.take (insI s.streams r.id) ++ r.kept :: s.streams.drop (insI s.streams r.id), s.mem, s.text⟩, 0)
  else if r.kind = 6 then
    if (rRemP s.mem ⟨r.role, r.set, r.dev⟩).2 = 0 then (⟨s.streams, (rRemP s.mem ⟨r.role, r.set, r.dev⟩).1, s.text⟩, 0) else (Se.zero, (rRemP s.mem ⟨r.role, r.set, r.dev⟩).2)
  else if r.kind = 7 then (⟨s.streams, s.mem, r.text⟩, 0)
  else if i < 0 then (Se.zero, 7)
  else if r.kind = 2 then (⟨s.streams.take i.toNat ++ s.streams.drop (i.toNat + 1), s.mem, s.text⟩, 0)
  else if r.kind = 3 then (⟨s.streams.modify i.toNat fun k => { k with vol := r.n }, s.mem, s.text⟩, 0)
  else if r.kind = 4 then (⟨s.streams.modify i.toNat fun k => { k with muted := decide (r.n = 1) }, s.mem, s.text⟩, 0)
  else if r.kind = 5 then (⟨s.streams.modify i.toNat fun k => { k with pin := r.dev }, s.mem, s.text⟩, 0)
  else (s, 0)
def rapplyP (okT : List UInt8 → Bool) (s : Se) (r : Rc) : Se × Int :=
  if properR okT r = false then (Se.zero, 1) else rstepP s r (placeGo r.id s.streams 0)
theorem ins_le (l : List Kp) (id : Int) : insI l id ≤ l.length := by
  induction l with
  | nil => simp [insI]
  | cons k t ih =>
    rw [insI, List.takeWhile_cons]
    split
    · simpa [insI] using ih
    · simp
theorem ins_lt : ∀ (l : List Kp) (id : Int) (i : Nat) (h : i < l.length), i < insI l id → l[i].id < id
  | [], _, _, h, _ => by simp at h
  | k :: t, id, i, h, hi => by
    rw [insI, List.takeWhile_cons] at hi
    split at hi
    · rename_i hk
      cases i with
      | zero => simpa using hk
      | succ i => exact ins_lt t id i (by simpa using h) (by simpa [insI] using hi)
    · simp at hi
theorem ins_at : ∀ (l : List Kp) (id : Int) (h : insI l id < l.length), ¬ l[insI l id].id < id
  | [], _, h => by simp at h
  | k :: t, id, h => by
    by_cases hk : k.id < id
    · have e : insI (k :: t) id = insI t id + 1 := by simp [insI, List.takeWhile_cons, hk]
      have := ins_at t id (by rw [e] at h; simpa using h)
      simp only [e, List.getElem_cons_succ]
      exact this
    · have e : insI (k :: t) id = 0 := by simp [insI, List.takeWhile_cons, hk]
      simp only [e, List.getElem_cons_zero]
      exact hk
end Go.Proofs.YtbbcokckealagaaGreat
