/-
  Fresh memory that is appended to: a string's bytes as a row. Nothing of the dump is used; no condition.
-/
import Derived.Test.YthogjnckkmfhnaaAip
import Derived.Scope
namespace Go.Proofs.Ythogjnckkmfhnaa
open Go.RowKit
set_option linter.unusedVariables false
set_option linter.unusedSimpArgs false
section
variable {P : Program} {o : Oper} {ρ : Operand → AV}
theorem OpS.freshRow {ins : Upds} {sz : Nat} {xs : List (List PV)} (k : Nat) (hkin : k ∉ keys ins)
    (hrun : ∀ (I : Nat → CI) (M : Nat → Nat) (w : World) (a : Act) (σ : Nat → Res), (∀ x ∈ o.op.operands.toList, Rp I M w (a.eval x) (ρ x)) → Sto I M w σ → (∀ q ∈ ins, σ q.1 = q.2) →
      ∃ (w1 : World) (cur : Array Value) (e : TypeId) (fr : Nat × Nat) (c : Nat), w1.heap = w.heap ∧ w1.os = w.os ∧ w1.tape = w.tape ∧ w1.output = w.output ∧ (∀ ys ∈ xs, ys.length = sz) ∧ xs.length ≤ c ∧ xs.length * sz ≤ cur.size ∧ (c ≠ xs.length → cur.size = c * sz ∧ Unfr fr cur.size) ∧
        (∀ (j : Nat) (p : PV), xs.flatten[j]? = some p → ∃ u : Value, cur[j]? = some u ∧ u.oneCell' = true ∧ RPV M w u p) ∧ (execOp a.eval o).run P w = .ok (.value (.slice (some ⟨w.heap.size, 0, none⟩) xs.length c)) (w1.alloc (.cells cur e fr))) :
    OpS P o ρ ins (.row k xs.length) [(k, .row sz xs)] := by
  intro I M w a σ K Q hx hs hi hnew hK
  obtain ⟨w1, cur, e, fr, c, e1, e2, e3, e4, hz, hc, hl, hsp, hfl, hr⟩ := hrun I M w a σ hx hs hi
  obtain ⟨hk1, hk2⟩ := (hnew k (by simp [keys])).resolve_left hkin
  obtain ⟨_, r1, r2, r3⟩ := fresh_ok hs e1 e2 e3 e4 (e := e) (fr := fr) hz hc hl hfl
  have hw' : (w1.alloc (.cells cur e fr)).heap[w.heap.size]? = some (.cells cur e fr) := by
    show (w1.heap.push _)[w.heap.size]? = _
    rw [e1]; simp
  have hle : ∀ i, (I i).le (if i = k then CI.row xs sz (some ⟨w.heap.size, 0, none⟩) c else I i) := by
    intro i
    split
    · rename_i h; rw [h, hk2]; trivial
    · exact CI.le_refl _
  unfold Oper.wp
  rw [hr]
  have hext : Ext (fun _ => False) I (fun i => if i = k then CI.row xs sz (some ⟨w.heap.size, 0, none⟩) c else I i) M (fun b => if b = w.heap.size then xs.length * sz else M b) w (w1.alloc (.cells cur e fr)) := ⟨r3.os, r3.tape, r3.output, hle, r3.evo, r3.oth⟩
  have hblk : ∀ b, blkOf (CI.row xs sz (some ⟨w.heap.size, 0, none⟩) c) (.row sz xs) = some b → w.heap.size ≤ b := by
    intro b hb
    simp only [blkOf] at hb
    split at hb
    · cases hb
    · simp only [Option.map_some, Option.some.injEq] at hb
      omega
  refine hK _ (fun i => if i = k then CI.row xs sz (some ⟨w.heap.size, 0, none⟩) c else I i) _ _ (.row (sz := sz) (xs := xs) (c0 := c) (A0 := some ⟨w.heap.size, 0, none⟩) (by simp) (Nat.le_refl _) (by rw [List.take_length]; exact r1) (fun _ => ⟨rfl, rfl⟩)) ?_ (hext.wide fun _ _ h => h.elim) (fun i hi => ?_) (fun i hi b hb => ?_)
  · refine hs.upd [k] hext (fun _ h => h.elim) (fun i hi => ?_) (fun i hi => updS_other _ _ _ (by simpa [keys] using hi)) (fun i hi => ?_) (fun i hi b hb => ?_) (fun i hi j hj b hne => ?_) r2.top
    · have : i ≠ k := by simpa using hi
      simp [this]
    · obtain rfl : i = k := by simpa using hi
      simp only [updS, if_true]
      refine ⟨some ⟨w.heap.size, 0, none⟩, c, rfl, r1, fun hne => ?_⟩
      obtain ⟨q1, q2⟩ := hsp hne
      exact ⟨w.heap.size, cur, e, fr, rfl, hw', q1, by simp, q2⟩
    · obtain rfl : i = k := by simpa using hi
      simp only [updS, if_true] at hb
      exact .inl (hblk b hb)
    · obtain rfl : i = k := by simpa using hi
      obtain rfl : j = i := by simpa using hj
      exact absurd rfl hne
  · have : i ≠ k := by simpa [keys] using hi
    simp [this]
  · obtain rfl : i = k := by simpa [keys] using hi
    simp only [updS, if_true] at hb
    exact .inl (hblk b hb)
/-- a string's bytes, in new memory that is appended to -/
theorem OpS.toBytesR {s d e : TypeId} {x : Operand} {l : List UInt8} (k : Nat) [Und P s .string] [Und P d (.slice e)] [Und P e (.int .u8)] (ho : o.op = .convert s d x) (hx : ρ x = .v (.string (bs l))) (hl : l.length ≤ maxLen) : OpS P o ρ [] (.row k (bsP l).length) [(k, .row 1 (bsP l))] := by
  refine OpS.freshRow k (by simp [keys]) fun I M w a σ hop hs hi => ?_
  have h1 := hop x (by simp [ho, Op.operands])
  rw [hx] at h1
  let cap := grownCap w (bs l).size 0 e
  have hsz := bs_size l
  have hcap : l.length ≤ cap := by have := grownCap_ge w (bs l).size 0 e; omega
  have hcur : ∀ (j : Nat) (c : UInt8), l[j]? = some c → (bytesRow (bs l) cap)[j]? = some (Value.int .u8 (c.toNat : Int)) := by
    intro j c hc
    have hj := (List.getElem?_eq_some_iff.1 hc).1
    unfold bytesRow
    rw [Array.getElem?_append_left (by simpa using hj)]
    simp [hc]
  have hcs : (bytesRow (bs l) cap).size = cap := by
    unfold bytesRow
    have : (bs l).data.size = l.length := by simp
    simp only [Array.size_append, Array.size_map, Array.size_replicate, this]
    rw [hsz]
    omega
  refine ⟨w.drew, bytesRow (bs l) cap, e, ((bytesRow (bs l) cap).size, (bytesRow (bs l) cap).size + 1), cap, rfl, rfl, rfl, rfl, by simp, by simpa using hcap, by simp [hcs]; exact hcap, fun _ => ⟨by rw [hcs, Nat.mul_one], fun o ho h => by simp only at h; omega⟩, fun j p hp => ?_, ?_⟩
  · rw [bsP_flat, List.getElem?_map] at hp
    obtain ⟨c, hc, rfl⟩ := Option.map_eq_some_iff.1 hp
    exact ⟨_, hcur j c hc, rfl, .v _⟩
  · have hlen : (bsP l).length = (bs l).size := by rw [hsz]; simp
    have := run_bytes_of_string (P := P) w s d e (bs l) Und.und Und.und Und.und
    simp only [execOp, ho, h1.val, Sem.run_bind, this, Result.andThen_ok, Sem.run_pure, hlen]
    rfl
end
section
variable {P : Program} {n : Nat} {ops : List Oper} {chk : List FP → Bool} {K : State → Prop} {rest : List Oper} {o : Oper} {fr : Fr} {σ : List Res} {acc : List FP}
theorem Run.tbR {d k : Nat} {s dd e : TypeId} {x : Operand} {l : List UInt8} {σ' : List Res} [Und P s .string] [Und P dd (.slice e)] [Und P e (.int .u8)] (ho : o.dst = some d) (hop : o.op = .convert s dd x) (hw : wantA ops fr o = some true) (hd : Nat.blt d n = true) (hx : evA fr x = .v (.string (Go.Proofs.Ythogjnckkmfhnaa.bs l))) (hl : l.length ≤ maxLen) (he : Ends σ k) (hσ : PutAt σ k (.row 1 (bsP l)) σ')
    (hr : Run P n ops chk K rest ⟨(d, .row k (bsP l).length) :: fr, σ'⟩ (acc ++ [([], [k])])) : Run P n ops chk K (o :: rest) ⟨fr, σ⟩ acc := by
  refine .op (ins := []) hw (by rw [ho]; exact hd) (OpS.toBytesR k hop hx hl) ins_nil (okU_one hσ).1 (fun k' hk' => .inr ?_) (by rw [ho, (okU_one hσ).2]; exact hr)
  obtain rfl : k' = k := by simpa [keys] using hk'
  rw [← he.spec]; exact Nat.le_refl _
end
/-- a scope that is not jumped in -/
abbrev noG (Q : Exit → State → Prop) : Exit → State → Prop
  | .goto _, _ => False
  | e, s => Q e s
theorem AW.scope {P : Program} {g : Ent} {c : Code} {Q : Exit → State → Prop} {s : State} (h : AW P g c (noG Q) s) : AW P g (.scope c) Q s := by
  intro I M w a hst
  refine wp_scope_straight (wp_mono (h I M w a hst) fun e a' w' ⟨I', M', s', h1, h2⟩ => ?_)
  cases e with
  | goto _ => exact h2.elim
  | _ => exact ⟨I', M', s', h1, h2⟩
theorem AW.label {P : Program} {g : Ent} {l : Nat} {Q : Exit → State → Prop} {s : State} (h : Q .normal s) : AW P g (.label l) Q s := fun I M w a hst => wp_label ⟨I, M, s, hst, h⟩
/-- two ways that come together -/
theorem AW.join {P : Program} {g : Ent} {c1 c2 : Code} {Q : Exit → State → Prop} {s : State} {X : Type} (F : X → State) (C : X → Prop) (h : AW P g c1 (thenA (fun s' => ∃ x, C x ∧ Conv g s' (F x)) Q) s) (hy : ∀ x, C x → AW P g c2 Q (F x)) : AW P g (.seq c1 c2) Q s := by
  refine AW.seq_k fun K hK => ?_
  intro I M w a hst
  refine wp_mono (h I M w a hst) fun e a' w' ⟨I', M', s', h1, h2⟩ => ?_
  cases e with
  | normal =>
    obtain ⟨x, hx, hc⟩ := h2
    exact ⟨I', M', s', h1, hK _ (AW.conv hc (hy x hx))⟩
  | _ => exact ⟨I', M', s', h1, h2⟩
theorem AW.join3 {P : Program} {g : Ent} {c1 c2 c3 : Code} {Q : Exit → State → Prop} {s : State} {K : State → Prop} (hK : ∀ s, AW P g (.seq c2 c3) Q s → K s) {X : Type} (F : X → State) (C : X → Prop)
    (h : AW P g c1 (thenA (fun s' => AW P g c2 (thenA (fun s'' => ∃ x, C x ∧ Conv g s'' (F x)) Q) s') Q) s) (hy : ∀ x, C x → AW P g c3 Q (F x)) : AW P g c1 (thenA K Q) s := by
  intro I M w a hst
  refine wp_mono (h I M w a hst) fun e a' w' ⟨I', M', s', h1, h2⟩ => ?_
  cases e with
  | normal => exact ⟨I', M', s', h1, hK _ (AW.join F C h2 hy)⟩
  | _ => exact ⟨I', M', s', h1, h2⟩
theorem over_set (p : PV) : ∀ (xs : List (List PV)) (i : Nat), (∀ y ∈ xs, y.length = 1) → i < xs.length → Over (bxs xs) i [p.av] (bxs (xs.set i [p]))
  | [], _, _, h => by simp at h
  | y :: t, i, hz, h => by
    obtain ⟨q, rfl⟩ : ∃ q, y = [q] := List.length_eq_one_iff.1 (hz y (List.mem_cons_self ..))
    cases i with
    | zero => exact .at_ (.cons .nil)
    | succ i => exact .skip (over_set p t i (fun y hy => hz y (List.mem_cons_of_mem _ hy)) (by simpa using h))
end Go.Proofs.Ythogjnckkmfhnaa
