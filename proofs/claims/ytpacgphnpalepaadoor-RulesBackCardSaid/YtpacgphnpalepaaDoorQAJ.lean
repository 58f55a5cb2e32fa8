/-
  Appending in place to an array of the call's own, or out of it when it is full; clear; overlaps. Nothing of the dump is used; no condition.
-/
import Derived.Test.YtpacgphnpalepaaDoorQAI
import Derived.Lib.Overlaps
import Derived.Scope
import Derived.Lib.UnsafeStr
namespace Go.Proofs.YtpacgphnpalepaaDoor
set_option linter.unusedVariables false
set_option linter.unusedSimpArgs false
open Go.RowKit
section
variable {P : Program} {o : Oper} {ρ : Operand → AV}
end
section
variable {P : Program} {n : Nat} {ops : List Oper} {chk : List FP → Bool} {K : State → Prop} {rest : List Oper} {o : Oper} {fr : Fr} {σ : List Res} {acc : List FP}
end
end Go.Proofs.YtpacgphnpalepaaDoor
namespace Go.Proofs.YtpacgphnpalepaaDoor
set_option linter.unusedVariables false
set_option linter.unusedSimpArgs false
open Go.RowKit
section
variable {P : Program} {o : Oper} {ρ : Operand → AV}
end
section
variable {P : Program} {n : Nat} {ops : List Oper} {chk : List FP → Bool} {K : State → Prop} {rest : List Oper} {o : Oper} {fr : Fr} {σ : List Res} {acc : List FP}
end
abbrev noG (Q : Exit → State → Prop) : Exit → State → Prop
  | .goto _, _ => False
  | e, s => Q e s
theorem AW.join {P : Program} {g : Ent} {c1 c2 : Code} {Q : Exit → State → Prop} {s : State} {X : Type} (F : X → State) (C : X → Prop) (h : AW P g c1 (thenA (fun s' => ∃ x, C x ∧ Conv g s' (F x)) Q) s) (hy : ∀ x, C x → AW P g c2 Q (F x)) : AW P g (.seq c1 c2) Q s := by
  refine AW.seq_k fun K hK => ?_
  intro I M w a hst
  refine wp_mono (h I M w a hst) fun e a' w' ⟨I', M', s', h1, h2⟩ => ?_
  cases e with
  | normal =>
    obtain ⟨x, hx, hc⟩ := h2
    exact ⟨I', M', s', h1, hK _ (AW.conv hc (hy x hx))⟩
  | _ => exact ⟨I', M', s', h1, h2⟩
end Go.Proofs.YtpacgphnpalepaaDoor
namespace Go.Proofs.YtpacgphnpalepaaDoor
set_option linter.unusedVariables false
set_option linter.unusedSimpArgs false
open Go.RowKit
variable {P : Program} {n : Nat} {ops : List Oper} {chk : List FP → Bool} {K : State → Prop} {o : Oper} {rest : List Oper} {fr : Fr} {σ : List Res} {acc : List FP}
end Go.Proofs.YtpacgphnpalepaaDoor
namespace Go.Proofs.YtpacgphnpalepaaDoor
set_option linter.unusedVariables false
set_option linter.unusedSimpArgs false
open Go.RowKit
section
variable {P : Program} {o : Oper} {ρ : Operand → AV}
end
section
variable {P : Program} {n : Nat} {ops : List Oper} {chk : List FP → Bool} {K : State → Prop} {rest : List Oper} {o : Oper} {fr : Fr} {σ : List Res} {acc : List FP}
end
end Go.Proofs.YtpacgphnpalepaaDoor
namespace Go.Proofs.YtpacgphnpalepaaDoor
set_option linter.unusedVariables false
set_option linter.unusedSimpArgs false
open Go.RowKit
section
variable {I : Nat → CI} {M : Nat → Nat} {w : World} {v : Value} {k lo n : Nat}
theorem Rp.mbD (h : Rp I M w v (.mb k lo (some n))) : ∃ A b C, v = .slice A n (C - lo) ∧ I k = .mb b C ∧ lo + n ≤ C ∧ (lo < C → A = some ⟨b, lo, none⟩) := by
  cases h with
  | mb h1 h2 h3 => exact ⟨_, _, _, rfl, h1, h2, h3⟩
theorem Rp.mbpD (h : Rp I M w v (.mb k lo none)) : ∃ A b C, v = .pointer A ∧ I k = .mb b C ∧ (lo < C → A = some ⟨b, lo, none⟩) := by
  cases h with
  | mbp h1 h3 => exact ⟨_, _, _, rfl, h1, h3⟩
end
section
variable {P : Program} {o : Oper} {ρ : Operand → AV}
theorem OpP.lenM {x : Operand} {t e : TypeId} {k lo n : Nat} [Und P t (.slice e)] (ho : o.op = .call { callee := .builtin .len, args := #[x], argTypes := #[t] }) (hx : ρ x = .mb k lo (some n)) : OpP P o ρ (.v (.int .i64 n)) := by
  intro I M w a h
  have h1 := h x (by simp [ho, Op.operands, Call.operands])
  rw [hx] at h1
  obtain ⟨A, b, C, hv, _⟩ := h1.mbD
  exact ⟨_, by simp [execOp, ho, hv, resolve, invoke, builtin, Builtin.len_, run_und, goInt], .v _⟩
theorem Own1.mbC {I : Nat → CI} {M : Nat → Nat} {w : World} {l : List UInt8} {ci : CI} {b C : Nat} (h : Own1 I M w ci (.mby l)) (hI : ci = .mb b C) : l.length ≤ C ∧ (0 < C → ∃ cur fz, w.heap[b]? = some (.cells cur u8T fz) ∧ M b = 0 ∧ Unfr fz cur.size ∧ cur.size = C ∧ ∀ (i : Nat) (c : UInt8), l[i]? = some c → cur[i]? = some (.int .u8 (c.toNat : Int))) := by
  obtain ⟨b', C', e1, e2, e3⟩ := h
  rw [hI] at e1
  injection e1 with e1 e4
  subst e1 e4
  exact ⟨e2, e3⟩
theorem Src.mb {av : AV} {k lo n : Nat} {l r : List UInt8} (hav : av = .mb k lo (some n)) (hr : (l.drop lo).take n = r) (hn : lo + n ≤ l.length) : Src P av 1 (bsP r) [(k, .mby l)] := by
  intro I M w σ v hv hs hi
  subst hav hr
  obtain ⟨A, b, C, rfl, hI, hnC, hA⟩ := hv.mbD
  have own := hs.own k
  rw [hi _ (List.mem_singleton.2 Z)] at own
  obtain ⟨o1, o2⟩ := own.mbC hI
  have hrl : ((l.drop lo).take n).length = n := by simp; omega
  have hget : ∀ (j : Nat) (c : UInt8), ((l.drop lo).take n)[j]? = some c → j < n ∧ l[lo + j]? = some c := by
    intro j c hc
    have hj := (List.getElem?_eq_some_iff.1 hc).1
    rw [hrl] at hj
    refine ⟨hj, ?_⟩
    rw [List.getElem?_take, if_pos hj, List.getElem?_drop] at hc
    exact hc
  generalize (l.drop lo).take n = r at hrl hget
  refine ⟨r.map fun c => .int .u8 (c.toNat : Int), fun w => by simp [Builtin.lenOf, hrl], by simp, by simp, by simp [Value.oneCell'], fun w1 hw => ?_, fun j p hp => ?_⟩
  · have hbl : (bsP r).length = n := by simp [hrl]
    rw [hbl]
    rcases Nat.eq_zero_or_pos n with h0 | h0
    · subst h0
      have : r = [] := List.eq_nil_of_length_eq_zero hrl
      subst this
      cases A <;> simp [Builtin.firstCells, loadCells, loadCellsFrom]
    · obtain ⟨cur, fz, g1, g2, g3, g4, g5⟩ := o2 (by omega)
      rw [hA (by omega)]
      refine run_firstCells_some (P := P) w1 1 n ⟨b, lo, none⟩ n (C - lo) _ (by simp [hrl]) fun j x hx => ?_
      rw [List.getElem?_map] at hx
      obtain ⟨c, hc, rfl⟩ := Option.map_eq_some_iff.1 hx
      obtain ⟨hj, hlj⟩ := hget j c hc
      rw [Addr.add_lit, World.cell?_of_block (w := w) (by rw [hw]), cell_of_row w b (lo + j) cur _ _ g1]
      exact g5 _ _ hlj
  · rw [bsP_flat, List.getElem?_map] at hp
    obtain ⟨c, hc, rfl⟩ := Option.map_eq_some_iff.1 hp
    exact ⟨_, by rw [List.getElem?_map, hc]; rfl, .v _⟩
theorem app_coreM {s x : Operand} {t tx : TypeId} {z : Value} {bytes : Nat} [Und P t (.slice u8T)] [TyI P u8T z 1 bytes] (ho : o.op = .call { callee := .builtin .append, args := #[s, x], argTypes := #[t, tx] }) (hzs : z.cells.size = 1) {l ys : List UInt8} {insx : Upds} (hx : SrcG P t tx u8T z bytes (ρ x) 1 (bsP ys) insx) (hb : (l.length + ys.length) * bytes ≤ 140737488355328) (h63 : l.length + ys.length ≤ maxLen)
    {I : Nat → CI} {M : Nat → Nat} {w : World} {a : Act} {σ : Nat → Res} {A : Option Addr} {c : Nat} (hs : Sto I M w σ) (hi : ∀ q ∈ insx, σ q.1 = q.2) (hxv : Rp I M w (a.eval x) (ρ x)) (hsv : a.eval s = .slice A l.length c) (hlc : l.length ≤ c) {own : Nat → Prop}
    (hown : 0 < c → ∃ b cur fz, A = some ⟨b, 0, none⟩ ∧ w.heap[b]? = some (.cells cur u8T fz) ∧ M b = 0 ∧ Unfr fz cur.size ∧ cur.size = c ∧ (∀ (i : Nat) (y : UInt8), l[i]? = some y → cur[i]? = some (.int .u8 (y.toNat : Int))) ∧ own b)
    {K : Act → World → Prop} {Q : Exit → Act → World → Prop}
    (hK : ∀ (A' : Option Addr) (C' b' : Nat) (w' : World), w'.os = w.os → w'.tape = w.tape → w'.output = w.output → Evo M M w w' → (∀ b, b < w.heap.size → ¬ own b → w'.heap[b]? = w.heap[b]?) → (∀ b, w'.heap.size ≤ b → M b = 0) → l.length + ys.length ≤ C' →
      (0 < C' → A' = some ⟨b', 0, none⟩ ∧ (w.heap.size ≤ b' ∨ own b') ∧ ∃ cur fz, w'.heap[b']? = some (.cells cur u8T fz) ∧ M b' = 0 ∧ Unfr fz cur.size ∧ cur.size = C' ∧ ∀ (i : Nat) (y : UInt8), (l ++ ys)[i]? = some y → cur[i]? = some (.int .u8 (y.toNat : Int))) →
      K (a.put o.dst (.slice A' (l.length + ys.length) C')) w') : o.wp P a w K Q := by
  obtain ⟨news, n2, n3, n4, n6, ncore⟩ := hx I M w σ _ hxv hs hi
  have hyl : (bsP ys).length = ys.length := by simp
  rw [hyl, Nat.mul_one] at n3
  have hnews : ∀ (j : Nat) (y : UInt8), ys[j]? = some y → news[j]? = some (.int .u8 (y.toNat : Int)) := by
    intro j y hy
    obtain ⟨u, hu, hr⟩ := n6 j (PV.v (.int .u8 (y.toNat : Int))) (by rw [bsP_flat, List.getElem?_map, hy]; rfl)
    cases hr
    exact hu
  let olds : List Value := l.map fun c => .int .u8 (c.toNat : Int)
  have hol : olds.length = l.length := by simp [olds]
  have hog : ∀ (j : Nat) (y : UInt8), l[j]? = some y → olds[j]? = some (.int .u8 (y.toNat : Int)) := fun j y hy => by simp [olds, hy]
  have core := ncore o.type A l.length c olds (by rw [hol, Nat.mul_one])
    (fun h0 => by
      obtain ⟨b, cur, fz, q1, q2, q3, q4, q5, q6, q7⟩ := hown (by omega)
      refine ⟨b, 0, q1, fun j u hu => ?_⟩
      rw [List.getElem?_map] at hu
      obtain ⟨y, hy, rfl⟩ := Option.map_eq_some_iff.1 hu
      rw [Nat.zero_add, cell_of_row w b j cur _ _ q2]
      exact q6 j y hy)
    (fun hr hm => by
      rw [hyl] at hr hm
      obtain ⟨b, cur, fz, q1, q2, q3, q4, q5, q6, q7⟩ := hown (by omega)
      exact ⟨b, cur, _, fz, q1, q2, by rw [q5, Nat.mul_one], q4⟩) (by rw [hyl]; exact hb) (by rw [hyl]; exact h63)
  rw [hyl] at core
  have hwp : ∀ cv w', (Builtin.append_ #[t, tx] o.type #[.slice A l.length c, a.eval x]).run P w = .ok cv w' → K (a.put o.dst cv) w' → o.wp P a w K Q := by
    intro cv w' hrun hk'
    unfold Oper.wp execOp
    simp only [ho, resolve, invoke, builtin, Sem.run_bind, Sem.run_pure, Result.andThen_ok, List.map_toArray, List.map_cons, List.map_nil, hsv, hrun]
    exact hk'
  have hcat : ∀ (j : Nat) (y : UInt8), (l ++ ys)[j]? = some y → (olds ++ news)[j]? = some (.int .u8 (y.toNat : Int)) := by
    intro j y hy
    rcases Nat.lt_or_ge j l.length with h | h
    · rw [List.getElem?_append_left h] at hy
      rw [List.getElem?_append_left (by omega)]
      exact hog j y hy
    · rw [List.getElem?_append_right h] at hy
      rw [List.getElem?_append_right (by omega), hol]
      exact hnews _ y hy
  rcases core with ⟨hr, hm, hrun⟩ | ⟨hr, hm, g, rfl, hrun⟩ | ⟨hr, c1, hc1, hrun⟩
  · have hy : ys = [] := List.eq_nil_of_length_eq_zero hm
    subst hy
    by_cases hc : 0 < c
    · obtain ⟨b, cur, fz, q1, q2, q3, q4, q5, q6, q7⟩ := hown hc
      refine hwp _ _ hrun (hK A c b w Z Z Z (Evo.refl _ _) (fun _ _ _ => rfl) hs.top hr fun _ => ⟨q1, .inr q7, cur, fz, q2, q3, q4, q5, ?_⟩)
      simpa using q6
    · exact hwp _ _ hrun (hK A c 0 w Z Z Z (Evo.refl _ _) (fun _ _ _ => rfl) hs.top hr fun h => absurd h hc)
  · obtain ⟨g', cur, fz, q1, q2, q3, q4, q5, q6, q7⟩ := hown (by omega)
    obtain rfl : g = g' := by simpa using q1
    rw [Nat.mul_one] at hrun
    obtain ⟨a1, a2, a3, a4, a5, a6⟩ := heap_setCells w g cur u8T fz news l.length q2
    have hle : l.length + news.length ≤ cur.size := by omega
    have hev : Evo M M w (w.setCells g l.length news) := ⟨by omega, fun _ => Nat.le_refl _, fun b' o' v ho' hv => by
      have hbg : b' ≠ g := by rintro rfl; omega
      rw [World.cell?_of_block (a2 b' hbg)]; exact hv, ety_one q2 a1 a2 (setArr_size _ _ _)⟩
    refine hwp _ _ hrun (hK _ c g _ a4 a5 a6 hev (fun b' hb' hne => a2 b' (by rintro rfl; exact hne q7)) (fun b' hb' => hs.top b' (by omega)) hr fun _ => ⟨rfl, .inr q7, _, fz, a1, q3, by rw [setArr_size]; exact q4, by rw [setArr_size]; exact q5, fun i y hy => ?_⟩)
    rw [setArr_get _ _ _ hle]
    rcases Nat.lt_or_ge i l.length with h | h
    · rw [List.getElem?_append_left h] at hy
      rw [if_neg (by omega)]
      exact q6 i y hy
    · have hil : i < (l ++ ys).length := (List.getElem?_eq_some_iff.1 hy).1
      rw [List.length_append] at hil
      rw [List.getElem?_append_right h] at hy
      rw [if_pos (by omega)]
      exact hnews _ y hy
  · let cur := olds.toArray ++ news.toArray ++ Builtin.zeroCells z.cells (c1 - (l.length + ys.length))
    have hcs : cur.size = c1 := by
      simp [cur, hol, n3, size_zeroCells, hzs]; omega
    have hw' : (w.drew.alloc (.cells cur u8T (0, 0))).heap.size = w.heap.size + 1 := by show (w.drew.heap.push _).size = _; simp
    have hev : Evo M M w (w.drew.alloc (.cells cur u8T (0, 0))) := ⟨by omega, fun _ => Nat.le_refl _, fun b o v _ hv => by
      rw [World.cell?_alloc_lt w.drew _ _ (World.block_lt_of_cell? w _ hv)]; exact hv, ety_of (w := w) fun b hb => Below.heap_alloc w.drew _ b hb⟩
    refine hwp _ _ hrun (hK _ c1 w.heap.size _ Z Z Z hev (fun b hb _ => Below.heap_alloc w.drew _ b hb) (fun b hb => hs.top b (Nat.le_trans hev.size hb)) hc1 fun _ => ⟨rfl, .inl (Nat.le_refl _), cur, (0, 0), heap_alloc_new w.drew _, hs.top _ (Nat.le_refl _), fun o _ h => by simp at h, hcs, fun i y hy => ?_⟩)
    have hil : i < (l ++ ys).length := (List.getElem?_eq_some_iff.1 hy).1
    rw [List.length_append] at hil
    simp only [cur]
    rw [Array.getElem?_append_left (by simp; omega), List.append_toArray, List.getElem?_toArray]
    exact hcat i y hy
theorem OpS.appME {s x : Operand} {t tx : TypeId} {z : Value} {bytes : Nat} [Und P t (.slice u8T)] [TyI P u8T z 1 bytes] (k : Nat) (ho : o.op = .call { callee := .builtin .append, args := #[s, x], argTypes := #[t, tx] }) (hzs : z.cells.size = 1) {ys : List UInt8} {m : Nat} {insx : Upds}
    (hsv : ρ s = .sl 1 [] true ∨ ρ s = .v (.slice none 0 0)) (hx : SrcG P t tx u8T z bytes (ρ x) 1 (bsP ys) insx) (hm : ys.length = m) (hkin : k ∉ keys insx) (hb : m * bytes ≤ 140737488355328) (h63 : m ≤ maxLen) :
    OpS P o ρ insx (.mb k 0 (some m)) [(k, .mby ys)] := by
  intro I M w a σ K Q hop hs hi hnew hK
  subst hm
  have h1 := hop s (by simp [ho, Op.operands, Call.operands])
  have h2 := hop x (by simp [ho, Op.operands, Call.operands])
  have hs0 : ∃ A, a.eval s = .slice A ([] : List UInt8).length 0 := by
    rcases hsv with hsv | hsv
    · rw [hsv] at h1
      generalize eq0 : a.eval s = sv at h1
      cases h1 with
      | sl h hf =>
        have := hf Z
        subst this
        have := h.len.1
        subst this
        exact ⟨_, rfl⟩
    · rw [hsv] at h1
      exact ⟨none, h1.val⟩
  obtain ⟨A, eq0⟩ := hs0
  obtain ⟨hk1, hk2⟩ := (hnew k (by simp [keys])).resolve_left hkin
  refine app_coreM (l := []) (own := fun _ => False) ho hzs hx (by simpa using hb) (by simpa using h63) hs hi h2 eq0 (Nat.zero_le _) (fun h => absurd h (by omega)) fun A' C' b' w' e1 e2 e3 e4 e5 e6 e7 e8 => ?_
  simp only [List.length_nil, Nat.zero_add, List.nil_append] at e7 e8 ⊢
  let I' : Nat → CI := fun i => if i = k then CI.mb b' C' else I i
  have hle : ∀ i, (I i).le (I' i) := by
    intro i
    show (I i).le (if i = k then CI.mb b' C' else I i)
    by_cases h : i = k
    · rw [h, hk2]; trivial
    · rw [if_neg h]; exact CI.le_refl _
  have hIk : I' k = .mb b' C' := by simp [I']
  have hext : Ext (fun _ => False) I I' M M w w' := ⟨e1, e2, e3, hle, e4, fun b hb hn => ⟨e5 b hb hn, rfl⟩⟩
  have hC : C' = C' - 0 := rfl
  rw [hC]
  refine hK _ I' M w' (.mb hIk (by omega) (fun h => (e8 h).1)) ?_ (hext.wide fun _ _ h => h.elim) (fun i hi => ?_) (fun i hi b hb => ?_)
  · refine hs.upd [k] hext (fun _ h => h.elim) (fun i hi => by have : i ≠ k := by simpa using hi
                                                               simp [I', this]) (fun i hi => updS_other _ _ _ (by simpa [keys] using hi)) (fun i hi => ?_) (fun i hi b hb => ?_) (fun i hi j hj b hne => ?_) e6
    · obtain rfl : i = k := by simpa using hi
      simp only [updS, if_true, hIk]
      exact ⟨b', C', rfl, e7, fun h => (e8 h).2.2⟩
    · obtain rfl : i = k := by simpa using hi
      simp only [updS, if_true, hIk, blkOf] at hb
      split at hb
      · cases hb
      · injection hb with hb
        subst hb
        exact .inl ((e8 (by omega)).2.1.resolve_right (fun h => h))
    · obtain rfl : i = k := by simpa using hi
      obtain rfl : j = i := by simpa using hj
      exact absurd Z hne
  · have : i ≠ k := by simpa [keys] using hi
    simp [I', this]
  · obtain rfl : i = k := by simpa [keys] using hi
    simp only [updS, if_true, hIk, blkOf] at hb
    split at hb
    · cases hb
    · injection hb with hb
      subst hb
      exact .inl ((e8 (by omega)).2.1.resolve_right (fun h => h))
theorem OpS.appMM {s x : Operand} {t tx : TypeId} {z : Value} {bytes : Nat} [Und P t (.slice u8T)] [TyI P u8T z 1 bytes] (k0 k : Nat) (ho : o.op = .call { callee := .builtin .append, args := #[s, x], argTypes := #[t, tx] }) (hzs : z.cells.size = 1) {l ys : List UInt8} {n m : Nat} {insx : Upds}
    (hsv : ρ s = .mb k0 0 (some n)) (hn : n = l.length) (hx : SrcG P t tx u8T z bytes (ρ x) 1 (bsP ys) insx) (hm : n + ys.length = m) (hkin : k ∉ keys insx) (hk0 : k0 ≠ k) (hb : m * bytes ≤ 140737488355328) (h63 : m ≤ maxLen) :
    OpS P o ρ ((k0, .mby l) :: insx) (.mb k 0 (some m)) [(k0, .no), (k, .mby (l ++ ys))] := by
  intro I M w a σ K Q hop hs hi hnew hK
  subst hn hm
  have h1 := hop s (by simp [ho, Op.operands, Call.operands])
  have h2 := hop x (by simp [ho, Op.operands, Call.operands])
  rw [hsv] at h1
  have hσ0 : σ k0 = .mby l := hi _ (List.mem_cons_self ..)
  have own := hs.own k0
  rw [hσ0] at own
  obtain ⟨A, b, C, eq0, hI, hnC, hA⟩ := h1.mbD
  obtain ⟨o1, o2⟩ := own.mbC hI
  obtain ⟨hk1, hk2⟩ := (hnew k (by simp [keys])).resolve_left (by simp only [keys, List.map_cons, List.mem_cons, not_or]; exact ⟨fun h => hk0 h.symm, hkin⟩)
  refine app_coreM (own := fun b' => 0 < C ∧ b' = b) ho hzs hx hb h63 hs (fun q hq => hi q (List.mem_cons_of_mem _ hq)) h2 eq0 o1 (fun h => ?_) fun A' C' b' w' e1 e2 e3 e4 e5 e6 e7 e8 => ?_
  · obtain ⟨cur, fz, g1, g2, g3, g4, g5⟩ := o2 h
    exact ⟨b, cur, fz, hA h, g1, g2, g3, g4, g5, h, rfl⟩
  have hblk0 : ∀ b', (0 < C ∧ b' = b) → blkOf (I k0) (σ k0) = some b' := by
    rintro b' ⟨h, rfl⟩
    rw [hI, hσ0]
    simp only [blkOf]
    rw [if_neg (by omega)]
  let I' : Nat → CI := fun i => if i = k then CI.mb b' C' else I i
  have hle : ∀ i, (I i).le (I' i) := by
    intro i
    show (I i).le (if i = k then CI.mb b' C' else I i)
    by_cases h : i = k
    · rw [h, hk2]; trivial
    · rw [if_neg h]; exact CI.le_refl _
  have hIk : I' k = .mb b' C' := by simp [I']
  have hext : Ext (fun b' => 0 < C ∧ b' = b) I I' M M w w' := ⟨e1, e2, e3, hle, e4, fun b hb hn => ⟨e5 b hb hn, rfl⟩⟩
  have hC : C' = C' - 0 := rfl
  rw [hC]
  have u0 : updS σ [(k0, .no), (k, .mby (l ++ ys))] k0 = .no := by simp [updS]
  have u1 : updS σ [(k0, .no), (k, .mby (l ++ ys))] k = .mby (l ++ ys) := by simp [updS, Ne.symm hk0]
  have hbk : ∀ i, i ∈ [k0, k] → ∀ b2, blkOf (I' i) (updS σ [(k0, .no), (k, .mby (l ++ ys))] i) = some b2 → i = k ∧ (w.heap.size ≤ b2 ∨ (0 < C ∧ b2 = b)) := by
    intro i hi b2 hb2
    rcases List.mem_cons.1 hi with rfl | hi
    · rw [u0] at hb2
      cases h : I' i <;> rw [h] at hb2 <;> cases hb2
    · obtain rfl : i = k := by simpa using hi
      rw [u1, hIk] at hb2
      simp only [blkOf] at hb2
      split at hb2
      · cases hb2
      · injection hb2 with hb2
        subst hb2
        exact ⟨rfl, (e8 (by omega)).2.1⟩
  refine hK _ I' M w' (.mb hIk (by omega) (fun h => (e8 h).1)) ?_ (hext.wide fun b' _ h => ⟨k0, by simp [keys], hblk0 b' h⟩) (fun i hi => ?_) (fun i hi b2 hb2 => ?_)
  · refine hs.upd [k0, k] hext (fun b' h => ⟨k0, by simp, hblk0 b' h⟩) (fun i hi => by have h0 : i ≠ k := (fun h => hi (by simp [h])); simp [I', h0]) (fun i hi => updS_other _ _ _ (by simpa [keys] using hi)) (fun i hi => ?_) (fun i hi b2 hb2 => ?_) (fun i hi j hj b2 hne h3 h4 => ?_) e6
    · rcases List.mem_cons.1 hi with rfl | hi
      · rw [u0]; trivial
      · obtain rfl : i = k := by simpa using hi
        rw [u1, hIk]
        exact ⟨b', C', rfl, by rw [List.length_append]; exact e7, fun h => (e8 h).2.2⟩
    · rcases (hbk i hi b2 hb2).2 with q | q
      · exact .inl q
      · exact .inr ⟨k0, by simp, hblk0 _ q⟩
    · exact hne ((hbk i hi b2 h3).1.trans (hbk j hj b2 h4).1.symm)
  · have : i ≠ k := fun h => hi (by simp [keys, h])
    simp [I', this]
  · rcases (hbk i (by simpa [keys] using hi) b2 hb2).2 with q | q
    · exact .inl q
    · exact .inr ⟨k0, by simp [keys], hblk0 _ q⟩
theorem OpP.dataM {x : Operand} {t : TypeId} {k lo n : Nat} (ho : o.op = .call { callee := .builtin .unsafeSliceData, args := #[x], argTypes := #[t] }) (hx : ρ x = .mb k lo (some n)) (hn : 0 < n) : OpP P o ρ (.mb k lo none) := by
  intro I M w a hop
  have q1 := hop x (by simp [ho, Op.operands, Call.operands])
  rw [hx] at q1
  obtain ⟨A, b, C, e1, hI, hnC, hA⟩ := q1.mbD
  obtain rfl := hA (by omega)
  refine ⟨_, ?_, .mbp hI (fun _ => rfl)⟩
  have := Lib.run_unsafeSliceData_row (P := P) w #[t] o.type ⟨b, lo, none⟩ n (C - lo) (by omega)
  simp [execOp, ho, e1, resolve, invoke, builtin, this]
theorem OpP.dataNil {x : Operand} {t : TypeId} (ho : o.op = .call { callee := .builtin .unsafeSliceData, args := #[x], argTypes := #[t] }) (hx : ρ x = .v (.slice none 0 0)) : OpP P o ρ (.v (.pointer none)) := by
  intro I M w a hop
  have q1 := hop x (by simp [ho, Op.operands, Call.operands])
  rw [hx] at q1
  refine ⟨_, ?_, .v _⟩
  have := Lib.run_unsafeSliceData_nil (P := P) w #[t] o.type 0 0
  simp [execOp, ho, q1.val, resolve, invoke, builtin, this]
theorem OpP.strNil {x y : Operand} {t u : TypeId} (ho : o.op = .call { callee := .builtin .unsafeString, args := #[x, y], argTypes := #[t, u] }) (hx : ρ x = .v (.pointer none)) (hy : ρ y = .v (.int .i64 0)) : OpP P o ρ (.v (.string (bs []))) := by
  intro I M w a hop
  have q1 := hop x (by simp [ho, Op.operands, Call.operands])
  have q2 := hop y (by simp [ho, Op.operands, Call.operands])
  rw [hx] at q1
  rw [hy] at q2
  refine ⟨.string .empty, ?_, .v _⟩
  have := Lib.run_unsafeString_none (P := P) w t u o.type none
  simp [execOp, ho, q1.val, q2.val, resolve, invoke, builtin, this]
theorem heap_freeze (w : World) (g n : Nat) : (∀ b, b ≠ g → (w.freeze ⟨g, 0, none⟩ n).heap[b]? = w.heap[b]?) ∧ (w.freeze ⟨g, 0, none⟩ n).heap.size = w.heap.size ∧ (w.freeze ⟨g, 0, none⟩ n).os = w.os ∧ (w.freeze ⟨g, 0, none⟩ n).tape = w.tape ∧ (w.freeze ⟨g, 0, none⟩ n).output = w.output := by
  unfold World.freeze
  split
  · exact ⟨fun _ _ => rfl, rfl, rfl, rfl, rfl⟩
  · refine ⟨fun b hb => ?_, by simp, rfl, rfl, rfl⟩
    simp only [Array.getElem?_modify]
    rw [if_neg (fun h => hb h.symm)]
theorem ety_freeze (w : World) (g n : Nat) : ∀ b T, ety w b = some T → ety (w.freeze ⟨g, 0, none⟩ n) b = some T := by
  intro b T hT
  unfold World.freeze
  split
  · exact hT
  · simp only [ety, Array.getElem?_modify]
    by_cases hb : g = b
    · subst hb
      rw [if_pos Z]
      rw [ety] at hT
      cases ho : w.heap[g]? with
      | none => rw [ho] at hT; cases hT
      | some o =>
        rw [ho] at hT
        cases o <;> first | exact hT | cases hT
    · rw [if_neg hb]
      exact hT
theorem OpS.strM {x y : Operand} {t u : TypeId} {k : Nat} {l : List UInt8} {n : Int} {z : Value} {bytes : Nat} [Und P t (.pointer u8T)] [TyI P u8T z 1 bytes] (ho : o.op = .call { callee := .builtin .unsafeString, args := #[x, y], argTypes := #[t, u] }) (hx : ρ x = .mb k 0 none) (hy : ρ y = .v (.int .i64 n)) (hn : n = (l.length : Int)) (h0 : 0 < l.length) (h63 : l.length ≤ maxLen) :
    OpS P o ρ [(k, .mby l)] (.v (.string (bs l))) [(k, .no)] := by
  intro I M w a σ K Q hop hs hi _ hK
  subst hn
  have q1 := hop x (by simp [ho, Op.operands, Call.operands])
  have q2 := hop y (by simp [ho, Op.operands, Call.operands])
  rw [hx] at q1; rw [hy] at q2
  have hσk : σ k = .mby l := hi _ (List.mem_singleton.2 Z)
  have own := hs.own k
  rw [hσk] at own
  obtain ⟨A, b, C, eq0, e1, hA⟩ := q1.mbpD
  obtain ⟨o1, o2⟩ := own.mbC e1
  obtain ⟨cur, fz, e2, e3, e4, e5, e6⟩ := o2 (by omega)
  obtain rfl := hA (by omega)
  have hbk : blkOf (I k) (σ k) = some b := by
    rw [e1, hσk]
    simp only [blkOf]
    rw [if_neg (by omega)]
  have hco : P.cellsOf u8T = 1 := by
    obtain ⟨i, h1, _, h3, _⟩ := run_typeInfo (P := P) (t := u8T) w
    simp [Program.cellsOf, h1, h3]
  have hne : l ≠ [] := by rintro rfl; simp at h0
  have hrun := Lib.run_unsafeString_row (P := P) w t u o.type u8T Und.und hco b cur.size (by simp [World.shape?, e2]) l hne (by omega) (by simpa [maxLen] using h63) (fun j x hj => by
    rw [Addr.add_lit, Nat.zero_add, cell_of_row w b _ cur _ fz e2]
    exact e6 j x hj)
  obtain ⟨f1, f2, f3, f4, f5⟩ := heap_freeze w b l.length
  have hext : Ext (fun b' => b' = b) I I M M w (w.freeze ⟨b, 0, none⟩ l.length) := ⟨f3, f4, f5, fun _ => CI.le_refl _, ⟨by omega, fun _ => Nat.le_refl _, fun b' o' v ho' hv => by
      have hne : b' ≠ b := by rintro rfl; omega
      rw [World.cell?_of_block (f1 b' hne)]; exact hv, ety_freeze w b l.length⟩, fun b' _ hne => ⟨f1 b' hne, rfl⟩⟩
  have hbs : bs l = ⟨l.toArray⟩ := rfl
  unfold Oper.wp execOp
  simp only [ho, resolve, invoke, builtin, Sem.run_bind, Sem.run_pure, Result.andThen_ok, List.map_toArray, List.map_cons, List.map_nil, eq0, q2.val, hrun]
  have hno : ∀ b', blkOf (I k) .no = some b' → False := by
    intro b' h
    rw [e1] at h
    cases h
  refine hK _ I M _ (by rw [← hbs]; exact .v _) ?_ (hext.wide fun b' _ h => ⟨k, by simp [keys], by rw [hbk, h]⟩) (fun _ _ => rfl) (fun i hi' b' hb' => ?_)
  · refine hs.upd [k] hext (fun b' h => ⟨k, by simp, by rw [hbk, h]⟩) (fun _ _ => rfl) (fun i hi => updS_other _ _ _ (by simpa [keys] using hi)) (fun i hi' => ?_) (fun i hi' b' hb' => ?_) (fun i hi j hj b hne => ?_) (fun b hb => hs.top b (by omega))
    · obtain rfl : i = k := by simpa using hi'
      simp only [updS, if_true]
      trivial
    · obtain rfl : i = k := by simpa using hi'
      simp only [updS, if_true] at hb'
      exact (hno b' hb').elim
    · obtain rfl : i = k := by simpa using hi
      obtain rfl : j = i := by simpa using hj
      exact absurd Z hne
  · obtain rfl : i = k := by simpa [keys] using hi'
    simp only [updS, if_true] at hb'
    exact (hno b' hb').elim
end
inductive SrcM (P : Program) (av : AV) (σ : List Res) : List UInt8 → Upds → Prop
  | str {ys : List UInt8} (h : av = .v (.string (bs ys))) : SrcM P av σ ys []
  | mb {k lo n : Nat} {l r : List UInt8} (h : av = .mb k lo (some n)) (hk : sto σ k = .mby l) (hr : (l.drop lo).take n = r) (hn : lo + n ≤ l.length) : SrcM P av σ r [(k, .mby l)]
  | sl {ys : List UInt8} {xs : List (List PV)} {f : Bool} (h : av = .sl 1 xs f) (hx : xs = bsP ys) : SrcM P av σ ys []
theorem SrcM.spec {P : Program} {av : AV} {σ : List Res} {ys : List UInt8} {ins : Upds} (h : SrcM P av σ ys ins) : Src P av 1 (bsP ys) ins ∧ ∀ q ∈ ins, sto σ q.1 = q.2 := by
  cases h with
  | str h => exact ⟨Src.str h, ins_nil⟩
  | mb h hk hr hn => exact ⟨Src.mb h hr hn, one_in hk⟩
  | sl h hx => subst h hx; exact ⟨Src.dat (σ0 := sto σ) Dat.sl, ins_nil⟩
section
variable {P : Program} {n : Nat} {ops : List Oper} {chk : List FP → Bool} {K : State → Prop} {rest : List Oper} {o : Oper} {fr : Fr} {σ : List Res} {acc : List FP}
theorem Run.usM {d k : Nat} {x y : Operand} {t u : TypeId} {l : List UInt8} {m : Int} {z : Value} {bytes : Nat} {σ' : List Res} [Und P t (.pointer u8T)] [TyI P u8T z 1 bytes] (ho : o.dst = some d) (hop : o.op = .call { callee := .builtin .unsafeString, args := #[x, y], argTypes := #[t, u] }) (hw : wantA ops fr o = some true) (hd : Nat.blt d n = true) (hx : evA fr x = .mb k 0 none) (hy : evA fr y = .v (.int .i64 m)) (hk : sto σ k = .mby l) (hm : m = (l.length : Int)) (h0 : 0 < l.length) (h63 : l.length ≤ maxLen) (hσ : PutAt σ k .no σ')
    (hr : Run P n ops chk K rest ⟨(d, .v (.string (Go.Proofs.YtpacgphnpalepaaDoor.bs l))) :: fr, σ'⟩ (acc ++ [([k], [k])])) : Run P n ops chk K (o :: rest) ⟨fr, σ⟩ acc :=
  .op (ins := [(k, .mby l)]) hw (by rw [ho]; exact hd) (OpS.strM hop hx hy hm h0 h63) (one_in hk) (okU_one hσ).1 (fun k' hk' => .inl (by
      obtain rfl : k' = k := by simpa [keys] using hk'
      simp [keys])) (by rw [ho, (okU_one hσ).2]; exact hr)
theorem Run.apME {d k m bytes : Nat} {s x : Operand} {t tx : TypeId} {dx : TypeDesc} {z : Value} {ys : List UInt8} {insx : Upds} {ks : List Nat} {σ' : List Res} [Und P t (.slice u8T)] [Und P tx dx] [TyI P u8T z 1 bytes] (ho : o.dst = some d) (hop : o.op = .call { callee := .builtin .append, args := #[s, x], argTypes := #[t, tx] }) (hw : wantA ops fr o = some true) (hd : Nat.blt d n = true)
    (hsv : evA fr s = .sl 1 [] true ∨ evA fr s = .v (.slice none 0 0)) (hxi : SrcM P (evA fr x) σ ys insx) (hdx : (∃ e', dx = .slice e') ∨ dx = .string) (hzs : z.cells.size = 1) (he : Ends σ k) (hki : (keys insx).all (fun j => Nat.blt j k) = true) (hσ : PutAt σ k (.mby ys) σ') (hks : keys insx = ks) (hm : ys.length = m) (hb : m * bytes ≤ 140737488355328) (h63 : m ≤ maxLen)
    (hr : Run P n ops chk K rest ⟨(d, .mb k 0 (some m)) :: fr, σ'⟩ (acc ++ [(ks, [k])])) : Run P n ops chk K (o :: rest) ⟨fr, σ⟩ acc := by
  obtain ⟨hx, hi⟩ := hxi.spec
  exact .op (ins := insx) (outs := [(k, .mby ys)]) (v := .mb k 0 (some m)) hw (by rw [ho]; exact hd) (OpS.appME k hop hzs hsv (SrcG.of hdx hzs hx) hm (fun hk => by
      have := (List.all_eq_true.1 hki) k hk
      rw [Nat.blt_eq] at this; omega) hb h63) hi (okU_one hσ).1 (fun k' hk' => .inr (by
      obtain rfl : k' = k := by simpa [keys] using hk'
      exact Nat.le_of_eq he.spec.symm)) (by rw [ho, (okU_one hσ).2, hks]; exact hr)
theorem Run.apMM {d k k0 m m0 bytes : Nat} {s x : Operand} {t tx : TypeId} {dx : TypeDesc} {z : Value} {l ys zs : List UInt8} {insx : Upds} {ks : List Nat} {σ' : List Res} [Und P t (.slice u8T)] [Und P tx dx] [TyI P u8T z 1 bytes] (ho : o.dst = some d) (hop : o.op = .call { callee := .builtin .append, args := #[s, x], argTypes := #[t, tx] }) (hw : wantA ops fr o = some true) (hd : Nat.blt d n = true)
    (hsv : evA fr s = .mb k0 0 (some m0)) (hk0 : sto σ k0 = .mby l) (hxi : SrcM P (evA fr x) σ ys insx) (hdx : (∃ e', dx = .slice e') ∨ dx = .string) (hzs : z.cells.size = 1) (he : Ends σ k) (hkk : Nat.blt k0 k = true) (hki : (keys insx).all (fun j => Nat.blt j k) = true) (hzz : l ++ ys = zs) (hok : okU σ.length [(k0, .no), (k, .mby zs)] = true) (hσ : Puts σ [(k0, .no), (k, .mby zs)] σ') (hks : keys insx = ks) (hm0 : m0 = l.length) (hm : m0 + ys.length = m) (hb : m * bytes ≤ 140737488355328) (h63 : m ≤ maxLen)
    (hr : Run P n ops chk K rest ⟨(d, .mb k 0 (some m)) :: fr, σ'⟩ (acc ++ [(k0 :: ks, [k0, k])])) : Run P n ops chk K (o :: rest) ⟨fr, σ⟩ acc := by
  obtain ⟨hx, hi⟩ := hxi.spec
  subst hzz
  have hlt : k0 < k := by rw [Nat.blt_eq] at hkk; exact hkk
  refine .op (ins := (k0, .mby l) :: insx) (outs := [(k0, .no), (k, .mby (l ++ ys))]) (v := .mb k 0 (some m)) hw (by rw [ho]; exact hd) (OpS.appMM k0 k hop hzs hsv hm0 (SrcG.of hdx hzs hx) hm (fun hk => by
      have := (List.all_eq_true.1 hki) k hk
      rw [Nat.blt_eq] at this; omega) (by omega) hb h63) (ins_cons hk0 hi) hok (fun k' hk' => ?_) ?_
  · rcases List.mem_cons.1 hk' with rfl | hk'
    · exact .inl (by simp [keys])
    · obtain rfl : k' = k := by simpa [keys] using hk'
      exact .inr (Nat.le_of_eq he.spec.symm)
  · rw [ho, hσ.spec]
    have : keys ((k0, Res.mby l) :: insx) = k0 :: ks := by rw [← hks]; rfl
    rw [this]
    exact hr
end
end Go.Proofs.YtpacgphnpalepaaDoor
