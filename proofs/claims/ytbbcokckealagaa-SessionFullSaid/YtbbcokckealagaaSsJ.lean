/-
  Chapter 41, plain: in a session in the order of its streams the place of a stream is the same by halving and by looking at all; so a record leaves the same session of both.
-/
import Derived.Test.YtbbcokckealagaaSsI
import Derived.Test.YtbbcokckealagaaChP
namespace Go.Proofs.Ytbbcokckealagaa
set_option linter.unusedVariables false
set_option linter.unusedSimpArgs false
def Asc (l : List Kp) : Prop := l.Pairwise fun a b => a.id < b.id
theorem Asc.get {l : List Kp} (h : Asc l) : ∀ (i j : Nat) (hi : i < l.length) (hj : j < l.length), i < j → l[i].id < l[j].id := fun i j hi hj hij => List.pairwise_iff_getElem.1 h i j hi hj hij
structure Plc (l : List Kp) (id : Int) (R : Nat) : Prop where
  le : R ≤ l.length
  lo : ∀ m (h : m < l.length), m < R → l[m].id < id
  hi : ∀ m (h : m < l.length), R ≤ m → ¬ l[m].id < id
theorem Plc.eq {l : List Kp} {id : Int} {R S : Nat} (h : Plc l id R) (k : Plc l id S) : R = S := by
  rcases Nat.lt_trichotomy R S with q | q | q
  · have h1 : R < l.length := by have := k.le; omega
    exact absurd (k.lo R h1 q) (h.hi R h1 (Nat.le_refl _))
  · exact q
  · have h1 : S < l.length := by have := h.le; omega
    exact absurd (h.lo S h1 q) (k.hi S h1 (Nat.le_refl _))
theorem ins_plc {l : List Kp} (h : Asc l) (id : Int) : Plc l id (insI l id) := by
  refine ⟨ins_le l id, fun m hm hlt => ins_lt l id m hm hlt, fun m hm hge => ?_⟩
  have h1 : insI l id < l.length := by omega
  have h2 := ins_at l id h1
  rcases Nat.lt_or_ge (insI l id) m with q | q
  · have := h.get _ _ h1 hm q
    omega
  · have e : insI l id = m := by omega
    subst e
    exact h2
theorem bs_plc {l : List Kp} (h : Asc l) (id : Int) : ∀ i j, i ≤ j → j ≤ l.length → (∀ m (hm : m < l.length), m < i → l[m].id < id) → (∀ m (hm : m < l.length), j ≤ m → ¬ l[m].id < id) → Plc l id (bsW l id i j) := by
  intro i j
  fun_induction bsW l id i j with
  | case1 i j hij h2 ih =>
    intro _ hj hlo hhi
    have hm : (i + j) / 2 < l.length := by omega
    have hg : l.getD ((i + j) / 2) kp0 = l[(i + j) / 2] := by simp [hm]
    rw [hg] at h2
    refine ih (by omega) hj (fun m hm' hlt => ?_) hhi
    rcases Nat.lt_or_ge m ((i + j) / 2) with q | q
    · have := h.get m _ hm' hm q
      omega
    · have e : m = (i + j) / 2 := by omega
      subst e
      exact h2
  | case2 i j hij h2 ih =>
    intro _ hj hlo hhi
    have hm : (i + j) / 2 < l.length := by omega
    have hg : l.getD ((i + j) / 2) kp0 = l[(i + j) / 2] := by simp [hm]
    rw [hg] at h2
    refine ih (by omega) (by omega) hlo (fun m hm' hge => ?_)
    rcases Nat.lt_or_ge ((i + j) / 2) m with q | q
    · have := h.get _ m hm hm' q
      omega
    · have e : m = (i + j) / 2 := by omega
      subst e
      exact h2
  | case3 i j hij =>
    intro h0 hj hlo hhi
    have e : i = j := by omega
    subst e
    exact ⟨hj, hlo, hhi⟩
theorem bs_ins {l : List Kp} (h : Asc l) (id : Int) : bsW l id 0 l.length = insI l id :=
  (bs_plc h id 0 l.length (Nat.zero_le _) (Nat.le_refl _) (fun m _ hm => absurd hm (Nat.not_lt_zero _)) (fun m hm hge => by omega)).eq (ins_plc h id)
theorem place_none (id : Int) : ∀ (l : List Kp) (n : Nat), (∀ k ∈ l, k.id ≠ id) → placeGo id l n = -1
  | [], _, _ => rfl
  | k :: t, n, h => by
    rw [placeGo, if_neg (h k (List.mem_cons_self ..))]
    exact place_none id t _ fun x hx => h x (List.mem_cons_of_mem _ hx)
theorem place_eq (id : Int) : ∀ (l : List Kp) (n : Nat), Asc l → placeGo id l n = if hasW l id (insI l id) = true then ((n + insI l id : Nat) : Int) else -1
  | [], n, _ => by simp [placeGo, hasW]
  | k :: t, n, h => by
    have h' : Asc t := (List.pairwise_cons.1 h).2
    have hk := (List.pairwise_cons.1 h).1
    rw [placeGo]
    by_cases e : k.id = id
    · have e0 : insI (k :: t) id = 0 := by simp [insI, List.takeWhile_cons, e]
      rw [if_pos e, e0]
      simp [hasW, e]
    · rw [if_neg e]
      by_cases q : k.id < id
      · have e1 : insI (k :: t) id = insI t id + 1 := by simp [insI, List.takeWhile_cons, q]
        rw [place_eq id t (n + 1) h', e1]
        have e2 : hasW (k :: t) id (insI t id + 1) = hasW t id (insI t id) := by simp [hasW]
        rw [e2]
        split
        · congr 1; omega
        · rfl
      · have e0 : insI (k :: t) id = 0 := by simp [insI, List.takeWhile_cons, q]
        rw [e0, place_none id t (n + 1) (fun x hx => by have := hk x hx; omega)]
        simp [hasW, e]
theorem step_eq (s : Se) (r : Rc) (h : Asc s.streams) : stepP s r (bsW s.streams r.id 0 s.streams.length) (hasW s.streams r.id (bsW s.streams r.id 0 s.streams.length)) = rstepP s r (placeGo r.id s.streams 0) := by
  rw [bs_ins h, place_eq _ _ _ h, stepP, rstepP, rem_eq]
  generalize insI s.streams r.id = T
  generalize hasW s.streams r.id T = H
  have a1 : (0 : Int) ≤ ((0 + T : Nat) : Int) := by omega
  have a2 : ¬ ((0 + T : Nat) : Int) < 0 := by omega
  have a3 : ((0 + T : Nat) : Int).toNat = T := by omega
  cases H with
  | true => rw [if_pos rfl, if_pos rfl, if_pos a1, if_neg (show ¬ true = false by decide), if_neg a2, a3]
  | false => rw [if_neg (show ¬ false = true by decide), if_neg (show ¬ false = true by decide), if_neg (show ¬ (0 : Int) ≤ -1 by decide), if_pos rfl, if_pos (show (-1 : Int) < 0 by decide)]
theorem apply_eq (okT : List UInt8 → Bool) (s : Se) (r : Rc) (h : Asc s.streams) : applyP okT s r = rapplyP okT s r := by
  rw [applyP, rapplyP, step_eq s r h]
end Go.Proofs.Ytbbcokckealagaa
