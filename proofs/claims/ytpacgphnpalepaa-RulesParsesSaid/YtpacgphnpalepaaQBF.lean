/-
  Plain facts about the two readers of rules: they read the same conditions.
-/
import Derived.Test.YtpacgphnpalepaaQBE
import Derived.Test.YtpacgphnpalepaaQAP
import Derived.Test.YtpacgphnpalepaaQAA
import Derived.Test.YtpacgphnpalepaaQBD
import Derived.Test.YtpacgphnpalepaaQAM
import Derived.Laws.StructEq
import Derived.KernelRfl
namespace Go.Proofs.Ytpacgphnpalepaa
set_option linter.unusedVariables false
set_option linter.unusedSimpArgs false
def Rel (l : List Wd) (o : RS) (q : Rq) : Prop := (o = none ∧ q.bad = true) ∨ (q.bad = false ∧ q.pos ≤ l.length ∧ o = some (l.drop q.pos, q.ts))
theorem isP_q {x : Wd} {l : List Wd} {s : Rq} (h : s.bad = false) : isP x (l.drop s.pos) = qIs x l s := by simp [isP, qIs, h, List.head?_drop]
theorem qRest_bad {elem : Rq → Rq} {x : Wd} {k : Int} {l : List Wd} {f : Nat} {s : Rq} (h : s.bad = true) : qRest elem x k l f s = s := by
  cases f with
  | zero => rfl
  | succ f => rw [qRest, if_neg (by simp [qIs, h])]
theorem rest_rel {l : List Wd} {eF : List Wd → List Tm → RS} {eQ : Rq → Rq} {N : Nat} (hE : ∀ s : Rq, s.bad = false → s.pos ≤ l.length → l.length - s.pos ≤ N → Rel l (eF (l.drop s.pos) s.ts) (eQ s)) (hv : ∀ s : Rq, s.pos ≤ l.length → Qv l s (eQ s)) (x : Wd) (k : Int) :
    ∀ (f : Nat) (s : Rq), s.bad = false → s.pos ≤ l.length → l.length - s.pos ≤ N → Rel l (restF eF x k f (l.drop s.pos) s.ts) (qRest eQ x k l f s)
  | 0, s, h1, h2, _ => .inr ⟨h1, h2, rfl⟩
  | f + 1, s, h1, h2, h3 => by
    rw [restF, qRest, isP_q h1]
    cases hx : qIs x l s with
    | false => exact .inr ⟨h1, h2, rfl⟩
    | true =>
      rw [if_pos Z, if_pos Z, List.tail_drop]
      have hlt := qIs_lt hx
      have hw := hv s.adv hlt
      have hl := hw.le
      rcases hE s.adv h1 hlt (by simp only [Rq.adv]; omega) with ⟨e1, e2⟩ | ⟨e1, e2, e3⟩
      · simp only [Rq.adv] at e1
        rw [e1]
        exact .inl ⟨rfl, by rw [qRest_bad (show ((eQ s.adv).app k).bad = true from e2)]; exact e2⟩
      · simp only [Rq.adv] at e3
        rw [e3]
        exact rest_rel hE hv x k f ((eQ s.adv).app k) e1 e2 (by simp only [Rq.adv] at hl; simp only [Rq.app]; simp only [Rq.adv]; omega)
theorem join_rel {l : List Wd} {eF : List Wd → List Tm → RS} {eQ : Rq → Rq} {N : Nat} (hE : ∀ s : Rq, s.bad = false → s.pos ≤ l.length → l.length - s.pos ≤ N → Rel l (eF (l.drop s.pos) s.ts) (eQ s)) (hv : ∀ s : Rq, s.pos ≤ l.length → Qv l s (eQ s)) (x : Wd) (k : Int)
    (s : Rq) (h1 : s.bad = false) (h2 : s.pos ≤ l.length) (h3 : l.length - s.pos ≤ N) : Rel l (joinF eF x k (l.drop s.pos) s.ts) (qJoin eQ x k l s) := by
  rw [joinF, qJoin]
  have hl := (hv s h2).le
  rcases hE s h1 h2 h3 with ⟨e1, e2⟩ | ⟨e1, e2, e3⟩
  · rw [e1]
    exact .inl ⟨rfl, by rw [qRest_bad e2]; exact e2⟩
  · rw [e3]
    simp only [List.length_drop]
    exact rest_rel hE hv x k _ (eQ s) e1 e2 (by omega)
theorem named_rel {l : List Wd} (kind : Int) (s : Rq) (h1 : s.bad = false) : Rel l (nameT kind s.ts (l.drop s.pos)) (qNamed kind l s) := by
  cases hx : l[s.pos]? with
  | none =>
    rw [List.drop_eq_nil_of_le (List.getElem?_eq_none_iff.1 hx), nameT]
    exact .inl ⟨rfl, by simp [qNamed, hx, Rq.fail]⟩
  | some y =>
    have hlt := (List.getElem?_eq_some_iff.1 hx).1
    have hy := (List.getElem?_eq_some_iff.1 hx).2
    rw [List.drop_eq_getElem_cons hlt, hy, nameT]
    cases hn : nameB y with
    | true => exact .inr ⟨by simp [qNamed, hx, hn, h1], by simp [qNamed, hx, hn]; omega, by simp [qNamed, hx, hn]⟩
    | false => exact .inl ⟨by simp, by simp [qNamed, hx, hn, Rq.fail]⟩
theorem part_rel (l : List Wd) : ∀ (n m : Nat) (s : Rq), s.bad = false → s.pos ≤ l.length → l.length - s.pos ≤ n → l.length - s.pos ≤ m → Rel l (partF n (l.drop s.pos) s.ts) (qPart l m s) := by
  intro n
  induction n with
  | zero =>
    intro m s h1 h2 h3 h4
    refine .inl ⟨rfl, ?_⟩
    have he : l.length ≤ s.pos := by omega
    cases m with
    | zero => rfl
    | succ m => simp [qPart, qIs_end he, Rq.fail]
  | succ n ih =>
    intro m s h1 h2 h3 h4
    rcases Nat.lt_or_ge s.pos l.length with hlt | he
    · obtain ⟨m, rfl⟩ : ∃ m', m = m' + 1 := ⟨m - 1, by omega⟩
      have hq : ∀ w, qIs w l s = decide (l[s.pos] = w) := fun w => by simp [qIs, h1, List.getElem?_eq_getElem hlt]
      have hrec : ∀ s' : Rq, s'.bad = false → s'.pos ≤ l.length → l.length - s'.pos ≤ l.length - (s.pos + 1) → Rel l (partF n (l.drop s'.pos) s'.ts) (qPart l m s') := fun s' a b c => ih m s' a b (by omega) (by omega)
      rw [List.drop_eq_getElem_cons hlt, partF, qPart, hq, hq, hq, hq]
      generalize l[s.pos] = x
      by_cases k1 : x = wActive
      · simp only [k1, decide_true, if_true]
        exact named_rel 1 s.adv h1
      simp only [k1, decide_false, if_false, Bool.false_eq_true]
      by_cases k2 : x = wPresent
      · simp only [k2, decide_true, if_true]
        exact named_rel 2 s.adv h1
      simp only [k2, decide_false, if_false, Bool.false_eq_true]
      by_cases k3 : x = wNot
      · simp only [k3, decide_true, if_true]
        rcases hrec s.adv h1 hlt (Nat.le_refl _) with ⟨e1, e2⟩ | ⟨e1, e2, e3⟩
        · simp only [Rq.adv] at e1
          rw [e1]
          exact .inl ⟨rfl, e2⟩
        · simp only [Rq.adv] at e3
          rw [e3]
          exact .inr ⟨e1, e2, rfl⟩
      simp only [k3, decide_false, if_false, Bool.false_eq_true]
      by_cases k4 : x = wOpen
      · simp only [k4, decide_true, if_true]
        have hj : Rel l (condF (partF n) (l.drop s.adv.pos) s.adv.ts) (qEither (qPart l m) l s.adv) :=
          join_rel (N := l.length - (s.pos + 1)) (fun s h1 h2 h3 => join_rel hrec (qPart_v l m) wAnd 4 s h1 h2 h3) (qJoin_v (qPart_v l m) wAnd 4) wOr 5 s.adv h1 hlt (Nat.le_refl _)
        generalize qEither (qPart l m) l s.adv = q at hj ⊢
        rcases hj with ⟨e1, e2⟩ | ⟨e1, e2, e3⟩
        · simp only [Rq.adv] at e1
          rw [e1]
          refine .inl ⟨rfl, ?_⟩
          split
          · exact e2
          · rfl
        · simp only [Rq.adv] at e3
          rw [e3]
          simp only
          rw [isP_q e1]
          cases hx : qIs wClose l q with
          | true =>
            simp only [if_true]
            refine .inr ⟨e1, qIs_lt hx, ?_⟩
            simp only [List.tail_drop]
            rfl
          | false => exact .inl ⟨rfl, rfl⟩
      · simp only [k4, decide_false, if_false, Bool.false_eq_true]
        exact .inl ⟨rfl, rfl⟩
    · rw [List.drop_eq_nil_of_le he, partF]
      refine .inl ⟨rfl, ?_⟩
      cases m with
      | zero => rfl
      | succ m => simp [qPart, qIs_end he, Rq.fail]
theorem foldN_one {c : List Tm} {k : Int} {y : Wd} (hk : k = 1 ∨ k = 2) (hy : nameB y = true) (d : Nat) : foldN d [(k, y)] = some (d + 1) := by
  have ha : arityF k = 0 := by rcases hk with rfl | rfl <;> rfl
  simp [foldN, badT, ha, hy]
theorem foldN_two {k : Int} (hk : k = 4 ∨ k = 5) (d : Nat) : foldN (d + 2) [(k, [])] = some (d + 1) := by
  have ha : arityF k = 2 := by rcases hk with rfl | rfl <;> rfl
  have hb : ¬ badT (d + 2) (k, []) = true := by simp only [badT, ha]; simp; omega
  rw [foldN, if_neg hb, ha]
  simp only [foldN]
  congr 1
theorem foldN_not (d : Nat) : foldN (d + 1) [((3 : Int), [])] = some (d + 1) := by
  have ha : arityF 3 = 1 := rfl
  have hb : ¬ badT (d + 1) ((3 : Int), []) = true := by simp only [badT, ha]; simp; omega
  rw [foldN, if_neg hb, ha]
  simp only [foldN]
  congr 1
def Adds (o : RS) (ts : List Tm) : Prop := ∀ p, o = some p → ∃ c, p.2 = ts ++ c ∧ ∀ d, foldN d c = some (d + 1)
theorem rest_adds {eF : List Wd → List Tm → RS} (hE : ∀ ws ts, Adds (eF ws ts) ts) (x : Wd) {k : Int} (hk : k = 4 ∨ k = 5) : ∀ (f : Nat) (ws : List Wd) (ts : List Tm) (p : List Wd × List Tm), restF eF x k f ws ts = some p → ∃ c, p.2 = ts ++ c ∧ ∀ d, foldN (d + 1) c = some (d + 1)
  | 0, ws, ts, p, h => by
    obtain rfl := Option.some.inj h
    exact ⟨[], by simp, fun d => rfl⟩
  | f + 1, ws, ts, p, h => by
    rw [restF] at h
    split at h
    · cases he : eF ws.tail ts with
      | none => rw [he] at h; cases h
      | some q =>
        rw [he] at h
        obtain ⟨c, h1, h2⟩ := hE ws.tail ts q he
        obtain ⟨c', h3, h4⟩ := rest_adds hE x hk f q.1 (q.2 ++ [(k, [])]) p h
        refine ⟨c ++ [(k, [])] ++ c', by rw [h3, h1]; simp, fun d => ?_⟩
        rw [foldN_app, foldN_app, h2]
        simp only [Option.bind_some]
        rw [foldN_two hk]
        simp only [Option.bind_some]
        exact h4 d
    · obtain rfl := Option.some.inj h
      exact ⟨[], by simp, fun d => rfl⟩
theorem join_adds {eF : List Wd → List Tm → RS} (hE : ∀ ws ts, Adds (eF ws ts) ts) (x : Wd) {k : Int} (hk : k = 4 ∨ k = 5) (ws : List Wd) (ts : List Tm) : Adds (joinF eF x k ws ts) ts := by
  intro p h
  rw [joinF] at h
  cases he : eF ws ts with
  | none => rw [he] at h; cases h
  | some q =>
    rw [he] at h
    obtain ⟨c, h1, h2⟩ := hE ws ts q he
    obtain ⟨c', h3, h4⟩ := rest_adds hE x hk _ q.1 q.2 p h
    refine ⟨c ++ c', by rw [h3, h1, List.append_assoc], fun d => ?_⟩
    rw [foldN_app, h2]
    exact h4 d
theorem nameT_adds {k : Int} (hk : k = 1 ∨ k = 2) (ts : List Tm) (ws : List Wd) : Adds (nameT k ts ws) ts := by
  intro p h
  cases ws with
  | nil => cases h
  | cons y t =>
    rw [nameT] at h
    split at h
    · rename_i hy
      obtain rfl := Option.some.inj h
      exact ⟨[(k, y)], rfl, fun d => foldN_one (c := []) hk hy d⟩
    · cases h
theorem part_adds : ∀ (n : Nat) (ws : List Wd) (ts : List Tm), Adds (partF n ws ts) ts
  | 0, _, _ => fun p h => by cases h
  | _ + 1, [], _ => fun p h => by cases h
  | n + 1, x :: r, ts => by
    rw [partF]
    split
    · exact nameT_adds (.inl Z) ts r
    split
    · exact nameT_adds (.inr Z) ts r
    split
    · intro p h
      cases he : partF n r ts with
      | none => rw [he] at h; cases h
      | some q =>
        rw [he] at h
        obtain rfl := Option.some.inj h
        obtain ⟨c, h1, h2⟩ := part_adds n r ts q he
        refine ⟨c ++ [(3, [])], by simp only; rw [h1, List.append_assoc], fun d => ?_⟩
        rw [foldN_app, h2]
        exact foldN_not d
    split
    · intro p h
      cases he : condF (partF n) r ts with
      | none => rw [he] at h; cases h
      | some q =>
        rw [he] at h
        simp only at h
        split at h
        · obtain rfl := Option.some.inj h
          exact join_adds (join_adds (part_adds n) wAnd (.inl Z)) wOr (.inr Z) r ts q he
        · cases h
    · intro p h; cases h
theorem tail_eq (t : List Wd) : rCond t = tailF t := by
  rw [rCond, tailF]
  cases t with
  | nil => rfl
  | cons x r =>
    rw [if_neg (by simp), ← isP_q (l := x :: r) (s := ⟨0, false, []⟩) Z]
    simp only [List.drop_zero]
    cases hx : isP wWhen (x :: r) with
    | false => rw [if_neg (by decide), if_neg (by decide), if_neg (by simp)]
    | true =>
      rw [if_pos Z, if_pos Z, List.tail_cons]
      have hj : Rel (x :: r) (condF (partF r.length) r []) (qEither (qPart (x :: r) (x :: r).length) (x :: r) ⟨1, false, []⟩) :=
        join_rel (l := x :: r) (N := (x :: r).length - 1) (fun s h1 h2 h3 => join_rel (N := (x :: r).length - 1) (fun s h1 h2 h3 => part_rel (x :: r) r.length (x :: r).length s h1 h2 (by simp only [List.length_cons] at *; omega) (by omega)) (qPart_v _ _) wAnd 4 s h1 h2 h3) (qJoin_v (qPart_v _ _) wAnd 4) wOr 5 ⟨1, false, []⟩ Z (by simp) (Nat.le_refl _)
      generalize qEither (qPart (x :: r) (x :: r).length) (x :: r) ⟨1, false, []⟩ = q at hj ⊢
      rcases hj with ⟨e1, e2⟩ | ⟨e1, e2, e3⟩
      · rw [e1, if_pos (.inl e2)]
      · rw [e3]
        simp only
        by_cases hl : q.pos < (x :: r).length
        · rw [if_pos (.inr hl), if_neg (by rw [List.drop_eq_nil_iff]; omega)]
        · rw [if_neg (by simp only [e1]; simp only [Bool.false_eq_true, false_or]; exact hl), if_pos (by rw [List.drop_eq_nil_iff]; omega)]
theorem tail_prop {t : List Wd} {c : List Tm} (h : tailF t = some c) : c = [] ∨ foldN 0 c = some 1 := by
  rw [tailF] at h
  split at h
  · cases he : condF (partF t.tail.length) t.tail [] with
    | none => rw [he] at h; cases h
    | some p =>
      rw [he] at h
      simp only at h
      split at h
      · obtain rfl := Option.some.inj h
        obtain ⟨c, h1, h2⟩ := join_adds (join_adds (part_adds t.tail.length) wAnd (.inl Z)) wOr (.inr Z) t.tail [] p he
        rw [List.nil_append] at h1
        rw [h1]
        exact .inr (h2 0)
      · cases h
  · split at h
    · obtain rfl := Option.some.inj h
      exact .inl Z
    · cases h
def headOK (h : Hd) : Bool := nameB h.role && (if h.kind = 1 then nameB h.cls && decide (h.pct = 0)
     else if h.kind = 2 then (decide (h.cls = []) && decide (0 ≤ h.pct)) && decide (h.pct ≤ 100)
     else if h.kind = 3 then decide (h.cls = []) && decide (h.pct = 0) else false)
theorem valid_head (h : Hd) (c : List Tm) : validF ⟨h, c⟩ = (properF c && headOK h) := by
  rw [validF, headOK]
  cases properF c <;> cases nameB h.role <;> simp
theorem head_eq (ws : List Wd) : headF ws = (match rHead ws with | none => none | some y => if headOK y.1 = true then some (y.1, ws.drop y.2) else none) := by
  rcases ws with _ | ⟨x, r⟩
  · rfl
  by_cases h1 : x = wRoute
  · rcases r with _ | ⟨a, _ | ⟨b, t⟩⟩
    · simp [headF, rHead, h1]
    · simp [headF, rHead, h1]
    · cases ha : nameB a <;> cases hb : nameB b <;> simp [headF, rHead, h1, headOK, ha, hb]
  by_cases h2 : x = wDuck
  · rcases r with _ | ⟨a, _ | ⟨b, t⟩⟩
    · simp [headF, rHead, h2]
    · simp [headF, rHead, h2]
    · have e1 : headF (x :: a :: b :: t) = (if nameB a = true then if ((numberP b).2 ≠ 0 ∨ (numberP b).1 < 0) ∨ 100 < (numberP b).1 then none else some (⟨2, a, [], (numberP b).1⟩, t) else none) := by simp [headF, h2]
      have e2 : rHead (x :: a :: b :: t) = (if (numberP b).2 = 0 then some (⟨2, a, [], (numberP b).1⟩, 3) else none) := by simp [rHead, h2]
      rw [e1, e2]
      generalize numberP b = q
      by_cases hq : q.2 = 0
      · rw [if_pos hq]
        cases ha : nameB a with
        | false => simp [headOK, ha]
        | true =>
          by_cases hr : (q.2 ≠ 0 ∨ q.1 < 0) ∨ 100 < q.1
          · rw [if_pos Z, if_pos hr]
            have : headOK ⟨2, a, [], q.1⟩ = false := by
              simp [headOK, ha]
              omega
            simp [this]
          · rw [if_pos Z, if_neg hr]
            have : headOK ⟨2, a, [], q.1⟩ = true := by
              simp [headOK, ha]
              omega
            simp [this]
      · rw [if_neg hq]
        cases nameB a with
        | false => rfl
        | true => rw [if_pos Z, if_pos (.inl (.inl hq))]
  by_cases h3 : x = wMute
  · rcases r with _ | ⟨a, t⟩
    · simp [headF, rHead, h3]
    · cases ha : nameB a <;> simp [headF, rHead, h3, headOK, ha]
  · simp [headF, rHead, h1, h2, h3]
theorem rule_eq (ws : List Wd) : rRule ws = (match ruleF ws with | none => .inr 5 | some r => if 16 < r.cond.length then .inr 3 else .inl r) := by
  rw [rRule, ruleF, head_eq]
  cases rHead ws with
  | none => rfl
  | some y =>
    simp only
    rw [rTail, tail_eq]
    cases hok : headOK y.1 with
    | false =>
      rw [if_neg (by simp)]
      cases tailF (ws.drop y.2) with
      | none => rfl
      | some c => simp [valid_head, hok]
    | true =>
      rw [if_pos Z]
      simp only
      cases ht : tailF (ws.drop y.2) with
      | none => rfl
      | some c =>
        simp only
        have hp0 : properF [] = true := rfl
        by_cases h16 : 16 < c.length
        · rw [if_pos ⟨h16, by rw [valid_head, hok, hp0]; rfl⟩, if_pos h16]
        · rw [if_neg (by simp [h16]), if_neg h16, if_pos]
          rw [valid_head, hok, properF]
          rcases tail_prop ht with rfl | h
          · rfl
          · simp [foldNE, h16, h]
theorem line_eq (x : PX) (line : List UInt8) : rLineF x (trimSuf line [10]) = lineF x line := by
  rw [rLineF, lineF, rule_eq]
  generalize trimSuf line [10] = t
  split
  · rfl
  split
  · rfl
  cases ruleF (splitP t).1 with
  | none => rfl
  | some r =>
    simp only
    by_cases h16 : 16 < r.cond.length
    · rw [if_pos h16, if_pos (.inl h16)]
    · rw [if_neg h16]
      simp only
      by_cases h64 : 64 ≤ x.2.length
      · rw [if_pos h64, if_pos (.inr h64)]
      · rw [if_neg h64, if_neg (by omega)]
theorem foldS_map {X Y : Type} (F G : X → List UInt8 → X ⊕ Y) (g : List UInt8 → List UInt8) (h : ∀ x l, F x (g l) = G x l) : ∀ (ls : List (List UInt8)) (x : X), foldS F x (ls.map g) = foldS G x ls
  | [], x => rfl
  | l :: r, x => by
    rw [List.map_cons, foldS, foldS, h]
    cases G x l with
    | inl y => exact foldS_map F G g h r y
    | inr y => rfl
theorem rL_end : ∀ (a cur : List UInt8), (10 : UInt8) ∉ a → rLinesP cur a = if cur ++ a = [] then [] else [cur ++ a]
  | [], cur, _ => by rw [rLinesP, List.append_nil]
  | c :: t, cur, h => by
    have hc : ¬ c = 10 := fun e => h (by simp [e])
    rw [rLinesP, if_neg hc, rL_end t _ (fun e => h (List.mem_cons_of_mem _ e)), List.append_assoc]
    rfl
theorem rL_line : ∀ (a cur b : List UInt8), (10 : UInt8) ∉ a → rLinesP cur (a ++ 10 :: b) = (cur ++ a) :: rLinesP [] b
  | [], cur, b, _ => by rw [List.nil_append, rLinesP, if_pos Z, List.append_nil]
  | c :: t, cur, b, h => by
    have hc : ¬ c = 10 := fun e => h (by simp [e])
    rw [List.cons_append, rLinesP, if_neg hc, rL_line t _ b (fun e => h (List.mem_cons_of_mem _ e)), List.append_assoc]
    rfl
theorem idx10 : ∀ (s : List UInt8), (Lib.indexByte s 10 = -1 ∧ (10 : UInt8) ∉ s) ∨ ∃ a b, s = a ++ 10 :: b ∧ (10 : UInt8) ∉ a ∧ Lib.indexByte s 10 = a.length
  | [] => .inl ⟨rfl, by simp⟩
  | c :: t => by
    rw [Lib.indexByte]
    by_cases hc : c = 10
    · subst hc
      exact .inr ⟨[], t, rfl, by simp, by simp⟩
    · have hc' : ¬ (c == 10) = true := by simpa using hc
      rw [if_neg hc']
      rcases idx10 t with ⟨h1, h2⟩ | ⟨a, b, h1, h2, h3⟩
      · rw [h1]
        refine .inl ⟨rfl, ?_⟩
        rw [List.mem_cons]
        rintro (h | h)
        · exact hc h.symm
        · exact h2 h
      · rw [h3, if_neg (by simp)]
        refine .inr ⟨c :: a, b, by rw [h1]; rfl, ?_, by simp⟩
        rw [List.mem_cons]
        rintro (h | h)
        · exact hc h.symm
        · exact h2 h
theorem trim_line (a : List UInt8) : trimSuf (a ++ [10]) [10] = a := by
  have : hasSuf (a ++ [10]) [10] = true := by simp [hasSuf]
  rw [trimSuf, if_pos this]
  simp
theorem trim_last {s : List UInt8} (h : (10 : UInt8) ∉ s) : trimSuf s [10] = s := by
  rw [trimSuf]
  split
  · rename_i hs
    simp only [hasSuf, decide_eq_true_eq] at hs
    exact absurd (List.mem_of_mem_drop (by rw [hs.2]; simp)) h
  · rfl
theorem lines_eq : ∀ (n : Nat) (s : List UInt8), s.length ≤ n → rLinesP [] s = (linesG n s).map fun l => trimSuf l [10]
  | 0, s, h => by
    obtain rfl := List.eq_nil_of_length_eq_zero (Nat.le_zero.1 h)
    rfl
  | n + 1, s, h => by
    rw [linesG]
    by_cases h0 : s = []
    · rw [if_pos h0, h0]; rfl
    rw [if_neg h0, List.map_cons]
    rcases idx10 s with ⟨h1, h2⟩ | ⟨a, b, h1, h2, h3⟩
    · have hl : lineAt s = s.length := by rw [lineAt, h1]; rfl
      rw [rL_end s [] h2, List.nil_append, if_neg h0, hl, List.take_length, List.drop_length, trim_last h2, ← lines_eq n [] (Nat.zero_le _)]
      rfl
    · have hl : lineAt s = a.length + 1 := by rw [lineAt, h3, if_pos (by omega)]; omega
      have e1 : s.take (a.length + 1) = a ++ [10] := by
        rw [h1, show a ++ 10 :: b = (a ++ [10]) ++ b by simp]
        exact List.take_left' (by simp)
      have e2 : s.drop (a.length + 1) = b := by
        rw [h1, show a ++ 10 :: b = (a ++ [10]) ++ b by simp]
        exact List.drop_left' (by simp)
      have hb : b.length ≤ n := by
        have : s.length = a.length + (b.length + 1) := by rw [h1]; simp
        omega
      rw [hl, e1, e2, trim_line, ← lines_eq n b hb, h1, rL_line a [] b h2]
      rfl
theorem parse_eq (s : List UInt8) : rParseF s = parseF s := by
  rw [rParseF, parseF, lines_eq s.length s (Nat.le_refl _)]
  split
  · rfl
  · exact foldS_map rLineF lineF _ line_eq _ _
theorem rParse_p (s : List UInt8) (hs : s.length ≤ 1099511627776) : ACalls Try.prog 10 [.v (.string (bs s))] [] (parseE (parseF s)) [] := by
  rw [← parse_eq]
  exact rParse_c s hs
theorem lineF_cond {x : PX} {line : List UInt8} {x' : PX} (h : lineF x line = .inl x') (hx : ∀ r ∈ x.2, r.cond.length ≤ 16) : ∀ r ∈ x'.2, r.cond.length ≤ 16 := by
  rw [lineF] at h
  split at h
  · obtain rfl := Sum.inl.inj h
    exact hx
  split at h
  · cases h
  split at h
  · cases h
  split at h
  · cases h
  · obtain rfl := Sum.inl.inj h
    rename_i h1
    intro r hr
    rcases List.mem_append.1 hr with hr | hr
    · exact hx r hr
    · obtain rfl := List.mem_singleton.1 hr
      omega
theorem foldS_cond : ∀ (ls : List (List UInt8)) (x x' : PX), foldS lineF x ls = .inl x' → x.2.length ≤ 64 → (∀ r ∈ x.2, r.cond.length ≤ 16) → x'.2.length ≤ 64 ∧ ∀ r ∈ x'.2, r.cond.length ≤ 16
  | [], x, x', h, h1, h2 => by
    obtain rfl := Sum.inl.inj h
    exact ⟨h1, h2⟩
  | l :: r, x, x', h, h1, h2 => by
    rw [foldS] at h
    cases hf : lineF x l with
    | inl y =>
      rw [hf] at h
      exact foldS_cond r y x' h ((lineF_ok hf).2 h1) (lineF_cond hf h2)
    | inr y => rw [hf] at h; cases h
theorem parse_cond {s : List UInt8} {x : PX} (h : parseF s = .inl x) : x.2.length ≤ 64 ∧ ∀ r ∈ x.2, r.cond.length ≤ 16 := by
  rw [parseF] at h
  split at h
  · cases h
  · exact foldS_cond _ _ _ h (by simp) (by simp)
instance : NoIf Try.prog 44 := ⟨by kernel_rfl⟩
theorem eqTm (k k' : Int) (a b : List UInt8) (w : World) : (Op.equalIn 10000 44 (.agg #[.int .i64 k, .string (bs a)]) (.agg #[.int .i64 k', .string (bs b)])).run Try.prog w = .ok (decide (k = k') && decide (a = b)) w := by
  have hu := Try.underlying44
  have u3 := Try.underlying3
  have a3 := Try.isAgg3
  have z3 := Try.sizeOf3
  have u9 := Try.underlying9
  have a9 := Try.isAgg9
  have z9 := Try.sizeOf9
  have hS : Try.prog.underlying 44 = some (.struct (Try.prog.fieldsOf 44)) := by kernel_rfl
  have hp : Try.prog.stoodInHeld 44 = false := by kernel_rfl
  rw [show (10000 : Nat) = 9999 + 1 from rfl, run_equalIn_agg w 9999 44 _ _ hS hp]
  simp only [Program.fieldsOf, hu]
  go_simp
  by_cases h1 : k = k' <;> by_cases h2 : a = b <;> simp [h1, h2]
theorem OpP.neSp {o : Oper} {ρ : Operand → AV} {t' : TypeId} {x y : Operand} {k k' : Int} {a b : List UInt8} (ho : o.op = .binOp .neq 44 x y t') (hx : ρ x = .agg [.v (.int .i64 k), .v (.string (bs a))]) (hy : ρ y = .agg [.v (.int .i64 k'), .v (.string (bs b))]) :
    OpP Try.prog o ρ (.v (.bool (!(decide (k = k') && decide (a = b))))) :=
  OpP.binA (xs := [.int .i64 k, .string (bs a)]) (ys := [.int .i64 k', .string (bs b)]) ho hx hy (.cons (.cons .nil)) (.cons (.cons .nil)) (fun w => by
    have h := eqTm k k' a b w
    simp only [binOp, Op.equal, Op.maxDepth, go_sem] at h ⊢
    simp [h])
def sameRu (a b : Ru) : Bool := decide (a.hd.kind = b.hd.kind ∧ a.hd.role = b.hd.role ∧ a.hd.cls = b.hd.cls ∧ a.hd.pct = b.hd.pct ∧ a.cond = b.cond)
theorem sameRu_eq {x y : Ru} (e : sameRu x y = true) : x = y := by
  simp only [sameRu, decide_eq_true_eq] at e
  obtain ⟨⟨k, ro, cl, pc⟩, co⟩ := x
  obtain ⟨⟨k', ro', cl', pc'⟩, co'⟩ := y
  simp only at e
  obtain ⟨rfl, rfl, rfl, rfl, rfl⟩ := e
  rfl
instance : DecidableEq Ru := fun a b => if h : sameRu a b = true then isTrue (sameRu_eq h) else isFalse (fun e => h (by rw [e]; simp [sameRu]))
set_option maxHeartbeats 4000000 in
theorem rsameRule_c (a b : Ru) (f g : Bool) (hl : a.cond.length ≤ 9223372036854775807) : ACalls Try.prog 31 [.agg (ruC a f), .agg (ruC b g)] [] (.v (.bool (sameRu a b))) [] := by
  generalize hR : sameRu a b = R
  rw [sameRu] at hR
  obtain ⟨⟨k, ro, cl, pc⟩, co⟩ := a
  obtain ⟨⟨k', ro', cl', pc'⟩, co'⟩ := b
  simp only at hR hl
  show ACalls Try.prog 31 [.agg [.v (.int .i64 k), .v (.string (bs ro)), .v (.string (bs cl)), .v (.int .i64 pc), .sl 2 (tmP co) f], .agg [.v (.int .i64 k'), .v (.string (bs ro')), .v (.string (bs cl')), .v (.int .i64 pc'), .sl 2 (tmP co') g]] [] (.v (.bool R)) []
  have hcl : (tmP co).length = co.length := by simp
  have hcl' : (tmP co').length = co'.length := by simp
  refine (ACalls.of (fn := Try.f31) Try.func31 Z Z Try.ntmps31 (fun I M w own => ?_))
  by_cases h1 : k ≠ k'
  · obtain rfl : R = false := by rw [← hR]; simp [h1]
    (repeat' (first|refine AW.seq_k (fun K hK=>?_)|(refine hK _ ?_;clear hK)|refine AW.uC (fun hc=>?_) (fun hc=>?_)|refine AW.ret ?_|exact trivial|refine AW.rI [0, 1, 2] Z ?_|refine Ud ?_|fail))
    ((first|refine RetOk.tupS [] Z Z Z Z Z ?_ ?_|refine RetOk.oneS [] Z Z Z Z ?_ ?_)<;>(repeat' (first|exact V0|refine V1 ?_|refine V2 ?_ ?_|fail)))
  by_cases h2 : ro ≠ ro'
  · obtain rfl : R = false := by rw [← hR]; simp [h2]
    (repeat' (first|refine AW.seq_k (fun K hK=>?_)|(refine hK _ ?_;clear hK)|refine AW.uC (fun hc=>?_) (fun hc=>?_)|refine AW.ret ?_|exact trivial|refine AW.rI [0, 1, 2] Z ?_|refine Ud ?_|fail))
    ((first|refine RetOk.tupS [] Z Z Z Z Z ?_ ?_|refine RetOk.oneS [] Z Z Z Z ?_ ?_)<;>(repeat' (first|exact V0|refine V1 ?_|refine V2 ?_ ?_|fail)))
  by_cases h3 : cl ≠ cl'
  · obtain rfl : R = false := by rw [← hR]; simp [h3]
    (repeat' (first|refine AW.seq_k (fun K hK=>?_)|(refine hK _ ?_;clear hK)|refine AW.uC (fun hc=>?_) (fun hc=>?_)|refine AW.ret ?_|exact trivial|refine AW.rI [0, 1, 2] Z ?_|refine Ud ?_|fail))
    ((first|refine RetOk.tupS [] Z Z Z Z Z ?_ ?_|refine RetOk.oneS [] Z Z Z Z ?_ ?_)<;>(repeat' (first|exact V0|refine V1 ?_|refine V2 ?_ ?_|fail)))
  by_cases h4 : pc ≠ pc'
  · obtain rfl : R = false := by rw [← hR]; simp [h4]
    (repeat' (first|refine AW.seq_k (fun K hK=>?_)|(refine hK _ ?_;clear hK)|refine AW.uC (fun hc=>?_) (fun hc=>?_)|refine AW.ret ?_|exact trivial|refine AW.rI [0, 1, 2] Z ?_|refine Ud ?_|fail))
    ((first|refine RetOk.tupS [] Z Z Z Z Z ?_ ?_|refine RetOk.oneS [] Z Z Z Z ?_ ?_)<;>(repeat' (first|exact V0|refine V1 ?_|refine V2 ?_ ?_|fail)))
  have e1 : k = k' := Decidable.not_not.1 h1
  have e2 : ro = ro' := Decidable.not_not.1 h2
  have e3 : cl = cl' := Decidable.not_not.1 h3
  have e4 : pc = pc' := Decidable.not_not.1 h4
  by_cases h5 : ((tmP co).length : Int) ≠ ((tmP co').length : Int)
  · obtain rfl : R = false := by
      rw [← hR]
      refine decide_eq_false (fun h => h5 ?_)
      rw [h.2.2.2.2]
    (repeat' (first|refine AW.seq_k (fun K hK=>?_)|(refine hK _ ?_;clear hK)|refine AW.uC (fun hc=>?_) (fun hc=>?_)|refine AW.ret ?_|exact trivial|refine AW.rI [0, 1, 2] Z ?_|refine Ud ?_|fail))
    ((first|refine RetOk.tupS [] Z Z Z Z Z ?_ ?_|refine RetOk.oneS [] Z Z Z Z ?_ ?_)<;>(repeat' (first|exact V0|refine V1 ?_|refine V2 ?_ ?_|fail)))
  have e5 : co.length = co'.length := by omega
  (repeat' (first|refine AW.seq_k (fun K hK=>?_)|(refine hK _ ?_;clear hK)|refine AW.uC (fun hc=>?_) (fun hc=>?_)|refine AW.block ?_|refine AW.skip ?_|exact trivial|refine AW.rI [0, 1, 3] Z ?_|refine Ud ?_|fail))
  refine AW.loopF (X := Nat) (fun x => ⟨[(2, .ptr 0 0), (3, .ptr 1 0), (5, .v (.int .i64 (x : Int)))], [.box [.v (.int .i64 k), .v (.string (bs ro)), .v (.string (bs cl)), .v (.int .i64 pc), .sl 2 (tmP co) f], .box [.v (.int .i64 k'), .v (.string (bs ro')), .v (.string (bs cl')), .v (.int .i64 pc'), .sl 2 (tmP co') g]]⟩)
    (fun x => x ≤ co.length ∧ co.take x = co'.take x) (fun x => co.length - x) 0 ?_ ⟨Nat.zero_le _, rfl⟩ ?_
  · refine Conv.mk [0, 1] Z Z Z ?_ Z ?_
    · (repeat' (first|exact V0|refine V3 ?_|refine V2 ?_ ?_|fail))
    · (repeat' (first|exact V0|refine V3 ?_|refine V2 ?_ ?_|fail))
  rintro i ⟨g1, g2⟩
  rcases Nat.lt_or_ge i co.length with h | h
  · obtain ⟨⟨kt, nt⟩, ht⟩ : ∃ t, co[i]? = some t := ⟨co[i], by simp [h]⟩
    obtain ⟨⟨kt', nt'⟩, ht'⟩ : ∃ t, co'[i]? = some t := ⟨co'[i]'(by omega), by simp [show i < co'.length by omega]⟩
    have hA : At (tmP co) (i : Int) [PV.v (.int .i64 kt), PV.v (.string (bs nt))] := At.mk i Z (by simp [ht])
    have hA' : At (tmP co') (i : Int) [PV.v (.int .i64 kt'), PV.v (.string (bs nt'))] := At.mk i Z (by simp [ht'])
    have hlt : (i : Int) < ((tmP co).length : Int) := by omega
    (repeat' (first|refine AW.seq_k (fun K hK=>?_)|(refine hK _ ?_;clear hK)|refine AW.uC (fun hc=>?_) (fun hc=>?_)|refine AW.block ?_|refine AW.ret ?_|refine AW.skip ?_|exact trivial|refine AW.draw (id := 6) (by kernel_rfl) ?_|refine AW.rI [4, 7, 5] Z ?_|refine Ud ?_|fail))
    · have hcd : ¬ kt = kt' ∨ ¬ nt = nt' := by assumption
      obtain rfl : R = false := by
        rw [← hR]
        refine decide_eq_false (fun e => ?_)
        rw [e.2.2.2.2, ht'] at ht
        injection ht with ht
        injection ht with e6 e7
        rcases hcd with q | q
        · exact q e6.symm
        · exact q e7.symm
      ((first|refine RetOk.tupS [] Z Z Z Z Z ?_ ?_|refine RetOk.oneS [] Z Z Z Z ?_ ?_)<;>(repeat' (first|exact V0|refine V1 ?_|refine V2 ?_ ?_|fail)))
    · have hcd : kt = kt' ∧ nt = nt' := by assumption
      ((repeat (with_reducible refine inB_n ?_)); refine thenA_n ?_)
      refine ⟨i + 1, ⟨h, ?_⟩, by omega, ?_⟩
      · rw [List.take_add_one, List.take_add_one, g2, ht, ht', hcd.1, hcd.2]
      · refine Conv.mk [0, 1] Z Z Z ?_ Z ?_
        · (repeat' (first|exact V0|refine V3 ?_|refine V2 ?_ ?_|fail))
          all_goals first | rfl | (refine Cv.eq ?_; simp [AV.ren, renL]; done)
        · (repeat' (first|exact V0|refine V3 ?_|refine V2 ?_ ?_|fail))
  · have hge : ¬ (i : Int) < ((tmP co).length : Int) := by omega
    obtain rfl : R = true := by
      rw [← hR]
      refine decide_eq_true ⟨e1, e2, e3, e4, ?_⟩
      rwa [List.take_of_length_le h, List.take_of_length_le (by omega)] at g2
    (repeat' (first|refine AW.seq_k (fun K hK=>?_)|(refine hK _ ?_;clear hK)|refine AW.uC (fun hc=>?_) (fun hc=>?_)|refine AW.exit ?_|refine AW.ret ?_|(clear hK;refine hK _ ?_;clear hK)|exact trivial|refine AW.rI [4, 8] Z ?_|refine Ud ?_|fail))
    ((first|refine RetOk.tupS [] Z Z Z Z Z ?_ ?_|refine RetOk.oneS [] Z Z Z Z ?_ ?_)<;>(repeat' (first|exact V0|refine V1 ?_|refine V2 ?_ ?_|fail)))
set_option maxHeartbeats 4000000 in
theorem rSame_c (a b : List Ru) (f g : Bool) (hl : a.length ≤ 9223372036854775807) (hcn : ∀ r ∈ a, r.cond.length ≤ 9223372036854775807) : ACalls Try.prog 11 [.sl 5 (ruP a) f, .sl 5 (ruP b) g] [] (.v (.bool (decide (a = b)))) [] := by
  generalize hR : decide (a = b) = R
  have hal : (ruP a).length = a.length := by simp
  have hbl : (ruP b).length = b.length := by simp
  refine (ACalls.of (fn := Try.f11) Try.func11 Z Z Try.ntmps11 (fun I M w own => ?_))
  by_cases h1 : ((ruP a).length : Int) ≠ ((ruP b).length : Int)
  · obtain rfl : R = false := by rw [← hR]; exact decide_eq_false (fun e => h1 (by rw [e]))
    (repeat' (first|refine AW.seq_k (fun K hK=>?_)|(refine hK _ ?_;clear hK)|refine AW.uC (fun hc=>?_) (fun hc=>?_)|refine AW.ret ?_|exact trivial|refine AW.rI [0, 1, 2] Z ?_|refine Ud ?_|fail))
    ((first|refine RetOk.tupS [] Z Z Z Z Z ?_ ?_|refine RetOk.oneS [] Z Z Z Z ?_ ?_)<;>(repeat' (first|exact V0|refine V1 ?_|refine V2 ?_ ?_|fail)))
  have e1 : a.length = b.length := by omega
  (repeat' (first|refine AW.seq_k (fun K hK=>?_)|(refine hK _ ?_;clear hK)|refine AW.uC (fun hc=>?_) (fun hc=>?_)|refine AW.block ?_|refine AW.skip ?_|exact trivial|refine AW.rI [0, 1, 3] Z ?_|refine Ud ?_|fail))
  refine AW.loopF (X := Nat) (fun x => ⟨[(0, .sl 5 (ruP a) f), (1, .sl 5 (ruP b) g), (5, .v (.int .i64 (x : Int)))], []⟩)
    (fun x => x ≤ a.length ∧ a.take x = b.take x) (fun x => a.length - x) 0 ?_ ⟨Nat.zero_le _, rfl⟩ ?_
  · refine Conv.mk [] Z Z Z ?_ Z ?_
    · (repeat' (first|exact V0|refine V3 ?_|refine V2 ?_ ?_|fail))
    · (repeat' (first|exact V0|refine V3 ?_|refine V2 ?_ ?_|fail))
  rintro i ⟨g1, g2⟩
  rcases Nat.lt_or_ge i a.length with h | h
  · obtain ⟨x, hx⟩ : ∃ t, a[i]? = some t := ⟨a[i], by simp [h]⟩
    obtain ⟨y, hy⟩ : ∃ t, b[i]? = some t := ⟨b[i]'(by omega), by simp [show i < b.length by omega]⟩
    have hA : At (ruP a) (i : Int) [PV.v (.int .i64 x.hd.kind), PV.v (.string (bs x.hd.role)), PV.v (.string (bs x.hd.cls)), PV.v (.int .i64 x.hd.pct), PV.sl 2 (tmP x.cond)] := At.mk i Z (by simp [hx])
    have hA' : At (ruP b) (i : Int) [PV.v (.int .i64 y.hd.kind), PV.v (.string (bs y.hd.role)), PV.v (.string (bs y.hd.cls)), PV.v (.int .i64 y.hd.pct), PV.sl 2 (tmP y.cond)] := At.mk i Z (by simp [hy])
    have hlt : (i : Int) < ((ruP a).length : Int) := by omega
    have hs := rsameRule_c x y false false (hcn x (List.mem_of_getElem? hx))
    have hse : sameRu x y = true → x = y := sameRu_eq
    cases hq : sameRu x y with
    | false =>
      rw [hq] at hs
      have hne : x ≠ y := by
        rintro rfl
        simp [sameRu] at hq
      obtain rfl : R = false := by
        rw [← hR]
        refine decide_eq_false (fun e => ?_)
        rw [e, hy] at hx
        exact hne (Option.some.inj hx).symm
      (repeat' (first|refine AW.seq_k (fun K hK=>?_)|(refine hK _ ?_;clear hK)|refine AW.uC (fun hc=>?_) (fun hc=>?_)|refine AW.block ?_|refine AW.ret ?_|refine AW.skip ?_|exact trivial|refine AW.draw (id := 6) (by kernel_rfl) ?_|refine AW.rI [4, 7] Z ?_|refine Run.c0 hs Z Z Z Z Z Z Z Z ?_|refine Ud ?_|fail))
      ((first|refine RetOk.tupS [] Z Z Z Z Z ?_ ?_|refine RetOk.oneS [] Z Z Z Z ?_ ?_)<;>(repeat' (first|exact V0|refine V1 ?_|refine V2 ?_ ?_|fail)))
    | true =>
      rw [hq] at hs
      have e2 := hse hq
      (repeat' (first|refine AW.seq_k (fun K hK=>?_)|(refine hK _ ?_;clear hK)|refine AW.uC (fun hc=>?_) (fun hc=>?_)|refine AW.block ?_|refine AW.skip ?_|exact trivial|refine AW.draw (id := 6) (by kernel_rfl) ?_|refine AW.rI [4, 5] Z ?_|refine Run.c0 hs Z Z Z Z Z Z Z Z ?_|refine Ud ?_|fail))
      ((repeat (with_reducible refine inB_n ?_)); refine thenA_n ?_)
      refine ⟨i + 1, ⟨h, ?_⟩, by omega, ?_⟩
      · rw [List.take_add_one, List.take_add_one, g2, hx, hy, e2]
      · refine Conv.mk [] Z Z Z ?_ Z ?_
        · (repeat' (first|exact V0|refine V3 ?_|refine V2 ?_ ?_|fail))
          all_goals first | rfl | (refine Cv.eq ?_; simp [AV.ren, renL]; done)
        · (repeat' (first|exact V0|refine V3 ?_|refine V2 ?_ ?_|fail))
  · have hge : ¬ (i : Int) < ((ruP a).length : Int) := by omega
    obtain rfl : R = true := by
      rw [← hR]
      refine decide_eq_true ?_
      rwa [List.take_of_length_le h, List.take_of_length_le (by omega)] at g2
    (repeat' (first|refine AW.seq_k (fun K hK=>?_)|(refine hK _ ?_;clear hK)|refine AW.uC (fun hc=>?_) (fun hc=>?_)|refine AW.exit ?_|refine AW.ret ?_|(clear hK;refine hK _ ?_;clear hK)|exact trivial|refine AW.rI [4, 8] Z ?_|refine Ud ?_|fail))
    ((first|refine RetOk.tupS [] Z Z Z Z Z ?_ ?_|refine RetOk.oneS [] Z Z Z Z ?_ ?_)<;>(repeat' (first|exact V0|refine V1 ?_|refine V2 ?_ ?_|fail)))
end Go.Proofs.Ytpacgphnpalepaa
