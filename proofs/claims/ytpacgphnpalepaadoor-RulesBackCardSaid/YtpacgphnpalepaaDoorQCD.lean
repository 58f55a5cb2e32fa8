/-
  Plain laws of conditions: what a proper condition's text is read as.
-/
import Derived.Test.YtpacgphnpalepaaDoorQBJ
import Derived.Test.YtpacgphnpalepaaDoorRdE
import Derived.Test.YtpacgphnpalepaaDoorQAM
namespace Go.Proofs.YtpacgphnpalepaaDoor
set_option linter.unusedVariables false
set_option linter.unusedSimpArgs false
inductive CT
  | act (n : Wd)
  | prs (n : Wd)
  | no (a : CT)
  | an (a b : CT)
  | oo (a b : CT)
namespace CT
def rpn : CT → List Tm
  | act n => [(1, n)]
  | prs n => [(2, n)]
  | no a => a.rpn ++ [(3, [])]
  | an a b => a.rpn ++ b.rpn ++ [(4, [])]
  | oo a b => a.rpn ++ b.rpn ++ [(5, [])]
def kd : CT → Int
  | act _ => 1
  | prs _ => 2
  | no _ => 3
  | an _ _ => 4
  | oo _ _ => 5
def isJ (t : CT) : Bool := decide (t.kd = 4) || decide (t.kd = 5)
def par (b : Bool) (ws : List Wd) : List Wd := if b = true then wOpen :: (ws ++ [wClose]) else ws
def wds : CT → List Wd
  | act n => [wActive, n]
  | prs n => [wPresent, n]
  | no a => wNot :: par a.isJ a.wds
  | an a b => par (decide (a.kd = 5)) a.wds ++ wAnd :: par b.isJ b.wds
  | oo a b => a.wds ++ wOr :: par b.isJ b.wds
def good : CT → Prop
  | act n => nameB n = true
  | prs n => nameB n = true
  | no a => a.good
  | an a b => a.good ∧ b.good
  | oo a b => a.good ∧ b.good
def prt (t : CT) : List Wd := par t.isJ t.wds
end CT
open CT
def sp : List Wd → List UInt8
  | [] => []
  | [w] => w
  | w :: v :: ws => w ++ 32 :: sp (v :: ws)
theorem sp_cons (w : Wd) {ws : List Wd} (h : ws ≠ []) : sp (w :: ws) = w ++ 32 :: sp ws := by
  cases ws with
  | nil => exact absurd Z h
  | cons v ws => rfl
theorem sp_app : ∀ {a b : List Wd}, a ≠ [] → b ≠ [] → sp (a ++ b) = sp a ++ 32 :: sp b
  | [], b, h, _ => absurd Z h
  | [w], b, _, hb => by rw [List.singleton_append, sp_cons w hb]; rfl
  | w :: v :: a, b, _, hb => by
    rw [List.cons_append, sp_cons w (by simp), sp_cons w (by simp), sp_app (a := v :: a) (by simp) hb]
    simp
theorem wds_ne (t : CT) : t.wds ≠ [] := by cases t <;> simp [wds]
theorem par_ne {b : Bool} {ws : List Wd} (h : ws ≠ []) : par b ws ≠ [] := by cases b <;> simp [par, h]
theorem sp_par (b : Bool) {ws : List Wd} (h : ws ≠ []) : sp (par b ws) = if b = true then [40, 32] ++ sp ws ++ [32, 41] else sp ws := by
  cases b with
  | false => rfl
  | true =>
    simp only [par, if_true]
    rw [sp_cons _ (by simp), sp_app h (by simp)]
    simp [sp]
def pc (t : CT) : Pc := (sp t.wds, t.kd)
theorem around_pc (t : CT) (b : Bool) : aroundP (pc t) b = sp (par b t.wds) := by rw [sp_par b (wds_ne t)]; rfl
theorem joined_pc (t : CT) : joinedP (pc t) = t.isJ := rfl
theorem piece_no (a : CT) : pieceP 3 [] [pc a] = pc (no a) := by
  have h : pieceP 3 [] [pc a] = ([110, 111, 116, 32] ++ aroundP (pc a) (joinedP (pc a)), 3) := rfl
  rw [h, around_pc, joined_pc, pc, wds, sp_cons _ (par_ne (wds_ne a))]
  rfl
theorem piece_an (a b : CT) : pieceP 4 [] [pc a, pc b] = pc (an a b) := by
  have h : pieceP 4 [] [pc a, pc b] = (aroundP (pc a) (decide (a.kd = 5)) ++ [32, 97, 110, 100, 32] ++ aroundP (pc b) (joinedP (pc b)), 4) := rfl
  rw [h, around_pc, around_pc, joined_pc, pc, wds, sp_app (par_ne (wds_ne a)) (by simp), sp_cons _ (par_ne (wds_ne b))]
  simp [kd]
theorem piece_oo (a b : CT) : pieceP 5 [] [pc a, pc b] = pc (oo a b) := by
  have h : pieceP 5 [] [pc a, pc b] = (sp a.wds ++ [32, 111, 114, 32] ++ aroundP (pc b) (joinedP (pc b)), 5) := rfl
  rw [h, around_pc, joined_pc, pc, wds, sp_app (wds_ne a) (by simp), sp_cons _ (par_ne (wds_ne b))]
  simp [kd]
theorem fold_tree : ∀ (c : List Tm) (st : List CT) (m : Nat), foldN st.length c = some m → (∀ t ∈ st, t.good) → ∃ st' : List CT, st'.length = m ∧ (∀ t ∈ st', t.good) ∧ st.flatMap rpn ++ c = st'.flatMap rpn ∧ foldP (st.map pc) c = st'.map pc
  | [], st, m, h, hg => by
    rw [foldN] at h
    injection h with h
    exact ⟨st, h, hg, by simp, rfl⟩
  | (k, nm) :: r, st, m, h, hg => by
    rw [foldN] at h
    split at h
    · cases h
    rename_i hb
    obtain ⟨b1, b2, b3, b4⟩ := badT_false hb
    simp only at b1 b2 b3 b4 h
    rw [foldP]
    simp only [List.length_map]
    -- the new tree, out of the last ones
    have key : ∃ (s : List CT) (l : List CT) (t : CT), st = s ++ l ∧ (l.length : Int) = arityF k ∧ t.good ∧ t.rpn = l.flatMap rpn ++ [(k, nm)] ∧ pieceP k nm (l.map pc) = pc t := by
      by_cases k1 : k = 1
      · subst k1
        have : arityF 1 = 0 := rfl
        exact ⟨st, [], act nm, by simp, by simp [this], b3 this, by simp [rpn], rfl⟩
      by_cases k2 : k = 2
      · subst k2
        have : arityF 2 = 0 := rfl
        exact ⟨st, [], prs nm, by simp, by simp [this], b3 this, by simp [rpn], rfl⟩
      by_cases k3 : k = 3
      · subst k3
        have h3 : arityF 3 = 1 := rfl
        rw [h3] at b2
        obtain rfl := b4 (by rw [h3]; decide)
        obtain ⟨s, a, rfl, _⟩ : ∃ s a, st = s ++ [a] ∧ st.length = s.length + 1 := by
          refine ⟨st.dropLast, st.getLast (by intro e; simp [e] at b2), (List.dropLast_concat_getLast _).symm, by rw [List.length_dropLast]; omega⟩
        exact ⟨s, [a], no a, rfl, by simp [h3], hg a (by simp), by simp [rpn], piece_no a⟩
      have h45 : k = 4 ∨ k = 5 := by
        rw [arityF] at b1
        by_cases h4 : k = 4 ∨ k = 5
        · exact h4
        · rw [if_neg (by omega), if_neg k3, if_neg h4] at b1; omega
      have h2 : arityF k = 2 := by rw [arityF, if_neg (by omega), if_neg k3, if_pos h45]
      rw [h2] at b2
      obtain rfl := b4 (by rw [h2]; decide)
      obtain ⟨s1, b, e1, e2⟩ : ∃ s a, st = s ++ [a] ∧ st.length = s.length + 1 := by
        refine ⟨st.dropLast, st.getLast (by intro e; simp [e] at b2), (List.dropLast_concat_getLast _).symm, by rw [List.length_dropLast]; omega⟩
      obtain ⟨s, a, e3, e4⟩ : ∃ s a, s1 = s ++ [a] ∧ s1.length = s.length + 1 := by
        refine ⟨s1.dropLast, s1.getLast (by intro e; simp [e] at e2; omega), (List.dropLast_concat_getLast _).symm, by rw [List.length_dropLast]; omega⟩
      subst e3
      subst e1
      have ga := hg a (by simp)
      have gb := hg b (by simp)
      rcases h45 with rfl | rfl
      · exact ⟨s, [a, b], an a b, by simp, by simp [h2], ⟨ga, gb⟩, by simp [rpn], piece_an a b⟩
      · exact ⟨s, [a, b], oo a b, by simp, by simp [h2], ⟨ga, gb⟩, by simp [rpn], piece_oo a b⟩
    obtain ⟨s, l, t, rfl, hl, gt, hr, hp⟩ := key
    have hn : (s ++ l).length - (arityF k).toNat = s.length := by rw [List.length_append]; omega
    rw [hn] at h ⊢
    rw [List.map_append, List.take_left' (by simp), List.drop_left' (by simp), hp]
    obtain ⟨st', q1, q2, q3, q4⟩ := fold_tree r (s ++ [t]) m (by rw [List.length_append]; exact h) (fun u hu => by
      rcases List.mem_append.1 hu with hu | hu
      · exact hg u (List.mem_append_left _ hu)
      · obtain rfl := List.mem_singleton.1 hu
        exact gt)
    refine ⟨st', q1, q2, ?_, ?_⟩
    · rw [← q3]
      simp [hr]
    · rw [← q4]
      simp
theorem cond_tree {c : List Tm} (h : foldN 0 c = some 1) : ∃ t : CT, t.good ∧ c = t.rpn ∧ condP c = sp t.wds := by
  obtain ⟨st, h1, h2, h3, h4⟩ := fold_tree c [] 1 h (by simp)
  obtain ⟨t, rfl⟩ := List.length_eq_one_iff.1 h1
  refine ⟨t, h2 t (by simp), by simpa using h3, ?_⟩
  simp only [List.map_nil] at h4
  rw [condP, h4]
  rfl
end Go.Proofs.YtpacgphnpalepaaDoor
namespace Go.Proofs.YtpacgphnpalepaaDoor
set_option linter.unusedVariables false
set_option linter.unusedSimpArgs false
open CT
abbrev contF (elem : List Wd → List Tm → RS) (x : Wd) (kind : Int) (ws : List Wd) (ts : List Tm) : RS := restF elem x kind ws.length ws ts
theorem rest_fuel {elem : List Wd → List Tm → RS} (hep : ∀ ws ts p, elem ws ts = some p → Adv ws ts p) (x : Wd) (kind : Int) : ∀ (f : Nat) (ws : List Wd) (ts : List Tm), ws.length ≤ f → restF elem x kind f ws ts = contF elem x kind ws ts
  | 0, ws, ts, h => by
    have : ws = [] := List.eq_nil_of_length_eq_zero (by omega)
    subst this; rfl
  | f + 1, ws, ts, h => by
    rw [contF]
    cases ws with
    | nil => rw [restF, List.length_nil, restF, isP_nil, if_neg (by decide)]
    | cons w r =>
      rw [List.length_cons, restF, restF]
      by_cases hx : isP x (w :: r) = true
      · rw [if_pos hx, if_pos hx, List.tail_cons]
        cases he : elem r ts with
        | none => rfl
        | some p =>
          have := (hep _ _ _ he).lt
          rw [List.length_cons] at h
          simp only
          rw [rest_fuel hep x kind f _ _ (by omega), ← rest_fuel hep x kind r.length p.1 (p.2 ++ [(kind, [])]) (by omega)]
      · rw [if_neg hx, if_neg hx]
termination_by f => f
theorem cont_stop {elem : List Wd → List Tm → RS} {x : Wd} {kind : Int} {ws : List Wd} {ts : List Tm} (h : isP x ws = false) : contF elem x kind ws ts = some (ws, ts) := by
  rw [contF]
  cases ws with
  | nil => rfl
  | cons w r => rw [List.length_cons, restF, h, if_neg (by decide)]
theorem cont_step {elem : List Wd → List Tm → RS} (hep : ∀ ws ts p, elem ws ts = some p → Adv ws ts p) {x : Wd} {kind : Int} {r ws : List Wd} {ts ts' : List Tm} (h : elem r ts = some (ws, ts')) : contF elem x kind (x :: r) ts = contF elem x kind ws (ts' ++ [(kind, [])]) := by
  rw [contF, List.length_cons, restF, if_pos (by simp [isP]), List.tail_cons, h]
  have h1 : ws.length < r.length := (hep _ _ _ h).lt
  exact rest_fuel hep x kind _ _ _ (Nat.le_of_lt h1)
theorem joinB_eq {elem : List Wd → List Tm → RS} {x : Wd} {kind : Int} {r ws : List Wd} {ts ts' : List Tm} (h : elem r ts = some (ws, ts')) : joinF elem x kind r ts = contF elem x kind ws ts' := by
  rw [joinF, h]
def PartB (N : Nat) : Prop := ∀ (t : CT) (rest : List Wd) (ts : List Tm), t.good → (t.prt ++ rest).length ≤ N → partF N (t.prt ++ rest) ts = some (rest, ts ++ t.rpn)
theorem prt_eq {t : CT} (h : t.isJ = false) : t.prt = t.wds := by rw [prt, h]; rfl
theorem and_read {N : Nat} (hN : PartB N) : ∀ (t : CT) (rest : List Wd) (ts : List Tm), t.good → t.kd ≠ 5 → (t.wds ++ rest).length ≤ N → joinF (partF N) wAnd 4 (t.wds ++ rest) ts = contF (partF N) wAnd 4 rest (ts ++ t.rpn)
  | .act n, rest, ts, hg, hk, hl => joinB_eq (hN (.act n) rest ts hg hl)
  | .prs n, rest, ts, hg, hk, hl => joinB_eq (hN (.prs n) rest ts hg hl)
  | .no a, rest, ts, hg, hk, hl => joinB_eq (hN (.no a) rest ts hg hl)
  | .oo a b, rest, ts, hg, hk, hl => absurd Z hk
  | .an a b, rest, ts, hg, hk, hl => by
    have e : (CT.an a b).wds ++ rest = par (decide (a.kd = 5)) a.wds ++ (wAnd :: (b.prt ++ rest)) := by
      rw [wds, prt]; simp
    rw [e] at hl ⊢
    have hb : (b.prt ++ rest).length ≤ N := by rw [List.length_append, List.length_cons] at hl; omega
    have first : joinF (partF N) wAnd 4 (par (decide (a.kd = 5)) a.wds ++ (wAnd :: (b.prt ++ rest))) ts = contF (partF N) wAnd 4 (wAnd :: (b.prt ++ rest)) (ts ++ a.rpn) := by
      by_cases h5 : a.kd = 5
      · have hj : a.isJ = true := by simp [isJ, h5]
        have ep : par (decide (a.kd = 5)) a.wds = a.prt := by rw [prt, hj, h5]; rfl
        rw [ep] at hl ⊢
        exact joinB_eq (hN a _ ts hg.1 hl)
      · have ep : par (decide (a.kd = 5)) a.wds = a.wds := by simp [par, h5]
        rw [ep] at hl ⊢
        exact and_read hN a _ ts hg.1 h5 hl
    rw [first, cont_step (partF_adv N) (hN b rest (ts ++ a.rpn) hg.2 hb)]
    simp [rpn]
theorem cond_read {N : Nat} (hN : PartB N) : ∀ (t : CT) (rest : List Wd) (ts : List Tm), t.good → isP wAnd rest = false → (t.wds ++ rest).length ≤ N → condF (partF N) (t.wds ++ rest) ts = contF (joinF (partF N) wAnd 4) wOr 5 rest (ts ++ t.rpn) := by
  have hadv : ∀ ws ts p, joinF (partF N) wAnd 4 ws ts = some p → Adv ws ts p := joinF_adv (partF_adv N) wAnd 4
  have easy : ∀ (t : CT) (rest : List Wd) (ts : List Tm), t.good → t.kd ≠ 5 → isP wAnd rest = false → (t.wds ++ rest).length ≤ N → condF (partF N) (t.wds ++ rest) ts = contF (joinF (partF N) wAnd 4) wOr 5 rest (ts ++ t.rpn) := by
    intro t rest ts hg hk hr hl
    exact joinB_eq (by rw [and_read hN t rest ts hg hk hl, cont_stop hr])
  intro t
  induction t with
  | act n => exact fun rest ts hg hr hl => easy _ rest ts hg (by simp [kd]) hr hl
  | prs n => exact fun rest ts hg hr hl => easy _ rest ts hg (by simp [kd]) hr hl
  | no a _ => exact fun rest ts hg hr hl => easy _ rest ts hg (by simp [kd]) hr hl
  | an a b _ _ => exact fun rest ts hg hr hl => easy _ rest ts hg (by simp [kd]) hr hl
  | oo a b iha ihb =>
    intro rest ts hg hr hl
    have e : (CT.oo a b).wds ++ rest = a.wds ++ (wOr :: (b.prt ++ rest)) := by rw [wds, prt]; simp
    rw [e] at hl ⊢
    have hb : (b.prt ++ rest).length ≤ N := by rw [List.length_append, List.length_cons] at hl; omega
    rw [iha (wOr :: (b.prt ++ rest)) ts hg.1 (by simp [isP]) hl]
    have hel : joinF (partF N) wAnd 4 (b.prt ++ rest) (ts ++ a.rpn) = some (rest, ts ++ a.rpn ++ b.rpn) := by
      rw [joinB_eq (hN b rest (ts ++ a.rpn) hg.2 hb), cont_stop hr]
    rw [cont_step hadv hel]
    simp [rpn]
theorem part_read : ∀ N, PartB N
  | 0 => fun t rest ts hg hl => by
    have : (t.prt ++ rest) ≠ [] := by simp [prt, par_ne (wds_ne t)]
    exact absurd (List.eq_nil_of_length_eq_zero (by omega)) this
  | N + 1 => fun t rest ts hg hl => by
    have ih := part_read N
    cases hj : t.isJ with
    | true =>
      have e : t.prt ++ rest = wOpen :: (t.wds ++ (wClose :: rest)) := by rw [prt, hj, par, if_pos Z]; simp
      rw [e] at hl ⊢
      rw [partF, if_neg (by decide), if_neg (by decide), if_neg (by decide), if_pos Z, cond_read ih t (wClose :: rest) ts hg (by simp [isP]) (by rw [List.length_cons] at hl; omega), cont_stop (by simp [isP])]
      simp [isP]
    | false =>
      rw [prt_eq hj] at hl ⊢
      cases t with
      | act n =>
        have hg' : nameB n = true := hg
        simp [wds, partF, nameT, hg', rpn]
      | prs n =>
        have hg' : nameB n = true := hg
        have : (wPresent : Wd) ≠ wActive := by decide
        simp [wds, partF, nameT, hg', rpn]
      | no a =>
        have e : (CT.no a).wds ++ rest = wNot :: (a.prt ++ rest) := by rw [wds, prt]; simp
        rw [e] at hl ⊢
        rw [partF, if_neg (by decide), if_neg (by decide), if_pos Z, ih a rest ts hg (by rw [List.length_cons] at hl; omega)]
        simp [rpn]
      | an a b => cases hj
      | oo a b => cases hj
theorem cond_back (t : CT) (hg : t.good) : condF (partF t.wds.length) t.wds [] = some ([], t.rpn) := by
  have := cond_read (part_read t.wds.length) t [] [] hg Z (by simp)
  rw [List.append_nil] at this
  rw [this, cont_stop Z]
  rfl
end Go.Proofs.YtpacgphnpalepaaDoor
namespace Go.Proofs.YtpacgphnpalepaaDoor
set_option linter.unusedVariables false
set_option linter.unusedSimpArgs false
open CT
theorem bare_iff {w : Wd} : bareB w = true ↔ (∀ c ∈ w, simpleB c = true) ∧ w ≠ [] := by
  simp [bareB, List.all_eq_true]
theorem letter_simple {c : UInt8} (h : letterB c = true) : simpleB c = true := by
  simp only [letterB, decide_eq_true_eq] at h
  simp only [simpleB, decide_eq_true_eq]
  omega
theorem nm_simple {f : Bool} {c : UInt8} (h : nmB f c = true) : simpleB c = true := by
  simp only [nmB, Bool.or_eq_true, Bool.and_eq_true] at h
  rcases h with h | ⟨_, h⟩
  · exact letter_simple h
  · simp only [otherB, decide_eq_true_eq] at h
    simp only [simpleB, decide_eq_true_eq]
    omega
theorem nmGo_simple : ∀ (s : List UInt8) (f : Bool), nmGo f s = true → ∀ c ∈ s, simpleB c = true
  | [], _, _, c, hc => by simp at hc
  | d :: r, f, h, c, hc => by
    simp only [nmGo, Bool.and_eq_true] at h
    rcases List.mem_cons.1 hc with rfl | hc
    · exact nm_simple h.1
    · exact nmGo_simple r false h.2 c hc
theorem name_bare {s : Wd} (h : nameB s = true) : bareB s = true := by
  simp only [nameB, Bool.and_eq_true, decide_eq_true_eq] at h
  exact bare_iff.2 ⟨nmGo_simple s true h.1, h.2.1⟩
theorem J_bare : ∀ (ws : List Wd), (∀ w ∈ ws, bareB w = true) → J ws = sp ws
  | [], _ => rfl
  | [w], h => by
    have : writtenL w = w := by rw [writtenL, if_pos (h w (by simp))]
    simpa [J, sp] using this
  | w :: v :: ws, h => by
    have : writtenL w = w := by rw [writtenL, if_pos (h w (by simp))]
    rw [J, sp, this, J_bare (v :: ws) (fun u hu => h u (List.mem_cons_of_mem _ hu))]
theorem no_nl : ∀ (ws : List Wd), (∀ w ∈ ws, bareB w = true) → (10 : UInt8) ∉ sp ws := by
  have hw : ∀ w : Wd, bareB w = true → (10 : UInt8) ∉ w := by
    intro w h hm
    have := (bare_iff.1 h).1 10 hm
    revert this; decide
  intro ws
  induction ws with
  | nil => intro _; simp [sp]
  | cons w ws ih =>
    intro h
    cases ws with
    | nil => simpa [sp] using hw w (h w (by simp))
    | cons v ws =>
      rw [sp, List.mem_append, List.mem_cons]
      rintro (q | q | q)
      · exact hw w (h w (by simp)) q
      · revert q; decide
      · exact ih (fun u hu => h u (List.mem_cons_of_mem _ hu)) q
theorem par_bare {b : Bool} {ws : List Wd} (h : ∀ w ∈ ws, bareB w = true) : ∀ w ∈ par b ws, bareB w = true := by
  cases b with
  | false => exact h
  | true =>
    intro w hw
    simp only [par, if_true, List.mem_cons, List.mem_append, List.not_mem_nil, or_false] at hw
    rcases hw with rfl | hw | rfl
    · decide
    · exact h w hw
    · decide
theorem wds_bare : ∀ (t : CT), t.good → ∀ w ∈ t.wds, bareB w = true
  | .act n, h, w, hw => by
    simp only [wds, List.mem_cons, List.not_mem_nil, or_false] at hw
    rcases hw with rfl | rfl
    · decide
    · exact name_bare h
  | .prs n, h, w, hw => by
    simp only [wds, List.mem_cons, List.not_mem_nil, or_false] at hw
    rcases hw with rfl | rfl
    · decide
    · exact name_bare h
  | .no a, h, w, hw => by
    simp only [wds, List.mem_cons] at hw
    rcases hw with rfl | hw
    · decide
    · exact par_bare (wds_bare a h) w hw
  | .an a b, h, w, hw => by
    simp only [wds, List.mem_cons, List.mem_append] at hw
    rcases hw with hw | rfl | hw
    · exact par_bare (wds_bare a h.1) w hw
    · decide
    · exact par_bare (wds_bare b h.2) w hw
  | .oo a b, h, w, hw => by
    simp only [wds, List.mem_cons, List.mem_append] at hw
    rcases hw with hw | rfl | hw
    · exact wds_bare a h.1 w hw
    · decide
    · exact par_bare (wds_bare b h.2) w hw
theorem par_le (b : Bool) (ws : List Wd) : (par b ws).length ≤ ws.length + 2 := by
  cases b
  · simp [par]
  · simp [par]
theorem wds_len : ∀ (t : CT), t.wds.length + 1 ≤ 3 * t.rpn.length ∧ t.prt.length ≤ 3 * t.rpn.length
  | .act n => by simp [wds, prt, isJ, kd, par, rpn]
  | .prs n => by simp [wds, prt, isJ, kd, par, rpn]
  | .no a => by
    have := (wds_len a).2
    have e : (CT.no a).prt = (CT.no a).wds := prt_eq Z
    have e1 : (CT.no a).wds.length = 1 + a.prt.length := by simp [wds, prt]; omega
    have e2 : (CT.no a).rpn.length = a.rpn.length + 1 := by simp [rpn]
    rw [e, e1, e2]
    omega
  | .an a b => by
    have ha := wds_len a
    have hb := wds_len b
    have e0 : (par (decide (a.kd = 5)) a.wds).length ≤ 3 * a.rpn.length := by
      by_cases h5 : a.kd = 5
      · have hj : a.isJ = true := by simp [isJ, h5]
        have : par (decide (a.kd = 5)) a.wds = a.prt := by rw [prt, hj, h5]; rfl
        rw [this]; exact ha.2
      · have : par (decide (a.kd = 5)) a.wds = a.wds := by simp [par, h5]
        rw [this]; omega
    have e1 : (CT.an a b).wds.length = (par (decide (a.kd = 5)) a.wds).length + 1 + b.prt.length := by simp [wds, prt]; omega
    have e2 : (CT.an a b).rpn.length = a.rpn.length + b.rpn.length + 1 := by simp [rpn]; omega
    have e3 := par_le (CT.an a b).isJ (CT.an a b).wds
    rw [← prt] at e3
    omega
  | .oo a b => by
    have ha := wds_len a
    have hb := wds_len b
    have e1 : (CT.oo a b).wds.length = a.wds.length + 1 + b.prt.length := by simp [wds, prt]; omega
    have e2 : (CT.oo a b).rpn.length = a.rpn.length + b.rpn.length + 1 := by simp [rpn]; omega
    have e3 := par_le (CT.oo a b).isJ (CT.oo a b).wds
    rw [← prt] at e3
    omega
theorem pct_back : ∀ n : Nat, n ≤ 100 → bareB (Lib.itoa (n : Int)) = true ∧ numberP (Lib.itoa (n : Int)) = ((n : Int), 0) := by
  have h : ∀ n : Fin 101, bareB (Lib.itoa (n.1 : Int)) = true ∧ numberP (Lib.itoa (n.1 : Int)) = ((n.1 : Int), 0) := by decide +kernel
  intro n hn
  exact h ⟨n, by omega⟩
theorem tail_words {c : List Tm} (hc : c.length ≤ 16) (h : c ≠ [] → foldN 0 c = some 1) : ∃ tw : List Wd, (∀ w ∈ tw, bareB w = true) ∧ tw.length ≤ 50 ∧ tailF tw = some c ∧ tailP c = (if tw = [] then [] else 32 :: sp tw) := by
  by_cases h0 : c = []
  · subst h0
    exact ⟨[], by simp, by simp, rfl, rfl⟩
  · obtain ⟨t, g1, g2, g3⟩ := cond_tree (h h0)
    refine ⟨wWhen :: t.wds, ?_, ?_, ?_, ?_⟩
    · intro w hw
      rcases List.mem_cons.1 hw with rfl | hw
      · decide
      · exact wds_bare t g1 w hw
    · have := (wds_len t).1
      rw [← g2] at this
      rw [List.length_cons]
      omega
    · rw [tailF, if_pos (by simp [isP]), List.tail_cons, cond_back t g1]
      simp [g2]
    · rw [tailP, if_neg h0, if_neg (by simp), g3, sp_cons _ (wds_ne t)]
      rfl
theorem rule_words {r : Ru} (hq : validF r = true) : ∃ ws : List Wd, ws ≠ [] ∧ (∀ w ∈ ws, bareB w = true) ∧ ws.length ≤ 53 ∧ ruleF ws = some r ∧ lineP r = sp ws ++ [10] ∧ (sp ws).head? ≠ some 35 := by
  obtain ⟨v1, v2, v3, v4, v5, v6⟩ := valid_len hq
  obtain ⟨tw, t1, t2, t3, t4⟩ := tail_words v5 v6
  rw [validF] at hq
  split at hq
  case isFalse => cases hq
  rename_i hp
  obtain ⟨⟨k, ro, cl, pc⟩, co⟩ := r
  simp only at v3 v4 hp hq t3 t4 ⊢
  have hro := hp.2
  have join : ∀ hw : List Wd, hw ≠ [] → sp (hw ++ tw) = sp hw ++ tailP co := by
    intro hw hne
    rw [t4]
    by_cases e : tw = []
    · rw [if_pos e, e, List.append_nil, List.append_nil]
    · rw [if_neg e, sp_app hne e]
  rcases v3 with rfl | rfl | rfl
  · rw [if_pos Z] at hq
    simp only [Bool.and_eq_true, decide_eq_true_eq] at hq
    obtain ⟨hcl, rfl⟩ := hq
    refine ⟨[wRoute, ro, cl] ++ tw, by simp, ?_, by simp; omega, ?_, ?_, ?_⟩
    · intro w hw
      simp only [List.cons_append, List.nil_append, List.mem_cons] at hw
      rcases hw with rfl | rfl | rfl | hw
      · decide
      · exact name_bare hro
      · exact name_bare hcl
      · exact t1 w hw
    · have : headF ([wRoute, ro, cl] ++ tw) = some (⟨1, ro, cl, 0⟩, tw) := by simp [headF, hro, hcl]
      rw [ruleF, this]
      simp only [t3]
    · rw [join _ (by simp), lineP]
      have : headP ⟨1, ro, cl, 0⟩ = [114, 111, 117, 116, 101, 32] ++ ro ++ [32] ++ cl := rfl
      simp [this, sp]
    · rw [join _ (by simp)]
      simp [sp]
  · rw [if_neg (by decide), if_pos Z] at hq
    simp only [Bool.and_eq_true, decide_eq_true_eq] at hq
    obtain ⟨⟨rfl, q1⟩, q2⟩ := hq
    obtain ⟨n, rfl⟩ : ∃ n : Nat, pc = (n : Int) := ⟨pc.toNat, by omega⟩
    obtain ⟨hb, hnum⟩ := pct_back n (by omega)
    refine ⟨[wDuck, ro, Lib.itoa (n : Int)] ++ tw, by simp, ?_, by simp; omega, ?_, ?_, ?_⟩
    · intro w hw
      simp only [List.cons_append, List.nil_append, List.mem_cons] at hw
      rcases hw with rfl | rfl | rfl | hw
      · decide
      · exact name_bare hro
      · exact hb
      · exact t1 w hw
    · have : headF ([wDuck, ro, Lib.itoa (n : Int)] ++ tw) = some (⟨2, ro, [], (n : Int)⟩, tw) := by
        have e1 : ¬ wDuck = wRoute := by decide
        have e2 : ¬ ((((n : Int), (0 : Int)).2 ≠ 0 ∨ (n : Int) < 0) ∨ 100 < (n : Int)) := by simp; omega
        show headF (wDuck :: ro :: Lib.itoa (n : Int) :: tw) = _
        rw [headF, if_neg e1, if_pos Z]
        simp only [hro, if_true, hnum]
        rw [if_neg e2]
      rw [ruleF, this]
      simp only [t3]
    · rw [join _ (by simp), lineP]
      have : headP ⟨2, ro, [], (n : Int)⟩ = [100, 117, 99, 107, 32] ++ ro ++ [32] ++ Lib.itoa (n : Int) := rfl
      simp [this, sp]
    · rw [join _ (by simp)]
      simp [sp]
  · rw [if_neg (by decide), if_neg (by decide), if_pos Z] at hq
    simp only [Bool.and_eq_true, decide_eq_true_eq] at hq
    obtain ⟨rfl, rfl⟩ := hq
    refine ⟨[wMute, ro] ++ tw, by simp, ?_, by simp; omega, ?_, ?_, ?_⟩
    · intro w hw
      simp only [List.cons_append, List.nil_append, List.mem_cons] at hw
      rcases hw with rfl | rfl | hw
      · decide
      · exact name_bare hro
      · exact t1 w hw
    · have : headF ([wMute, ro] ++ tw) = some (⟨3, ro, [], 0⟩, tw) := by
        have e1 : ¬ wMute = wRoute := by decide
        have e2 : ¬ wMute = wDuck := by decide
        simp [headF, e1, e2, hro]
      rw [ruleF, this]
      simp only [t3]
    · rw [join _ (by simp), lineP]
      have : headP ⟨3, ro, [], 0⟩ = [109, 117, 116, 101, 32] ++ ro := rfl
      simp [this, sp]
    · rw [join _ (by simp)]
      simp [sp]
end Go.Proofs.YtpacgphnpalepaaDoor
namespace Go.Proofs.YtpacgphnpalepaaDoor
set_option linter.unusedVariables false
set_option linter.unusedSimpArgs false
theorem idxB : ∀ (a r : List UInt8), (10 : UInt8) ∉ a → Lib.indexByte (a ++ 10 :: r) 10 = (a.length : Int)
  | [], r, _ => by simp [Lib.indexByte]
  | c :: a, r, h => by
    have hc : ¬ (c == 10) = true := by
      intro e
      have : c = 10 := by simpa using e
      exact h (by simp [this])
    have ih := idxB a r (fun q => h (List.mem_cons_of_mem _ q))
    rw [List.cons_append, Lib.indexByte, if_neg hc, ih, if_neg (by simp)]
    simp
def IsLine (l : List UInt8) : Prop := ∃ a, l = a ++ [10] ∧ (10 : UInt8) ∉ a
theorem linesG_flat : ∀ (ls : List (List UInt8)) (n : Nat), (∀ l ∈ ls, IsLine l) → ls.flatten.length ≤ n → linesG n ls.flatten = ls
  | [], n, _, _ => by cases n <;> simp [linesG]
  | l :: ls, n, h, hn => by
    obtain ⟨a, rfl, ha⟩ := h l (by simp)
    rw [List.flatten_cons] at hn ⊢
    rw [List.length_append, List.length_append, List.length_singleton] at hn
    cases n with
    | zero => omega
    | succ n =>
      have e : a ++ [10] ++ ls.flatten = a ++ 10 :: ls.flatten := by simp
      have hl : lineAt (a ++ [10] ++ ls.flatten) = a.length + 1 := by
        rw [e, lineAt, idxB a _ ha, if_pos (by omega)]
        omega
      rw [linesG, if_neg (by simp), hl]
      have t1 : (a ++ [10] ++ ls.flatten).take (a.length + 1) = a ++ [10] := List.take_left' (by simp)
      have t2 : (a ++ [10] ++ ls.flatten).drop (a.length + 1) = ls.flatten := List.drop_left' (by simp)
      rw [t1, t2, linesG_flat ls n (fun l hl => h l (List.mem_cons_of_mem _ hl)) (by omega)]
theorem foldS_app {X Y : Type} (F : X → List UInt8 → X ⊕ Y) : ∀ (a b : List (List UInt8)) (x : X), foldS F x (a ++ b) = (match foldS F x a with | .inl y => foldS F y b | .inr e => .inr e)
  | [], b, x => rfl
  | l :: a, b, x => by
    rw [List.cons_append, foldS, foldS]
    cases F x l with
    | inl y => exact foldS_app F a b y
    | inr e => rfl
theorem trimB (a : List UInt8) : trimSuf (a ++ [10]) [10] = a := by
  have : hasSuf (a ++ [10]) [10] = true := by simp [hasSuf]
  rw [trimSuf, if_pos this]
  simp
theorem line_is {r : Ru} (hq : validF r = true) : IsLine (lineP r) := by
  obtain ⟨ws, h1, h2, _, _, h5, _⟩ := rule_words hq
  exact ⟨sp ws, h5, no_nl ws h2⟩
theorem line_rule {r : Ru} (hq : validF r = true) (x : PX) (hx : x.2.length < 64) : lineF x (lineP r) = .inl (x.1 + 1, x.2 ++ [r]) := by
  obtain ⟨ws, h1, h2, h3, h4, h5, h6⟩ := rule_words hq
  obtain ⟨_, _, _, _, v5, _⟩ := valid_len hq
  obtain ⟨w1, w2⟩ := lineP_len hq
  have hl : (sp ws).length ≤ 2300 := by
    have : (lineP r).length = (sp ws).length + 1 := by rw [h5]; simp
    rw [lineP] at this
    simp only [List.length_append, List.length_cons, List.length_nil] at this
    omega
  have hne : sp ws ≠ [] := by
    cases ws with
    | nil => exact absurd Z h1
    | cons w ws =>
      have hw := (bare_iff.1 (h2 w (by simp))).2
      cases ws with
      | nil => simpa [sp] using hw
      | cons v ws => rw [sp]; simp
  have hs : splitP (sp ws) = (ws, 0) := by
    rw [← J_bare ws h2, split_J, J_bare ws h2, if_neg (by omega)]
  rw [lineF, h5, trimB, if_neg (by rintro (q | q); exact hne q; exact h6 q), hs, if_neg (by simp)]
  simp only [h4]
  rw [if_neg (by omega)]
theorem fold_rules : ∀ (rs : List Ru) (x : PX), (∀ r ∈ rs, validF r = true) → x.2.length + rs.length ≤ 64 → foldS lineF x (rs.map lineP) = .inl (x.1 + rs.length, x.2 ++ rs)
  | [], x, _, _ => by simp [foldS]
  | r :: rs, x, h, hn => by
    rw [List.length_cons] at hn
    rw [List.map_cons, foldS, line_rule (h r (by simp)) x (by omega)]
    simp only
    rw [fold_rules rs (x.1 + 1, x.2 ++ [r]) (fun q hq => h q (List.mem_cons_of_mem _ hq)) (by simp only [List.length_append, List.length_singleton]; omega)]
    simp only [List.length_cons, List.append_assoc, List.singleton_append]
    congr 2
    omega
def textR (rs : List Ru) : List UInt8 := (rs.map lineP).flatten
theorem textR_len : ∀ (rs : List Ru), (∀ r ∈ rs, validF r = true) → (textR rs).length ≤ 2300 * rs.length
  | [], _ => by simp [textR]
  | r :: rs, h => by
    have ih := textR_len rs (fun q hq => h q (List.mem_cons_of_mem _ hq))
    obtain ⟨w1, w2⟩ := lineP_len (h r (by simp))
    rw [textR] at ih
    rw [textR, List.map_cons, List.flatten_cons, List.length_append, List.length_cons]
    have : (lineP r).length ≤ 2201 := by rw [lineP]; simp only [List.length_append, List.length_cons, List.length_nil]; omega
    omega
theorem fmtGo_ok : ∀ (rs : List Ru) (s : List UInt8), (∀ r ∈ rs, validF r = true) → fmtGo s rs = (s ++ textR rs, 0)
  | [], s, _ => by simp [fmtGo, textR]
  | r :: rs, s, h => by
    rw [fmtGo, if_pos (h r (by simp)), fmtGo_ok rs _ (fun q hq => h q (List.mem_cons_of_mem _ hq))]
    simp [textR]
theorem format_ok {rs : List Ru} (h : ∀ r ∈ rs, validF r = true) (hl : rs.length ≤ 64) : formatF rs = (textR rs, 0) := by
  rw [formatF, if_neg (by omega), fmtGo_ok rs [] h]
  rfl
theorem parse_back {rs : List Ru} (h : ∀ r ∈ rs, validF r = true) (hl : rs.length ≤ 20) : parseF (textR rs) = .inl (rs.length, rs) := by
  have := textR_len rs h
  rw [parseF, if_neg (by omega), textR, linesG_flat _ _ (fun l hl => by
    obtain ⟨r, hr, rfl⟩ := List.mem_map.1 hl
    exact line_is (h r hr)) (Nat.le_refl _), fold_rules rs (0, []) h (by simp only [List.length_nil]; omega)]
  simp
def midL : List UInt8 := [35, 32, 98, 101, 116, 119, 101, 101, 110, 10, 10]
theorem parse_two {xs ys : List Ru} (h : ∀ r ∈ xs, validF r = true) (k : ∀ r ∈ ys, validF r = true) (hl : xs.length ≤ 10) (kl : ys.length ≤ 10) : parseF (textR xs ++ midL ++ textR ys) = .inl (xs.length + 2 + ys.length, xs ++ ys) := by
  have l1 := textR_len xs h
  have l2 := textR_len ys k
  have lm : midL.length = 11 := rfl
  have e : textR xs ++ midL ++ textR ys = (xs.map lineP ++ ([[35, 32, 98, 101, 116, 119, 101, 101, 110, 10], [10]] ++ ys.map lineP)).flatten := by
    simp [textR, midL]
  rw [parseF, if_neg (by simp only [List.length_append]; omega), e, linesG_flat _ _ (fun l hl => by
    rcases List.mem_append.1 hl with hl | hl
    · obtain ⟨r, hr, rfl⟩ := List.mem_map.1 hl
      exact line_is (h r hr)
    rcases List.mem_append.1 hl with hl | hl
    · simp only [List.mem_cons, List.not_mem_nil, or_false] at hl
      rcases hl with rfl | rfl
      · exact ⟨[35, 32, 98, 101, 116, 119, 101, 101, 110], rfl, by decide⟩
      · exact ⟨[], rfl, by simp⟩
    · obtain ⟨r, hr, rfl⟩ := List.mem_map.1 hl
      exact line_is (k r hr)) (Nat.le_refl _), foldS_app, fold_rules xs (0, []) h (by simp only [List.length_nil]; omega)]
  simp only [Nat.zero_add, List.nil_append]
  have m1 : ∀ x : PX, lineF x [35, 32, 98, 101, 116, 119, 101, 101, 110, 10] = .inl (x.1 + 1, x.2) := fun x => by
    rw [lineF, if_pos (by decide)]
  have m2 : ∀ x : PX, lineF x [10] = .inl (x.1 + 1, x.2) := fun x => by
    rw [lineF, if_pos (by decide)]
  rw [List.cons_append, foldS, m1]
  simp only
  rw [List.cons_append, foldS, m2]
  simp only [List.nil_append]
  rw [fold_rules ys _ k (by simp only; omega)]
theorem ruL_valid (l : List Int) (a : Nat) : validF (ruL l a) = true := by
  obtain ⟨c1, c2, c3⟩ := condL_ok l (dkA l (dkA l a))
  have hp : properF (condL l (dkA l (dkA l a))) = true := by
    rcases c1 with h | h
    · simp [properF, h]
    · have h1 : foldN 0 (condL l (dkA l (dkA l a))) = some 1 := h
      rw [properF, foldNE, if_neg (by omega), h1]
      simp
  have hr : nameB (ruRo l a) = true := by
    rw [ruRo]
    split
    · decide
    · exact (role_ok (dkN_rng l _ 4 (by decide))).1
  have hk := dkN_rng l a 3 (by decide)
  have hcl := (class_ok (dkN_rng l (ruA4 l a) 4 (by decide))).1
  have hpc := dkN_rng l (ruA4 l a) 101 (by decide)
  rw [validF]
  rw [if_pos (show properF (ruL l a).cond = true ∧ nameB (ruL l a).hd.role = true from ⟨hp, hr⟩)]
  have ek : (ruL l a).hd.kind = ruK l a := rfl
  have ec : (ruL l a).hd.cls = if ruK l a = 1 then classAt (dkN l (ruA4 l a) 4) else [] := rfl
  have ep : (ruL l a).hd.pct = if ruK l a = 2 then dkN l (ruA4 l a) 101 else 0 := rfl
  rw [ek, ec, ep]
  have h3 : ruK l a = 1 ∨ ruK l a = 2 ∨ ruK l a = 3 := by rw [ruK]; omega
  rcases h3 with h | h | h
  · simp [h, hcl]
  · simp [h]; omega
  · simp [h]
theorem rulesL_valid (l : List Int) (a : Nat) : ∀ r ∈ rulesL l a, validF r = true := by
  have key : ∀ (k a : Nat) (o : List Ru), (∀ r ∈ o, validF r = true) → ∀ r ∈ (rusL l k a o).1, validF r = true := by
    intro k
    induction k with
    | zero => exact fun a o h => h
    | succ k ih =>
      intro a o h
      rw [rusL]
      exact ih _ _ (fun r hr => by
        rcases List.mem_append.1 hr with hr | hr
        · exact h r hr
        · obtain rfl := List.mem_singleton.1 hr
          exact ruL_valid l a)
  exact key _ _ [] (by simp)
end Go.Proofs.YtpacgphnpalepaaDoor
