/-
  Plain facts for SessionCompacts: the records of the dice's session, replayed, are the session; and so are the records that the session itself gives.
-/
import Derived.Test.YtbbcokckealagaaGreatQEG
import Derived.Test.YtbbcokckealagaaGreatQCI
import Derived.Test.YtbbcokckealagaaGreatQED
import Derived.Test.YtbbcokckealagaaGreatQFB
import Derived.Test.YtbbcokckealagaaGreatQAA
import Derived.Test.YtbbcokckealagaaGreatQFC
import Derived.Test.YtbbcokckealagaaGreatQEF
namespace Go.Proofs.YtbbcokckealagaaGreat
set_option linter.unusedVariables false
set_option linter.unusedSimpArgs false
theorem replay_snoc {okT : List UInt8 → Bool} {r : Rc} {s' s'' : Se} {n' : Nat} (h2 : applyP okT s' r = (s'', 0)) : ∀ (l : List Rc) (s : Se) (n : Nat), replayGo okT l s n = (s', n', 0) → replayGo okT (l ++ [r]) s n = (s'', n' + 1, 0)
  | [], s, n, h => by
    rw [replayGo] at h
    injection h with h1 h3
    injection h3 with h3 h4
    subst h1 h3
    rw [List.nil_append, replayGo, h2, if_pos O, replayGo]
  | x :: t, s, n, h => by
    rw [replayGo] at h
    rw [List.cons_append, replayGo]
    split at h
    · rename_i he
      rw [if_pos he]
      exact replay_snoc h2 t _ _ h
    · rename_i he
      injection h with h1 h3
      injection h3 with h3 h4
      exact absurd h4 he
def Rep (L : List Rc) (s : Se) : Prop := replayGo okR L Se.zero 0 = (s, L.length, 0)
theorem rep_snoc {L : List Rc} {s s' : Se} {r : Rc} (h : Rep L s) (ha : applyP okR s r = (s', 0)) : Rep (L ++ [r]) s' := by
  have := replay_snoc ha L Se.zero 0 h
  rw [Rep, this, List.length_append, List.length_singleton]
theorem rep_add {L : List Rc} {s s' : Se} {r : Rc} {b : Bool} (h : Rep L s) (ht : b = true → applyP okR s r = (s', 0)) (hf : b = false → s = s') : Rep (addL b L r) s' := by
  cases b with
  | true => rw [addL, if_pos O]; exact rep_snoc h (ht O)
  | false => rw [addL, if_neg (by decide), ← hf O]; exact h
theorem sesGo_replay (l : List Int) : ∀ (k a : Nat) (s : Se) (o : List Rc), Rep o s → Rep (sesGo l k a s o).2.1 (sesGo l k a s o).1
  | 0, a, s, o, h => h
  | k + 1, a, s, o, h => by
    rw [sesGo]
    split
    · rename_i he
      refine sesGo_replay l k _ _ _ (rep_snoc h ?_)
      rw [← he]
    · exact sesGo_replay l k _ _ _ h
theorem sesP_replay (l : List Int) (a : Nat) : Rep (sesP l a).2.1 (sesP l a).1 := sesGo_replay l _ _ _ _ O
theorem replay_take {okT : List UInt8 → Bool} : ∀ (l : List Rc) (s : Se) (n : Nat), (replayGo okT l s n).2.2 = 0 → ∀ k, k ≤ l.length → (replayGo okT (l.take k) s n).2 = (n + k, 0)
  | [], s, n, h, k, hk => by
    obtain rfl : k = 0 := by simpa using hk
    rfl
  | x :: t, s, n, h, 0, hk => rfl
  | x :: t, s, n, h, k + 1, hk => by
    rw [replayGo] at h
    split at h
    · rename_i he
      rw [List.take_succ_cons, replayGo, if_pos he, replay_take t _ _ h k (by simpa using hk)]
      congr 1
      omega
    · rename_i he
      exact absurd h he
structure KpGd (k : Kp) : Prop where
  id : 1 ≤ k.id ∧ k.id ≤ 9007199254740992
  role : nameB k.role = true
  dir : 1 ≤ k.dir ∧ k.dir ≤ 2
  ch : 1 ≤ k.ch ∧ k.ch ≤ 8
  rate : 1000 ≤ k.rate ∧ k.rate ≤ 768000
  lat : 0 ≤ k.lat ∧ k.lat ≤ 1099511627776
  vol : 0 ≤ k.vol ∧ k.vol ≤ 100
  pin : k.pin ≤ 9007199254740992
structure SeGd (s : Se) : Prop where
  len : s.streams.length ≤ 24
  kp : ∀ k ∈ s.streams, KpGd k
  mem : validM s.mem = true
  dev : ∀ c ∈ s.mem, c.set.getLastD 0 ≤ 9007199254740992
  text : s.text.length ≤ 1500 ∧ (s.text ≠ [] → okR s.text = true)
theorem zero_gd : SeGd Se.zero := ⟨by simp [Se.zero], by simp [Se.zero], by decide, by simp [Se.zero], by simp [Se.zero]⟩
theorem mod_gd {f : Kp → Kp} (hf : ∀ k, KpGd k → KpGd (f k)) : ∀ (l : List Kp) (i : Nat), (∀ k ∈ l, KpGd k) → ∀ k ∈ l.modify i f, KpGd k
  | [], i, h, k, hk => by cases i <;> simp at hk
  | x :: t, 0, h, k, hk => by
    rw [List.modify_zero_cons] at hk
    rcases List.mem_cons.1 hk with rfl | hk
    · exact hf _ (h _ (List.mem_cons_self ..))
    · exact h _ (List.mem_cons_of_mem _ hk)
  | x :: t, i + 1, h, k, hk => by
    rw [List.modify_succ_cons] at hk
    rcases List.mem_cons.1 hk with rfl | hk
    · exact h _ (List.mem_cons_self ..)
    · exact mod_gd hf t i (fun y hy => h y (List.mem_cons_of_mem _ hy)) k hk
theorem applyP_gd {s : Se} {r : Rc} (h : SeGd s) : SeGd (applyP okR s r).1 := by
  rw [applyP]
  split
  · exact zero_gd
  rename_i hp
  have hp : properR okR r = true := by simpa using hp
  rw [properR, Bool.and_eq_true] at hp
  obtain ⟨_, hp⟩ := hp
  generalize bsW s.streams r.id 0 s.streams.length = i
  generalize hasW s.streams r.id i = b
  obtain ⟨h1, h2, h3, h4, h5⟩ := h
  rw [stepP]
  by_cases k1 : r.kind = 1
  · rw [if_pos k1]
    rw [if_pos k1] at hp
    simp only [Bool.and_eq_true, decide_eq_true_eq] at hp
    obtain ⟨p1, p2, p3, p4, p5, p6⟩ := hp
    split
    · exact zero_gd
    split
    · exact zero_gd
    refine ⟨?_, fun k hk => ?_, h3, h4, h5⟩
    · simp only [List.length_append, List.length_cons, List.length_take, List.length_drop]; omega
    · simp only [List.mem_append, List.mem_cons] at hk
      rcases hk with hk | rfl | hk
      · exact h2 k (List.mem_of_mem_take hk)
      · exact ⟨p1, p2, p3, p4, p5, p6, ⟨by show (0 : Int) ≤ 100; decide, by show (100 : Int) ≤ 100; decide⟩, by show (0 : Int) ≤ 9007199254740992; decide⟩
      · exact h2 k (List.mem_of_mem_drop hk)
  rw [if_neg k1]
  rw [if_neg k1] at hp
  by_cases k6 : r.kind = 6
  · rw [if_pos k6]
    rw [if_neg (by omega), if_neg (by omega), if_neg (by omega), if_neg (by omega), if_pos k6] at hp
    simp only [Bool.and_eq_true, decide_eq_true_eq] at hp
    obtain ⟨p1, p2⟩ := hp
    obtain ⟨X, e, x1, x2, x3⟩ := valid_rem s.mem ⟨r.role, r.set, r.dev⟩ h3 p1
    rw [e, if_pos O]
    refine ⟨h1, h2, x3, fun c hc => ?_, h5⟩
    simp only [List.mem_append, List.mem_singleton] at hc
    rcases hc with hc | rfl
    · exact h4 c (List.mem_filter.1 (x1.subset hc)).1
    · exact p2
  rw [if_neg k6]
  by_cases k7 : r.kind = 7
  · rw [if_pos k7]
    rw [if_neg (by omega), if_neg (by omega), if_neg (by omega), if_neg (by omega), if_neg k6, if_pos k7] at hp
    simp only [Bool.and_eq_true, decide_eq_true_eq] at hp
    exact ⟨h1, h2, h3, h4, hp.1, fun _ => hp.2⟩
  rw [if_neg k7]
  split
  · exact zero_gd
  by_cases k2 : r.kind = 2
  · rw [if_pos k2]
    refine ⟨?_, fun k hk => ?_, h3, h4, h5⟩
    · simp only [List.length_append, List.length_take, List.length_drop]; omega
    · simp only [List.mem_append] at hk
      rcases hk with hk | hk
      · exact h2 k (List.mem_of_mem_take hk)
      · exact h2 k (List.mem_of_mem_drop hk)
  rw [if_neg k2]
  rw [if_neg k2] at hp
  by_cases k3 : r.kind = 3
  · rw [if_pos k3]
    rw [if_pos k3] at hp
    simp only [Bool.and_eq_true, decide_eq_true_eq] at hp
    exact ⟨by simp only [List.length_modify]; exact h1, mod_gd (f := fun k => { k with vol := r.n }) (fun k g => ⟨g.id, g.role, g.dir, g.ch, g.rate, g.lat, hp.2, g.pin⟩) _ _ h2, h3, h4, h5⟩
  rw [if_neg k3]
  rw [if_neg k3] at hp
  by_cases k4 : r.kind = 4
  · rw [if_pos k4]
    exact ⟨by simp only [List.length_modify]; exact h1, mod_gd (f := fun k => { k with muted := decide (r.n = 1) }) (fun k g => ⟨g.id, g.role, g.dir, g.ch, g.rate, g.lat, g.vol, g.pin⟩) _ _ h2, h3, h4, h5⟩
  rw [if_neg k4]
  rw [if_neg k4] at hp
  by_cases k5 : r.kind = 5
  · rw [if_pos k5]
    rw [if_pos k5] at hp
    simp only [Bool.and_eq_true, decide_eq_true_eq] at hp
    exact ⟨by simp only [List.length_modify]; exact h1, mod_gd (f := fun k => { k with pin := r.dev }) (fun k g => ⟨g.id, g.role, g.dir, g.ch, g.rate, g.lat, g.vol, hp.2⟩) _ _ h2, h3, h4, h5⟩
  · rw [if_neg k5]
    exact ⟨h1, h2, h3, h4, h5⟩
theorem replay_gd : ∀ (l : List Rc) (s : Se) (n : Nat), SeGd s → SeGd (replayGo okR l s n).1
  | [], s, n, h => h
  | x :: t, s, n, h => by
    rw [replayGo]
    split
    · exact replay_gd t _ _ (applyP_gd h)
    · exact h
theorem sesGo_gd (l : List Int) : ∀ (k a : Nat) (s : Se) (o : List Rc), SeGd s → SeGd (sesGo l k a s o).1
  | 0, a, s, o, h => h
  | k + 1, a, s, o, h => by
    rw [sesGo]
    split
    · exact sesGo_gd l k _ _ _ (applyP_gd h)
    · exact sesGo_gd l k _ _ _ h
theorem sesP_gd (l : List Int) (a : Nat) : SeGd (sesP l a).1 := sesGo_gd l _ _ _ _ zero_gd
theorem modify_last (x : Kp) (f : Kp → Kp) : ∀ l : List Kp, (l ++ [x]).modify l.length f = l ++ [f x]
  | [] => rfl
  | y :: t => by rw [List.cons_append, List.length_cons, List.modify_succ_cons, modify_last x f t, List.cons_append]
theorem insI_app {id : Int} (t : List Kp) : ∀ l : List Kp, (∀ k ∈ l, k.id < id) → insI (l ++ t) id = l.length + insI t id
  | [], h => by simp
  | y :: r, h => by
    have ih := insI_app t r (fun k hk => h k (List.mem_cons_of_mem _ hk))
    have hy := h y (List.mem_cons_self ..)
    simp only [insI, List.cons_append, List.takeWhile_cons, hy, decide_true, if_true, List.length_cons] at ih ⊢
    omega
theorem asc_lt {l : List Kp} {x : Kp} (h : Asc (l ++ [x])) : ∀ k ∈ l, k.id < x.id := fun k hk => (List.pairwise_append.1 h).2.2 k hk x (List.mem_singleton.2 O)
theorem asc_ch {l : List Kp} {x y : Kp} (h : Asc (l ++ [x])) (e : y.id = x.id) : Asc (l ++ [y]) := by
  have := asc_lt h
  have h2 := (List.pairwise_append.1 h).1
  refine List.pairwise_append.2 ⟨h2, by simp, fun a ha b hb => ?_⟩
  obtain rfl := List.mem_singleton.1 hb
  have := this a ha
  omega
theorem has_no (l : List Kp) (id : Int) : hasW l id l.length = false := by simp [hasW]
theorem has_last (l : List Kp) (x : Kp) : hasW (l ++ [x]) x.id l.length = true := by simp [hasW]
theorem insI_nil (id : Int) : insI [] id = 0 := rfl
theorem insI_self (x : Kp) : insI [x] x.id = 0 := by simp [insI, List.takeWhile_cons]
theorem apply_last {l : List Kp} {x : Kp} {m : List Ch} {tx : List UInt8} {r : Rc} (ha : Asc (l ++ [x])) (hp : properR okR r = true) (hid : r.id = x.id) : applyP okR ⟨l ++ [x], m, tx⟩ r = stepP ⟨l ++ [x], m, tx⟩ r l.length true := by
  rw [applyP, if_neg (by simp [hp])]
  simp only
  rw [bs_ins ha, hid, insI_app _ _ (asc_lt ha), insI_self, Nat.add_zero, has_last]
theorem apply_end {l : List Kp} {m : List Ch} {tx : List UInt8} {r : Rc} (ha : Asc l) (hp : properR okR r = true) (hid : ∀ k ∈ l, k.id < r.id) : applyP okR ⟨l, m, tx⟩ r = stepP ⟨l, m, tx⟩ r l.length false := by
  rw [applyP, if_neg (by simp [hp])]
  simp only
  have h0 := insI_app [] l hid
  rw [List.append_nil, insI_nil, Nat.add_zero] at h0
  rw [bs_ins ha, h0, has_no]
theorem prop1 {k : Kp} (g : KpGd k) : properR okR ⟨1, k.id, k.role, k.dir, k.ch, k.rate, k.lat, 0, 0, [], []⟩ = true := by
  obtain ⟨g1, g2, g3, g4, g5, g6, g7, g8⟩ := g
  simp only [properR, aloneP, if_true, Bool.and_eq_true, decide_eq_true_eq]
  exact ⟨trivial, g1, g2, g3, g4, g5, g6⟩
theorem prop3 {id n : Int} (h1 : 1 ≤ id ∧ id ≤ 9007199254740992) (h2 : 0 ≤ n ∧ n ≤ 100) : properR okR ⟨3, id, [], 0, 0, 0, 0, n, 0, [], []⟩ = true := by
  simp only [properR, aloneP, Int.reduceEq, if_true, if_false, true_or, Bool.and_eq_true, decide_eq_true_eq]
  exact ⟨trivial, h1, h2⟩
theorem prop4 {id : Int} (h1 : 1 ≤ id ∧ id ≤ 9007199254740992) : properR okR ⟨4, id, [], 0, 0, 0, 0, 1, 0, [], []⟩ = true := by
  simp only [properR, aloneP, Int.reduceEq, if_true, if_false, or_true, Bool.and_eq_true, decide_eq_true_eq]
  exact ⟨trivial, h1, by decide⟩
theorem prop5 {id d : Int} (h1 : 1 ≤ id ∧ id ≤ 9007199254740992) (h2 : d ≤ 9007199254740992) : properR okR ⟨5, id, [], 0, 0, 0, 0, 0, d, [], []⟩ = true := by
  simp only [properR, aloneP, Int.reduceEq, if_true, if_false, or_self, Bool.and_eq_true, decide_eq_true_eq]
  exact ⟨trivial, h1, h2⟩
theorem rep_k {L : List Rc} {l : List Kp} {k : Kp} (h : Rep L ⟨l, [], []⟩) (ha : Asc (l ++ [k])) (hg : KpGd k) (hl : l.length < 24) : Rep (recK L k) ⟨l ++ [k], [], []⟩ := by
  have hal : Asc l := (List.pairwise_append.1 ha).1
  have hk : k = ⟨k.id, k.role, k.dir, k.ch, k.rate, k.lat, k.vol, k.muted, k.pin⟩ := rfl
  rw [recK]
  refine rep_add (s := ⟨l ++ [⟨k.id, k.role, k.dir, k.ch, k.rate, k.lat, k.vol, k.muted, 0⟩], [], []⟩) (rep_add (s := ⟨l ++ [⟨k.id, k.role, k.dir, k.ch, k.rate, k.lat, k.vol, false, 0⟩], [], []⟩) (rep_add (s := ⟨l ++ [⟨k.id, k.role, k.dir, k.ch, k.rate, k.lat, 100, false, 0⟩], [], []⟩) (rep_add h (fun _ => ?_) (fun h => by simp at h)) (fun _ => ?_) (fun h => ?_)) (fun hm => ?_) (fun h => ?_)) (fun _ => ?_) (fun h => ?_)
  · refine (apply_end hal (prop1 hg) (asc_lt ha)).trans ?_
    rw [stepP, if_pos O, if_neg (by decide), if_neg (by simp only; omega)]
    simp only [List.take_length, List.drop_length]
  · refine Eq.trans (apply_last ?_ (prop3 hg.id hg.vol) ?_) ?_
    · exact asc_ch ha O
    · rfl
    rw [stepP]
    simp only [Int.reduceEq, Bool.true_eq_false, if_true, if_false, modify_last]
  · have : k.vol = 100 := by simpa using h
    rw [this]
  · refine Eq.trans (apply_last ?_ (prop4 hg.id) ?_) ?_
    · exact asc_ch ha O
    · rfl
    rw [stepP]
    simp only [Int.reduceEq, Bool.true_eq_false, if_true, if_false, modify_last, hm, decide_true]
  · rw [h]
  · refine Eq.trans (apply_last ?_ (prop5 hg.id hg.pin) ?_) ?_
    · exact asc_ch ha O
    · rfl
    rw [stepP]
    simp only [Int.reduceEq, Bool.true_eq_false, if_true, if_false, modify_last]
  · have : k.pin = 0 := by simpa using h
    rw [hk, this]
theorem rep_ks : ∀ (t l : List Kp) (L : List Rc), Rep L ⟨l, [], []⟩ → Asc (l ++ t) → (∀ k ∈ t, KpGd k) → (l ++ t).length ≤ 24 → Rep (t.foldl recK L) ⟨l ++ t, [], []⟩
  | [], l, L, h, _, _, _ => by rw [List.append_nil]; exact h
  | k :: t, l, L, h, ha, hg, hl => by
    have e : l ++ k :: t = (l ++ [k]) ++ t := by simp
    have hl2 := hl
    rw [List.length_append, List.length_cons] at hl2
    rw [e] at ha hl ⊢
    rw [List.foldl_cons]
    exact rep_ks t (l ++ [k]) _ (rep_k h (List.pairwise_append.1 ha).1 (hg k (List.mem_cons_self ..)) (by omega)) ha (fun x hx => hg x (List.mem_cons_of_mem _ hx)) hl
theorem valid_pre {l t : List Ch} (h : validM (l ++ t) = true) : validM l = true := by
  simp only [validM, Bool.and_eq_true, decide_eq_true_eq, valid_iff] at h ⊢
  obtain ⟨h1, h2, h3, _⟩ := h
  refine ⟨by rw [List.length_append] at h1; omega, fun d hd => h2 d (List.mem_append_left _ hd), (List.pairwise_append.1 h3).1, fun x hx => by simp at hx⟩
theorem rem_last {l : List Ch} {c : Ch} (h : validM (l ++ [c]) = true) : rememberP l c = (l ++ [c], 0) ∧ properB c = true := by
  have hv := valid_pre h
  simp only [validM, Bool.and_eq_true, decide_eq_true_eq, valid_iff] at h
  obtain ⟨h1, h2, h3, _⟩ := h
  have hp := h2 c (by simp)
  have hlike := (List.pairwise_append.1 h3).2.2
  have hf : (l.filter fun d => !likeB c d) = l := List.filter_eq_self.2 fun d hd => by rw [hlike d hd c (by simp)]; rfl
  refine ⟨?_, hp⟩
  rw [rememberP, if_neg (by simp [hv]), if_neg (by simp [hp]), hf, if_neg (by omega)]
theorem rep_cs {st : List Kp} (hst : Asc st) (hid : ∀ k ∈ st, 1 ≤ k.id) : ∀ (t l : List Ch) (L : List Rc), Rep L ⟨st, l, []⟩ → validM (l ++ t) = true → (∀ c ∈ t, c.set.getLastD 0 ≤ 9007199254740992) → Rep (t.foldl recC L) ⟨st, l ++ t, []⟩
  | [], l, L, h, _, _ => by rw [List.append_nil]; exact h
  | c :: t, l, L, h, hv, hd => by
    have e : l ++ c :: t = (l ++ [c]) ++ t := by simp
    rw [e] at hv ⊢
    rw [List.foldl_cons]
    obtain ⟨e1, e2⟩ := rem_last (valid_pre hv)
    refine rep_cs hst hid t (l ++ [c]) _ (rep_add h (fun _ => ?_) (fun h => by simp at h)) hv (fun x hx => hd x (List.mem_cons_of_mem _ hx))
    have hc := hd c (List.mem_cons_self ..)
    have hp : properR okR ⟨6, 0, c.role, 0, 0, 0, 0, 0, c.dev, c.set, []⟩ = true := by
      simp only [properR, aloneP, Int.reduceEq, if_true, if_false, or_self, Bool.and_eq_true, decide_eq_true_eq]
      exact ⟨trivial, e2, hc⟩
    rw [applyP, if_neg (by simp [hp]), stepP]
    simp only [Int.reduceEq, if_true, if_false, e1]
theorem rep_recs {s : Se} (h : SeGd s) (ha : Asc s.streams) : Rep (recsP s) s := by
  obtain ⟨st, m, tx⟩ := s
  obtain ⟨h1, h2, h3, h4, h5, h6⟩ := h
  simp only at h1 h2 h3 h4 h5 h6 ha
  have r1 := rep_ks st [] [] O ha h2 h1
  rw [List.nil_append] at r1
  have r2 := rep_cs ha (fun k hk => (h2 k hk).id.1) m [] _ r1 h3 h4
  rw [List.nil_append] at r2
  rw [recsP]
  refine rep_add r2 (fun h => ?_) (fun h => ?_)
  · have hne : tx ≠ [] := by simpa using h
    have hp : properR okR ⟨7, 0, [], 0, 0, 0, 0, 0, 0, [], tx⟩ = true := by
      simp only [properR, aloneP, Int.reduceEq, if_true, if_false, or_self, Bool.and_eq_true, decide_eq_true_eq]
      exact ⟨trivial, h5, h6 hne⟩
    rw [applyP, if_neg (by simp [hp]), stepP]
    simp only [Int.reduceEq, if_true, if_false]
  · have : tx = [] := by simpa using h
    rw [this]
theorem curN_at {b p : List UInt8} {v k : Nat} (hb : p ++ le v k <+: b) (hv : v < 256 ^ k) : curN b k ⟨(p.length : Int), 0⟩ = (v, ⟨((p ++ le v k).length : Int), 0⟩) := by
  obtain ⟨q, rfl⟩ := hb
  have hg := getM_in (p ++ le v k ++ q) p.length k (by simp only [List.length_append, le_length]; omega)
  have hs : seg (p ++ le v k ++ q) p.length k = le v k := by
    rw [seg, List.append_assoc, List.drop_append_of_le_length (Nat.le_refl _), List.drop_length, List.nil_append, List.take_append_of_le_length (by rw [le_length]; omega), List.take_of_length_le (by rw [le_length]; omega)]
  rw [hs, unle_le, Nat.mod_eq_of_lt hv] at hg
  rw [curN, if_neg (by simp), hg, if_neg (by simp)]
  simp only [List.length_append, le_length, Int.natCast_add]
theorem curT_at {b p s : List UInt8} (hb : putT p s <+: b) (hs : s.length ≤ 64) : curT b ⟨(p.length : Int), 0⟩ = (s, ⟨((putT p s).length : Int), 0⟩) := by
  obtain ⟨q, rfl⟩ := hb
  have e : putT p s ++ q = p ++ UInt8.ofNat s.length :: (s ++ q) := by simp [putT]
  have hlt : p.length < (putT p s ++ q).length := by rw [e]; simp
  have hx : (putT p s ++ q)[p.length] = UInt8.ofNat s.length := by simp [putT]
  have hn : (UInt8.ofNat s.length).toNat = s.length := by rw [UInt8.toNat_ofNat']; omega
  have hg := textM_at (putT p s ++ q) p.length hlt
  have hsg : seg (putT p s ++ q) (p.length + 1) s.length = s := by
    rw [e, seg, ← List.drop_drop, List.drop_append_of_le_length (Nat.le_refl _), List.drop_length, List.nil_append, List.drop_succ_cons, List.drop_zero, List.take_append_of_le_length (Nat.le_refl _), List.take_length]
  rw [hx, hn, if_neg (by omega), if_neg (by simp only [List.length_append, putT_length]; omega), hsg] at hg
  have h1 : (p.length : Int) + 1 + (s.length : Int) = ((putT p s).length : Int) := by rw [putT_length]; omega
  rw [curT, if_neg (by simp), hg, if_neg (by simp)]
  simp only [h1]
theorem setM_at {b : List UInt8} : ∀ (m : List Int) (p : List UInt8) (l : List Int), p ++ encSet m <+: b → (∀ x ∈ m, 0 ≤ x ∧ x < 18446744073709551616) → setM b m.length ⟨(p.length : Int), 0⟩ l = (l ++ m, ⟨((p ++ encSet m).length : Int), 0⟩)
  | [], p, l, _, _ => by simp [setM, encSet]
  | x :: t, p, l, h, hx => by
    have h0 := hx x (List.mem_cons_self ..)
    rw [encSet, ← List.append_assoc] at h
    have h1 := curN_at (b := b) (p := p) (v := x.toNat) (k := 8) ((List.prefix_append _ _).trans h) (by omega)
    rw [List.length_cons, setM, if_pos O, h1]
    simp only
    rw [setM_at t _ _ h (fun y hy => hx y (List.mem_cons_of_mem _ hy)), encSet, show ((x.toNat : Nat) : Int) = x by omega]
    simp [List.append_assoc]
theorem i64w_nat {x : Int} (h : 0 ≤ x ∧ x < 9223372036854775808) : i64w x.toNat = x := by
  rw [i64w, show ((x.toNat : Nat) : Int) = x by omega]
  exact IntWalk.i64_in _ (by omega)
set_option maxHeartbeats 1000000 in
theorem recM_enc {r : Rc} (hf : Fine r) : (recM (encR r)).1 = r ∧ (recM (encR r)).2.er = 0 := by
  obtain ⟨f1, f2, f3, f4, f5, f6, f7, f8, f9, f10, f11, f12⟩ := hf
  generalize hb : encR r = b
  rw [encR] at hb
  obtain ⟨kind, id, role, dir, ch, rate, lat, n, dev, set, text⟩ := r
  simp only at f1 f2 f3 f4 f5 f6 f7 f8 f9 f10 f11 f12 hb
  obtain ⟨l1, e1⟩ : ∃ x, x = ([] : List UInt8) ++ le kind.toNat 2 := ⟨_, rfl⟩
  rw [← e1] at hb
  obtain ⟨l2, e2⟩ : ∃ x, x = l1 ++ le id.toNat 8 := ⟨_, rfl⟩
  rw [← e2] at hb
  obtain ⟨l3, e3⟩ : ∃ x, x = putT l2 role := ⟨_, rfl⟩
  rw [← e3] at hb
  obtain ⟨l4, e4⟩ : ∃ x, x = l3 ++ le dir.toNat 2 := ⟨_, rfl⟩
  rw [← e4] at hb
  obtain ⟨l5, e5⟩ : ∃ x, x = l4 ++ le ch.toNat 2 := ⟨_, rfl⟩
  rw [← e5] at hb
  obtain ⟨l6, e6⟩ : ∃ x, x = l5 ++ le rate.toNat 8 := ⟨_, rfl⟩
  rw [← e6] at hb
  obtain ⟨l7, e7⟩ : ∃ x, x = l6 ++ le lat.toNat 8 := ⟨_, rfl⟩
  rw [← e7] at hb
  obtain ⟨l8, e8⟩ : ∃ x, x = l7 ++ le n.toNat 2 := ⟨_, rfl⟩
  rw [← e8] at hb
  obtain ⟨l9, e9⟩ : ∃ x, x = l8 ++ le dev.toNat 8 := ⟨_, rfl⟩
  rw [← e9] at hb
  obtain ⟨l10, e10⟩ : ∃ x, x = l9 ++ le set.length 2 := ⟨_, rfl⟩
  rw [← e10] at hb
  obtain ⟨l11, e11⟩ : ∃ x, x = l10 ++ encSet set := ⟨_, rfl⟩
  rw [← e11] at hb
  obtain ⟨l12, e12⟩ : ∃ x, x = l11 ++ le text.length 2 := ⟨_, rfl⟩
  rw [← e12] at hb
  have p12 : l12 <+: b := ⟨text, hb⟩
  have p11 : l11 <+: b := (e12 ▸ List.prefix_append _ _ : l11 <+: l12).trans p12
  have p10 : l10 <+: b := (e11 ▸ List.prefix_append _ _ : l10 <+: l11).trans p11
  have p9 : l9 <+: b := (e10 ▸ List.prefix_append _ _ : l9 <+: l10).trans p10
  have p8 : l8 <+: b := (e9 ▸ List.prefix_append _ _ : l8 <+: l9).trans p9
  have p7 : l7 <+: b := (e8 ▸ List.prefix_append _ _ : l7 <+: l8).trans p8
  have p6 : l6 <+: b := (e7 ▸ List.prefix_append _ _ : l6 <+: l7).trans p7
  have p5 : l5 <+: b := (e6 ▸ List.prefix_append _ _ : l5 <+: l6).trans p6
  have p4 : l4 <+: b := (e5 ▸ List.prefix_append _ _ : l4 <+: l5).trans p5
  have p3 : l3 <+: b := (e4 ▸ List.prefix_append _ _ : l3 <+: l4).trans p4
  have p2 : l2 <+: b := (e3 ▸ List.prefix_append _ _ : l2 <+: l3).trans p3
  have p1 : l1 <+: b := (e2 ▸ List.prefix_append _ _ : l1 <+: l2).trans p2
  have c1 := curN_at (b := b) (p := []) (v := kind.toNat) (k := 2) (e1 ▸ p1) (by omega)
  have c2 := curN_at (b := b) (p := l1) (v := id.toNat) (k := 8) (e2 ▸ p2) (by omega)
  have c3 := curT_at (b := b) (p := l2) (s := role) (e3 ▸ p3) f3
  have c4 := curN_at (b := b) (p := l3) (v := dir.toNat) (k := 2) (e4 ▸ p4) (by omega)
  have c5 := curN_at (b := b) (p := l4) (v := ch.toNat) (k := 2) (e5 ▸ p5) (by omega)
  have c6 := curN_at (b := b) (p := l5) (v := rate.toNat) (k := 8) (e6 ▸ p6) (by omega)
  have c7 := curN_at (b := b) (p := l6) (v := lat.toNat) (k := 8) (e7 ▸ p7) (by omega)
  have c8 := curN_at (b := b) (p := l7) (v := n.toNat) (k := 2) (e8 ▸ p8) (by omega)
  have c9 := curN_at (b := b) (p := l8) (v := dev.toNat) (k := 8) (e9 ▸ p9) (by omega)
  have c10 := curN_at (b := b) (p := l9) (v := set.length) (k := 2) (e10 ▸ p10) (by omega)
  have c11 := setM_at (b := b) set l10 [] (e11 ▸ p11) f11
  have c12 := curN_at (b := b) (p := l11) (v := text.length) (k := 2) (e12 ▸ p12) (by omega)
  rw [← e1] at c1
  rw [← e2] at c2
  rw [← e3] at c3
  rw [← e4] at c4
  rw [← e5] at c5
  rw [← e6] at c6
  rw [← e7] at c7
  rw [← e8] at c8
  rw [← e9] at c9
  rw [← e10] at c10
  rw [← e11, List.nil_append] at c11
  rw [← e12] at c12
  rw [List.length_nil] at c1
  have hbl : b.length = l12.length + text.length := by rw [← hb, List.length_append]
  have hdr : b.drop l12.length = text := by rw [← hb, List.drop_append_of_le_length (Nat.le_refl _), List.drop_length, List.nil_append]
  have c0 : curN b 2 ⟨0, 0⟩ = (kind.toNat, ⟨(l1.length : Int), 0⟩) := c1
  simp only [recM, c0, c2, c3, c4, c5, c6, c7, c8, c9, c10, c11, c12]
  rw [if_pos ⟨trivial, by omega⟩, i64w_nat f2, i64w_nat f6, i64w_nat f7]
  simp only [Int.toNat_natCast, hdr, and_true]
  rw [show ((kind.toNat : Nat) : Int) = kind by omega, show ((dir.toNat : Nat) : Int) = dir by omega, show ((ch.toNat : Nat) : Int) = ch by omega, show ((n.toNat : Nat) : Int) = n by omega, show ((dev.toNat : Nat) : Int) = dev by omega]
theorem decM_enc {r : Rc} (hp : properR okR r = true) (hw : Rwf r) : decM (encR r) = some r := by
  obtain ⟨h1, h2⟩ := recM_enc (proper_fine hp hw)
  rw [decM, h1, h2, if_neg (by simp [hp])]
theorem proper_set {r : Rc} (hp : properR okR r = true) : r.set.length ≤ 8 := by
  rw [properR, Bool.and_eq_true, decide_eq_true_eq] at hp
  obtain ⟨ha, hp⟩ := hp
  have hs := congrArg Rc.set ha
  by_cases k6 : r.kind = 6
  · rw [if_neg (by omega), if_neg (by omega), if_neg (by omega), if_neg (by omega), if_neg (by omega), if_pos k6] at hp
    simp only [properB, Bool.and_eq_true, decide_eq_true_eq] at hp
    omega
  · have : r.set = [] := by
      rw [hs, aloneP]
      (repeat' split) <;> first | rfl | omega
    rw [this]
    exact Nat.zero_le _
theorem encR_few {r : Rc} (hp : properR okR r = true) (hw : Rwf r) (ht : r.text.length ≤ 100) : (encR r).length ≤ 300 := by
  have h1 := proper_set hp
  have h2 := (proper_fine hp hw).role
  rw [encR]
  simp only [List.length_append, putT_length, le_length, encSet_len, List.length_nil]
  omega
theorem sesGo_all (l : List Int) : ∀ (k a : Nat) (s : Se) (o : List Rc), a ≤ l.length → (∀ r ∈ o, properR okR r = true ∧ Rwf r ∧ r.ok ∧ r.text.length ≤ 100) → (∀ r ∈ (sesGo l k a s o).2.1, properR okR r = true ∧ Rwf r ∧ r.ok ∧ r.text.length ≤ 100) ∧ (sesGo l k a s o).2.1.length ≤ o.length + k
  | 0, a, s, o, h1, h2 => ⟨h2, Nat.le_refl _⟩
  | k + 1, a, s, o, h1, h2 => by
    have hb := recP_ok l a h1
    have hp := recP_proper l a h1
    rw [sesGo]
    split
    · have := sesGo_all l k _ (applyP okR s (recP l a).1).1 (o ++ [(recP l a).1]) hb.2.2 (fun r hr => by
        rcases List.mem_append.1 hr with hr | hr
        · exact h2 r hr
        · obtain rfl := List.mem_singleton.1 hr
          exact ⟨hp.1, hp.2, hb.1, hb.2.1⟩)
      refine ⟨this.1, ?_⟩
      have h3 := this.2
      simp only [List.length_append, List.length_singleton] at h3
      omega
    · have := sesGo_all l k _ s o hb.2.2 h2
      exact ⟨this.1, by have := this.2; omega⟩
theorem sesP_all (l : List Int) : (∀ r ∈ (sesP l 0).2.1, properR okR r = true ∧ Rwf r ∧ r.ok ∧ r.text.length ≤ 100) ∧ (sesP l 0).2.1.length ≤ 100 := by
  have h := sesGo_all l (dkN l 0 14).toNat (dkA l 0) Se.zero [] (dkA_le (Nat.zero_le _)) (by simp)
  have hk := dkN_rng l 0 14 (by decide)
  exact ⟨h.1, by have := h.2; unfold sesP; simp only [List.length_nil] at this; omega⟩
theorem foldK_len : ∀ (l : List Kp) (L : List Rc), (l.foldl recK L).length ≤ L.length + 4 * l.length
  | [], L => by simp
  | k :: t, L => by
    have h1 := recK_len L k
    have h2 := foldK_len t (recK L k)
    simp only [List.foldl_cons, List.length_cons]
    omega
theorem foldC_len : ∀ (l : List Ch) (L : List Rc), (l.foldl recC L).length ≤ L.length + l.length
  | [], L => by simp
  | c :: t, L => by
    have h1 := addL_len true L ⟨6, 0, c.role, 0, 0, 0, 0, 0, c.dev, c.set, []⟩
    have h2 := foldC_len t (recC L c)
    rw [recC] at h2
    simp only [List.foldl_cons, List.length_cons]
    rw [recC]
    omega
theorem decs_enc : ∀ (rs : List Rc), (∀ r ∈ rs, decM (encR r) = some r) → decs (rs.map encR) = rs
  | [], _ => rfl
  | r :: t, h => by rw [List.map_cons, decs_some (h r (List.mem_cons_self ..)), decs_enc t (fun x hx => h x (List.mem_cons_of_mem _ hx))]
theorem resP_whole {b : List UInt8} {rs : List Rc} (hj : (jr b 0).1 = rs.map encR) (hr : ∀ r ∈ rs, decM (encR r) = some r) : resP b = replayGo okR rs Se.zero 0 := by
  rw [resP, hj, decs_enc rs hr]
theorem resP_torn {b : List UInt8} {rs : List Rc} (m : Nat) (hj : (jr b 0).1 = rs.map encR) (hr : ∀ r ∈ rs, decM (encR r) = some r) : ∃ k, k ≤ rs.length ∧ resP (b.take m) = replayGo okR (rs.take k) Se.zero 0 := by
  obtain ⟨z, hz⟩ := jr_pre _ (b.take m) (b.drop m) 0 (Nat.le_refl _)
  rw [List.take_append_drop, hj] at hz
  have hk : (jr (b.take m) 0).1.length ≤ rs.length := by
    have := congrArg List.length hz
    rw [List.length_map, List.length_append] at this
    omega
  refine ⟨_, hk, resP_whole ?_ (fun r hr' => hr r (List.mem_of_mem_take hr'))⟩
  have := congrArg (List.take (jr (b.take m) 0).1.length) hz
  rw [List.take_append_of_le_length (Nat.le_refl _), List.take_length] at this
  rw [List.map_take]
  exact this.symm
theorem recsP_few (s : Se) : (recsP s).length ≤ 4 * s.streams.length + s.mem.length + 1 := by
  have h3 := foldK_len s.streams []
  have h4 := foldC_len s.mem (s.streams.foldl recK [])
  have h5 := addL_len (decide (s.text ≠ [])) (s.mem.foldl recC (s.streams.foldl recK [])) ⟨7, 0, [], 0, 0, 0, 0, 0, 0, [], s.text⟩
  rw [recsP]
  simp only [List.length_nil] at h3
  omega
theorem proper_ok {r : Rc} (hp : properR okR r = true) : r.ok ∧ r.text.length ≤ 1500 := by
  have h8 := proper_set hp
  rw [properR, Bool.and_eq_true, decide_eq_true_eq] at hp
  obtain ⟨ha, hp⟩ := hp
  have hs := congrArg Rc.role ha
  have ht := congrArg Rc.text ha
  have h1 : r.role.length ≤ 64 := by
    by_cases k1 : r.kind = 1
    · rw [if_pos k1] at hp
      simp only [nameB, Bool.and_eq_true, decide_eq_true_eq] at hp
      omega
    by_cases k6 : r.kind = 6
    · rw [if_neg k1, if_neg (by omega), if_neg (by omega), if_neg (by omega), if_neg (by omega), if_pos k6] at hp
      simp only [properB, nameB, Bool.and_eq_true, decide_eq_true_eq] at hp
      omega
    have : r.role = [] := by
      rw [hs, aloneP]
      (repeat' split) <;> first | rfl | omega
    rw [this]
    exact Nat.zero_le _
  have h2 : r.text.length ≤ 1500 := by
    by_cases k7 : r.kind = 7
    · rw [if_neg (by omega), if_neg (by omega), if_neg (by omega), if_neg (by omega), if_neg (by omega), if_neg (by omega), if_pos k7] at hp
      simp only [Bool.and_eq_true, decide_eq_true_eq] at hp
      omega
    have : r.text = [] := by
      rw [ht, aloneP]
      (repeat' split) <;> first | rfl | omega
    rw [this]
    exact Nat.zero_le _
  exact ⟨⟨by omega, by omega, by omega⟩, h2⟩
theorem replay_proper : ∀ (l : List Rc) (s : Se) (n : Nat), (replayGo okR l s n).2.2 = 0 → ∀ r ∈ l, properR okR r = true
  | [], s, n, h, r, hr => by simp at hr
  | x :: t, s, n, h, r, hr => by
    rw [replayGo] at h
    split at h
    · rename_i he
      rcases List.mem_cons.1 hr with rfl | hr
      · cases hp : properR okR r with
        | true => rfl
        | false => rw [applyP, if_pos hp] at he; simp at he
      · exact replay_proper t _ _ h r hr
    · rename_i he
      exact absurd h he
structure Jl (o : List Rc) (i : Nat) (b : List UInt8) : Prop where
  rs : (jr b 0).1 = (o.take i).map encR
  er : (jr b 0).2.2.2 = 0
  len : b.length ≤ 310 * i
theorem jl_nil (o : List Rc) : Jl o 0 [] := by
  have h := jr_inl (jone_end (r := []) (last := 0) O)
  exact ⟨by rw [h]; rfl, by rw [h], by simp⟩
theorem jl_snoc {o : List Rc} {i : Nat} {b : List UInt8} (h : Jl o i b) (hi : i < o.length) (ho : o.length ≤ 100) (he : (encR o[i]).length ≤ 300) : Jl o (i + 1) (apM b (encR o[i])).1 := by
  obtain ⟨h1, h2, h3⟩ := h
  obtain ⟨_, a2, a3, _, a5⟩ := apM_jr h2 (x := encR o[i]) (by omega) (by omega)
  refine ⟨?_, a5, by omega⟩
  rw [a3, h1, List.take_succ_eq_append_getElem hi, List.map_append, List.map_singleton]
end Go.Proofs.YtbbcokckealagaaGreat
