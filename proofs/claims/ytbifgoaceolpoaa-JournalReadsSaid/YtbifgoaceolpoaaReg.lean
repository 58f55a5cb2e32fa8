/-
  A region that draws its order, by specifications of its operations' values: each operation is run once, in whatever world, out of what the operations before it have left; no order is enumerated. Plain theorems, no dump, no condition.
-/
import Derived.Test.YtbifgoaceolpoaaLib
import Derived.RegionTactic
namespace Go.Proofs.Ytbifgoaceolpoaa
open Go.RowKit
def depsOf (ops : Array Oper) (j : Nat) : List Nat := ((ops[j]?).map fun o => (o.after.toList.filter (Region.binds .any)).map (·.on)).getD []
def updV (vals : Nat → Value) (j : Nat) (v : Value) : Nat → Value := fun i => if i = j then v else vals i
theorem updV_same (vals : Nat → Value) (j : Nat) (v : Value) : updV vals j v j = v := by simp [updV]
theorem updV_other (vals : Nat → Value) (j i : Nat) (v : Value) (h : i ≠ j) : updV vals j v i = vals i := by simp [updV, h]
def depsDown (ops : Array Oper) : Bool := (List.range ops.size).all fun j => (depsOf ops j).all (fun i => decide (i < j))

section
variable {P : Program} {ops : Array Oper} {Q : Exit → Act → World → Prop}
theorem ready_of {listed : Array Bool} {j : Nat} (hj : j < ops.size) (hl : listed.getD j true = false) (hd : ∀ i ∈ depsOf ops j, listed.getD i false = true) : j ∈ Region.ready .any ops listed := by
  unfold Region.ready
  rw [List.mem_filter]
  refine ⟨List.mem_range.2 hj, ?_⟩
  simp only [hl, Bool.not_false, Bool.true_and, Array.getElem?_eq_getElem hj, Option.map_some, Option.getD_some]
  rw [Array.all_eq_true']
  intro e he
  by_cases hb : Region.binds .any e
  · have : e.on ∈ depsOf ops j := by
      simp only [depsOf, Array.getElem?_eq_getElem hj, Option.map_some, Option.getD_some, List.mem_map, List.mem_filter]
      exact ⟨e, ⟨by simpa using he, hb⟩, rfl⟩
    simp [hb, hd _ this]
  · simp [hb]
theorem of_ready {listed : Array Bool} {j : Nat} (h : j ∈ Region.ready .any ops listed) : j < ops.size ∧ listed.getD j true = false ∧ ∀ i ∈ depsOf ops j, listed.getD i false = true := by
  unfold Region.ready at h
  rw [List.mem_filter] at h
  obtain ⟨hj, h⟩ := h
  have hj := List.mem_range.1 hj
  simp only [Array.getElem?_eq_getElem hj, Option.map_some, Option.getD_some, Bool.and_eq_true, Bool.not_eq_true'] at h
  refine ⟨hj, h.1, fun i hi => ?_⟩
  simp only [depsOf, Array.getElem?_eq_getElem hj, Option.map_some, Option.getD_some, List.mem_map, List.mem_filter] at hi
  obtain ⟨e, ⟨he, hb⟩, rfl⟩ := hi
  have h2 := h.2
  rw [Array.all_eq_true'] at h2
  have := h2 e (by simpa using he)
  simpa [hb] using this

theorem wpAny_inv (F : (Nat → Value) → Act) (vals0 : Nat → Value) (S : Nat → Value → World → Prop) (B : Nat) (w0 : World)
    (down : depsDown ops = true)
    (mono : ∀ j v w w', S j v w → Below w.heap.size w w' → S j v w') (hB : B ≤ w0.heap.size)
    (step : ∀ j, j < ops.size → ∀ vals w, Below B w0 w → (∀ i ∈ depsOf ops j, S i (vals i) w) → (∀ k, k < ops.size → j ∈ depsOf ops k → vals k = vals0 k) → vals j = vals0 j →
      ∀ K : Act → World → Prop, (∀ v w', S j v w' → Below w.heap.size w w' → K (F (updV vals j v)) w') → wpOp P ops Q j K (F vals) w)
    (fin : ∀ vals w, Below B w0 w → (∀ j, j < ops.size → S j (vals j) w) → Q .normal (F vals) w) :
    ∀ (fuel : Nat) (listed : Array Bool) (vals : Nat → Value) (w : World), listed.size = ops.size →
      (∃ todo : List Nat, todo.length ≤ fuel ∧ ∀ j, j < ops.size → listed.getD j true = false → j ∈ todo) →
      (∀ j, j < ops.size → listed.getD j true = true → S j (vals j) w ∧ ∀ i ∈ depsOf ops j, listed.getD i false = true) →
      (∀ j, j < ops.size → listed.getD j true = false → vals j = vals0 j) → Below B w0 w → wpAny P .any ops Q fuel listed (F vals) w := by
  have small : ∀ j, j < ops.size → ∀ i ∈ depsOf ops j, i < j := by
    intro j hj i hi
    have h1 := (List.all_eq_true.1 down) j (List.mem_range.2 hj)
    simpa using (List.all_eq_true.1 h1) i hi
  have all_of : ∀ listed : Array Bool, listed.size = ops.size → Region.ready .any ops listed = [] → ∀ j, j < ops.size → listed.getD j true = true := by
    intro listed hs hr j
    induction j using Nat.strongRecOn with
    | _ j ih =>
      intro hj
      cases hl : listed.getD j true with
      | true => rfl
      | false =>
        have := ready_of (ops := ops) hj hl (fun i hi => by
          have hij := small j hj i hi
          have := ih i hij (by omega)
          simpa [Array.getD, show i < listed.size by omega] using this)
        rw [hr] at this
        cases this
  have flip : ∀ (listed : Array Bool) (i : Nat), listed.size = ops.size → i < ops.size → listed.getD i false = listed.getD i true := by
    intro listed i hs hi
    simp [Array.getD, show i < listed.size by omega]
  intro fuel
  induction fuel with
  | zero =>
    intro listed vals w hs ⟨todo, ht, htodo⟩ hdone hleft hb
    have hall : ∀ j, j < ops.size → listed.getD j true = true := by
      intro j hj
      cases hl : listed.getD j true with
      | true => rfl
      | false =>
        have := htodo j hj hl
        rw [List.eq_nil_of_length_eq_zero (Nat.le_zero.1 ht)] at this
        cases this
    refine ⟨?_, fin vals w hb fun j hj => (hdone j hj (hall j hj)).1⟩
    rw [List.eq_nil_iff_forall_not_mem]
    intro j hj
    obtain ⟨h1, h2, _⟩ := of_ready hj
    rw [hall j h1] at h2
    cases h2
  | succ fuel ih =>
    intro listed vals w hs ⟨todo, ht, htodo⟩ hdone hleft hb
    refine ⟨fun hr => fin vals w hb fun j hj => (hdone j hj (all_of listed hs hr j hj)).1, fun i hi => ?_⟩
    obtain ⟨h1, h2, h3⟩ := of_ready hi
    refine step i h1 vals w hb (fun k hk => ?_) (fun k hk hik => ?_) (hleft i h1 h2) _ ?_
    · have hki := small i h1 k hk
      exact (hdone k (by omega) (by rw [← flip listed k hs (by omega)]; exact h3 k hk)).1
    · cases hl : listed.getD k true with
      | false => exact hleft k hk hl
      | true =>
        have := (hdone k hk hl).2 i hik
        rw [flip listed i hs h1, h2] at this
        cases this
    · intro v w' hv hbw
      have hset : ∀ j d, j < ops.size → (listed.setIfInBounds i true).getD j d = if j = i then true else listed.getD j d := by
        intro j d hj
        simp only [Array.getD_eq_getD_getElem?, Array.getElem?_setIfInBounds]
        by_cases hji : i = j
        · subst hji; simp [show i < listed.size by omega]
        · simp [hji, show ¬ j = i from fun e => hji e.symm]
      refine ih _ _ w' (by simpa using hs) ⟨todo.erase i, ?_, fun j hj hl => ?_⟩ (fun j hj hl => ?_) (fun j hj hl => ?_) (below_nx hb (Nat.le_trans hB hb.size) hbw)
      · rw [List.length_erase_of_mem (htodo i h1 h2)]; omega
      · rw [hset j _ hj] at hl
        split at hl
        · cases hl
        · rename_i hji
          exact (List.mem_erase_of_ne hji).2 (htodo j hj hl)
      · rw [hset j _ hj] at hl
        split at hl
        · rename_i hji
          subst hji
          refine ⟨by rw [updV_same]; exact hv, fun k hk => ?_⟩
          have hkj := small j h1 k hk
          rw [hset k _ (by omega), h3 k hk]; simp
        · rename_i hji
          refine ⟨by rw [updV_other _ _ _ _ hji]; exact mono _ _ _ _ (hdone j hj hl).1 hbw, fun k hk => ?_⟩
          have hkj := small j hj k hk
          rw [hset k _ (by omega), (hdone j hj hl).2 k hk]; simp
      · rw [hset j _ hj] at hl
        split at hl
        · cases hl
        · rename_i hji
          rw [updV_other _ _ _ _ hji]
          exact hleft j hj hl

/-- A region that draws, by its operations' specifications. -/
theorem wp_region_inv {id : Nat} {a : Act} {w : World} (hm : P.follows .mixedOrders = true) (F : (Nat → Value) → Act) (vals0 : Nat → Value) (S : Nat → Value → World → Prop)
    (ha : a = F vals0) (down : depsDown ops = true)
    (mono : ∀ j v w w', S j v w → Below w.heap.size w w' → S j v w') {w00 : World} {B : Nat} (h00 : Below B w00 w) (hB : B ≤ w00.heap.size)
    (step : ∀ j, j < ops.size → ∀ vals w, Below B w00 w → (∀ i ∈ depsOf ops j, S i (vals i) w) → (∀ k, k < ops.size → j ∈ depsOf ops k → vals k = vals0 k) → vals j = vals0 j →
      ∀ K : Act → World → Prop, (∀ v w', S j v w' → Below w.heap.size w w' → K (F (updV vals j v)) w') → wpOp P ops Q j K (F vals) w)
    (fin : ∀ vals w, Below B w00 w → (∀ j, j < ops.size → S j (vals j) w) → Q .normal (F vals) w) : (Code.region id ops true).wp P Q a w := by
  subst ha
  refine wp_region_any hm (wpAny_inv F vals0 S B w00 down mono hB step fin ops.size _ vals0 w.drew (by simp) ⟨List.range ops.size, by simp, fun j hj _ => List.mem_range.2 hj⟩ (fun j hj hl => ?_) (fun _ _ _ => rfl) h00.drew)
  simp [Array.getD, hj] at hl
end

/-- the values of the operations laid into their slots -/
def putAll (a : Act) (vals : Nat → Value) : List (Option Tmp) → Nat → Act
  | [], _ => a
  | d :: r, j => putAll (a.put d (vals j)) vals r (j + 1)
def dstsOf (ops : Array Oper) : List (Option Tmp) := ops.toList.map (·.dst)
/-- all write a slot, no two the same, all within the frame -/
def dstsOk (l : List (Option Tmp)) (n : Nat) : Bool := l.all (fun d => match d with | some t => decide (t < n) | none => false) && decide l.Nodup

theorem put_tmps (a : Act) (d : Tmp) (v : Value) : (a.put (some d) v).tmps = a.tmps.setIfInBounds d v := rfl
theorem act_ext {a b : Act} (h : a.tmps = b.tmps) (h2 : a.defers = b.defers) : a = b := by cases a; cases b; simp_all
theorem put_put (a : Act) (d : Tmp) (u v : Value) : (a.put (some d) u).put (some d) v = a.put (some d) v :=
  act_ext (by simp only [put_tmps]; exact Array.setIfInBounds_setIfInBounds ..) rfl
theorem put_comm_ (a : Act) (d t : Tmp) (u v : Value) (h : d ≠ t) : (a.put (some d) u).put (some t) v = (a.put (some t) v).put (some d) u :=
  act_ext (by simp only [put_tmps]; exact Array.setIfInBounds_comm _ _ h) rfl
theorem putAll_put (vals : Nat → Value) (t : Tmp) (v : Value) : ∀ (l : List (Option Tmp)) (j : Nat) (a : Act), some t ∉ l → (∀ d ∈ l, d ≠ none) →
    putAll (a.put (some t) v) vals l j = (putAll a vals l j).put (some t) v := by
  intro l
  induction l with
  | nil => intro j a _ _; rfl
  | cons d r ih =>
    intro j a hn hs
    obtain ⟨d, rfl⟩ := Option.ne_none_iff_exists'.1 (hs d (by simp))
    simp only [putAll]
    have hd : t ≠ d := fun e => hn (by simp [e])
    rw [put_comm_ a t d v (vals j) hd]
    exact ih _ _ (fun h => hn (List.mem_cons_of_mem _ h)) (fun e h => hs e (List.mem_cons_of_mem _ h))
theorem putAll_congr (vals vals' : Nat → Value) : ∀ (l : List (Option Tmp)) (j : Nat) (a : Act), (∀ i, j ≤ i → vals i = vals' i) → putAll a vals l j = putAll a vals' l j := by
  intro l
  induction l with
  | nil => intro j a _; rfl
  | cons d r ih => intro j a h; simp only [putAll, h j (Nat.le_refl _)]; exact ih _ _ fun i hi => h i (by omega)
theorem putAll_upd (vals : Nat → Value) (v : Value) : ∀ (l : List (Option Tmp)) (j : Nat) (a : Act), l.Nodup → (∀ d ∈ l, d ≠ none) → ∀ (i : Nat) (d : Option Tmp), l[i]? = some d →
    putAll a (updV vals (j + i) v) l j = (putAll a vals l j).put d v := by
  intro l
  induction l with
  | nil => intro j a _ _ i d h; cases h
  | cons d0 r ih =>
    intro j a hn hs i d h
    obtain ⟨d0, rfl⟩ := Option.ne_none_iff_exists'.1 (hs d0 (by simp))
    have hn' := List.nodup_cons.1 hn
    cases i with
    | zero =>
      obtain rfl : some d0 = d := by simpa using h
      simp only [putAll, Nat.add_zero, updV_same]
      rw [putAll_congr (updV vals j v) vals r (j + 1) _ (fun i hi => updV_other _ _ _ _ (by omega)), putAll_put _ _ _ _ _ _ hn'.1 (fun e h => hs e (List.mem_cons_of_mem _ h)),
        putAll_put _ _ _ _ _ _ hn'.1 (fun e h => hs e (List.mem_cons_of_mem _ h)), put_put]
    | succ i =>
      simp only [putAll]
      rw [updV_other _ _ _ _ (by omega), show j + (i + 1) = (j + 1) + i by omega]
      exact ih (j + 1) _ hn'.2 (fun e h => hs e (List.mem_cons_of_mem _ h)) i d (by simpa using h)
theorem put_self (a : Act) (d : Tmp) (hd : d < a.tmps.size) : a.put (some d) (a.tmps.getD d undef) = a :=
  act_ext (by rw [put_tmps]; apply Array.ext (by simp); intro i h1 h2; by_cases h : d = i <;> simp_all) rfl
theorem putAll_self : ∀ (l : List (Option Tmp)) (j : Nat) (a : Act) (vals : Nat → Value), (∀ d ∈ l, ∃ t, d = some t ∧ t < a.tmps.size) → (∀ i t, l[i]? = some (some t) → vals (j + i) = a.tmps.getD t undef) → putAll a vals l j = a := by
  intro l
  induction l with
  | nil => intro j a _ _ _; rfl
  | cons d r ih =>
    intro j a vals hs hv
    obtain ⟨t, rfl, ht⟩ := hs d (by simp)
    simp only [putAll]
    rw [show vals j = a.tmps.getD t undef from hv 0 t rfl, put_self a t ht]
    exact ih (j + 1) a vals (fun e h => hs e (List.mem_cons_of_mem _ h)) (fun i t h => by rw [show j + 1 + i = j + (i + 1) by omega]; exact hv (i + 1) t (by simpa using h))

/-- p holds below n -/
def AllLt (p : Nat → Prop) : Nat → Prop
  | 0 => True
  | n + 1 => AllLt p n ∧ p n
theorem AllLt.get {p : Nat → Prop} : ∀ {n : Nat}, AllLt p n → ∀ j, j < n → p j
  | 0, _, j, hj => absurd hj (by omega)
  | n + 1, h, j, hj => by
    rcases Nat.lt_or_ge j n with h1 | h1
    · exact h.1.get j h1
    · obtain rfl : j = n := by omega
      exact h.2

section
variable {P : Program} {ops : Array Oper} {Q : Exit → Act → World → Prop}
/-- A region that draws: each operation once, in whatever world, out of what is known of those before it. -/
theorem wp_region_spec {id : Nat} {a : Act} {w : World} (S : Nat → Value → World → Prop) {w00 : World} {B : Nat} (h00 : Below B w00 w) (hB : B ≤ w00.heap.size)
    (hm : P.follows .mixedOrders = true) (ok : dstsOk (dstsOf ops) a.tmps.size = true) (down : depsDown ops = true) {n : Nat} (hn : ops.size = n)
    {F : (Nat → Value) → Act} (hF : ∀ vals, putAll a vals (dstsOf ops) 0 = F vals)
    (mono : AllLt (fun j => ∀ v w w', S j v w → Below w.heap.size w w' → S j v w') n)
    (step : AllLt (fun j => ∀ vals w, Below B w00 w → (∀ i, (depsOf ops j).contains i = true → S i (vals i) w) → (∀ k, k < n → (depsOf ops k).contains j = true → vals k = a.tmps.getD (((dstsOf ops).getD k none).getD 0) undef) →
      ∀ K : Act → World → Prop, (∀ v w', S j v w' → Below w.heap.size w w' → K ((F vals).put ((dstsOf ops).getD j none) v) w') → wpOp P ops Q j K (F vals) w) n)
    (fin : ∀ vals w, Below B w00 w → AllLt (fun j => S j (vals j) w) n → Q .normal (F vals) w) : (Code.region id ops true).wp P Q a w := by
  subst hn
  have ok2 := ok
  simp only [dstsOk, Bool.and_eq_true, decide_eq_true_eq, List.all_eq_true] at ok2
  have hsome : ∀ d ∈ dstsOf ops, ∃ t, d = some t ∧ t < a.tmps.size := by
    intro d hd
    have := ok2.1 d hd
    split at this
    · rename_i t; exact ⟨t, rfl, by simpa using this⟩
    · cases this
  have hnn : ∀ d ∈ dstsOf ops, d ≠ none := fun d hd => by obtain ⟨t, rfl, _⟩ := hsome d hd; simp
  have hlen : (dstsOf ops).length = ops.size := by simp [dstsOf]
  have hsz : ∀ (l : List (Option Tmp)) (vals : Nat → Value) (j : Nat) (b : Act), (putAll b vals l j).tmps.size = b.tmps.size := by
    intro l
    induction l with
    | nil => intro _ _ _; rfl
    | cons d r ih => intro vals j b; simp only [putAll]; rw [ih]; cases d <;> simp [Act.put]
  let S' : Nat → Value → World → Prop := fun j v w => if j < ops.size then S j v w else True
  refine wp_region_inv hm F (fun k => a.tmps.getD (((dstsOf ops).getD k none).getD 0) undef) S' ?_ down ?_ h00 hB ?_ ?_
  · rw [← hF]
    refine (putAll_self _ _ _ _ hsome fun i t hi => ?_).symm
    simp [List.getD, hi]
  · intro j v w w' h hb
    simp only [S'] at h ⊢
    split
    · rename_i hj; rw [if_pos hj] at h; exact mono.get j hj v w w' h hb
    · trivial
  · intro j hj vals w hb hd hk _ K hK
    have hdj := (List.all_eq_true.1 down) j (List.mem_range.2 hj)
    refine step.get j hj vals w hb (fun i hi => ?_) (fun k hkn hkj => hk k hkn (by simpa using hkj)) K fun v w' hs hb' => ?_
    · have hmem : i ∈ depsOf ops j := by simpa using hi
      have hij : i < j := by simpa using (List.all_eq_true.1 hdj) i hmem
      have := hd i hmem
      simp only [S'] at this
      rwa [if_pos (by omega)] at this
    · have := hK v w' (by simp only [S']; rw [if_pos hj]; exact hs) hb'
      rw [← hF] at this ⊢
      have hu := putAll_upd vals v (dstsOf ops) 0 a ok2.2 hnn j ((dstsOf ops).getD j none) (by simp [List.getD, hlen, hj])
      rw [Nat.zero_add] at hu
      rw [hu] at this
      exact this
  · intro vals w hb h
    refine fin vals w hb ?_
    have : ∀ m, m ≤ ops.size → AllLt (fun j => S j (vals j) w) m := by
      intro m
      induction m with
      | zero => intro _; trivial
      | succ m ih =>
        intro hm
        refine ⟨ih (by omega), ?_⟩
        have := h m (by omega)
        simp only [S'] at this
        rwa [if_pos (by omega)] at this
    exact this _ (Nat.le_refl _)
end
/-- specifications of values -/
def Is (u : Value) : Value → World → Prop := fun v _ => v = u
def IsB (n : Nat) (l : List UInt8) : Value → World → Prop := fun v w => ∃ A c, v = .slice A n c ∧ n ≤ c ∧ Rd w w.heap.size 1 A n (bv l)
def IsR (size n : Nat) (xs : List Value) : Value → World → Prop := fun v w => ∃ A c, v = .slice A n c ∧ n ≤ c ∧ Rd w w.heap.size size A n xs
theorem mono_is (u : Value) : ∀ v w w', Is u v w → Below w.heap.size w w' → Is u v w' := fun _ _ _ h _ => h
theorem mono_isB (n : Nat) (l : List UInt8) : ∀ v w w', IsB n l v w → Below w.heap.size w w' → IsB n l v w' :=
  fun _ _ _ ⟨A, c, hv, hc, hr⟩ hb => ⟨A, c, hv, hc, hr.nx hb⟩
theorem mono_isR (size n : Nat) (xs : List Value) : ∀ v w w', IsR size n xs v w → Below w.heap.size w w' → IsR size n xs v w' :=
  fun _ _ _ ⟨A, c, hv, hc, hr⟩ hb => ⟨A, c, hv, hc, hr.nx hb⟩
end Go.Proofs.Ytbifgoaceolpoaa
