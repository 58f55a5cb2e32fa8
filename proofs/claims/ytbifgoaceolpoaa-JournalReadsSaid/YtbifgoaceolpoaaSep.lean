/-
  A region that draws its order, by specifications of its operations' values, where an operation may write into what an operation before it has made: each value has a footprint of new blocks, and an operation may eat footprints. Plain theorems, no dump, no condition.
-/
import Derived.Test.YtbifgoaceolpoaaReg
import Derived.Test.YtbifgoaceolpoaaMem
namespace Go.Proofs.Ytbifgoaceolpoaa
open Go.RowKit
/-- w' agrees with w below B and on the blocks of F -/
def Ag (B : Nat) (F : Nat → Prop) (w w' : World) : Prop := w.heap.size ≤ w'.heap.size ∧ ∀ b, b < w.heap.size → (b < B ∨ F b) → w'.heap[b]? = w.heap[b]?
/-- w' is w, but for new blocks and the blocks of E -/
structure Wr (w w' : World) (E : Nat → Prop) : Prop where
  os : w'.os = w.os
  tape : w'.tape = w.tape
  output : w'.output = w.output
  size : w.heap.size ≤ w'.heap.size
  block : ∀ k, k < w.heap.size → ¬ E k → w'.heap[k]? = w.heap[k]?
theorem Wr.refl (w : World) (E : Nat → Prop) : Wr w w E := ⟨rfl, rfl, rfl, Nat.le_refl _, fun _ _ _ => rfl⟩
theorem Wr.below {w w' : World} (h : Below w.heap.size w w') (E : Nat → Prop) : Wr w w' E := ⟨h.os, h.tape, h.output, h.size, fun k hk _ => h.block k hk⟩
theorem Wr.grown {w w' : World} {g : Option Nat} (h : w.grownBy w' g) (E : Nat → Prop) (hE : ∀ b, g = some b → E b) : Wr w w' E :=
  ⟨h.os, h.tape, h.output, h.size, fun k hk hn => h.block k hk (fun e => hn (hE k e.symm))⟩
def EatsOk (ops : Array Oper) (eats : List (Nat × Nat)) : Bool :=
  eats.all fun p => (depsOf ops p.1).contains p.2 && decide (p.1 < ops.size) && eats.all fun q => if q.2 = p.2 then decide (q.1 = p.1) else true
section
variable {P : Program} {ops : Array Oper} {Q : Exit → Act → World → Prop}
def updF (Fs : Nat → Nat → Prop) (j : Nat) (F : Nat → Prop) : Nat → Nat → Prop := fun i => if i = j then F else Fs i
theorem updF_same (Fs : Nat → Nat → Prop) (j : Nat) (F : Nat → Prop) : updF Fs j F j = F := by simp [updF]
theorem updF_other (Fs : Nat → Nat → Prop) (j i : Nat) (F : Nat → Prop) (h : i ≠ j) : updF Fs j F i = Fs i := by simp [updF, h]

theorem wpAny_sep (fr : (Nat → Value) → Act) (vals0 : Nat → Value) (S : Nat → Value → World → (Nat → Prop) → Prop) (eats : List (Nat × Nat)) (B : Nat) (w0 : World)
    (down : depsDown ops = true) (eok : EatsOk ops eats = true)
    (mono : ∀ j v w w' F, S j v w F → Ag B F w w' → S j v w' F) (hB : B ≤ w0.heap.size)
    (step : ∀ j, j < ops.size → ∀ vals w (Fs : Nat → Nat → Prop), Below B w0 w → (∀ i ∈ depsOf ops j, (∀ k, (k, i) ∈ eats → k = j) → S i (vals i) w (Fs i) ∧ ∀ b, Fs i b → B ≤ b ∧ b < w.heap.size) → (∀ k, k < ops.size → j ∈ depsOf ops k → vals k = vals0 k) → vals j = vals0 j →
      ∀ K : Act → World → Prop, (∀ v w' F, S j v w' F → Wr w w' (fun b => ∃ i, (j, i) ∈ eats ∧ Fs i b) → (∀ b, F b → b < w'.heap.size ∧ (w.heap.size ≤ b ∨ ∃ i, (j, i) ∈ eats ∧ Fs i b)) → K (fr (updV vals j v)) w') → wpOp P ops Q j K (fr vals) w)
    (fin : ∀ vals w (Fs : Nat → Nat → Prop), Below B w0 w → (∀ j, j < ops.size → (∀ k, (k, j) ∉ eats) → S j (vals j) w (Fs j)) → Q .normal (fr vals) w) :
    ∀ (fuel : Nat) (listed : Array Bool) (vals : Nat → Value) (Fs : Nat → Nat → Prop) (w : World), listed.size = ops.size →
      (∃ todo : List Nat, todo.length ≤ fuel ∧ ∀ j, j < ops.size → listed.getD j true = false → j ∈ todo) →
      (∀ j, j < ops.size → listed.getD j true = true → ∀ i ∈ depsOf ops j, listed.getD i false = true) →
      (∀ j, j < ops.size → listed.getD j true = true → (∀ k, k < ops.size → listed.getD k true = true → (k, j) ∉ eats) → S j (vals j) w (Fs j) ∧ ∀ b, Fs j b → B ≤ b ∧ b < w.heap.size) →
      (∀ i j, i < ops.size → j < ops.size → i ≠ j → listed.getD i true = true → listed.getD j true = true → (∀ k, k < ops.size → listed.getD k true = true → (k, i) ∉ eats) → (∀ k, k < ops.size → listed.getD k true = true → (k, j) ∉ eats) → ∀ b, Fs i b → ¬ Fs j b) →
      (∀ j, j < ops.size → listed.getD j true = false → vals j = vals0 j) → Below B w0 w → wpAny P .any ops Q fuel listed (fr vals) w := by
  have small : ∀ j, j < ops.size → ∀ i ∈ depsOf ops j, i < j := by
    intro j hj i hi
    have h1 := (List.all_eq_true.1 down) j (List.mem_range.2 hj)
    simpa using (List.all_eq_true.1 h1) i hi
  have eat1 : ∀ k i, (k, i) ∈ eats → i ∈ depsOf ops k ∧ k < ops.size ∧ ∀ j, (j, i) ∈ eats → j = k := by
    intro k i h
    have h1 := (List.all_eq_true.1 eok) (k, i) h
    simp only [Bool.and_eq_true, List.contains_iff_mem, decide_eq_true_eq, List.all_eq_true] at h1
    refine ⟨h1.1.1, h1.1.2, fun j hd => ?_⟩
    have h2 := h1.2 (j, i) hd
    rw [if_pos rfl] at h2
    exact of_decide_eq_true h2
  have all_of : ∀ listed : Array Bool, listed.size = ops.size → Region.ready .any ops listed = [] → ∀ j, j < ops.size → listed.getD j true = true := by
    intro listed hs hr j
    induction j using Nat.strongRecOn with
    | _ j ih =>
      intro hj
      cases hl : listed.getD j true with
      | true => rfl
      | false =>
        have := ready_of (ops := ops) hj hl (fun i hi => by
          have hij := small j hj i hi
          have := ih i hij (by omega)
          simpa [Array.getD, show i < listed.size by omega] using this)
        rw [hr] at this
        cases this
  have flip : ∀ (listed : Array Bool) (i : Nat), listed.size = ops.size → i < ops.size → listed.getD i false = listed.getD i true := by
    intro listed i hs hi
    simp [Array.getD, show i < listed.size by omega]
  intro fuel
  induction fuel with
  | zero =>
    intro listed vals Fs w hs ⟨todo, ht, htodo⟩ hdep hdone hsep hleft hb
    have hall : ∀ j, j < ops.size → listed.getD j true = true := by
      intro j hj
      cases hl : listed.getD j true with
      | true => rfl
      | false =>
        have := htodo j hj hl
        rw [List.eq_nil_of_length_eq_zero (Nat.le_zero.1 ht)] at this
        cases this
    refine ⟨?_, fin vals w Fs hb fun j hj hu => (hdone j hj (hall j hj) fun k _ _ => hu k).1⟩
    rw [List.eq_nil_iff_forall_not_mem]
    intro j hj
    obtain ⟨h1, h2, _⟩ := of_ready hj
    rw [hall j h1] at h2
    cases h2
  | succ fuel ih =>
    intro listed vals Fs w hs ⟨todo, ht, htodo⟩ hdep hdone hsep hleft hb
    refine ⟨fun hr => fin vals w Fs hb fun j hj hu => (hdone j hj (all_of listed hs hr j hj) fun k _ _ => hu k).1, fun i hi => ?_⟩
    obtain ⟨h1, h2, h3⟩ := of_ready hi
    have huneat : ∀ d ∈ depsOf ops i, (∀ k, (k, d) ∈ eats → k = i) → ∀ k, k < ops.size → listed.getD k true = true → (k, d) ∉ eats := by
      intro d hd hall k hk hl he
      have := hall k he
      subst this
      rw [h2] at hl
      cases hl
    have hlist : ∀ d ∈ depsOf ops i, d < ops.size ∧ listed.getD d true = true := by
      intro d hd
      have hdi := small i h1 d hd
      exact ⟨by omega, by rw [← flip listed d hs (by omega)]; exact h3 d hd⟩
    refine step i h1 vals w Fs hb (fun d hd hall => hdone d (hlist d hd).1 (hlist d hd).2 (huneat d hd hall)) (fun k hk hik => ?_) (hleft i h1 h2) _ ?_
    · cases hl : listed.getD k true with
      | false => exact hleft k hk hl
      | true =>
        have := hdep k hk hl i hik
        rw [flip listed i hs h1, h2] at this
        cases this
    · intro v w' F hv hw hF
      have hset : ∀ j d, j < ops.size → (listed.setIfInBounds i true).getD j d = if j = i then true else listed.getD j d := by
        intro j d hj
        simp only [Array.getD_eq_getD_getElem?, Array.getElem?_setIfInBounds]
        by_cases hji : i = j
        · subst hji; simp [show i < listed.size by omega]
        · simp [hji, show ¬ j = i from fun e => hji e.symm]
      have hup : ∀ k, k < ops.size → listed.getD k true = true → (listed.setIfInBounds i true).getD k true = true := by
        intro k hk hl
        rw [hset k _ hk]; split
        · rfl
        · exact hl
      have hii : (listed.setIfInBounds i true).getD i true = true := by rw [hset i _ h1, if_pos rfl]
      -- what an eaten footprint is
      have eaten : ∀ b, (∃ d, (i, d) ∈ eats ∧ Fs d b) → B ≤ b ∧ b < w.heap.size ∧ ∀ j, j < ops.size → listed.getD j true = true → (∀ k, k < ops.size → (listed.setIfInBounds i true).getD k true = true → (k, j) ∉ eats) → ¬ Fs j b := by
        rintro b ⟨d, hd, hfb⟩
        have hdd := (eat1 i d hd).1
        have hun := huneat d hdd (fun k hk => (eat1 i d hd).2.2 k hk)
        have hr := (hdone d (hlist d hdd).1 (hlist d hdd).2 hun).2 b hfb
        refine ⟨hr.1, hr.2, fun j hj hl hu hjb => ?_⟩
        have hne : d ≠ j := by
          rintro rfl
          exact hu i h1 hii hd
        exact hsep d j (hlist d hdd).1 hj hne (hlist d hdd).2 hl hun (fun k hk hkl => hu k hk (hup k hk hkl)) b hfb hjb
      have hbel : Below B w w' := ⟨hw.os, hw.tape, hw.output, hw.size, fun k hk => by
        have hBw : B ≤ w.heap.size := Nat.le_trans hB hb.size
        exact hw.block k (by omega) fun he => by have := (eaten k he).1; omega⟩
      refine ih _ _ (updF Fs i F) w' (by simpa using hs) ⟨todo.erase i, ?_, fun j hj hl => ?_⟩ (fun j hj hl => ?_) (fun j hj hl hu => ?_) (fun a j ha hj haj hla hlj hua huj b hab hjb => ?_) (fun j hj hl => ?_) (hb.trans hbel)
      · rw [List.length_erase_of_mem (htodo i h1 h2)]; omega
      · rw [hset j _ hj] at hl
        split at hl
        · cases hl
        · rename_i hji
          exact (List.mem_erase_of_ne hji).2 (htodo j hj hl)
      · rw [hset j _ hj] at hl
        split at hl
        · rename_i hji
          subst hji
          intro k hk
          have hkj := small j h1 k hk
          rw [hset k _ (by omega), h3 k hk]; simp
        · intro k hk
          have hkj := small j hj k hk
          rw [hset k _ (by omega), hdep j hj hl k hk]; simp
      · rw [hset j _ hj] at hl
        split at hl
        · rename_i hji
          subst hji
          rw [updV_same, updF_same]
          refine ⟨hv, fun b hb' => ?_⟩
          obtain ⟨q1, q2⟩ := hF b hb'
          refine ⟨?_, q1⟩
          rcases q2 with q2 | q2
          · have := hb.size; omega
          · exact (eaten b q2).1
        · rename_i hji
          rw [updV_other _ _ _ _ hji, updF_other _ _ _ _ hji]
          obtain ⟨s1, s2⟩ := hdone j hj hl (fun k hk hkl => hu k hk (hup k hk hkl))
          refine ⟨mono _ _ _ _ _ s1 ⟨hw.size, fun b hbw hor => hw.block b hbw fun he => ?_⟩, fun b hb' => ⟨(s2 b hb').1, Nat.lt_of_lt_of_le (s2 b hb').2 hw.size⟩⟩
          obtain ⟨e1, e2, e3⟩ := eaten b he
          rcases hor with hor | hor
          · omega
          · exact e3 j hj hl hu hor
      · -- the footprints are apart
        rw [hset a _ ha] at hla
        rw [hset j _ hj] at hlj
        have one : ∀ j, j < ops.size → j ≠ i → listed.getD j true = true → (∀ k, k < ops.size → (listed.setIfInBounds i true).getD k true = true → (k, j) ∉ eats) → ∀ b, F b → ¬ Fs j b := by
          intro j hj hji hl hu b hFb hjb
          have hr := (hdone j hj hl (fun k hk hkl => hu k hk (hup k hk hkl))).2 b hjb
          rcases (hF b hFb).2 with q | q
          · omega
          · exact (eaten b q).2.2 j hj hl hu hjb
        by_cases hai : a = i
        · have hji : j ≠ i := fun e => haj (hai.trans e.symm)
          rw [hai, updF_same] at hab
          rw [updF_other _ _ _ _ hji] at hjb
          rw [if_neg hji] at hlj
          exact one j hj hji hlj huj b hab hjb
        · rw [updF_other _ _ _ _ hai] at hab
          rw [if_neg hai] at hla
          by_cases hji : j = i
          · rw [hji, updF_same] at hjb
            exact one a ha hai hla hua b hjb hab
          · rw [updF_other _ _ _ _ hji] at hjb
            rw [if_neg hji] at hlj
            exact hsep a j ha hj haj hla hlj (fun k hk hkl => hua k hk (hup k hk hkl)) (fun k hk hkl => huj k hk (hup k hk hkl)) b hab hjb
      · rw [hset j _ hj] at hl
        split at hl
        · cases hl
        · rename_i hji
          rw [updV_other _ _ _ _ hji]
          exact hleft j hj hl

/-- A region that draws: each operation once, in whatever world, out of what is known of those before it; 'eats' lists (operation, operation whose footprint it may write). -/
theorem wp_region_sep {id : Nat} {a : Act} {w : World} (S : Nat → Value → World → (Nat → Prop) → Prop) (eats : List (Nat × Nat)) {w00 : World} {B : Nat} (h00 : Below B w00 w) (hB : B ≤ w00.heap.size)
    (hm : P.follows .mixedOrders = true) (ok : dstsOk (dstsOf ops) a.tmps.size = true) (down : depsDown ops = true) (eok : EatsOk ops eats = true) {n : Nat} (hn : ops.size = n)
    {F : (Nat → Value) → Act} (hF : ∀ vals, putAll a vals (dstsOf ops) 0 = F vals)
    (mono : AllLt (fun j => ∀ v w w' G, S j v w G → Ag B G w w' → S j v w' G) n)
    (step : AllLt (fun j => ∀ vals w (Fs : Nat → Nat → Prop), Below B w00 w → (∀ i, (depsOf ops j).contains i = true → eats.all (fun p => p.2 != i || p.1 == j) = true → S i (vals i) w (Fs i) ∧ ∀ b, Fs i b → B ≤ b ∧ b < w.heap.size) → (∀ k, k < n → (depsOf ops k).contains j = true → vals k = a.tmps.getD (((dstsOf ops).getD k none).getD 0) undef) →
      ∀ K : Act → World → Prop, (∀ v w' G, S j v w' G → Wr w w' (fun b => ∃ i, (j, i) ∈ eats ∧ Fs i b) → (∀ b, G b → b < w'.heap.size ∧ (w.heap.size ≤ b ∨ ∃ i, (j, i) ∈ eats ∧ Fs i b)) → K ((F vals).put ((dstsOf ops).getD j none) v) w') → wpOp P ops Q j K (F vals) w) n)
    (fin : ∀ vals w (Fs : Nat → Nat → Prop), Below B w00 w → AllLt (fun j => eats.all (fun p => p.2 != j) = true → S j (vals j) w (Fs j)) n → Q .normal (F vals) w) : (Code.region id ops true).wp P Q a w := by
  subst hn
  have ok2 := ok
  simp only [dstsOk, Bool.and_eq_true, decide_eq_true_eq, List.all_eq_true] at ok2
  have hsome : ∀ d ∈ dstsOf ops, ∃ t, d = some t ∧ t < a.tmps.size := by
    intro d hd
    have := ok2.1 d hd
    split at this
    · rename_i t; exact ⟨t, rfl, by simpa using this⟩
    · cases this
  have hnn : ∀ d ∈ dstsOf ops, d ≠ none := fun d hd => by obtain ⟨t, rfl, _⟩ := hsome d hd; simp
  have hlen : (dstsOf ops).length = ops.size := by simp [dstsOf]
  let S' : Nat → Value → World → (Nat → Prop) → Prop := fun j v w G => if j < ops.size then S j v w G else True
  have hvals : a = F (fun k => a.tmps.getD (((dstsOf ops).getD k none).getD 0) undef) := by
    rw [← hF]
    refine (putAll_self _ _ _ _ hsome fun i t hi => ?_).symm
    simp [List.getD, hi]
  refine wp_region_any hm ?_
  rw [hvals]
  refine wpAny_sep F (fun k => a.tmps.getD (((dstsOf ops).getD k none).getD 0) undef) S' eats B w00 down eok ?_ hB ?_ ?_ ops.size _ _ (fun _ _ => False) w.drew (by simp) ⟨List.range ops.size, by simp, fun j hj _ => List.mem_range.2 hj⟩ (fun j hj hl => ?_) (fun j hj hl => ?_) (fun i j hi hj _ hl => ?_) (fun _ _ _ => rfl) h00.drew
  · intro j v w w' G h hb
    simp only [S'] at h ⊢
    split
    · rename_i hj; rw [if_pos hj] at h; exact mono.get j hj v w w' G h hb
    · trivial
  · intro j hj vals w Fs hb hd hk _ K hK
    have hdj := (List.all_eq_true.1 down) j (List.mem_range.2 hj)
    refine step.get j hj vals w Fs hb (fun i hi he => ?_) (fun k hkn hkj => hk k hkn (by simpa using hkj)) K fun v w' G hs hw hG => ?_
    · have hmem : i ∈ depsOf ops j := by simpa using hi
      have hij : i < j := by simpa using (List.all_eq_true.1 hdj) i hmem
      have := hd i hmem (fun k hk => by
        have := (List.all_eq_true.1 he) (k, i) hk
        simpa using this)
      simp only [S'] at this
      rwa [if_pos (by omega)] at this
    · have := hK v w' G (by simp only [S']; rw [if_pos hj]; exact hs) hw hG
      rw [← hF] at this ⊢
      have hu := putAll_upd vals v (dstsOf ops) 0 a ok2.2 hnn j ((dstsOf ops).getD j none) (by simp [List.getD, hlen, hj])
      rw [Nat.zero_add] at hu
      rw [hu] at this
      exact this
  · intro vals w Fs hb h
    refine fin vals w Fs hb ?_
    have : ∀ m, m ≤ ops.size → AllLt (fun j => eats.all (fun p => p.2 != j) = true → S j (vals j) w (Fs j)) m := by
      intro m
      induction m with
      | zero => intro _; trivial
      | succ m ih =>
        intro hm
        refine ⟨ih (by omega), fun hu => ?_⟩
        have := h m (by omega) (fun k hk => by
          have := (List.all_eq_true.1 hu) (k, m) hk
          simp at this)
        simp only [S'] at this
        rwa [if_pos (by omega)] at this
    exact this _ (Nat.le_refl _)
  · simp [Array.getD, hj] at hl
  · simp [Array.getD, hj] at hl
  · simp [Array.getD, hi] at hl
end
/-- specifications of values, with their footprints -/
def SIs (u : Value) : Value → World → (Nat → Prop) → Prop := fun v _ _ => v = u
def SOld (B n : Nat) (l : List UInt8) : Value → World → (Nat → Prop) → Prop := fun v w _ => B ≤ w.heap.size ∧ ∃ A c, v = .slice A n c ∧ n ≤ c ∧ Rd w B 1 A n (bv l)
def SOwn (B : Nat) (e : TypeId) (size n : Nat) (xs : List Value) : Value → World → (Nat → Prop) → Prop := fun v w G => ∃ A c, v = .slice A n c ∧ w.ownsRow B e size v n xs ∧ ∀ g, blk A = some g → G g
theorem mono_sis (B : Nat) (u : Value) : ∀ v w w' G, SIs u v w G → Ag B G w w' → SIs u v w' G := fun _ _ _ _ h _ => h
theorem Rd.ag {w w' : World} {B size n : Nat} {A : Option Addr} {xs : List Value} (h : Rd w B size A n xs) (hB : B ≤ w.heap.size) (G : Nat → Prop) (hg : Ag B G w w') : Rd w' B size A n xs :=
  h.keep fun p hp => World.cell?_of_block (hg.2 p.block (by omega) (.inl hp))
theorem mono_sold (B n : Nat) (l : List UInt8) : ∀ v w w' G, SOld B n l v w G → Ag B G w w' → SOld B n l v w' G :=
  fun _ _ _ G ⟨hB, A, c, hv, hc, hr⟩ hg => ⟨Nat.le_trans hB hg.1, A, c, hv, hc, hr.ag hB G hg⟩
theorem own_ag {w w' : World} {B : Nat} {e : TypeId} {size n c : Nat} {A : Option Addr} {xs : List Value} {G : Nat → Prop} (h : w.ownsRow B e size (.slice A n c) n xs) (hG : ∀ g, blk A = some g → G g) (hg : Ag B G w w') : w'.ownsRow B e size (.slice A n c) n xs := by
  refine ⟨h.1, ?_⟩
  rcases h.2 with h2 | ⟨g, cap, cur, hv, hb, hh, r⟩
  · exact .inl h2
  · have hA : A = some ⟨g, 0, none⟩ := by injection hv
    exact .inr ⟨g, cap, cur, hv, hb, by rw [hg.2 g (Array.getElem?_eq_some_iff.1 hh).1 (.inr (hG g (by rw [hA]; rfl)))]; exact hh, r⟩
theorem mono_sown (B : Nat) (e : TypeId) (size n : Nat) (xs : List Value) : ∀ v w w' G, SOwn B e size n xs v w G → Ag B G w w' → SOwn B e size n xs v w' G := by
  rintro v w w' G ⟨A, c, rfl, h, hG⟩ hg
  exact ⟨A, c, rfl, own_ag h hG hg, hG⟩
/-- as Rd, in blocks of G -/
structure RdG (w : World) (G : Nat → Prop) (size : Nat) (A : Option Addr) (n : Nat) (xs : List Value) : Prop where
  len : xs.length = n * size
  at_ : 0 < n → ∃ b off, A = some ⟨b, off, none⟩ ∧ b < w.heap.size ∧ G b ∧ ∀ j u, xs[j]? = some u → w.cell? ⟨b, off + j, none⟩ = some u
section
variable {w w' : World} {B size n c : Nat} {A : Option Addr} {xs : List Value} {G G' : Nat → Prop}
theorem RdG.of_rd (h : Rd w B size A n xs) (hB : B ≤ w.heap.size) (hG : ∀ b, b < B → G b) : RdG w G size A n xs :=
  ⟨h.len, fun hn => by
    obtain ⟨b, off, e, hb, hc⟩ := h.at_ hn
    exact ⟨b, off, e, by omega, hG b hb, hc⟩⟩
theorem RdG.of_own {e : TypeId} (h : w.ownsRow B e size (.slice A n c) n xs) (hG : ∀ g, blk A = some g → G g) : RdG w G size A n xs :=
  ⟨h.1, fun hn => by
    obtain ⟨b, off, e, hb, hc⟩ := (Rd.own h).at_ hn
    exact ⟨b, off, e, hb, hG b (by rw [e]; rfl), hc⟩⟩
theorem RdG.rd (h : RdG w G size A n xs) : Rd w w.heap.size size A n xs :=
  ⟨h.len, fun hn => by
    obtain ⟨b, off, e, hb, _, hc⟩ := h.at_ hn
    exact ⟨b, off, e, hb, hc⟩⟩
theorem RdG.keep (h : RdG w G size A n xs) (hs : w.heap.size ≤ w'.heap.size) (hk : ∀ b, b < w.heap.size → G b → w'.heap[b]? = w.heap[b]?) (hG : ∀ b, G b → G' b) : RdG w' G' size A n xs :=
  ⟨h.len, fun hn => by
    obtain ⟨b, off, e, hb, hg, hc⟩ := h.at_ hn
    exact ⟨b, off, e, by omega, hG b hg, fun j u hu => (World.cell?_of_block (hk b hb hg)).trans (hc j u hu)⟩⟩
end
/-- slices of bytes in blocks of G -/
def EachG (w : World) (G : Nat → Prop) : List Value → List (List UInt8) → Prop
  | [], [] => True
  | v :: vs, l :: ls => (∃ A c, v = .slice A l.length c ∧ l.length ≤ c ∧ RdG w G 1 A l.length (bv l)) ∧ EachG w G vs ls
  | _, _ => False
theorem EachG.keep {w w' : World} {G G' : Nat → Prop} (hs : w.heap.size ≤ w'.heap.size) (hk : ∀ b, b < w.heap.size → G b → w'.heap[b]? = w.heap[b]?) (hG : ∀ b, G b → G' b) : ∀ (vs : List Value) (ls : List (List UInt8)), EachG w G vs ls → EachG w' G' vs ls
  | [], [], _ => trivial
  | _ :: vs, _ :: ls, ⟨⟨A, c, h1, h2, h3⟩, h⟩ => ⟨⟨A, c, h1, h2, h3.keep hs hk hG⟩, EachG.keep hs hk hG vs ls h⟩
  | [], _ :: _, h => h.elim
  | _ :: _, [], h => h.elim
theorem EachG.toR {w : World} {G : Nat → Prop} : ∀ (vs : List Value) (ls : List (List UInt8)), EachG w G vs ls → EachR w vs ls
  | [], [], _ => ⟨rfl, fun i l h => by simp at h⟩
  | _ :: vs, l :: ls, ⟨⟨A, c, h1, h2, h3⟩, h⟩ => by
    have t := EachG.toR vs ls h
    subst h1
    refine ⟨by simp [t.1], fun i k hk => ?_⟩
    match i, hk with
    | 0, hk =>
      obtain rfl : l = k := by simpa using hk
      exact ⟨A, c, rfl, h2, h3.rd⟩
    | i + 1, hk => exact t.2 i k (by simpa using hk)
  | [], _ :: _, h => h.elim
  | _ :: _, [], h => h.elim
theorem EachG.len {w : World} {G : Nat → Prop} : ∀ (vs : List Value) (ls : List (List UInt8)), EachG w G vs ls → vs.length = ls.length
  | [], [], _ => rfl
  | _ :: vs, _ :: ls, ⟨_, h⟩ => by simp [EachG.len vs ls h]
  | [], _ :: _, h => h.elim
  | _ :: _, [], h => h.elim
/-- a row of slices of bytes -/
def SRows (B : Nat) (ls : List (List UInt8)) : Value → World → (Nat → Prop) → Prop := fun v w F => B ≤ w.heap.size ∧ ∃ A c vs, v = .slice A ls.length c ∧ ls.length ≤ c ∧ RdG w (fun b => b < B ∨ F b) 1 A ls.length vs ∧ EachG w (fun b => b < B ∨ F b) vs ls
theorem mono_srows (B : Nat) (ls : List (List UInt8)) : ∀ v w w' G, SRows B ls v w G → Ag B G w w' → SRows B ls v w' G :=
  fun _ _ _ _ ⟨hB, A, c, vs, hv, hc, hr, he⟩ hg => ⟨Nat.le_trans hB hg.1, A, c, vs, hv, hc, hr.keep hg.1 (fun b hb hG => hg.2 b hb hG) (fun _ h => h), he.keep hg.1 (fun b hb hG => hg.2 b hb hG) (fun _ h => h)⟩
theorem Wr.mono {w w' : World} {E E' : Nat → Prop} (h : Wr w w' E) (hE : ∀ b, E b → E' b) : Wr w w' E' := ⟨h.os, h.tape, h.output, h.size, fun k hk hn => h.block k hk fun he => hn (hE k he)⟩
section
variable {P : Program} {ops : Array Oper} {Q : Exit → Act → World → Prop}
theorem wpOp_do {j : Nat} {o : Oper} {K : Act → World → Prop} {a : Act} {w : World} (ho : ops[j]? = some o) (hgd : Region.wanted o (yielded ops a.tmps) = true)
    (h : ∀ K' : Act → World → Prop, (∀ a w, K a w → K' a w) → Oper.wp P o a w K' Q) : wpOp P ops Q j K a w :=
  wpOp_step ho fun K' hK' => by rw [if_pos hgd]; exact h K' hK'
/-- append onto what an operation before has made, which it eats -/
theorem wpOp_appS {j i : Nat} {eats : List (Nat × Nat)} {Fs : Nat → Nat → Prop} {K : Act → World → Prop} {o : Oper} {a : Act} {w : World} (hoj : ops[j]? = some o) (hgd : Region.wanted o (yielded ops a.tmps) = true) (s x : Operand) (t : TypeId)
    (ho : o.op = .call { callee := .builtin .append, args := #[s, x], argTypes := #[t, t] })
    {e : TypeId} {size bytes : Nat} {z : Value} (T : SlT P t e size bytes z) {base : TypeId} (hij : (j, i) ∈ eats)
    {n : Nat} {xs : List Value} (hown : SOwn base e size n xs (a.eval s) w (Fs i))
    {B : Nat} {A' : Option Addr} {m c' : Nat} {ys : List Value} (hx : a.eval x = .slice A' m c') (hr : Rd w B size A' m ys) (h1 : ∀ u ∈ ys, u.oneCell' = true)
    (hbytes : (n + m) * bytes ≤ 140737488355328) (h63 : n + m ≤ maxLen) (hbase : base ≤ w.heap.size)
    (h : ∀ v w' G, SOwn base e size (n + m) (xs ++ ys) v w' G → Wr w w' (fun b => ∃ d, (j, d) ∈ eats ∧ Fs d b) → (∀ b, G b → b < w'.heap.size ∧ (w.heap.size ≤ b ∨ ∃ d, (j, d) ∈ eats ∧ Fs d b)) → K (a.put o.dst v) w') : wpOp P ops Q j K a w := by
  obtain ⟨A, c, hs, hown, hG⟩ := hown
  refine wpOp_do hoj hgd fun K' hK => ?_
  rw [hs] at hown
  obtain ⟨A1, c1, w1, hrun, h2, h3, h4⟩ := run_app (P := P) w T o.type base hown (c' := c') hr h1 hbytes h63 hbase
  unfold Oper.wp execOp
  simp only [ho, resolve, invoke, builtin, Sem.run_bind, Sem.run_pure, Result.andThen_ok, List.map_toArray, List.map_cons, List.map_nil, hs, hx, hrun]
  refine hK _ _ (h _ _ (fun b => blk A1 = some b) ⟨A1, c1, rfl, h2, fun _ hg => hg⟩ (Wr.grown h3 _ fun b hb => ⟨i, hij, hG b hb⟩) fun b hb => ⟨?_, ?_⟩)
  · exact (h2.lt b (by rw [ownBlock_slice]; exact hb)).2
  · rcases h4 with h4 | h4
    · exact .inr ⟨i, hij, hG b (h4.symm.trans hb)⟩
    · left
      have : some b = some w.heap.size := hb.symm.trans h4
      injection this with this
      omega
/-- b[:j] of what was there before -/
theorem wpOp_cutS {j : Nat} {K : Act → World → Prop} {o : Oper} {a : Act} {w : World} (hoj : ops[j]? = some o) (hgd : Region.wanted o (yielded ops a.tmps) = true) (x h_ : Operand) (t : TypeId)
    (ho : o.op = .slice t x none (some h_) none) {e : TypeId} {z : Value} (T : SlT P t e 1 1 z)
    {B : Nat} {A : Option Addr} {n c : Nat} {l : List UInt8} (hx : a.eval x = .slice A n c) (hr : Rd w B 1 A n (bv l)) (hnc : n ≤ c) (k : Nat) (hh : a.eval h_ = .int .i64 (k : Int)) (hkn : k ≤ n) (hB : B ≤ w.heap.size) {E : Nat → Prop} {R : (Nat → Prop) → World → Prop} (hR : R (fun _ => False) w)
    (h : ∀ v w' G, SOld B k (l.take k) v w' G → Wr w w' E → R G w' → K (a.put o.dst v) w') : wpOp P ops Q j K a w := by
  refine wpOp_do hoj hgd fun K' hK => ?_
  obtain ⟨i0, hi0, hz, hs, hby⟩ := info_parts T.info
  have hr2 := (hr.cut (k := 0) (by omega) hnc).take (k := k) (by omega)
  simp only [Nat.zero_mul, List.drop_zero] at hr2
  have hrun : (Instr.sliceAt t (.slice A n c) none (some (.int .i64 (k : Int))) none).run P w = .ok (.slice (if c = 0 then A else A.map (·.add 0)) k c) w := by
    have b1 : (0 : Int) ≤ k ∧ (k : Int) ≤ c := by omega
    simp [Instr.sliceAt, Instr.slice, Instr.sliceBounds, Instr.sliceBound, run_underlying T.und, sizeOf, typeInfo, asIntOf, *]
    intro hcj
    omega
  unfold Oper.wp execOp
  simp only [ho, hx, hh, Sem.run_bind, Option.map_none, Option.map_some, hrun, Result.andThen_ok, Sem.run_pure]
  refine hK _ _ (h _ _ (fun _ => False) ⟨hB, _, c, rfl, by omega, ?_⟩ (Wr.refl _ _) hR)
  rw [Nat.mul_one] at hr2
  have : (bv l).take k = bv (l.take k) := by simp [bv, List.map_take]
  rwa [this] at hr2
end
end Go.Proofs.Ytbifgoaceolpoaa
