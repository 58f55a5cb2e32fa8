/-
  append onto an array of one's own that has no spare place.
-/
import Derived.Test.YtpacgphnpalepaaQAJ
import Derived.Test.YtpacgphnpalepaaQBA
import Derived.Test.YtpacgphnpalepaaQAN
import Derived.Test.YtpacgphnpalepaaQAP
import Derived.Test.YtpacgphnpalepaaQAI
import Derived.Test.YtpacgphnpalepaaQAO
import Derived.Test.YtpacgphnpalepaaASh
namespace Go.Proofs.Ytpacgphnpalepaa
open Go.RowKit
set_option linter.unusedVariables false
set_option linter.unusedSimpArgs false
variable {P : Program} {n : Nat} {ops : List Oper} {chk : List FP → Bool} {K : State → Prop} {o : Oper} {rest : List Oper} {fr : Fr} {σ : List Res} {acc : List FP}
theorem Run.apBG {d k k0 m C mm sz bytes : Nat} {s x : Operand} {t tx e : TypeId} {dx : TypeDesc} {z : Value} {xs ys : List (List PV)} {insx : Upds} [Und P t (.slice e)] [Und P tx dx] [TyI P e z sz bytes] (hall : ∀ acc, chk acc = true) (ho : o.dst = some d) (hop : o.op = .call { callee := .builtin .append, args := #[s, x], argTypes := #[t, tx] })
    (hw : wantA ops fr o = some true) (hd : Nat.blt d n = true) (hdx : (∃ e', dx = .slice e') ∨ dx = .string) (hzs : z.cells.size = sz) (hz1 : z.cells.toList.all (·.oneCell') = true) (hsv : evA fr s = .bsl k0 sz 0 m C) (hk0 : sto σ k0 = .box (bxs xs)) (hy : SrcNI P (evA fr x) σ sz ys insx) (hsx : ∀ y ∈ xs, y.length = sz) (hC : xs.length = C) (hm : m + ys.length = mm) (hlt : C < mm) (hk : k = σ.length) (hkl : k0 < σ.length) (hki : k ∉ keys insx) (hb : mm * bytes ≤ 140737488355328) (h63 : mm ≤ maxLen)
    (hr : ∀ d', Run P n ops chk K rest ⟨(d, .bsl k sz 0 mm (mm + d')) :: fr, σ ++ [.box (bxs (xs.take m ++ ys ++ List.replicate d' (z.cells.toList.map PV.v)))]⟩ acc) : Run P n ops chk K (o :: rest) ⟨fr, σ⟩ acc := by
  subst hk
  have hO := OpSN.apBB σ.length hop hzs hz1 hsv (hy.1.g hdx hzs) hC hsx hm hlt (by omega) hki hb h63
  have hput : ∀ r, okU σ.length [(σ.length, r)] = true ∧ updL σ [(σ.length, r)] = σ ++ [r] := fun r => okU_one (putEnd σ r)
  exact .opN hall hw (by rw [ho]; exact hd) hO (fun q hq => by
    rcases List.mem_cons.1 hq with rfl | hq
    · exact hk0
    · exact hy.2 q hq) (fun d' => (hput _).1) (fun d' k' hk' => .inr (by
    obtain rfl : k' = σ.length := by simpa [keys] using hk'
    exact Nat.le_refl _)) (fun d' => by rw [ho, (hput _).2]; exact hr d')
/-- arrays of one's own by places -/
theorem bxs_get (p : PV) : ∀ (xs : List (List PV)) (i : Nat), (∀ y ∈ xs, y.length = 1) → xs[i]? = some [p] → (bxs xs)[0 * 1 + i * 1]? = some p.av := by
  intro xs
  induction xs with
  | nil => intro i _ h; simp at h
  | cons x t ih =>
    intro i hz h
    obtain ⟨q, rfl⟩ : ∃ q, x = [q] := List.length_eq_one_iff.1 (hz x (List.mem_cons_self ..))
    cases i with
    | zero =>
      have : q = p := by simpa using h
      subst this
      rfl
    | succ i =>
      have := ih i (fun y hy => hz y (List.mem_cons_of_mem _ hy)) (by simpa using h)
      rw [show 0 * 1 + (i + 1) * 1 = (0 * 1 + i * 1) + 1 by omega]
      exact this
theorem bxs_put (p : PV) (xs : List (List PV)) (i : Nat) (hz : ∀ y ∈ xs, y.length = 1) (h : i < xs.length) : Over (bxs xs) (0 * 1 + i * 1) [p.av] (bxs (xs.set i [p])) := by
  rw [Nat.zero_mul, Nat.zero_add, Nat.mul_one]
  have := over_set p xs i hz h
  exact this
end Go.Proofs.Ytpacgphnpalepaa
/-
  Walks of the reference's rules: which conditions are true.
-/
namespace Go.Proofs.Ytpacgphnpalepaa
set_option linter.unusedVariables false
set_option linter.unusedSimpArgs false
set_option maxHeartbeats 4000000 in
theorem has_c (x : Wd) (l : List Wd) (f : Bool) (hl : l.length ≤ 9223372036854775807) : ACalls Try.prog 37 [.sl 1 (wdsP l) f, .v (.string (bs x))] [] (.v (.bool (inB l x))) [] := by
  generalize hR : inB l x = R
  have hcl : (wdsP l).length = l.length := by simp
  refine (ACalls.of (fn := Try.f37) Try.func37 rfl rfl Try.ntmps37 (fun I M w own => ?_))
  (repeat' (first | refine AW.seq_k (fun K hK => ?_) | (refine hK _ ?_; clear hK) | refine AW.block ?_ | refine AW.region (id := 0) ?_ | refine AW.region (id := 1) ?_ | refine Run.p rfl rfl rfl (OpP.asA rfl) ?_ | refine Run.fin rfl ?_))
  refine AW.loopF (X := Nat) (fun y => ⟨[(0, .sl 1 (wdsP l) f), (1, .v (.string (bs x))), (5, .v (.int .i64 (y : Int)))], []⟩) (fun y => y ≤ l.length ∧ (0 < y → x ≠ wAny) ∧ ∀ i : Nat, i < y → ∀ z, l[i]? = some z → z ≠ x) (fun y => l.length - y) 0 ?_ ⟨Nat.zero_le _, fun h => absurd h (Nat.lt_irrefl 0), fun i hi => by omega⟩ ?_
  · refine Conv.mk [] rfl rfl rfl ?_ rfl ?_
    · (repeat' (first | exact Cf.nil | exact Cv.refl | refine Cf.cons' (by (conv => lhs; whnf) <;> rfl) ?_ ?_))
    · (repeat' (first | exact Crs.nil))
  rintro y ⟨h1, h2, h3⟩
  rcases Nat.lt_or_ge y l.length with h | h
  · obtain ⟨z, hz⟩ : ∃ z, l[y]? = some z := ⟨l[y], by simp [h]⟩
    have hA : At (wdsP l) (y : Int) [PV.v (.string (bs z))] := At.mk y rfl (by simp [hz])
    have hlt : (y : Int) < ((wdsP l).length : Int) := by omega
    by_cases e1 : z = x
    · obtain rfl : R = true := by
        rw [← hR]
        have : x ∈ l := e1 ▸ List.mem_of_getElem? hz
        simp [inB, this]
      (repeat' (first | refine AW.seq_k (fun K hK => ?_) | (refine hK _ ?_; clear hK) | (refine AW.cond rfl (fun hc => ?_) (fun hc => ?_) <;> (try simp only [Bool.and_eq_true, Bool.or_eq_true, Bool.not_eq_true', Bool.not_eq_false', Bool.and_eq_false_iff, Bool.or_eq_false_iff, Bool.and_eq_false_imp, decide_eq_true_eq, decide_eq_false_iff_not, Decidable.not_not, Int.not_lt, Int.not_le, ne_eq, Bool.not_not] at hc) <;> try (first | (exfalso; omega) | (cases hc; done))) | refine AW.block ?_ | refine AW.ret ?_ | refine AW.skip ?_ | refine AW.region (id := 2) ?_ | refine AW.region (id := 4) ?_ | refine AW.region (id := 5) ?_ | refine Run.p rfl rfl rfl (OpP.mvA rfl) ?_ | refine Run.ri rfl rfl rfl (OpRI.lenA rfl rfl) rfl ?_ | refine Run.p rfl rfl rfl (OpP.decT (OpP.ltt rfl rfl rfl) (by assumption)) ?_ | refine Run.ri rfl rfl rfl (OpRI.indexAddrA rfl rfl) rfl ?_ | refine Run.p rfl rfl rfl (OpP.decT (OpP.seq rfl rfl rfl) (by assumption)) ?_ | refine Run.p rfl rfl rfl (OpP.asA rfl) ?_ | refine Run.p rfl rfl rfl (OpP.loadE1 rfl rfl rfl rfl (by (conv => lhs; whnf) <;> rfl)) ?_ | refine Run.p rfl rfl rfl (OpP.pickA rfl rfl) ?_ | refine Run.sk rfl rfl rfl ?_ | refine Run.fin rfl ?_))
      ((first | refine RetOk.tupS [] rfl rfl rfl rfl rfl ?_ ?_ | refine RetOk.oneS [] rfl rfl rfl rfl ?_ ?_) <;> (repeat' (first | exact RetC.nil | exact Cv.refl | exact Crs.nil | refine RetC.tmp (by (conv => lhs; whnf) <;> rfl) ?_ ?_)))
    by_cases e2 : x = [97, 110, 121]
    · obtain rfl : R = true := by
        have h0 : 0 < l.length := by omega
        rw [← hR, inB, e2]
        simp [wAny, h0]
      (repeat' (first | refine AW.seq_k (fun K hK => ?_) | (refine hK _ ?_; clear hK) | (refine AW.cond rfl (fun hc => ?_) (fun hc => ?_) <;> (try simp only [Bool.and_eq_true, Bool.or_eq_true, Bool.not_eq_true', Bool.not_eq_false', Bool.and_eq_false_iff, Bool.or_eq_false_iff, Bool.and_eq_false_imp, decide_eq_true_eq, decide_eq_false_iff_not, Decidable.not_not, Int.not_lt, Int.not_le, ne_eq, Bool.not_not] at hc) <;> try (first | (exfalso; omega) | (cases hc; done))) | refine AW.block ?_ | refine AW.ret ?_ | refine AW.skip ?_ | refine AW.region (id := 2) ?_ | refine AW.region (id := 4) ?_ | refine AW.region (id := 5) ?_ | refine Run.p rfl rfl rfl (OpP.mvA rfl) ?_ | refine Run.ri rfl rfl rfl (OpRI.lenA rfl rfl) rfl ?_ | refine Run.p rfl rfl rfl (OpP.decT (OpP.ltt rfl rfl rfl) (by assumption)) ?_ | refine Run.ri rfl rfl rfl (OpRI.indexAddrA rfl rfl) rfl ?_ | refine Run.p rfl rfl rfl (OpP.decT (OpP.seq rfl rfl rfl) (by assumption)) ?_ | refine Run.p rfl rfl rfl (OpP.asA rfl) ?_ | refine Run.p rfl rfl rfl (OpP.loadE1 rfl rfl rfl rfl (by (conv => lhs; whnf) <;> rfl)) ?_ | refine Run.p rfl rfl rfl (OpP.decF (OpP.seq rfl rfl rfl) (by assumption)) ?_ | refine Run.p rfl rfl rfl (OpP.pickA rfl rfl) ?_ | refine Run.fin rfl ?_))
      ((first | refine RetOk.tupS [] rfl rfl rfl rfl rfl ?_ ?_ | refine RetOk.oneS [] rfl rfl rfl rfl ?_ ?_) <;> (repeat' (first | exact RetC.nil | exact Cv.refl | exact Crs.nil | refine RetC.tmp (by (conv => lhs; whnf) <;> rfl) ?_ ?_)))
    (repeat' (first | refine AW.seq_k (fun K hK => ?_) | (refine hK _ ?_; clear hK) | (refine AW.cond rfl (fun hc => ?_) (fun hc => ?_) <;> (try simp only [Bool.and_eq_true, Bool.or_eq_true, Bool.not_eq_true', Bool.not_eq_false', Bool.and_eq_false_iff, Bool.or_eq_false_iff, Bool.and_eq_false_imp, decide_eq_true_eq, decide_eq_false_iff_not, Decidable.not_not, Int.not_lt, Int.not_le, ne_eq, Bool.not_not] at hc) <;> try (first | (exfalso; omega) | (cases hc; done))) | refine AW.block ?_ | refine AW.skip ?_ | refine AW.region (id := 2) ?_ | refine AW.region (id := 4) ?_ | refine AW.region (id := 3) ?_ | refine Run.p rfl rfl rfl (OpP.mvA rfl) ?_ | refine Run.ri rfl rfl rfl (OpRI.lenA rfl rfl) rfl ?_ | refine Run.p rfl rfl rfl (OpP.decT (OpP.ltt rfl rfl rfl) (by assumption)) ?_ | refine Run.ri rfl rfl rfl (OpRI.indexAddrA rfl rfl) rfl ?_ | refine Run.p rfl rfl rfl (OpP.addA rfl rfl rfl) ?_ | refine Run.p rfl rfl rfl (OpP.asA rfl) ?_ | refine Run.p rfl rfl rfl (OpP.loadE1 rfl rfl rfl rfl (by (conv => lhs; whnf) <;> rfl)) ?_ | refine Run.p rfl rfl rfl (OpP.decF (OpP.seq rfl rfl rfl) (by assumption)) ?_ | refine Run.p rfl rfl rfl (OpP.pickA rfl rfl) ?_ | refine Run.fin rfl ?_))
    ((repeat (with_reducible refine inB_n ?_)); refine thenA_n ?_)
    refine ⟨y + 1, ⟨h, fun _ => e2, fun i hi z' hz' => ?_⟩, by omega, ?_⟩
    · rcases Nat.lt_or_ge i y with q | q
      · exact h3 i q z' hz'
      · obtain rfl : i = y := by omega
        rw [hz] at hz'
        exact fun e => e1 (Option.some.inj hz' ▸ e)
    · refine Conv.mk [] rfl rfl rfl ?_ rfl ?_
      · (repeat' (first | exact Cf.nil | exact Cv.refl | refine Cf.cons' (by (conv => lhs; whnf) <;> rfl) ?_ ?_))
        all_goals first | rfl | (refine Cv.eq ?_; simp [AV.ren, renL]; done)
      · (repeat' (first | exact Crs.nil))
  · have hge : ¬ (y : Int) < ((wdsP l).length : Int) := by omega
    obtain rfl : R = false := by
      rw [← hR, inB, Bool.or_eq_false_iff]
      constructor
      · refine decide_eq_false (fun hm => ?_)
        obtain ⟨j, hj, e⟩ := List.mem_iff_getElem.1 hm
        exact h3 j (by omega) l[j] (List.getElem?_eq_getElem hj) e
      · rcases Nat.eq_zero_or_pos y with h0 | h0
        · have : ¬ 0 < l.length := by omega
          rw [decide_eq_false this, Bool.and_false]
        · rw [decide_eq_false (h2 h0), Bool.false_and]
    (repeat' (first | refine AW.seq_k (fun K hK => ?_) | (refine hK _ ?_; clear hK) | (refine AW.cond rfl (fun hc => ?_) (fun hc => ?_) <;> (try simp only [Bool.and_eq_true, Bool.or_eq_true, Bool.not_eq_true', Bool.not_eq_false', Bool.and_eq_false_iff, Bool.or_eq_false_iff, Bool.and_eq_false_imp, decide_eq_true_eq, decide_eq_false_iff_not, Decidable.not_not, Int.not_lt, Int.not_le, ne_eq, Bool.not_not] at hc) <;> try (first | (exfalso; omega) | (cases hc; done))) | refine AW.exit ?_ | refine AW.ret ?_ | (clear hK; refine hK _ ?_; clear hK) | refine AW.region (id := 2) ?_ | refine AW.region (id := 6) ?_ | refine Run.p rfl rfl rfl (OpP.mvA rfl) ?_ | refine Run.ri rfl rfl rfl (OpRI.lenA rfl rfl) rfl ?_ | refine Run.p rfl rfl rfl (OpP.asA rfl) ?_ | refine Run.p rfl rfl rfl (OpP.decF (OpP.ltt rfl rfl rfl) (by assumption)) ?_ | refine Run.fin rfl ?_))
    ((first | refine RetOk.tupS [] rfl rfl rfl rfl rfl ?_ ?_ | refine RetOk.oneS [] rfl rfl rfl rfl ?_ ?_) <;> (repeat' (first | exact RetC.nil | exact Cv.refl | exact Crs.nil | refine RetC.tmp (by (conv => lhs; whnf) <;> rfl) ?_ ?_)))
theorem properF_no {c : List Tm} (h : properF c = false) (rs ds : List Wd) : holdsF rs ds c = false := by
  simp only [properF, Bool.or_eq_false_iff, decide_eq_false_iff_not] at h
  rw [holdsF, if_neg h.2, foldE]
  by_cases h16 : 16 < c.length
  · rw [if_pos h16]; rfl
  rw [if_neg h16]
  have h1 := h.1
  rw [foldNE, if_neg h16] at h1
  have hl := foldB_len rs ds c []
  cases hb : foldB rs ds [] c with
  | none => rfl
  | some st =>
    rw [hb] at hl
    rcases st with _ | ⟨a, _ | ⟨b, t⟩⟩
    · rfl
    · simp only [Option.map_some, List.length_cons, List.length_nil] at hl
      rw [← hl] at h1
      simp at h1
    · rfl
theorem properF_yes {c : List Tm} (h : properF c = true) (hc : c ≠ []) (rs ds : List Wd) : ∃ b, foldB rs ds [] c = some [b] ∧ holdsF rs ds c = b := by
  have h1 : foldNE c = true := by simpa [properF, hc] using h
  rw [foldNE] at h1
  split at h1
  · cases h1
  rename_i h16
  obtain ⟨v, hv⟩ := Prop1.val (c := c) (of_decide_eq_true (p := foldN 0 c = some 1) h1) rs ds
  exact ⟨v, hv, holdsF_val hv (by omega)⟩
theorem blP_one (l : List Bool) : ∀ y ∈ blP l, y.length = 1 := by
  intro y hy
  obtain ⟨b, _, rfl⟩ := List.mem_map.1 hy
  rfl
theorem ap_zs (st : List Bool) (j : Bool) (jr : List Bool) (b : Bool) : (blP (st ++ j :: jr)).take st.length ++ ([[PV.v (.bool b)]] ++ (blP (st ++ j :: jr)).drop (st.length + 1)) = blP (st ++ [b] ++ jr) := by
  have e1 : (blP (st ++ j :: jr)).take st.length = blP st := by
    rw [show blP (st ++ j :: jr) = blP st ++ blP (j :: jr) from List.map_append]
    exact List.take_left' (by simp)
  have e2 : (blP (st ++ j :: jr)).drop (st.length + 1) = blP jr := by
    rw [show blP (st ++ j :: jr) = blP (st ++ [j]) ++ blP jr by rw [← List.map_append]; simp]
    exact List.drop_left' (by simp)
  rw [e1, e2]
  simp
theorem ap_full (st : List Bool) (b : Bool) (dd : Nat) : (blP (st ++ [])).take st.length ++ [[PV.v (.bool b)]] ++ List.replicate dd [PV.v (.bool false)] = blP (st ++ [b] ++ List.replicate dd false) := by
  rw [List.append_nil, List.take_of_length_le (by simp)]
  simp
theorem foldB_cons {rs ds : List Wd} {st : List Bool} {k : Int} {nm : Wd} {r : List Tm} {x : List Bool} (h : foldB rs ds st ((k, nm) :: r) = some x) : (0 ≤ arityF k ∧ arityF k ≤ st.length) ∧
    foldB rs ds (st.take (st.length - (arityF k).toNat) ++ [holdB rs ds k nm (st.drop (st.length - (arityF k).toNat))]) r = some x := by
  rw [foldB] at h
  split at h
  · cases h
  · rename_i hb
    have := badT_false hb
    exact ⟨⟨this.1, this.2.1⟩, h⟩
theorem last1 {st : List Bool} (h : 1 ≤ st.length) : ∃ s a, st = s ++ [a] ∧ st.length = s.length + 1 := by
  refine ⟨st.dropLast, st.getLast (by intro e; simp [e] at h), (List.dropLast_concat_getLast _).symm, by rw [List.length_dropLast]; omega⟩
theorem last2 {st : List Bool} (h : 2 ≤ st.length) : ∃ s a b, st = s ++ [a, b] ∧ st.length = s.length + 2 := by
  obtain ⟨s, b, h1, h2⟩ := last1 (st := st) (by omega)
  obtain ⟨s', a, h3, h4⟩ := last1 (st := s) (by omega)
  exact ⟨s', a, b, by rw [h1, h3]; simp, by omega⟩
theorem bl_get {l : List Bool} {i : Nat} {a : Bool} (h : l[i]? = some a) : (bxs (blP l))[0 * 1 + i * 1]? = some (AV.v (.bool a)) := bxs_get (PV.v (.bool a)) (blP l) i (blP_one l) (by simp [h])
theorem bl_put {l m : List Bool} {i : Nat} {a : Bool} (h : i < l.length) (hm : l.set i a = m) : Over (bxs (blP l)) (0 * 1 + i * 1) [.v (.bool a)] (bxs (blP m)) := by
  have := bxs_put (PV.v (.bool a)) (blP l) i (blP_one l) (by simpa using h)
  rw [← hm, show blP (l.set i a) = (blP l).set i [PV.v (.bool a)] by simp [List.map_set]]
  exact this
set_option maxHeartbeats 4000000 in
theorem rHolds_c (rs ds : List Wd) (fr fd f : Bool) (c : List Tm) (hc : c.length ≤ 1000000) (hn : ∀ t ∈ c, t.2.length ≤ 9223372036854775807) (hr : rs.length ≤ 9223372036854775807) (hd : ds.length ≤ 9223372036854775807) :
    ACalls Try.prog 19 [.sl 2 (tmP c) f, .sl 1 (wdsP rs) fr, .sl 1 (wdsP ds) fd] [] (.v (.bool (holdsF rs ds c))) [] := by
  have hp := rproper_c f c hc hn
  have hcl : (tmP c).length = c.length := by simp
  refine (ACalls.of (fn := Try.f19) Try.func19 rfl rfl Try.ntmps19 (fun I M w own => ?_))
  cases hq : properF c with
  | false =>
    rw [hq] at hp
    rw [properF_no hq]
    (repeat' (first | refine AW.seq_k (fun K hK => ?_) | (refine hK _ ?_; clear hK) | (refine AW.cond rfl (fun hc => ?_) (fun hc => ?_) <;> (try simp only [Bool.and_eq_true, Bool.or_eq_true, Bool.not_eq_true', Bool.not_eq_false', Bool.and_eq_false_iff, Bool.or_eq_false_iff, Bool.and_eq_false_imp, decide_eq_true_eq, decide_eq_false_iff_not, Decidable.not_not, Int.not_lt, Int.not_le, ne_eq, Bool.not_not] at hc) <;> try (first | (exfalso; omega) | (cases hc; done))) | refine AW.ret ?_ | refine AW.region (id := 0) ?_ | refine AW.region (id := 1) ?_ | refine AW.region (id := 2) ?_ | refine Run.p rfl rfl rfl (OpP.asA rfl) ?_ | refine Run.p rfl rfl rfl (OpP.mvA rfl) ?_ | refine Run.c0 hp rfl rfl rfl rfl rfl rfl rfl rfl ?_ | refine Run.p rfl rfl rfl (OpP.not rfl rfl) ?_ | refine Run.fin rfl ?_))
    ((first | refine RetOk.tupS [] rfl rfl rfl rfl rfl ?_ ?_ | refine RetOk.oneS [] rfl rfl rfl rfl ?_ ?_) <;> (repeat' (first | exact RetC.nil | exact Cv.refl | exact Crs.nil | refine RetC.tmp (by (conv => lhs; whnf) <;> rfl) ?_ ?_)))
  | true =>
  rw [hq] at hp
  by_cases hz : c = []
  · have hz' : ((tmP c).length : Int) = 0 := by rw [hz]; rfl
    rw [show holdsF rs ds c = true by rw [holdsF, if_pos hz]]
    (repeat' (first | refine AW.seq_k (fun K hK => ?_) | (refine hK _ ?_; clear hK) | (refine AW.cond rfl (fun hc => ?_) (fun hc => ?_) <;> (try simp only [Bool.and_eq_true, Bool.or_eq_true, Bool.not_eq_true', Bool.not_eq_false', Bool.and_eq_false_iff, Bool.or_eq_false_iff, Bool.and_eq_false_imp, decide_eq_true_eq, decide_eq_false_iff_not, Decidable.not_not, Int.not_lt, Int.not_le, ne_eq, Bool.not_not] at hc) <;> try (first | (exfalso; omega) | (cases hc; done))) | refine AW.ret ?_ | refine AW.skip ?_ | refine AW.region (id := 0) ?_ | refine AW.region (id := 1) ?_ | refine AW.region (id := 3) ?_ | refine AW.region (id := 4) ?_ | refine Run.p rfl rfl rfl (OpP.asA rfl) ?_ | refine Run.p rfl rfl rfl (OpP.mvA rfl) ?_ | refine Run.c0 hp rfl rfl rfl rfl rfl rfl rfl rfl ?_ | refine Run.p rfl rfl rfl (OpP.not rfl rfl) ?_ | refine Run.ri rfl rfl rfl (OpRI.lenA rfl rfl) rfl ?_ | refine Run.p rfl rfl rfl (OpP.decT (OpP.eq rfl rfl rfl) (by assumption)) ?_ | refine Run.fin rfl ?_))
    ((first | refine RetOk.tupS [] rfl rfl rfl rfl rfl ?_ ?_ | refine RetOk.oneS [] rfl rfl rfl rfl ?_ ?_) <;> (repeat' (first | exact RetC.nil | exact Cv.refl | exact Crs.nil | refine RetC.tmp (by (conv => lhs; whnf) <;> rfl) ?_ ?_)))
  have hz' : ¬ ((tmP c).length : Int) = 0 := by
    rw [hcl]
    cases c with
    | nil => exact absurd rfl hz
    | cons a b => simp only [List.length_cons]; omega
  obtain ⟨b0, hF, hB⟩ := properF_yes hq hz rs ds
  rw [hB]
  (repeat' (first | refine AW.seq_k (fun K hK => ?_) | (refine hK _ ?_; clear hK) | (refine AW.cond rfl (fun hc => ?_) (fun hc => ?_) <;> (try simp only [Bool.and_eq_true, Bool.or_eq_true, Bool.not_eq_true', Bool.not_eq_false', Bool.and_eq_false_iff, Bool.or_eq_false_iff, Bool.and_eq_false_imp, decide_eq_true_eq, decide_eq_false_iff_not, Decidable.not_not, Int.not_lt, Int.not_le, ne_eq, Bool.not_not] at hc) <;> try (first | (exfalso; omega) | (cases hc; done))) | refine AW.block ?_ | refine AW.skip ?_ | refine AW.region (id := 0) ?_ | refine AW.region (id := 1) ?_ | refine AW.region (id := 3) ?_ | refine AW.region (id := 5) ?_ | refine AW.region (id := 6) ?_ | refine Run.p rfl rfl rfl (OpP.asA rfl) ?_ | refine Run.p rfl rfl rfl (OpP.mvA rfl) ?_ | refine Run.c0 hp rfl rfl rfl rfl rfl rfl rfl rfl ?_ | refine Run.p rfl rfl rfl (OpP.not rfl rfl) ?_ | refine Run.ri rfl rfl rfl (OpRI.lenA rfl rfl) rfl ?_ | refine Run.p rfl rfl rfl (OpP.decF (OpP.eq rfl rfl rfl) (by assumption)) ?_ | refine Run.fin rfl ?_))
  refine AW.loopF (X := Nat × Option (List Bool × List Bool)) (fun y => match y.2 with
      | none => ⟨[(0, .sl 2 (tmP c) f), (1, .sl 1 (wdsP rs) fr), (2, .sl 1 (wdsP ds) fd), (7, .v (.slice none 0 0)), (8, .v (.int .i64 (y.1 : Int)))], []⟩
      | some (st, ju) => ⟨[(0, .sl 2 (tmP c) f), (1, .sl 1 (wdsP rs) fr), (2, .sl 1 (wdsP ds) fd), (7, .bsl 0 1 0 st.length (st.length + ju.length)), (8, .v (.int .i64 (y.1 : Int)))], [.box (bxs (blP (st ++ ju)))]⟩)
    (fun y => y.1 ≤ c.length ∧ (match y.2 with | none => foldB rs ds [] (c.drop y.1) = some [b0] | some (st, ju) => st.length ≤ y.1 ∧ 0 < st.length ∧ foldB rs ds st (c.drop y.1) = some [b0])) (fun y => c.length - y.1) (0, none) ?_ ⟨Nat.zero_le _, hF⟩ ?_
  · refine Conv.mk [] rfl rfl rfl ?_ rfl ?_
    · (repeat' (first | exact Cf.nil | exact Cv.refl | refine Cf.cons' (by (conv => lhs; whnf) <;> rfl) ?_ ?_))
    · (repeat' (first | exact Crs.nil))
  rintro ⟨i, st⟩ ⟨h1, h2⟩
  simp only at h1 h2 ⊢
  rcases Nat.lt_or_ge i c.length with h | h
  · obtain ⟨t, ht⟩ : ∃ t, c[i]? = some t := ⟨c[i], by simp [h]⟩
    have hdr : c.drop i = t :: c.drop (i + 1) := by
      rw [List.drop_eq_getElem_cons h]
      congr 1
      simpa [h] using ht
    have hlt : (i : Int) < ((tmP c).length : Int) := by omega
    have hnl := hn t (List.mem_of_getElem? ht)
    have hA : At (tmP c) (i : Int) [PV.v (.int .i64 t.1), PV.v (.string (bs t.2))] := At.mk i rfl (by simp [ht])
    have hr1 := has_c t.2 rs fr hr
    have hr2 := has_c t.2 ds fd hd
    rw [hdr] at h2
    obtain ⟨k, nm⟩ := t
    simp only at hnl hA hr1 hr2
    cases st with
    | none =>
      simp only at h2
      obtain ⟨⟨a1, a2⟩, h3⟩ := foldB_cons h2
      simp only [List.length_nil] at a2
      have ha0 : arityF k = 0 := by omega
      have k12 : k = 1 ∨ k = 2 := by
        rw [arityF] at ha0
        split at ha0
        · assumption
        · split at ha0
          · omega
          · split at ha0 <;> omega
      rw [ha0] at h3
      by_cases k1 : k = 1
      · have h4 : foldB rs ds [inB rs nm] (c.drop (i + 1)) = some [b0] := by simpa [holdB, k1] using h3
        (repeat' (first | refine AW.seq_k (fun K hK => ?_) | (refine hK _ ?_; clear hK) | (refine AW.cond rfl (fun hc => ?_) (fun hc => ?_) <;> (try simp only [Bool.and_eq_true, Bool.or_eq_true, Bool.not_eq_true', Bool.not_eq_false', Bool.and_eq_false_iff, Bool.or_eq_false_iff, Bool.and_eq_false_imp, decide_eq_true_eq, decide_eq_false_iff_not, Decidable.not_not, Int.not_lt, Int.not_le, ne_eq, Bool.not_not] at hc) <;> try (first | (exfalso; omega) | (cases hc; done))) | refine AW.block ?_ | refine AW.skip ?_ | refine AW.region (id := 7) ?_ | refine AW.region (id := 9) ?_ | refine AW.region (id := 10) ?_ | refine AW.region (id := 12) ?_ | refine AW.region (id := 13) ?_ | refine AW.region (id := 8) ?_ | refine Run.p rfl rfl rfl (OpP.mvA rfl) ?_ | refine Run.ri rfl rfl rfl (OpRI.lenA rfl rfl) rfl ?_ | refine Run.p rfl rfl rfl (OpP.decT (OpP.ltt rfl rfl rfl) (by assumption)) ?_ | refine Run.p rfl rfl rfl (OpP.asA rfl) ?_ | refine Run.ri rfl rfl rfl (OpRI.indexAddrA rfl rfl) rfl ?_ | refine Run.p rfl rfl rfl (OpP.decT (OpP.eq rfl rfl rfl) (by assumption)) ?_ | refine Run.c0 hr1 rfl rfl rfl rfl rfl rfl rfl rfl ?_ | refine Run.bsA rfl rfl rfl rfl rfl rfl ?_ | refine Run.apBS (fun _ => rfl) rfl rfl rfl rfl (Or.inl ⟨_, rfl⟩) rfl rfl (Or.inr ⟨rfl, rfl⟩) (SrcNI.dat Dat.sl) (m := 1) rfl (by simp) (by simp) (by simp [maxLen]) rfl (by simp [keys]) (fun dd => ?_) | refine Run.p rfl rfl rfl (OpP.addA rfl rfl rfl) ?_ | refine Run.p rfl rfl rfl (OpP.fieldAddrE rfl rfl (by decide) (by first | (simp only [Nat.reduceAdd, Nat.zero_add, Nat.add_zero]; rfl) | rfl) (Nat.le_of_ble_eq_true rfl)) ?_ | refine Run.p rfl rfl rfl (OpP.loadE1 rfl rfl rfl rfl (by (conv => lhs; whnf) <;> rfl)) ?_ | refine Run.p rfl rfl rfl (OpP.lenNil rfl rfl) ?_ | refine Run.fin rfl ?_))
        ((repeat (with_reducible refine inB_n ?_)); refine thenA_n ?_)
        refine ⟨(i + 1, some ([inB rs nm], List.replicate dd false)), ⟨h, by simp only [List.length_cons, List.length_nil]; omega, by simp, h4⟩, by simp only; omega, ?_⟩
        refine Conv.mk [0] rfl rfl rfl ?_ rfl ?_
        · (repeat' (first | exact Cf.nil | exact Cv.refl | refine Cf.cons' (by (conv => lhs; whnf) <;> rfl) ?_ ?_))
          all_goals first | rfl | (refine Cv.eq ?_; simp [AV.ren, renL]; done) | (refine Cv.eq ?_; simp [AV.ren, renL]; done) | (refine Cv.eq ?_; simp only [AV.ren, renL, List.length_append, List.length_replicate, List.length_cons, List.length_nil]; congr 1 <;> omega)
        · refine Crs.cons (Cr.bxs ?_) (bxs_lt' _ _) Crs.nil
          first | rfl | exact ap_full _ _ _ | (simp; done) | (simp; exact .inr rfl)
      · have k2 : k = 2 := by omega
        have h4 : foldB rs ds [inB ds nm] (c.drop (i + 1)) = some [b0] := by simpa [holdB, k1, k2] using h3
        (repeat' (first | refine AW.seq_k (fun K hK => ?_) | (refine hK _ ?_; clear hK) | (refine AW.cond rfl (fun hc => ?_) (fun hc => ?_) <;> (try simp only [Bool.and_eq_true, Bool.or_eq_true, Bool.not_eq_true', Bool.not_eq_false', Bool.and_eq_false_iff, Bool.or_eq_false_iff, Bool.and_eq_false_imp, decide_eq_true_eq, decide_eq_false_iff_not, Decidable.not_not, Int.not_lt, Int.not_le, ne_eq, Bool.not_not] at hc) <;> try (first | (exfalso; omega) | (cases hc; done))) | refine AW.block ?_ | refine AW.skip ?_ | refine AW.region (id := 7) ?_ | refine AW.region (id := 9) ?_ | refine AW.region (id := 10) ?_ | refine AW.region (id := 12) ?_ | refine AW.region (id := 14) ?_ | refine AW.region (id := 15) ?_ | refine AW.region (id := 8) ?_ | refine Run.p rfl rfl rfl (OpP.mvA rfl) ?_ | refine Run.ri rfl rfl rfl (OpRI.lenA rfl rfl) rfl ?_ | refine Run.p rfl rfl rfl (OpP.decT (OpP.ltt rfl rfl rfl) (by assumption)) ?_ | refine Run.p rfl rfl rfl (OpP.asA rfl) ?_ | refine Run.ri rfl rfl rfl (OpRI.indexAddrA rfl rfl) rfl ?_ | refine Run.p rfl rfl rfl (OpP.decT (OpP.eq rfl rfl rfl) (by assumption)) ?_ | refine Run.c0 hr2 rfl rfl rfl rfl rfl rfl rfl rfl ?_ | refine Run.bsA rfl rfl rfl rfl rfl rfl ?_ | refine Run.apBS (fun _ => rfl) rfl rfl rfl rfl (Or.inl ⟨_, rfl⟩) rfl rfl (Or.inr ⟨rfl, rfl⟩) (SrcNI.dat Dat.sl) (m := 1) rfl (by simp) (by simp) (by simp [maxLen]) rfl (by simp [keys]) (fun dd => ?_) | refine Run.p rfl rfl rfl (OpP.addA rfl rfl rfl) ?_ | refine Run.p rfl rfl rfl (OpP.fieldAddrE rfl rfl (by decide) (by first | (simp only [Nat.reduceAdd, Nat.zero_add, Nat.add_zero]; rfl) | rfl) (Nat.le_of_ble_eq_true rfl)) ?_ | refine Run.p rfl rfl rfl (OpP.loadE1 rfl rfl rfl rfl (by (conv => lhs; whnf) <;> rfl)) ?_ | refine Run.p rfl rfl rfl (OpP.decF (OpP.eq rfl rfl rfl) (by assumption)) ?_ | refine Run.p rfl rfl rfl (OpP.lenNil rfl rfl) ?_ | refine Run.fin rfl ?_))
        ((repeat (with_reducible refine inB_n ?_)); refine thenA_n ?_)
        refine ⟨(i + 1, some ([inB ds nm], List.replicate dd false)), ⟨h, by simp only [List.length_cons, List.length_nil]; omega, by simp, h4⟩, by simp only; omega, ?_⟩
        refine Conv.mk [0] rfl rfl rfl ?_ rfl ?_
        · (repeat' (first | exact Cf.nil | exact Cv.refl | refine Cf.cons' (by (conv => lhs; whnf) <;> rfl) ?_ ?_))
          all_goals first | rfl | (refine Cv.eq ?_; simp [AV.ren, renL]; done) | (refine Cv.eq ?_; simp [AV.ren, renL]; done) | (refine Cv.eq ?_; simp only [AV.ren, renL, List.length_append, List.length_replicate, List.length_cons, List.length_nil]; congr 1 <;> omega)
        · refine Crs.cons (Cr.bxs ?_) (bxs_lt' _ _) Crs.nil
          first | rfl | exact ap_full _ _ _ | (simp; done) | (simp; exact .inr rfl)
    | some p =>
      obtain ⟨st, ju⟩ := p
      simp only at h2
      obtain ⟨g1, g2, h2⟩ := h2
      obtain ⟨⟨a1, a2⟩, h3⟩ := foldB_cons h2
      have hC : (blP (st ++ ju)).length = st.length + ju.length := by simp
      by_cases k1 : k = 1
      · have ha0 : arityF k = 0 := by rw [k1]; rfl
        have h4 : foldB rs ds (st ++ [inB rs nm]) (c.drop (i + 1)) = some [b0] := by rw [ha0] at h3; simpa [holdB, k1] using h3
        cases ju with
        | nil =>
          (repeat' (first | refine AW.seq_k (fun K hK => ?_) | (refine hK _ ?_; clear hK) | (refine AW.cond rfl (fun hc => ?_) (fun hc => ?_) <;> (try simp only [Bool.and_eq_true, Bool.or_eq_true, Bool.not_eq_true', Bool.not_eq_false', Bool.and_eq_false_iff, Bool.or_eq_false_iff, Bool.and_eq_false_imp, decide_eq_true_eq, decide_eq_false_iff_not, Decidable.not_not, Int.not_lt, Int.not_le, ne_eq, Bool.not_not] at hc) <;> try (first | (exfalso; omega) | (cases hc; done))) | refine AW.block ?_ | refine AW.skip ?_ | refine AW.region (id := 7) ?_ | refine AW.region (id := 9) ?_ | refine AW.region (id := 10) ?_ | refine AW.region (id := 12) ?_ | refine AW.region (id := 13) ?_ | refine AW.region (id := 8) ?_ | refine Run.p rfl rfl rfl (OpP.mvA rfl) ?_ | refine Run.ri rfl rfl rfl (OpRI.lenA rfl rfl) rfl ?_ | refine Run.p rfl rfl rfl (OpP.decT (OpP.ltt rfl rfl rfl) (by assumption)) ?_ | refine Run.p rfl rfl rfl (OpP.asA rfl) ?_ | refine Run.ri rfl rfl rfl (OpRI.indexAddrA rfl rfl) rfl ?_ | refine Run.p rfl rfl rfl (OpP.decT (OpP.eq rfl rfl rfl) (by assumption)) ?_ | refine Run.c0 hr1 rfl rfl rfl rfl rfl rfl rfl rfl ?_ | refine Run.bsA rfl rfl rfl rfl rfl rfl ?_ | refine Run.apBG (fun _ => rfl) rfl rfl rfl rfl (Or.inl ⟨_, rfl⟩) rfl rfl rfl rfl (SrcNI.dat Dat.sl) (blP_one _) hC (mm := st.length + 1) (by simp) (by simp) rfl (by simp) (by simp [keys]) (by simp; omega) (by simp [maxLen]; omega) (fun dd => ?_) | refine Run.p rfl rfl rfl (OpP.addA rfl rfl rfl) ?_ | refine Run.p rfl rfl rfl (OpP.fieldAddrE rfl rfl (by decide) (by first | (simp only [Nat.reduceAdd, Nat.zero_add, Nat.add_zero]; rfl) | rfl) (Nat.le_of_ble_eq_true rfl)) ?_ | refine Run.p rfl rfl rfl (OpP.loadE1 rfl rfl rfl rfl (by (conv => lhs; whnf) <;> rfl)) ?_ | refine Run.p rfl rfl rfl (OpP.lenB rfl rfl) ?_ | refine Run.fin rfl ?_))
          ((repeat (with_reducible refine inB_n ?_)); refine thenA_n ?_)
          refine ⟨(i + 1, some (st ++ [inB rs nm], List.replicate dd false)), ⟨h, by simp only [List.length_append, List.length_cons, List.length_nil]; omega, by simp, h4⟩, by simp only; omega, ?_⟩
          refine Conv.mk [1] rfl rfl rfl ?_ rfl ?_
          · (repeat' (first | exact Cf.nil | exact Cv.refl | refine Cf.cons' (by (conv => lhs; whnf) <;> rfl) ?_ ?_))
            all_goals first | rfl | (refine Cv.eq ?_; simp [AV.ren, renL]; done) | (refine Cv.eq ?_; simp [AV.ren, renL]; done) | (refine Cv.eq ?_; simp only [AV.ren, renL, List.length_append, List.length_replicate, List.length_cons, List.length_nil]; congr 1 <;> omega)
          · refine Crs.cons (Cr.bxs ?_) (bxs_lt' _ _) Crs.nil
            first | rfl | exact ap_full _ _ _ | (simp; done) | (simp; exact .inr rfl)
        | cons j jr =>
          (repeat' (first | refine AW.seq_k (fun K hK => ?_) | (refine hK _ ?_; clear hK) | (refine AW.cond rfl (fun hc => ?_) (fun hc => ?_) <;> (try simp only [Bool.and_eq_true, Bool.or_eq_true, Bool.not_eq_true', Bool.not_eq_false', Bool.and_eq_false_iff, Bool.or_eq_false_iff, Bool.and_eq_false_imp, decide_eq_true_eq, decide_eq_false_iff_not, Decidable.not_not, Int.not_lt, Int.not_le, ne_eq, Bool.not_not] at hc) <;> try (first | (exfalso; omega) | (cases hc; done))) | refine AW.block ?_ | refine AW.skip ?_ | refine AW.region (id := 7) ?_ | refine AW.region (id := 9) ?_ | refine AW.region (id := 10) ?_ | refine AW.region (id := 12) ?_ | refine AW.region (id := 13) ?_ | refine AW.region (id := 8) ?_ | refine Run.p rfl rfl rfl (OpP.mvA rfl) ?_ | refine Run.ri rfl rfl rfl (OpRI.lenA rfl rfl) rfl ?_ | refine Run.p rfl rfl rfl (OpP.decT (OpP.ltt rfl rfl rfl) (by assumption)) ?_ | refine Run.p rfl rfl rfl (OpP.asA rfl) ?_ | refine Run.ri rfl rfl rfl (OpRI.indexAddrA rfl rfl) rfl ?_ | refine Run.p rfl rfl rfl (OpP.decT (OpP.eq rfl rfl rfl) (by assumption)) ?_ | refine Run.c0 hr1 rfl rfl rfl rfl rfl rfl rfl rfl ?_ | refine Run.bsA rfl rfl rfl rfl rfl rfl ?_ | refine Run.apB rfl rfl rfl rfl (Or.inl ⟨_, rfl⟩) rfl rfl rfl (SrcNI.dat Dat.sl) (blP_one _) hC (mm := st.length + 1) (by simp) (by simp) (zs := blP (st ++ [inB rs nm] ++ jr)) (ap_zs st j jr _) (by simp; omega) (by simp [maxLen]; omega) (by repeat constructor) rfl ?_ | refine Run.p rfl rfl rfl (OpP.addA rfl rfl rfl) ?_ | refine Run.p rfl rfl rfl (OpP.fieldAddrE rfl rfl (by decide) (by first | (simp only [Nat.reduceAdd, Nat.zero_add, Nat.add_zero]; rfl) | rfl) (Nat.le_of_ble_eq_true rfl)) ?_ | refine Run.p rfl rfl rfl (OpP.loadE1 rfl rfl rfl rfl (by (conv => lhs; whnf) <;> rfl)) ?_ | refine Run.p rfl rfl rfl (OpP.lenB rfl rfl) ?_ | refine Run.fin rfl ?_))
          ((repeat (with_reducible refine inB_n ?_)); refine thenA_n ?_)
          refine ⟨(i + 1, some (st ++ [inB rs nm], jr)), ⟨h, by simp only [List.length_append, List.length_cons, List.length_nil]; omega, by simp, h4⟩, by simp only; omega, ?_⟩
          refine Conv.mk [0] rfl rfl rfl ?_ rfl ?_
          · (repeat' (first | exact Cf.nil | exact Cv.refl | refine Cf.cons' (by (conv => lhs; whnf) <;> rfl) ?_ ?_))
            all_goals first | rfl | (refine Cv.eq ?_; simp [AV.ren, renL]; done) | (refine Cv.eq ?_; simp [AV.ren, renL]; done) | (refine Cv.eq ?_; simp only [AV.ren, renL, List.length_append, List.length_replicate, List.length_cons, List.length_nil]; congr 1 <;> omega)
          · refine Crs.cons (Cr.bxs ?_) (bxs_lt' _ _) Crs.nil
            first | rfl | exact ap_full _ _ _ | (simp; done) | (simp; exact .inr rfl)
      by_cases k2 : k = 2
      · have ha0 : arityF k = 0 := by rw [k2]; rfl
        have h4 : foldB rs ds (st ++ [inB ds nm]) (c.drop (i + 1)) = some [b0] := by rw [ha0] at h3; simpa [holdB, k1, k2] using h3
        cases ju with
        | nil =>
          (repeat' (first | refine AW.seq_k (fun K hK => ?_) | (refine hK _ ?_; clear hK) | (refine AW.cond rfl (fun hc => ?_) (fun hc => ?_) <;> (try simp only [Bool.and_eq_true, Bool.or_eq_true, Bool.not_eq_true', Bool.not_eq_false', Bool.and_eq_false_iff, Bool.or_eq_false_iff, Bool.and_eq_false_imp, decide_eq_true_eq, decide_eq_false_iff_not, Decidable.not_not, Int.not_lt, Int.not_le, ne_eq, Bool.not_not] at hc) <;> try (first | (exfalso; omega) | (cases hc; done))) | refine AW.block ?_ | refine AW.skip ?_ | refine AW.region (id := 7) ?_ | refine AW.region (id := 9) ?_ | refine AW.region (id := 10) ?_ | refine AW.region (id := 12) ?_ | refine AW.region (id := 14) ?_ | refine AW.region (id := 15) ?_ | refine AW.region (id := 8) ?_ | refine Run.p rfl rfl rfl (OpP.mvA rfl) ?_ | refine Run.ri rfl rfl rfl (OpRI.lenA rfl rfl) rfl ?_ | refine Run.p rfl rfl rfl (OpP.decT (OpP.ltt rfl rfl rfl) (by assumption)) ?_ | refine Run.p rfl rfl rfl (OpP.asA rfl) ?_ | refine Run.ri rfl rfl rfl (OpRI.indexAddrA rfl rfl) rfl ?_ | refine Run.p rfl rfl rfl (OpP.decT (OpP.eq rfl rfl rfl) (by assumption)) ?_ | refine Run.c0 hr2 rfl rfl rfl rfl rfl rfl rfl rfl ?_ | refine Run.bsA rfl rfl rfl rfl rfl rfl ?_ | refine Run.apBG (fun _ => rfl) rfl rfl rfl rfl (Or.inl ⟨_, rfl⟩) rfl rfl rfl rfl (SrcNI.dat Dat.sl) (blP_one _) hC (mm := st.length + 1) (by simp) (by simp) rfl (by simp) (by simp [keys]) (by simp; omega) (by simp [maxLen]; omega) (fun dd => ?_) | refine Run.p rfl rfl rfl (OpP.addA rfl rfl rfl) ?_ | refine Run.p rfl rfl rfl (OpP.fieldAddrE rfl rfl (by decide) (by first | (simp only [Nat.reduceAdd, Nat.zero_add, Nat.add_zero]; rfl) | rfl) (Nat.le_of_ble_eq_true rfl)) ?_ | refine Run.p rfl rfl rfl (OpP.loadE1 rfl rfl rfl rfl (by (conv => lhs; whnf) <;> rfl)) ?_ | refine Run.p rfl rfl rfl (OpP.decF (OpP.eq rfl rfl rfl) (by assumption)) ?_ | refine Run.p rfl rfl rfl (OpP.lenB rfl rfl) ?_ | refine Run.fin rfl ?_))
          ((repeat (with_reducible refine inB_n ?_)); refine thenA_n ?_)
          refine ⟨(i + 1, some (st ++ [inB ds nm], List.replicate dd false)), ⟨h, by simp only [List.length_append, List.length_cons, List.length_nil]; omega, by simp, h4⟩, by simp only; omega, ?_⟩
          refine Conv.mk [1] rfl rfl rfl ?_ rfl ?_
          · (repeat' (first | exact Cf.nil | exact Cv.refl | refine Cf.cons' (by (conv => lhs; whnf) <;> rfl) ?_ ?_))
            all_goals first | rfl | (refine Cv.eq ?_; simp [AV.ren, renL]; done) | (refine Cv.eq ?_; simp [AV.ren, renL]; done) | (refine Cv.eq ?_; simp only [AV.ren, renL, List.length_append, List.length_replicate, List.length_cons, List.length_nil]; congr 1 <;> omega)
          · refine Crs.cons (Cr.bxs ?_) (bxs_lt' _ _) Crs.nil
            first | rfl | exact ap_full _ _ _ | (simp; done) | (simp; exact .inr rfl)
        | cons j jr =>
          (repeat' (first | refine AW.seq_k (fun K hK => ?_) | (refine hK _ ?_; clear hK) | (refine AW.cond rfl (fun hc => ?_) (fun hc => ?_) <;> (try simp only [Bool.and_eq_true, Bool.or_eq_true, Bool.not_eq_true', Bool.not_eq_false', Bool.and_eq_false_iff, Bool.or_eq_false_iff, Bool.and_eq_false_imp, decide_eq_true_eq, decide_eq_false_iff_not, Decidable.not_not, Int.not_lt, Int.not_le, ne_eq, Bool.not_not] at hc) <;> try (first | (exfalso; omega) | (cases hc; done))) | refine AW.block ?_ | refine AW.skip ?_ | refine AW.region (id := 7) ?_ | refine AW.region (id := 9) ?_ | refine AW.region (id := 10) ?_ | refine AW.region (id := 12) ?_ | refine AW.region (id := 14) ?_ | refine AW.region (id := 15) ?_ | refine AW.region (id := 8) ?_ | refine Run.p rfl rfl rfl (OpP.mvA rfl) ?_ | refine Run.ri rfl rfl rfl (OpRI.lenA rfl rfl) rfl ?_ | refine Run.p rfl rfl rfl (OpP.decT (OpP.ltt rfl rfl rfl) (by assumption)) ?_ | refine Run.p rfl rfl rfl (OpP.asA rfl) ?_ | refine Run.ri rfl rfl rfl (OpRI.indexAddrA rfl rfl) rfl ?_ | refine Run.p rfl rfl rfl (OpP.decT (OpP.eq rfl rfl rfl) (by assumption)) ?_ | refine Run.c0 hr2 rfl rfl rfl rfl rfl rfl rfl rfl ?_ | refine Run.bsA rfl rfl rfl rfl rfl rfl ?_ | refine Run.apB rfl rfl rfl rfl (Or.inl ⟨_, rfl⟩) rfl rfl rfl (SrcNI.dat Dat.sl) (blP_one _) hC (mm := st.length + 1) (by simp) (by simp) (zs := blP (st ++ [inB ds nm] ++ jr)) (ap_zs st j jr _) (by simp; omega) (by simp [maxLen]; omega) (by repeat constructor) rfl ?_ | refine Run.p rfl rfl rfl (OpP.addA rfl rfl rfl) ?_ | refine Run.p rfl rfl rfl (OpP.fieldAddrE rfl rfl (by decide) (by first | (simp only [Nat.reduceAdd, Nat.zero_add, Nat.add_zero]; rfl) | rfl) (Nat.le_of_ble_eq_true rfl)) ?_ | refine Run.p rfl rfl rfl (OpP.loadE1 rfl rfl rfl rfl (by (conv => lhs; whnf) <;> rfl)) ?_ | refine Run.p rfl rfl rfl (OpP.decF (OpP.eq rfl rfl rfl) (by assumption)) ?_ | refine Run.p rfl rfl rfl (OpP.lenB rfl rfl) ?_ | refine Run.fin rfl ?_))
          ((repeat (with_reducible refine inB_n ?_)); refine thenA_n ?_)
          refine ⟨(i + 1, some (st ++ [inB ds nm], jr)), ⟨h, by simp only [List.length_append, List.length_cons, List.length_nil]; omega, by simp, h4⟩, by simp only; omega, ?_⟩
          refine Conv.mk [0] rfl rfl rfl ?_ rfl ?_
          · (repeat' (first | exact Cf.nil | exact Cv.refl | refine Cf.cons' (by (conv => lhs; whnf) <;> rfl) ?_ ?_))
            all_goals first | rfl | (refine Cv.eq ?_; simp [AV.ren, renL]; done) | (refine Cv.eq ?_; simp [AV.ren, renL]; done) | (refine Cv.eq ?_; simp only [AV.ren, renL, List.length_append, List.length_replicate, List.length_cons, List.length_nil]; congr 1 <;> omega)
          · refine Crs.cons (Cr.bxs ?_) (bxs_lt' _ _) Crs.nil
            first | rfl | exact ap_full _ _ _ | (simp; done) | (simp; exact .inr rfl)
      by_cases k3 : k = 3
      · have ha0 : arityF k = 1 := by rw [k3]; rfl
        obtain ⟨s', a, e1, e2⟩ := last1 (st := st) (by omega)
        have h4 : foldB rs ds (s' ++ [!a]) (c.drop (i + 1)) = some [b0] := by rw [ha0] at h3; simpa [holdB, k3, e1] using h3
        have hL : (bxs (blP (st ++ ju)))[0 * 1 + ((st.length : Int) - 1).toNat * 1]? = some (AV.v (.bool a)) := by
          rw [show ((st.length : Int) - 1).toNat = s'.length by omega]
          exact bl_get (by simp [e1])
        have hO : Over (bxs (blP (st ++ ju))) (0 * 1 + ((st.length : Int) - 1).toNat * 1) [.v (.bool (!a))] (bxs (blP (s' ++ [!a] ++ ju))) := by
          rw [show ((st.length : Int) - 1).toNat = s'.length by omega]
          exact bl_put (by simp [e1]) (by simp [e1])
        (repeat' (first | refine AW.seq_k (fun K hK => ?_) | (refine hK _ ?_; clear hK) | (refine AW.cond rfl (fun hc => ?_) (fun hc => ?_) <;> (try simp only [Bool.and_eq_true, Bool.or_eq_true, Bool.not_eq_true', Bool.not_eq_false', Bool.and_eq_false_iff, Bool.or_eq_false_iff, Bool.and_eq_false_imp, decide_eq_true_eq, decide_eq_false_iff_not, Decidable.not_not, Int.not_lt, Int.not_le, ne_eq, Bool.not_not] at hc) <;> try (first | (exfalso; omega) | (cases hc; done))) | refine AW.block ?_ | refine AW.skip ?_ | refine AW.region (id := 7) ?_ | refine AW.region (id := 9) ?_ | refine AW.region (id := 10) ?_ | refine AW.region (id := 12) ?_ | refine AW.region (id := 14) ?_ | refine AW.region (id := 16) ?_ | refine AW.region (id := 17) ?_ | refine AW.region (id := 8) ?_ | refine Run.p rfl rfl rfl (OpP.mvA rfl) ?_ | refine Run.ri rfl rfl rfl (OpRI.lenA rfl rfl) rfl ?_ | refine Run.p rfl rfl rfl (OpP.decT (OpP.ltt rfl rfl rfl) (by assumption)) ?_ | refine Run.p rfl rfl rfl (OpP.asA rfl) ?_ | refine Run.ri rfl rfl rfl (OpRI.indexAddrA rfl rfl) rfl ?_ | refine Run.p rfl rfl rfl (OpP.decT (OpP.eq rfl rfl rfl) (by assumption)) ?_ | refine Run.p rfl rfl rfl (OpP.subA rfl rfl rfl) ?_ | refine Run.p rfl rfl rfl (OpP.not rfl rfl) ?_ | refine Run.p rfl rfl rfl (OpP.addA rfl rfl rfl) ?_ | refine Run.p rfl rfl rfl (OpP.fieldAddrE rfl rfl (by decide) (by first | (simp only [Nat.reduceAdd, Nat.zero_add, Nat.add_zero]; rfl) | rfl) (Nat.le_of_ble_eq_true rfl)) ?_ | refine Run.p rfl rfl rfl (OpP.loadE1 rfl rfl rfl rfl (by (conv => lhs; whnf) <;> rfl)) ?_ | refine Run.p rfl rfl rfl (OpP.decF (OpP.eq rfl rfl rfl) (by assumption)) ?_ | refine Run.p rfl rfl rfl (OpP.indexAddrB rfl rfl rfl (by omega) (by omega) rfl) ?_ | refine Run.stF rfl rfl rfl rfl rfl ?_ | refine Run.ld1F rfl rfl rfl rfl rfl rfl rfl ?_ | refine Run.p rfl rfl rfl (OpP.lenB rfl rfl) ?_ | refine Run.fin rfl ?_))
        ((repeat (with_reducible refine inB_n ?_)); refine thenA_n ?_)
        refine ⟨(i + 1, some (s' ++ [!a], ju)), ⟨h, by simp only [List.length_append, List.length_cons, List.length_nil]; omega, by simp, h4⟩, by simp only; omega, ?_⟩
        refine Conv.mk [0] rfl rfl rfl ?_ rfl ?_
        · (repeat' (first | exact Cf.nil | exact Cv.refl | refine Cf.cons' (by (conv => lhs; whnf) <;> rfl) ?_ ?_))
          all_goals first | rfl | (refine Cv.eq ?_; simp [AV.ren, renL]; done) | (refine Cv.eq ?_; simp [AV.ren, renL]; done) | (refine Cv.eq ?_; simp only [AV.ren, renL, List.length_append, List.length_replicate, List.length_cons, List.length_nil]; congr 1 <;> omega)
        · refine Crs.cons (Cr.bxs ?_) (bxs_lt' _ _) Crs.nil
          first | rfl | exact ap_full _ _ _ | (simp; done) | (simp; exact .inr rfl)
      by_cases k4 : k = 4
      · have ha0 : arityF k = 2 := by rw [k4]; rfl
        obtain ⟨s', a, b, e1, e2⟩ := last2 (st := st) (by omega)
        have h4 : foldB rs ds (s' ++ [a && b]) (c.drop (i + 1)) = some [b0] := by rw [ha0] at h3; simpa [holdB, k1, k2, k3, k4, e1] using h3
        have hL2 : (bxs (blP (st ++ ju)))[0 * 1 + ((st.length : Int) - 2).toNat * 1]? = some (AV.v (.bool a)) := by
          rw [show ((st.length : Int) - 2).toNat = s'.length by omega]
          exact bl_get (by simp [e1])
        have hL1 : (bxs (blP (st ++ ju)))[0 * 1 + ((st.length : Int) - 1).toNat * 1]? = some (AV.v (.bool b)) := by
          rw [show ((st.length : Int) - 1).toNat = s'.length + 1 by omega]
          exact bl_get (by simp [e1])
        have hS2 : ((st.length : Int) - 2).toNat = s'.length := by omega
        cases a with
        | true =>
          rw [Bool.true_and] at h4
          have hz : (blP (st ++ ju)).take ((st.length : Int) - 2).toNat ++ ([[PV.v (.bool b)]] ++ (blP (st ++ ju)).drop (s'.length + 1)) = blP (s' ++ [b] ++ (b :: ju)) := by
            rw [hS2, e1, show s' ++ [true, b] ++ ju = s' ++ true :: (b :: ju) by simp]
            exact ap_zs s' _ _ _
          (repeat' (first | refine AW.seq_k (fun K hK => ?_) | (refine hK _ ?_; clear hK) | (refine AW.cond rfl (fun hc => ?_) (fun hc => ?_) <;> (try simp only [Bool.and_eq_true, Bool.or_eq_true, Bool.not_eq_true', Bool.not_eq_false', Bool.and_eq_false_iff, Bool.or_eq_false_iff, Bool.and_eq_false_imp, decide_eq_true_eq, decide_eq_false_iff_not, Decidable.not_not, Int.not_lt, Int.not_le, ne_eq, Bool.not_not] at hc) <;> try (first | (exfalso; omega) | (cases hc; done))) | refine AW.block ?_ | refine AW.skip ?_ | refine AW.region (id := 7) ?_ | refine AW.region (id := 9) ?_ | refine AW.region (id := 10) ?_ | refine AW.region (id := 12) ?_ | refine AW.region (id := 14) ?_ | refine AW.region (id := 16) ?_ | refine AW.region (id := 18) ?_ | refine AW.draw (id := 19) (by kernel_rfl) ?_ | refine AW.region (id := 8) ?_ | refine Run.p rfl rfl rfl (OpP.mvA rfl) ?_ | refine Run.ri rfl rfl rfl (OpRI.lenA rfl rfl) rfl ?_ | refine Run.p rfl rfl rfl (OpP.decT (OpP.ltt rfl rfl rfl) (by assumption)) ?_ | refine Run.p rfl rfl rfl (OpP.asA rfl) ?_ | refine Run.ri rfl rfl rfl (OpRI.indexAddrA rfl rfl) rfl ?_ | refine Run.p rfl rfl rfl (OpP.decT (OpP.eq rfl rfl rfl) (by assumption)) ?_ | refine Run.p rfl rfl rfl (OpP.subA rfl rfl rfl) ?_ | refine Run.bsA rfl rfl rfl rfl rfl rfl ?_ | refine Run.apB rfl rfl rfl rfl (Or.inl ⟨_, rfl⟩) rfl rfl rfl (SrcNI.dat Dat.sl) (blP_one _) hC (mm := s'.length + 1) (by rw [hS2]; rfl) (by omega) hz (by simp; omega) (by simp [maxLen]; omega) (by repeat constructor) rfl ?_ | refine Run.p rfl rfl rfl (OpP.addA rfl rfl rfl) ?_ | refine Run.p rfl rfl rfl (OpP.fieldAddrE rfl rfl (by decide) (by first | (simp only [Nat.reduceAdd, Nat.zero_add, Nat.add_zero]; rfl) | rfl) (Nat.le_of_ble_eq_true rfl)) ?_ | refine Run.p rfl rfl rfl (OpP.loadE1 rfl rfl rfl rfl (by (conv => lhs; whnf) <;> rfl)) ?_ | refine Run.p rfl rfl rfl (OpP.decF (OpP.eq rfl rfl rfl) (by assumption)) ?_ | refine Run.p rfl rfl rfl (OpP.indexAddrB rfl rfl rfl (by omega) (by omega) rfl) ?_ | refine Run.ld1F rfl rfl rfl rfl rfl rfl rfl ?_ | refine Run.p rfl rfl rfl (OpP.pickA rfl rfl) ?_ | refine Run.p rfl rfl rfl (OpP.lenB rfl rfl) ?_ | refine Run.p rfl rfl rfl (OpP.sliceBH rfl rfl rfl) ?_ | refine Run.fin rfl ?_ | refine Run.fin (by kernel_rfl) ?_))
          ((repeat (with_reducible refine inB_n ?_)); refine thenA_n ?_)
          refine ⟨(i + 1, some (s' ++ [b], b :: ju)), ⟨h, by simp only [List.length_append, List.length_cons, List.length_nil]; omega, by simp, h4⟩, by simp only; omega, ?_⟩
          refine Conv.mk [0] rfl rfl rfl ?_ rfl ?_
          · (repeat' (first | exact Cf.nil | exact Cv.refl | refine Cf.cons' (by (conv => lhs; whnf) <;> rfl) ?_ ?_))
            all_goals first | rfl | (refine Cv.eq ?_; simp [AV.ren, renL]; done) | (refine Cv.eq ?_; simp [AV.ren, renL]; done) | (refine Cv.eq ?_; simp only [AV.ren, renL, List.length_append, List.length_replicate, List.length_cons, List.length_nil]; congr 1 <;> omega)
          · exact Crs.cons (Cr.bxs rfl) (bxs_lt' _ _) Crs.nil
        | false =>
          rw [Bool.false_and] at h4
          have hz : (blP (st ++ ju)).take ((st.length : Int) - 2).toNat ++ ([[PV.v (.bool false)]] ++ (blP (st ++ ju)).drop (s'.length + 1)) = blP (s' ++ [false] ++ (b :: ju)) := by
            rw [hS2, e1, show s' ++ [false, b] ++ ju = s' ++ false :: (b :: ju) by simp]
            exact ap_zs s' _ _ _
          (repeat' (first | refine AW.seq_k (fun K hK => ?_) | (refine hK _ ?_; clear hK) | (refine AW.cond rfl (fun hc => ?_) (fun hc => ?_) <;> (try simp only [Bool.and_eq_true, Bool.or_eq_true, Bool.not_eq_true', Bool.not_eq_false', Bool.and_eq_false_iff, Bool.or_eq_false_iff, Bool.and_eq_false_imp, decide_eq_true_eq, decide_eq_false_iff_not, Decidable.not_not, Int.not_lt, Int.not_le, ne_eq, Bool.not_not] at hc) <;> try (first | (exfalso; omega) | (cases hc; done))) | refine AW.block ?_ | refine AW.skip ?_ | refine AW.region (id := 7) ?_ | refine AW.region (id := 9) ?_ | refine AW.region (id := 10) ?_ | refine AW.region (id := 12) ?_ | refine AW.region (id := 14) ?_ | refine AW.region (id := 16) ?_ | refine AW.region (id := 18) ?_ | refine AW.draw (id := 19) (by kernel_rfl) ?_ | refine AW.region (id := 8) ?_ | refine Run.p rfl rfl rfl (OpP.mvA rfl) ?_ | refine Run.ri rfl rfl rfl (OpRI.lenA rfl rfl) rfl ?_ | refine Run.p rfl rfl rfl (OpP.decT (OpP.ltt rfl rfl rfl) (by assumption)) ?_ | refine Run.p rfl rfl rfl (OpP.asA rfl) ?_ | refine Run.ri rfl rfl rfl (OpRI.indexAddrA rfl rfl) rfl ?_ | refine Run.p rfl rfl rfl (OpP.decT (OpP.eq rfl rfl rfl) (by assumption)) ?_ | refine Run.p rfl rfl rfl (OpP.subA rfl rfl rfl) ?_ | refine Run.bsA rfl rfl rfl rfl rfl rfl ?_ | refine Run.apB rfl rfl rfl rfl (Or.inl ⟨_, rfl⟩) rfl rfl rfl (SrcNI.dat Dat.sl) (blP_one _) hC (mm := s'.length + 1) (by rw [hS2]; rfl) (by omega) hz (by simp; omega) (by simp [maxLen]; omega) (by repeat constructor) rfl ?_ | refine Run.p rfl rfl rfl (OpP.addA rfl rfl rfl) ?_ | refine Run.p rfl rfl rfl (OpP.fieldAddrE rfl rfl (by decide) (by first | (simp only [Nat.reduceAdd, Nat.zero_add, Nat.add_zero]; rfl) | rfl) (Nat.le_of_ble_eq_true rfl)) ?_ | refine Run.p rfl rfl rfl (OpP.loadE1 rfl rfl rfl rfl (by (conv => lhs; whnf) <;> rfl)) ?_ | refine Run.p rfl rfl rfl (OpP.decF (OpP.eq rfl rfl rfl) (by assumption)) ?_ | refine Run.p rfl rfl rfl (OpP.indexAddrB rfl rfl rfl (by omega) (by omega) rfl) ?_ | refine Run.ld1F rfl rfl rfl rfl rfl rfl rfl ?_ | refine Run.p rfl rfl rfl (OpP.pickA rfl rfl) ?_ | refine Run.p rfl rfl rfl (OpP.lenB rfl rfl) ?_ | refine Run.p rfl rfl rfl (OpP.sliceBH rfl rfl rfl) ?_ | refine Run.sk rfl rfl rfl ?_ | refine Run.fin rfl ?_ | refine Run.fin (by kernel_rfl) ?_))
          ((repeat (with_reducible refine inB_n ?_)); refine thenA_n ?_)
          refine ⟨(i + 1, some (s' ++ [false], b :: ju)), ⟨h, by simp only [List.length_append, List.length_cons, List.length_nil]; omega, by simp, h4⟩, by simp only; omega, ?_⟩
          refine Conv.mk [0] rfl rfl rfl ?_ rfl ?_
          · (repeat' (first | exact Cf.nil | exact Cv.refl | refine Cf.cons' (by (conv => lhs; whnf) <;> rfl) ?_ ?_))
            all_goals first | rfl | (refine Cv.eq ?_; simp [AV.ren, renL]; done) | (refine Cv.eq ?_; simp [AV.ren, renL]; done) | (refine Cv.eq ?_; simp only [AV.ren, renL, List.length_append, List.length_replicate, List.length_cons, List.length_nil]; congr 1 <;> omega)
          · exact Crs.cons (Cr.bxs rfl) (bxs_lt' _ _) Crs.nil
      · have k5 : k = 5 := by
          rw [arityF, if_neg (by omega), if_neg k3] at a1
          split at a1
          · omega
          · omega
        have ha0 : arityF k = 2 := by rw [k5]; rfl
        obtain ⟨s', a, b, e1, e2⟩ := last2 (st := st) (by omega)
        have h4 : foldB rs ds (s' ++ [a || b]) (c.drop (i + 1)) = some [b0] := by rw [ha0] at h3; simpa [holdB, k1, k2, k3, k4, e1] using h3
        have hL2 : (bxs (blP (st ++ ju)))[0 * 1 + ((st.length : Int) - 2).toNat * 1]? = some (AV.v (.bool a)) := by
          rw [show ((st.length : Int) - 2).toNat = s'.length by omega]
          exact bl_get (by simp [e1])
        have hL1 : (bxs (blP (st ++ ju)))[0 * 1 + ((st.length : Int) - 1).toNat * 1]? = some (AV.v (.bool b)) := by
          rw [show ((st.length : Int) - 1).toNat = s'.length + 1 by omega]
          exact bl_get (by simp [e1])
        have hS2 : ((st.length : Int) - 2).toNat = s'.length := by omega
        cases a with
        | false =>
          rw [Bool.false_or] at h4
          have hz : (blP (st ++ ju)).take ((st.length : Int) - 2).toNat ++ ([[PV.v (.bool b)]] ++ (blP (st ++ ju)).drop (s'.length + 1)) = blP (s' ++ [b] ++ (b :: ju)) := by
            rw [hS2, e1, show s' ++ [false, b] ++ ju = s' ++ false :: (b :: ju) by simp]
            exact ap_zs s' _ _ _
          (repeat' (first | refine AW.seq_k (fun K hK => ?_) | (refine hK _ ?_; clear hK) | (refine AW.cond rfl (fun hc => ?_) (fun hc => ?_) <;> (try simp only [Bool.and_eq_true, Bool.or_eq_true, Bool.not_eq_true', Bool.not_eq_false', Bool.and_eq_false_iff, Bool.or_eq_false_iff, Bool.and_eq_false_imp, decide_eq_true_eq, decide_eq_false_iff_not, Decidable.not_not, Int.not_lt, Int.not_le, ne_eq, Bool.not_not] at hc) <;> try (first | (exfalso; omega) | (cases hc; done))) | refine AW.block ?_ | refine AW.skip ?_ | refine AW.region (id := 7) ?_ | refine AW.region (id := 9) ?_ | refine AW.region (id := 10) ?_ | refine AW.region (id := 12) ?_ | refine AW.region (id := 14) ?_ | refine AW.region (id := 16) ?_ | refine AW.region (id := 18) ?_ | refine AW.draw (id := 11) (by kernel_rfl) ?_ | refine AW.region (id := 8) ?_ | refine Run.p rfl rfl rfl (OpP.mvA rfl) ?_ | refine Run.ri rfl rfl rfl (OpRI.lenA rfl rfl) rfl ?_ | refine Run.p rfl rfl rfl (OpP.decT (OpP.ltt rfl rfl rfl) (by assumption)) ?_ | refine Run.p rfl rfl rfl (OpP.asA rfl) ?_ | refine Run.ri rfl rfl rfl (OpRI.indexAddrA rfl rfl) rfl ?_ | refine Run.p rfl rfl rfl (OpP.subA rfl rfl rfl) ?_ | refine Run.bsA rfl rfl rfl rfl rfl rfl ?_ | refine Run.apB rfl rfl rfl rfl (Or.inl ⟨_, rfl⟩) rfl rfl rfl (SrcNI.dat Dat.sl) (blP_one _) hC (mm := s'.length + 1) (by rw [hS2]; rfl) (by omega) hz (by simp; omega) (by simp [maxLen]; omega) (by repeat constructor) rfl ?_ | refine Run.p rfl rfl rfl (OpP.addA rfl rfl rfl) ?_ | refine Run.p rfl rfl rfl (OpP.fieldAddrE rfl rfl (by decide) (by first | (simp only [Nat.reduceAdd, Nat.zero_add, Nat.add_zero]; rfl) | rfl) (Nat.le_of_ble_eq_true rfl)) ?_ | refine Run.p rfl rfl rfl (OpP.loadE1 rfl rfl rfl rfl (by (conv => lhs; whnf) <;> rfl)) ?_ | refine Run.p rfl rfl rfl (OpP.decF (OpP.eq rfl rfl rfl) (by assumption)) ?_ | refine Run.p rfl rfl rfl (OpP.indexAddrB rfl rfl rfl (by omega) (by omega) rfl) ?_ | refine Run.ld1F rfl rfl rfl rfl rfl rfl rfl ?_ | refine Run.p rfl rfl rfl (OpP.pickA rfl rfl) ?_ | refine Run.p rfl rfl rfl (OpP.lenB rfl rfl) ?_ | refine Run.p rfl rfl rfl (OpP.sliceBH rfl rfl rfl) ?_ | refine Run.fin rfl ?_ | refine Run.fin (by kernel_rfl) ?_))
          ((repeat (with_reducible refine inB_n ?_)); refine thenA_n ?_)
          refine ⟨(i + 1, some (s' ++ [b], b :: ju)), ⟨h, by simp only [List.length_append, List.length_cons, List.length_nil]; omega, by simp, h4⟩, by simp only; omega, ?_⟩
          refine Conv.mk [0] rfl rfl rfl ?_ rfl ?_
          · (repeat' (first | exact Cf.nil | exact Cv.refl | refine Cf.cons' (by (conv => lhs; whnf) <;> rfl) ?_ ?_))
            all_goals first | rfl | (refine Cv.eq ?_; simp [AV.ren, renL]; done) | (refine Cv.eq ?_; simp [AV.ren, renL]; done) | (refine Cv.eq ?_; simp only [AV.ren, renL, List.length_append, List.length_replicate, List.length_cons, List.length_nil]; congr 1 <;> omega)
          · exact Crs.cons (Cr.bxs rfl) (bxs_lt' _ _) Crs.nil
        | true =>
          rw [Bool.true_or] at h4
          have hz : (blP (st ++ ju)).take ((st.length : Int) - 2).toNat ++ ([[PV.v (.bool true)]] ++ (blP (st ++ ju)).drop (s'.length + 1)) = blP (s' ++ [true] ++ (b :: ju)) := by
            rw [hS2, e1, show s' ++ [true, b] ++ ju = s' ++ true :: (b :: ju) by simp]
            exact ap_zs s' _ _ _
          (repeat' (first | refine AW.seq_k (fun K hK => ?_) | (refine hK _ ?_; clear hK) | (refine AW.cond rfl (fun hc => ?_) (fun hc => ?_) <;> (try simp only [Bool.and_eq_true, Bool.or_eq_true, Bool.not_eq_true', Bool.not_eq_false', Bool.and_eq_false_iff, Bool.or_eq_false_iff, Bool.and_eq_false_imp, decide_eq_true_eq, decide_eq_false_iff_not, Decidable.not_not, Int.not_lt, Int.not_le, ne_eq, Bool.not_not] at hc) <;> try (first | (exfalso; omega) | (cases hc; done))) | refine AW.block ?_ | refine AW.skip ?_ | refine AW.region (id := 7) ?_ | refine AW.region (id := 9) ?_ | refine AW.region (id := 10) ?_ | refine AW.region (id := 12) ?_ | refine AW.region (id := 14) ?_ | refine AW.region (id := 16) ?_ | refine AW.region (id := 18) ?_ | refine AW.draw (id := 11) (by kernel_rfl) ?_ | refine AW.region (id := 8) ?_ | refine Run.p rfl rfl rfl (OpP.mvA rfl) ?_ | refine Run.ri rfl rfl rfl (OpRI.lenA rfl rfl) rfl ?_ | refine Run.p rfl rfl rfl (OpP.decT (OpP.ltt rfl rfl rfl) (by assumption)) ?_ | refine Run.p rfl rfl rfl (OpP.asA rfl) ?_ | refine Run.ri rfl rfl rfl (OpRI.indexAddrA rfl rfl) rfl ?_ | refine Run.p rfl rfl rfl (OpP.subA rfl rfl rfl) ?_ | refine Run.bsA rfl rfl rfl rfl rfl rfl ?_ | refine Run.apB rfl rfl rfl rfl (Or.inl ⟨_, rfl⟩) rfl rfl rfl (SrcNI.dat Dat.sl) (blP_one _) hC (mm := s'.length + 1) (by rw [hS2]; rfl) (by omega) hz (by simp; omega) (by simp [maxLen]; omega) (by repeat constructor) rfl ?_ | refine Run.p rfl rfl rfl (OpP.addA rfl rfl rfl) ?_ | refine Run.p rfl rfl rfl (OpP.fieldAddrE rfl rfl (by decide) (by first | (simp only [Nat.reduceAdd, Nat.zero_add, Nat.add_zero]; rfl) | rfl) (Nat.le_of_ble_eq_true rfl)) ?_ | refine Run.p rfl rfl rfl (OpP.loadE1 rfl rfl rfl rfl (by (conv => lhs; whnf) <;> rfl)) ?_ | refine Run.p rfl rfl rfl (OpP.decF (OpP.eq rfl rfl rfl) (by assumption)) ?_ | refine Run.p rfl rfl rfl (OpP.indexAddrB rfl rfl rfl (by omega) (by omega) rfl) ?_ | refine Run.ld1F rfl rfl rfl rfl rfl rfl rfl ?_ | refine Run.p rfl rfl rfl (OpP.pickA rfl rfl) ?_ | refine Run.p rfl rfl rfl (OpP.lenB rfl rfl) ?_ | refine Run.p rfl rfl rfl (OpP.sliceBH rfl rfl rfl) ?_ | refine Run.sk rfl rfl rfl ?_ | refine Run.fin rfl ?_ | refine Run.fin (by kernel_rfl) ?_))
          ((repeat (with_reducible refine inB_n ?_)); refine thenA_n ?_)
          refine ⟨(i + 1, some (s' ++ [true], b :: ju)), ⟨h, by simp only [List.length_append, List.length_cons, List.length_nil]; omega, by simp, h4⟩, by simp only; omega, ?_⟩
          refine Conv.mk [0] rfl rfl rfl ?_ rfl ?_
          · (repeat' (first | exact Cf.nil | exact Cv.refl | refine Cf.cons' (by (conv => lhs; whnf) <;> rfl) ?_ ?_))
            all_goals first | rfl | (refine Cv.eq ?_; simp [AV.ren, renL]; done) | (refine Cv.eq ?_; simp [AV.ren, renL]; done) | (refine Cv.eq ?_; simp only [AV.ren, renL, List.length_append, List.length_replicate, List.length_cons, List.length_nil]; congr 1 <;> omega)
          · exact Crs.cons (Cr.bxs rfl) (bxs_lt' _ _) Crs.nil
  · have hge : ¬ (i : Int) < ((tmP c).length : Int) := by omega
    rw [List.drop_eq_nil_of_le h] at h2
    cases st with
    | none =>
      simp only [foldB] at h2
      cases h2
    | some p =>
      obtain ⟨st, ju⟩ := p
      simp only at h2
      obtain ⟨g1, g2, h2⟩ := h2
      rw [foldB] at h2
      obtain rfl : st = [b0] := Option.some.inj h2
      have hL : (bxs (blP ([b0] ++ ju)))[0 * 1 + (0 : Int).toNat * 1]? = some (AV.v (.bool b0)) := bl_get (i := 0) rfl
      (repeat' (first | refine AW.seq_k (fun K hK => ?_) | (refine hK _ ?_; clear hK) | (refine AW.cond rfl (fun hc => ?_) (fun hc => ?_) <;> (try simp only [Bool.and_eq_true, Bool.or_eq_true, Bool.not_eq_true', Bool.not_eq_false', Bool.and_eq_false_iff, Bool.or_eq_false_iff, Bool.and_eq_false_imp, decide_eq_true_eq, decide_eq_false_iff_not, Decidable.not_not, Int.not_lt, Int.not_le, ne_eq, Bool.not_not] at hc) <;> try (first | (exfalso; omega) | (cases hc; done))) | refine AW.exit ?_ | refine AW.ret ?_ | (clear hK; refine hK _ ?_; clear hK) | refine AW.region (id := 7) ?_ | refine AW.region (id := 20) ?_ | refine Run.p rfl rfl rfl (OpP.mvA rfl) ?_ | refine Run.ri rfl rfl rfl (OpRI.lenA rfl rfl) rfl ?_ | refine Run.ld1 rfl rfl rfl rfl rfl rfl rfl rfl ?_ | refine Run.p rfl rfl rfl (OpP.asA rfl) ?_ | refine Run.p rfl rfl rfl (OpP.decF (OpP.ltt rfl rfl rfl) (by assumption)) ?_ | refine Run.p rfl rfl rfl (OpP.indexAddrB rfl rfl rfl (by omega) (by omega) rfl) ?_ | refine Run.fin rfl ?_))
      ((first | refine RetOk.tupS [] rfl rfl rfl rfl rfl ?_ ?_ | refine RetOk.oneS [] rfl rfl rfl rfl ?_ ?_) <;> (repeat' (first | exact RetC.nil | exact Cv.refl | exact Crs.nil | refine RetC.tmp (by (conv => lhs; whnf) <;> rfl) ?_ ?_)))
end Go.Proofs.Ytpacgphnpalepaa
/-
  Walk of the law RulesHolds.
-/
namespace Go.Proofs.Ytpacgphnpalepaa
set_option linter.unusedVariables false
set_option linter.unusedSimpArgs false
theorem OpP.beqR {P : Program} {o : Oper} {ρ : Operand → AV} {t t' : TypeId} {x y : Operand} {p : Bool} [Und P t .bool] (ho : o.op = .binOp .eql t x y t') (hx : ρ x = .v (.bool p)) (hy : ρ y = .v (.bool p)) : OpP P o ρ (.v (.bool true)) := by
  have := OpP.beq (P := P) (o := o) (ρ := ρ) (p := p) (q := p) ho hx hy
  rwa [show (p == p) = true by cases p <;> rfl] at this
theorem stepC_le {l : List Int} {s : Cs} (h : s.a ≤ l.length) : (stepC l s).a ≤ l.length := by
  rw [stepC]
  split
  · exact dkA_le h
  split
  · exact dkA_le h
  split
  · exact dkA_le (dkA_le h)
  · exact dkA_le (dkA_le h)
theorem runC_le {l : List Int} : ∀ (k : Nat) (s : Cs), s.a ≤ l.length → (runC l k s).a ≤ l.length
  | 0, _, h => h
  | k + 1, s, h => runC_le k _ (stepC_le h)
theorem endC_le {l : List Int} : ∀ (k : Nat) (s : Cs), s.a ≤ l.length → (endC l k s).a ≤ l.length
  | 0, _, h => h
  | k + 1, s, h => endC_le k _ (dkA_le h)
theorem condA_le (l : List Int) (a : Nat) (h : a ≤ l.length) : condA l a ≤ l.length := endC_le _ _ (runC_le _ _ (dkA_le h))
set_option maxHeartbeats 4000000 in
theorem RulesHolds_c (l : List Int) (fl : Bool) (hl : Fits l) (raw : List Tm) (fw : Bool) (hw : raw.length ≤ 9223372036854775807) (hwn : ∀ t ∈ raw, t.2.length ≤ 9223372036854775807) (rs ds : List Wd) (fr fd : Bool) (hr : rs.length ≤ 9223372036854775807) (hd : ds.length ≤ 9223372036854775807) :
    ACalls Try.prog 5 [.sl 1 (ivs l) fl, .sl 2 (tmP raw) fw, .sl 1 (wdsP rs) fr, .sl 1 (wdsP ds) fd] [] (.v (.bool true)) [] := by
  have hrl : (tmP raw).length = raw.length := by simp
  have hsl : (wdsP rs).length = rs.length := by simp
  have hdl : (wdsP ds).length = ds.length := by simp
  refine (ACalls.of (fn := Try.f5) Try.func5 rfl rfl Try.ntmps5 (fun I M w own => ?_))
  by_cases g1 : ((tmP raw).length : Int) > 20
  · (repeat' (first | refine AW.seq_k (fun K hK => ?_) | (refine hK _ ?_; clear hK) | (refine AW.cond rfl (fun hc => ?_) (fun hc => ?_) <;> (try simp only [Bool.and_eq_true, Bool.or_eq_true, Bool.not_eq_true', Bool.not_eq_false', Bool.and_eq_false_iff, Bool.or_eq_false_iff, Bool.and_eq_false_imp, decide_eq_true_eq, decide_eq_false_iff_not, Decidable.not_not, Int.not_lt, Int.not_le, ne_eq, Bool.not_not] at hc) <;> try (first | (exfalso; omega) | (cases hc; done))) | refine AW.ret ?_ | refine AW.skip ?_ | refine AW.region (id := 0) ?_ | refine AW.region (id := 1) ?_ | refine AW.region (id := 3) ?_ | refine AW.region (id := 4) ?_ | refine Run.p rfl rfl rfl (OpP.asA rfl) ?_ | refine Run.c0 sane_c rfl rfl rfl rfl rfl rfl rfl rfl ?_ | refine Run.p rfl rfl rfl (OpP.not rfl rfl) ?_ | refine Run.p rfl rfl rfl (OpP.mvA rfl) ?_ | refine Run.ri rfl rfl rfl (OpRI.lenA rfl rfl) rfl ?_ | refine Run.p rfl rfl rfl (OpP.decT (OpP.gtt rfl rfl rfl) (by assumption)) ?_ | refine Run.p rfl rfl rfl (OpP.pickA rfl rfl) ?_ | refine Run.sk rfl rfl rfl ?_ | refine Run.fin rfl ?_))
    ((first | refine RetOk.tupS [] rfl rfl rfl rfl rfl ?_ ?_ | refine RetOk.oneS [] rfl rfl rfl rfl ?_ ?_) <;> (repeat' (first | exact RetC.nil | exact Cv.refl | exact Crs.nil | refine RetC.tmp (by (conv => lhs; whnf) <;> rfl) ?_ ?_)))
  by_cases g2 : ((wdsP rs).length : Int) > 8
  · (repeat' (first | refine AW.seq_k (fun K hK => ?_) | (refine hK _ ?_; clear hK) | (refine AW.cond rfl (fun hc => ?_) (fun hc => ?_) <;> (try simp only [Bool.and_eq_true, Bool.or_eq_true, Bool.not_eq_true', Bool.not_eq_false', Bool.and_eq_false_iff, Bool.or_eq_false_iff, Bool.and_eq_false_imp, decide_eq_true_eq, decide_eq_false_iff_not, Decidable.not_not, Int.not_lt, Int.not_le, ne_eq, Bool.not_not] at hc) <;> try (first | (exfalso; omega) | (cases hc; done))) | refine AW.ret ?_ | refine AW.skip ?_ | refine AW.region (id := 0) ?_ | refine AW.region (id := 1) ?_ | refine AW.region (id := 3) ?_ | refine AW.region (id := 4) ?_ | refine Run.p rfl rfl rfl (OpP.asA rfl) ?_ | refine Run.c0 sane_c rfl rfl rfl rfl rfl rfl rfl rfl ?_ | refine Run.p rfl rfl rfl (OpP.not rfl rfl) ?_ | refine Run.p rfl rfl rfl (OpP.mvA rfl) ?_ | refine Run.ri rfl rfl rfl (OpRI.lenA rfl rfl) rfl ?_ | refine Run.p rfl rfl rfl (OpP.decT (OpP.gtt rfl rfl rfl) (by assumption)) ?_ | refine Run.p rfl rfl rfl (OpP.decF (OpP.gtt rfl rfl rfl) (by assumption)) ?_ | refine Run.p rfl rfl rfl (OpP.pickA rfl rfl) ?_ | refine Run.sk rfl rfl rfl ?_ | refine Run.fin rfl ?_))
    ((first | refine RetOk.tupS [] rfl rfl rfl rfl rfl ?_ ?_ | refine RetOk.oneS [] rfl rfl rfl rfl ?_ ?_) <;> (repeat' (first | exact RetC.nil | exact Cv.refl | exact Crs.nil | refine RetC.tmp (by (conv => lhs; whnf) <;> rfl) ?_ ?_)))
  by_cases g3 : ((wdsP ds).length : Int) > 8
  · (repeat' (first | refine AW.seq_k (fun K hK => ?_) | (refine hK _ ?_; clear hK) | (refine AW.cond rfl (fun hc => ?_) (fun hc => ?_) <;> (try simp only [Bool.and_eq_true, Bool.or_eq_true, Bool.not_eq_true', Bool.not_eq_false', Bool.and_eq_false_iff, Bool.or_eq_false_iff, Bool.and_eq_false_imp, decide_eq_true_eq, decide_eq_false_iff_not, Decidable.not_not, Int.not_lt, Int.not_le, ne_eq, Bool.not_not] at hc) <;> try (first | (exfalso; omega) | (cases hc; done))) | refine AW.ret ?_ | refine AW.skip ?_ | refine AW.region (id := 0) ?_ | refine AW.region (id := 1) ?_ | refine AW.region (id := 3) ?_ | refine AW.region (id := 4) ?_ | refine Run.p rfl rfl rfl (OpP.asA rfl) ?_ | refine Run.c0 sane_c rfl rfl rfl rfl rfl rfl rfl rfl ?_ | refine Run.p rfl rfl rfl (OpP.not rfl rfl) ?_ | refine Run.p rfl rfl rfl (OpP.mvA rfl) ?_ | refine Run.ri rfl rfl rfl (OpRI.lenA rfl rfl) rfl ?_ | refine Run.p rfl rfl rfl (OpP.decT (OpP.gtt rfl rfl rfl) (by assumption)) ?_ | refine Run.p rfl rfl rfl (OpP.decF (OpP.gtt rfl rfl rfl) (by assumption)) ?_ | refine Run.p rfl rfl rfl (OpP.pickA rfl rfl) ?_ | refine Run.fin rfl ?_))
    ((first | refine RetOk.tupS [] rfl rfl rfl rfl rfl ?_ ?_ | refine RetOk.oneS [] rfl rfl rfl rfl ?_ ?_) <;> (repeat' (first | exact RetC.nil | exact Cv.refl | exact Crs.nil | refine RetC.tmp (by (conv => lhs; whnf) <;> rfl) ?_ ?_)))
  have hNw := New_c l fl
  have hCo := Cond_c l hl 0 (Nat.zero_le _)
  obtain ⟨pA, lA, nA⟩ := condL_ok l 0
  have hcA := condA_le l 0 (Nat.zero_le _)
  generalize condL l 0 = C at hCo pA lA nA
  generalize condA l 0 = a1 at hCo hcA
  have hNx := Next_c l hl a1 hcA 4 (by decide)
  have hk := dkN_rng l a1 4 (by decide)
  have ha2 := dkA_le hcA
  generalize dkN l a1 4 = k0 at hNx hk
  generalize dkA l a1 = a2 at hNx ha2
  obtain ⟨k0, rfl⟩ : ∃ k : Nat, k0 = (k : Int) := ⟨k0.toNat, by omega⟩
  (repeat' (first | refine AW.seq_k (fun K hK => ?_) | (refine hK _ ?_; clear hK) | (refine AW.cond rfl (fun hc => ?_) (fun hc => ?_) <;> (try simp only [Bool.and_eq_true, Bool.or_eq_true, Bool.not_eq_true', Bool.not_eq_false', Bool.and_eq_false_iff, Bool.or_eq_false_iff, Bool.and_eq_false_imp, decide_eq_true_eq, decide_eq_false_iff_not, Decidable.not_not, Int.not_lt, Int.not_le, ne_eq, Bool.not_not] at hc) <;> try (first | (exfalso; omega) | (cases hc; done))) | refine AW.block ?_ | refine AW.skip ?_ | refine AW.region (id := 0) ?_ | refine AW.region (id := 1) ?_ | refine AW.region (id := 3) ?_ | refine AW.region (id := 5) ?_ | refine AW.region (id := 6) ?_ | refine AW.region (id := 7) ?_ | refine AW.region (id := 8) ?_ | refine Run.p rfl rfl rfl (OpP.asA rfl) ?_ | refine Run.c0 sane_c rfl rfl rfl rfl rfl rfl rfl rfl ?_ | refine Run.p rfl rfl rfl (OpP.not rfl rfl) ?_ | refine Run.p rfl rfl rfl (OpP.mvA rfl) ?_ | refine Run.ri rfl rfl rfl (OpRI.lenA rfl rfl) rfl ?_ | refine Run.cSA [] hNw rfl rfl rfl rfl rfl rfl rfl rfl rfl rfl rfl rfl ?_ | refine Run.cSA [0] hCo rfl rfl rfl rfl rfl rfl rfl rfl rfl rfl rfl rfl ?_ | refine Run.cSA [0] hNx rfl rfl rfl rfl rfl rfl rfl rfl rfl rfl rfl rfl ?_ | refine Run.p rfl rfl rfl (OpP.decF (OpP.gtt rfl rfl rfl) (by assumption)) ?_ | refine Run.p rfl rfl rfl (OpP.pickA rfl rfl) ?_ | refine Run.fin rfl ?_))
  refine AW.loopF (X := Nat × Nat × List Wd × List Wd) (fun y => ⟨[(1, .sl 2 (tmP raw) fw), (2, .sl 1 (wdsP rs) fr), (3, .sl 1 (wdsP ds) fd), (9, .ptr 0 0), (10, .sl 2 (tmP C) false), (11, .row 1 (wdsP y.2.2.1).length), (12, .row 2 (wdsP y.2.2.2).length), (13, .v (.int .i64 (y.1 : Int)))], [dkR l y.2.1, .row 1 (wdsP y.2.2.1), .row 1 (wdsP y.2.2.2)]⟩)
    (fun y => y.2.1 ≤ l.length ∧ y.1 + y.2.2.1.length = k0 ∧ y.1 + y.2.2.2.length = k0) (fun y => y.1) (k0, a2, [], []) ?_ ⟨ha2, rfl, rfl⟩ ?_
  · refine Conv.own 11 1 [] (Or.inr ⟨rfl, rfl⟩) ?_
    refine Conv.own 12 1 [] (Or.inr ⟨rfl, rfl⟩) ?_
    refine Conv.mk [0, 1, 2] rfl rfl rfl ?_ rfl ?_
    · (repeat' (first | exact Cf.nil | exact Cv.refl | refine Cf.cons' (by (conv => lhs; whnf) <;> rfl) ?_ ?_))
    · (repeat' (first | exact CvL.refl _ | exact Crs.nil | refine Crs.cons ?_ rfl ?_ | refine Cr.row ?_ | refine Cr.box ?_))
      all_goals rfl
  rintro ⟨k, a, us, vs⟩ ⟨j1, j2, j3⟩
  simp only at j1 j2 j3 ⊢
  have hul : (wdsP us).length = us.length := by simp
  have hvl : (wdsP vs).length = vs.length := by simp
  cases k with
  | succ k =>
    have hgt : ((k + 1 : Nat) : Int) > 0 := by omega
    have hRo := Role_c l hl a j1
    have hb1 := dkA_le j1
    generalize roleAt (dkN l a 4) = ro at hRo
    generalize dkA l a = b1 at hRo hb1
    have hCl := Class_c l hl b1 hb1
    have hb2 := dkA_le hb1
    generalize classAt (dkN l b1 4) = cl at hCl
    generalize dkA l b1 = b2 at hCl hb2
    (repeat' (first | refine AW.seq_k (fun K hK => ?_) | (refine hK _ ?_; clear hK) | (refine AW.cond rfl (fun hc => ?_) (fun hc => ?_) <;> (try simp only [Bool.and_eq_true, Bool.or_eq_true, Bool.not_eq_true', Bool.not_eq_false', Bool.and_eq_false_iff, Bool.or_eq_false_iff, Bool.and_eq_false_imp, decide_eq_true_eq, decide_eq_false_iff_not, Decidable.not_not, Int.not_lt, Int.not_le, ne_eq, Bool.not_not] at hc) <;> try (first | (exfalso; omega) | (cases hc; done))) | refine AW.block ?_ | refine AW.skip ?_ | refine AW.region (id := 9) ?_ | refine AW.region (id := 11) ?_ | refine AW.region (id := 10) ?_ | refine Run.p rfl rfl rfl (OpP.mvA rfl) ?_ | refine Run.p rfl rfl rfl (OpP.decT (OpP.gtt rfl rfl rfl) (by assumption)) ?_ | refine Run.cSA [0] hRo rfl rfl rfl rfl rfl rfl rfl rfl rfl rfl rfl rfl ?_ | refine Run.bsA rfl rfl rfl rfl rfl rfl ?_ | refine Run.apRA rfl rfl rfl rfl rfl rfl rfl rfl rfl ?_ | refine Run.cSA [0] hCl rfl rfl rfl rfl rfl rfl rfl rfl rfl rfl rfl rfl ?_ | refine Run.p rfl rfl rfl (OpP.asA rfl) ?_ | refine Run.p rfl rfl rfl (OpP.subA rfl rfl rfl) ?_ | refine Run.fin rfl ?_))
    ((repeat (with_reducible refine inB_n ?_)); refine thenA_n ?_)
    refine ⟨(k, b2, us ++ [ro], vs ++ [cl]), ⟨hb2, by simp only [List.length_append, List.length_singleton]; omega, by simp only [List.length_append, List.length_singleton]; omega⟩, by simp only; omega, ?_⟩
    refine Conv.mk [0, 1, 2] rfl rfl rfl ?_ rfl ?_
    · (repeat' (first | exact Cf.nil | exact Cv.refl | refine Cf.cons' (by (conv => lhs; whnf) <;> rfl) ?_ ?_))
      all_goals first | rfl | (refine Cv.eq ?_; simp [AV.ren, renL]; done) | (refine Cv.eq ?_; simp [AV.ren, renL]; exact IntWalk.i64_in _ (by omega))
    · (repeat' (first | exact CvL.refl _ | exact Crs.nil | refine Crs.cons ?_ rfl ?_ | refine Cr.row ?_ | refine Cr.box ?_))
      all_goals first | rfl | (simp; done)
  | zero =>
    have hng : ¬ ((0 : Nat) : Int) > 0 := by omega
    have big : ∀ t ∈ C, t.2.length ≤ 9223372036854775807 := fun t h => by have := nA t h; omega
    have e1 := Holds_c us vs false false false C (by omega) big (by omega) (by omega)
    have e2 := rHolds_c us vs false false false C (by omega) big (by omega) (by omega)
    have e3 := Holds_c rs ds fr fd fw raw (by omega) hwn hr hd
    have e4 := rHolds_c rs ds fr fd fw raw (by omega) hwn hr hd
    have e5 := Holds_c rs ds fr fd false C (by omega) big hr hd
    have e6 := rHolds_c rs ds fr fd false C (by omega) big hr hd
    have e7 := Holds_c us vs false false fw raw (by omega) hwn (by omega) (by omega)
    have e8 := rHolds_c us vs false false fw raw (by omega) hwn (by omega) (by omega)
    generalize holdsF us vs C = h1 at e1 e2
    generalize holdsF rs ds raw = h2 at e3 e4
    generalize holdsF rs ds C = h3 at e5 e6
    generalize holdsF us vs raw = h4 at e7 e8
    (repeat' (first | refine AW.seq_k (fun K hK => ?_) | (refine hK _ ?_; clear hK) | (refine AW.cond rfl (fun hc => ?_) (fun hc => ?_) <;> (try simp only [Bool.and_eq_true, Bool.or_eq_true, Bool.not_eq_true', Bool.not_eq_false', Bool.and_eq_false_iff, Bool.or_eq_false_iff, Bool.and_eq_false_imp, decide_eq_true_eq, decide_eq_false_iff_not, Decidable.not_not, Int.not_lt, Int.not_le, ne_eq, Bool.not_not] at hc) <;> try (first | (exfalso; omega) | (cases hc; done))) | refine AW.exit ?_ | (clear hK; refine hK _ ?_; clear hK) | refine AW.region (id := 9) ?_ | refine Run.p rfl rfl rfl (OpP.mvA rfl) ?_ | refine Run.p rfl rfl rfl (OpP.decF (OpP.gtt rfl rfl rfl) (by assumption)) ?_ | refine Run.fin rfl ?_))
    refine AW.conv (s' := ⟨[(1, .sl 2 (tmP raw) fw), (2, .sl 1 (wdsP rs) fr), (3, .sl 1 (wdsP ds) fd), (10, .sl 2 (tmP C) false), (11, .sl 1 (wdsP us) false), (12, .sl 1 (wdsP vs) false)], []⟩) (Conv.mk [] rfl rfl rfl ?_ rfl ?_) ?_
    · (repeat' (first | exact Cf.nil | exact Cv.refl | exact Cv.rowf rfl rfl | refine Cf.cons' (by (conv => lhs; whnf) <;> rfl) ?_ ?_))
    · (repeat' (first | exact Crs.nil))
    (repeat' (first | (refine hK _ ?_; clear hK) | refine AW.ret ?_ | refine AW.region (id := 12) ?_ | refine Run.p rfl rfl rfl (OpP.mvA rfl) ?_ | refine Run.c0 e1 rfl rfl rfl rfl rfl rfl rfl rfl ?_ | refine Run.c0 e2 rfl rfl rfl rfl rfl rfl rfl rfl ?_ | refine Run.p rfl rfl rfl (OpP.beqR rfl rfl rfl) ?_ | refine Run.p rfl rfl rfl (OpP.asA rfl) ?_ | refine Run.c0 e3 rfl rfl rfl rfl rfl rfl rfl rfl ?_ | refine Run.c0 e4 rfl rfl rfl rfl rfl rfl rfl rfl ?_ | refine Run.p rfl rfl rfl (OpP.pickA rfl rfl) ?_ | refine Run.c0 e5 rfl rfl rfl rfl rfl rfl rfl rfl ?_ | refine Run.c0 e6 rfl rfl rfl rfl rfl rfl rfl rfl ?_ | refine Run.c0 e7 rfl rfl rfl rfl rfl rfl rfl rfl ?_ | refine Run.c0 e8 rfl rfl rfl rfl rfl rfl rfl rfl ?_ | refine Run.fin rfl ?_))
    ((first | refine RetOk.tupS [] rfl rfl rfl rfl rfl ?_ ?_ | refine RetOk.oneS [] rfl rfl rfl rfl ?_ ?_) <;> (repeat' (first | exact RetC.nil | exact Cv.refl | exact Crs.nil | refine RetC.tmp (by (conv => lhs; whnf) <;> rfl) ?_ ?_)))
theorem rFits_of (xs : List (List PV)) (w : xs.length ≤ maxLen) (h : ∀ x ∈ xs, (Sh.int .i64).fits x) : ∃ l, xs = ivs l ∧ Fits l := by
  obtain ⟨l, rfl, hl⟩ := ints_of .i64 xs h
  exact ⟨l, rfl, by simpa [maxLen] using w, fun n hn => wfi64 (hl n hn)⟩
theorem rWds_of : ∀ (xs : List (List PV)), (∀ x ∈ xs, Sh.str.fits x) → ∃ l, xs = wdsP l := by
  intro xs
  induction xs with
  | nil => intro _; exact ⟨[], rfl⟩
  | cons x xs ih =>
    intro h
    obtain ⟨l, rfl⟩ := ih (fun y hy => h y (List.mem_cons_of_mem _ hy))
    obtain ⟨s, rfl, _⟩ := h x (by simp)
    exact ⟨s :: l, rfl⟩
end Go.Proofs.Ytpacgphnpalepaa
/-
  The arguments of the law RulesHolds.
-/
namespace Go.Proofs.Ytpacgphnpalepaa
set_option linter.unusedVariables false
set_option linter.unusedSimpArgs false
theorem rTms_of : ∀ (xs : List (List PV)), (∀ x ∈ xs, (Sh.st [.int .i64, .str]).fits x) → ∃ c : List Tm, xs = tmP c ∧ ∀ t ∈ c, t.2.length ≤ 9223372036854775807 := by
  intro xs
  induction xs with
  | nil => intro _; exact ⟨[], rfl, by simp⟩
  | cons x xs ih =>
    intro h
    obtain ⟨c, rfl, hc⟩ := ih (fun y hy => h y (List.mem_cons_of_mem _ hy))
    obtain ⟨_, _, rfl, ⟨k, rfl, _⟩, _, g, rfl, ⟨s, rfl, hs⟩, hd⟩ := h x (by simp)
    obtain rfl : g = [] := hd
    refine ⟨(k, s) :: c, rfl, fun t ht => ?_⟩
    rcases List.mem_cons.1 ht with rfl | ht
    · simpa [maxLen] using hs
    · exact hc t ht
end Go.Proofs.Ytpacgphnpalepaa
