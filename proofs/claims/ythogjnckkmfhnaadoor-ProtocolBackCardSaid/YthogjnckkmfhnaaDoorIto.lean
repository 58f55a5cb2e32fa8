/-
  The contract of Itoa over values without addresses, out of the kit's shelf.
-/
import Derived.Test.YthogjnckkmfhnaaDoorTy
import Derived.Test.YthogjnckkmfhnaaDoorBaB
import Derived.Test.YthogjnckkmfhnaaDoorShf
import Derived.Sort.Grow
import Derived.Lib.ItoaLen
namespace Go.Proofs.YthogjnckkmfhnaaDoor
open Go.RowKit
set_option linter.unusedVariables false
theorem drewN_heap (w : World) (k : Nat) : (w.drewN k).heap = w.heap ∧ (w.drewN k).os = w.os ∧ (w.drewN k).tape = w.tape ∧ (w.drewN k).output = w.output := ⟨rfl, rfl, rfl, rfl⟩
theorem evo_grow (M : Nat → Nat) (w : World) (k : Nat) (os : Array Obj) : Evo M M w (Sort.grow (w.drewN k) os) := by
  refine ⟨by simp [Sort.grow], fun _ => Nat.le_refl _, fun b o v _ h => ?_⟩
  simp only [World.cell?, Sort.grow, (drewN_heap w k).1] at h ⊢
  have hb : b < w.heap.size := by
    rcases Nat.lt_or_ge b w.heap.size with h' | h'
    · exact h'
    · rw [Array.getElem?_eq_none h'] at h; cases h
  rw [Array.getElem?_append_left hb]
  exact h
/-- a call that takes plain values, draws, and lays new blocks -/
theorem ACalls.grown {P : Program} {f : FuncId} {args : List Value} {r : Value} (h : ∀ (M : Nat → Nat) (w : World), (∀ t ∈ tabs, Tb M w t) → Calls P f args.toArray w fun e w' => e = .returned r ∧ ∃ k os, w' = Sort.grow (w.drewN k) os) : ACalls P f (args.map AV.v) [] (.v r) [] := by
  intro I M w cargs ha hav hs hno
  have hc : cargs = args.toArray := by
    apply Array.ext
    · simpa using ha
    · intro i h1 h2
      have := hav i cargs[i] (.v args[i]) (by simp [h1]) (by simp)
      have := this.val
      simpa using this
  subst hc
  refine (h M w hs.tab).mono ?_
  rintro e w' ⟨rfl, k, os, rfl⟩
  have ev := evo_grow M w k os
  have hext : ∀ own, Ext own I I M M w (Sort.grow (w.drewN k) os) := fun own => ⟨rfl, rfl, rfl, fun _ => CI.le_refl _, ev, fun b hb _ => ⟨by
    simp only [Sort.grow, (drewN_heap w k).1]
    rw [Array.getElem?_append_left hb], rfl⟩⟩
  refine ⟨r, I, M, rfl, .v _, hs.stay (hext _) (fun b hb => hs.top b (Nat.le_trans ev.size hb)), hno, hext _, fun k b hb => ?_⟩
  rw [show sto [] k = .no by simp [sto]] at hb
  cases h : I k <;> rw [h] at hb <;> cases hb
theorem Itoa_c (n : Int) (h0 : -9223372036854775808 ≤ n) (h1 : n ≤ 9223372036854775807) : ACalls Tryd.prog 48 [.v (.int .i64 n)] [] (.v (.string (bs (Lib.itoa n)))) [] := by
  refine ACalls.grown (args := [.int .i64 n]) fun M w ht => ?_
  refine (Any.strconv_Itoa laysM171 n h0 h1 w ?_).mono fun e w' h => h
  obtain ⟨e, fr, t1, _⟩ := ht _ (List.mem_singleton.2 rfl)
  unfold Lib.TabIs World.var?
  rw [show Tryd.prog.globalNamed _ = some 0 by kernel_rfl]
  simp only [Option.bind_some, t1]
theorem Format_c (n : Int) (h0 : -9223372036854775808 ≤ n) (h1 : n ≤ 9223372036854775807) : ACalls Tryd.prog 24 [.v (.int .i64 n)] [] (.v (.string (bs (Lib.itoa n)))) [] := by
  have h := Itoa_c n h0 h1
  refine (ACalls.of (fn := Tryd.f24) Tryd.func24 rfl rfl Tryd.ntmps24 (fun I M w own => ?_))
  (repeat' (first | refine AW.seq_k (fun K hK => ?_) | (refine hK _ ?_; clear hK) | (refine AW.condD rfl (fun hc => ?_) (fun hc => ?_) <;> try (first | (exfalso; omega) | (cases hc; done))) | (refine AW.cond rfl (fun hc => ?_) (fun hc => ?_) <;> (try simp only [Bool.and_eq_true, Bool.or_eq_true, Bool.not_eq_true', Bool.not_eq_false', Bool.and_eq_false_iff, Bool.or_eq_false_iff, Bool.and_eq_false_imp, decide_eq_true_eq, decide_eq_false_iff_not, Decidable.not_not, Int.not_lt, Int.not_le, ne_eq, Bool.not_not] at hc) <;> try (first | (exfalso; omega) | (cases hc; done))) | refine AW.block ?_ | refine AW.exit ?_ | refine AW.ret ?_ | refine AW.skip ?_ | (clear hK; refine hK _ ?_; clear hK) | (clear hK; clear hK; refine hK _ ?_; clear hK) | (clear hK; clear hK; clear hK; refine hK _ ?_; clear hK) | (first | (refine AW.region (id := 0) ?_ <;> (try (refine Run.p rfl rfl rfl (OpP.asA rfl) ?_)) <;> (try refine Run.fin rfl ?_)) | (refine AW.region (id := 1) ?_ <;> (try (refine Run.p rfl rfl rfl (OpP.mvA rfl) ?_)) <;> (try (refine Run.c0 h rfl rfl rfl rfl rfl rfl rfl rfl ?_)) <;> (try (refine Run.p rfl rfl rfl (OpP.asA rfl) ?_)) <;> (try refine Run.fin rfl ?_)))))
  ((first | refine RetOk.tup rfl rfl ?_ | refine RetOk.one rfl ?_) <;> (repeat' (first | exact Cv.nil | exact Cv.rowf rfl rfl | exact RetC.nil | exact CvL.refl _ | exact Cv.refl | refine RetC.tmp (by (conv => lhs; whnf) <;> rfl) ?_ ?_ | refine RetC.cell1 rfl rfl rfl rfl ?_ ?_ | refine RetC.cellN rfl rfl rfl (by repeat constructor) ?_ ?_ | refine Cv.rowE rfl rfl ?_ | exact Cv.full | exact CvL.nil | refine CvL.cons ?_ ?_)))
end Go.Proofs.YthogjnckkmfhnaaDoor
