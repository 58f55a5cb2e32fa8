/-
  The contract of Itoa over values without addresses, out of the kit's shelf.
-/
import Derived.Test.YtpacgphnpalepaaDoorQAA
import Derived.Test.YtpacgphnpalepaaDoorTy
import Derived.Test.YtpacgphnpalepaaDoorQAD
import Derived.Test.YtpacgphnpalepaaDoorShf
import Derived.Sort.Grow
import Derived.Lib.ItoaLen
namespace Go.Proofs.YtpacgphnpalepaaDoor
set_option linter.unusedVariables false
set_option linter.unusedSimpArgs false
open Go.RowKit
theorem drewN_heap (w : World) (k : Nat) : (w.drewN k).heap = w.heap ∧ (w.drewN k).os = w.os ∧ (w.drewN k).tape = w.tape ∧ (w.drewN k).output = w.output := ⟨rfl, rfl, rfl, rfl⟩
theorem evo_grow (M : Nat → Nat) (w : World) (k : Nat) (os : Array Obj) : Evo M M w (Sort.grow (w.drewN k) os) := by
  refine ⟨by simp [Sort.grow], fun _ => Nat.le_refl _, fun b o v _ h => ?_, ety_of fun b hb => by simp only [Sort.grow, (drewN_heap w k).1]; rw [Array.getElem?_append_left hb]⟩
  simp only [World.cell?, Sort.grow, (drewN_heap w k).1] at h ⊢
  have hb : b < w.heap.size := by
    rcases Nat.lt_or_ge b w.heap.size with h' | h'
    · exact h'
    · rw [Array.getElem?_eq_none h'] at h; cases h
  rw [Array.getElem?_append_left hb]
  exact h
theorem ACalls.grown {P : Program} {f : FuncId} {args : List Value} {r : Value} (h : ∀ (M : Nat → Nat) (w : World), (∀ t ∈ tabs, Tb M w t) → Calls P f args.toArray w fun e w' => e = .returned r ∧ ∃ k os, w' = Sort.grow (w.drewN k) os) : ACalls P f (args.map AV.v) [] (.v r) [] := by
  intro I M w cargs ha hav hs hno
  have hc : cargs = args.toArray := by
    apply Array.ext
    · simpa using ha
    · intro i h1 h2
      have := hav i cargs[i] (.v args[i]) (by simp [h1]) (by simp)
      have := this.val
      simpa using this
  subst hc
  refine (h M w hs.tab).mono ?_
  rintro e w' ⟨rfl, k, os, rfl⟩
  have ev := evo_grow M w k os
  have hext : ∀ own, Ext own I I M M w (Sort.grow (w.drewN k) os) := fun own => ⟨rfl, rfl, rfl, fun _ => CI.le_refl _, ev, fun b hb _ => ⟨by
    simp only [Sort.grow, (drewN_heap w k).1]
    rw [Array.getElem?_append_left hb], rfl⟩⟩
  refine ⟨r, I, M, rfl, .v _, hs.stay (hext _) (fun b hb => hs.top b (Nat.le_trans ev.size hb)), hno, hext _, fun k b hb => ?_⟩
  rw [show sto [] k = .no by simp [sto]] at hb
  cases h : I k <;> rw [h] at hb <;> cases hb
theorem Itoa_c (n : Int) (h0 : -9223372036854775808 ≤ n) (h1 : n ≤ 9223372036854775807) : ACalls Tryd.prog 62 [.v (.int .i64 n)] [] (.v (.string (bs (Lib.itoa n)))) [] := by
  refine ACalls.grown (args := [.int .i64 n]) fun M w ht => ?_
  refine (Any.strconv_Itoa laysM171 n h0 h1 w ?_).mono fun e w' h => h
  obtain ⟨e, fr, t1, _⟩ := ht _ (List.mem_singleton.2 Z)
  unfold Lib.TabIs World.var?
  rw [show Tryd.prog.globalNamed _ = some 1 by kernel_rfl]
  simp only [Option.bind_some, t1]
set_option maxHeartbeats 4000000 in
theorem Format_c (n : Int) (h0 : -9223372036854775808 ≤ n) (h1 : n ≤ 9223372036854775807) : ACalls Tryd.prog 47 [.v (.int .i64 n)] [] (.v (.string (bs (Lib.itoa n)))) [] := by
  have h := Itoa_c n h0 h1
  refine (ACalls.of (fn := Tryd.f47) Tryd.func47 Z Z Tryd.ntmps47 (fun I M w own => ?_))
  (repeat' (first|refine AW.seq_k (fun K hK=>?_)|(refine hK _ ?_;clear hK)|refine AW.ret ?_|refine AW.region ?_|refine Run.c0 h Z Z Z Z Z Z Z Z ?_|refine UA ?_|fail))
  ((first|refine RetOk.tup Z Z ?_|refine RetOk.one Z ?_)<;>(repeat' (first|exact V0|refine V1 ?_|refine V2 ?_ ?_|fail)))
end Go.Proofs.YtpacgphnpalepaaDoor
