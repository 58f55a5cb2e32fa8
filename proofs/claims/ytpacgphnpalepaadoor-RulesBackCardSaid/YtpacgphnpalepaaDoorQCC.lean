/-
  Walks of the reference's rules: whether rules are the same.
-/
import Derived.Test.YtpacgphnpalepaaDoorQAA
import Derived.Test.YtpacgphnpalepaaDoorQAO
import Derived.Test.YtpacgphnpalepaaDoorQAM
import Derived.Laws.StructEq
import Derived.KernelRfl
namespace Go.Proofs.YtpacgphnpalepaaDoor
set_option linter.unusedVariables false
set_option linter.unusedSimpArgs false
instance : NoIf Tryd.prog 42 := ⟨by kernel_rfl⟩
theorem eqTm (k k' : Int) (a b : List UInt8) (w : World) : (Op.equalIn 10000 42 (.agg #[.int .i64 k, .string (bs a)]) (.agg #[.int .i64 k', .string (bs b)])).run Tryd.prog w = .ok (decide (k = k') && decide (a = b)) w := by
  have hu := Tryd.underlying42
  have u3 := Tryd.underlying3
  have a3 := Tryd.isAgg3
  have z3 := Tryd.sizeOf3
  have u9 := Tryd.underlying9
  have a9 := Tryd.isAgg9
  have z9 := Tryd.sizeOf9
  have hS : Tryd.prog.underlying 42 = some (.struct (Tryd.prog.fieldsOf 42)) := by kernel_rfl
  have hp : Tryd.prog.stoodInHeld 42 = false := by kernel_rfl
  rw [show (10000 : Nat) = 9999 + 1 from rfl, run_equalIn_agg w 9999 42 _ _ hS hp]
  simp only [Program.fieldsOf, hu]
  go_simp
  by_cases h1 : k = k' <;> by_cases h2 : a = b <;> simp [h1, h2]
theorem OpP.neSp {o : Oper} {ρ : Operand → AV} {t' : TypeId} {x y : Operand} {k k' : Int} {a b : List UInt8} (ho : o.op = .binOp .neq 42 x y t') (hx : ρ x = .agg [.v (.int .i64 k), .v (.string (bs a))]) (hy : ρ y = .agg [.v (.int .i64 k'), .v (.string (bs b))]) :
    OpP Tryd.prog o ρ (.v (.bool (!(decide (k = k') && decide (a = b))))) :=
  OpP.binA (xs := [.int .i64 k, .string (bs a)]) (ys := [.int .i64 k', .string (bs b)]) ho hx hy (.cons (.cons .nil)) (.cons (.cons .nil)) (fun w => by
    have h := eqTm k k' a b w
    simp only [binOp, Op.equal, Op.maxDepth, go_sem] at h ⊢
    simp [h])
def sameRu (a b : Ru) : Bool := decide (a.hd.kind = b.hd.kind ∧ a.hd.role = b.hd.role ∧ a.hd.cls = b.hd.cls ∧ a.hd.pct = b.hd.pct ∧ a.cond = b.cond)
theorem sameRu_eq {x y : Ru} (e : sameRu x y = true) : x = y := by
  simp only [sameRu, decide_eq_true_eq] at e
  obtain ⟨⟨k, ro, cl, pc⟩, co⟩ := x
  obtain ⟨⟨k', ro', cl', pc'⟩, co'⟩ := y
  simp only at e
  obtain ⟨rfl, rfl, rfl, rfl, rfl⟩ := e
  rfl
instance : DecidableEq Ru := fun a b => if h : sameRu a b = true then isTrue (sameRu_eq h) else isFalse (fun e => h (by rw [e]; simp [sameRu]))
set_option maxHeartbeats 4000000 in
theorem equalT_c (a b : List Tm) (f g : Bool) (hl : a.length ≤ 9223372036854775807) : ACalls Tryd.prog 51 [.sl 2 (tmP a) f, .sl 2 (tmP b) g] [] (.v (.bool (decide (a = b)))) [] := by
  generalize hR : decide (a = b) = R
  have hal : (tmP a).length = a.length := by simp
  have hbl : (tmP b).length = b.length := by simp
  refine (ACalls.of (fn := Tryd.f51) Tryd.func51 Z Z Tryd.ntmps51 (fun I M w own => ?_))
  by_cases h1 : ((tmP a).length : Int) ≠ ((tmP b).length : Int)
  · obtain rfl : R = false := by rw [← hR]; exact decide_eq_false (fun e => h1 (by rw [e]))
    (repeat' (first|refine AW.seq_k (fun K hK=>?_)|(refine hK _ ?_;clear hK)|refine AW.uC (fun hc=>?_) (fun hc=>?_)|refine AW.ret ?_|exact trivial|refine AW.rI [0, 1, 2] Z ?_|refine Ud ?_|fail))
    ((first|refine RetOk.tupS [] Z Z Z Z Z ?_ ?_|refine RetOk.oneS [] Z Z Z Z ?_ ?_)<;>(repeat' (first|exact V0|refine V1 ?_|refine V2 ?_ ?_|fail)))
  have e1 : a.length = b.length := by omega
  (repeat' (first|refine AW.seq_k (fun K hK=>?_)|(refine hK _ ?_;clear hK)|refine AW.uC (fun hc=>?_) (fun hc=>?_)|refine AW.block ?_|refine AW.skip ?_|exact trivial|refine AW.rI [0, 1, 3] Z ?_|refine Ud ?_|fail))
  refine AW.loopF (X := Nat) (fun x => ⟨[(0, .sl 2 (tmP a) f), (1, .sl 2 (tmP b) g), (12, .v (.int .i64 ((tmP a).length : Int))), (13, .v (.int .i64 (x : Int)))], []⟩)
    (fun x => x ≤ a.length ∧ a.take x = b.take x) (fun x => a.length - x) 0 ?_ ⟨Nat.zero_le _, rfl⟩ ?_
  · refine Conv.mk [] Z Z Z ?_ Z ?_
    · (repeat' (first|exact V0|refine V3 ?_|refine V2 ?_ ?_|fail))
    · (repeat' (first|exact V0|refine V3 ?_|refine V2 ?_ ?_|fail))
  rintro i ⟨g1, g2⟩
  rcases Nat.lt_or_ge i a.length with h | h
  · obtain ⟨⟨kt, nt⟩, ht⟩ : ∃ t, a[i]? = some t := ⟨a[i], by simp [h]⟩
    obtain ⟨⟨kt', nt'⟩, ht'⟩ : ∃ t, b[i]? = some t := ⟨b[i]'(by omega), by simp [show i < b.length by omega]⟩
    have hA : At (tmP a) (i : Int) [PV.v (.int .i64 kt), PV.v (.string (bs nt))] := At.mk i Z (by simp [ht])
    have hA' : At (tmP b) (i : Int) [PV.v (.int .i64 kt'), PV.v (.string (bs nt'))] := At.mk i Z (by simp [ht'])
    have hlt : (i : Int) < ((tmP a).length : Int) := by omega
    (repeat' (first|refine AW.seq_k (fun K hK=>?_)|(refine hK _ ?_;clear hK)|refine AW.uC (fun hc=>?_) (fun hc=>?_)|refine AW.block ?_|refine AW.ret ?_|refine AW.skip ?_|exact trivial|refine AW.draw (id := 6) (by kernel_rfl) ?_|refine AW.rI [4, 5, 7, 8] Z ?_|refine Ud ?_|fail))
    · have hcd : ¬ kt = kt' ∨ ¬ nt = nt' := by assumption
      obtain rfl : R = false := by
        rw [← hR]
        refine decide_eq_false (fun e => ?_)
        rw [e, ht'] at ht
        injection ht with ht
        injection ht with e6 e7
        rcases hcd with q | q
        · exact q e6.symm
        · exact q e7.symm
      ((first|refine RetOk.tupS [] Z Z Z Z Z ?_ ?_|refine RetOk.oneS [] Z Z Z Z ?_ ?_)<;>(repeat' (first|exact V0|refine V1 ?_|refine V2 ?_ ?_|fail)))
    · have hcd : kt = kt' ∧ nt = nt' := by assumption
      ((repeat (with_reducible refine inB_n ?_)); refine thenA_n ?_)
      refine ⟨i + 1, ⟨h, ?_⟩, by omega, ?_⟩
      · rw [List.take_add_one, List.take_add_one, g2, ht, ht', hcd.1, hcd.2]
      · refine Conv.mk [] Z Z Z ?_ Z ?_
        · (repeat' (first|exact V0|refine V3 ?_|refine V2 ?_ ?_|fail))
          all_goals first | rfl | (refine Cv.eq ?_; simp [AV.ren, renL]; done)
        · (repeat' (first|exact V0|refine V3 ?_|refine V2 ?_ ?_|fail))
  · have hge : ¬ (i : Int) < ((tmP a).length : Int) := by omega
    obtain rfl : R = true := by
      rw [← hR]
      refine decide_eq_true ?_
      rwa [List.take_of_length_le h, List.take_of_length_le (by omega)] at g2
    (repeat' (first|refine AW.seq_k (fun K hK=>?_)|(refine hK _ ?_;clear hK)|refine AW.uC (fun hc=>?_) (fun hc=>?_)|refine AW.exit ?_|refine AW.ret ?_|(clear hK;refine hK _ ?_;clear hK)|exact trivial|refine AW.rI [4, 9] Z ?_|refine Ud ?_|fail))
    ((first|refine RetOk.tupS [] Z Z Z Z Z ?_ ?_|refine RetOk.oneS [] Z Z Z Z ?_ ?_)<;>(repeat' (first|exact V0|refine V1 ?_|refine V2 ?_ ?_|fail)))
set_option maxHeartbeats 4000000 in
theorem psame_c (a b : Ru) (f g : Bool) (hl : a.cond.length ≤ 9223372036854775807) : ACalls Tryd.prog 28 [.agg (ruC a f), .agg (ruC b g)] [] (.v (.bool (sameRu a b))) [] := by
  generalize hR : sameRu a b = R
  rw [sameRu] at hR
  obtain ⟨⟨k, ro, cl, pc⟩, co⟩ := a
  obtain ⟨⟨k', ro', cl', pc'⟩, co'⟩ := b
  simp only at hR hl
  have hE := equalT_c co co' f g hl
  show ACalls Tryd.prog 28 [.agg [.v (.int .i64 k), .v (.string (bs ro)), .v (.string (bs cl)), .v (.int .i64 pc), .sl 2 (tmP co) f], .agg [.v (.int .i64 k'), .v (.string (bs ro')), .v (.string (bs cl')), .v (.int .i64 pc'), .sl 2 (tmP co') g]] [] (.v (.bool R)) []
  refine (ACalls.of (fn := Tryd.f28) Tryd.func28 Z Z Tryd.ntmps28 (fun I M w own => ?_))
  by_cases h1 : k = k'
  case neg =>
    obtain rfl : R = false := by rw [← hR]; simp [h1]
    (repeat' (first|refine AW.seq_k (fun K hK=>?_)|(refine hK _ ?_;clear hK)|refine AW.ret ?_|refine AW.region ?_|refine Ud ?_|fail))
    ((first|refine RetOk.tupS [] Z Z Z Z Z ?_ ?_|refine RetOk.oneS [] Z Z Z Z ?_ ?_)<;>(repeat' (first|exact V0|refine V1 ?_|refine V2 ?_ ?_|fail)))
  by_cases h2 : ro = ro'
  case neg =>
    obtain rfl : R = false := by rw [← hR]; simp [h2]
    (repeat' (first|refine AW.seq_k (fun K hK=>?_)|(refine hK _ ?_;clear hK)|refine AW.ret ?_|refine AW.region ?_|refine Ud ?_|fail))
    ((first|refine RetOk.tupS [] Z Z Z Z Z ?_ ?_|refine RetOk.oneS [] Z Z Z Z ?_ ?_)<;>(repeat' (first|exact V0|refine V1 ?_|refine V2 ?_ ?_|fail)))
  by_cases h3 : cl = cl'
  case neg =>
    obtain rfl : R = false := by rw [← hR]; simp [h3]
    (repeat' (first|refine AW.seq_k (fun K hK=>?_)|(refine hK _ ?_;clear hK)|refine AW.ret ?_|refine AW.region ?_|refine Ud ?_|fail))
    ((first|refine RetOk.tupS [] Z Z Z Z Z ?_ ?_|refine RetOk.oneS [] Z Z Z Z ?_ ?_)<;>(repeat' (first|exact V0|refine V1 ?_|refine V2 ?_ ?_|fail)))
  by_cases h4 : pc = pc'
  case neg =>
    obtain rfl : R = false := by rw [← hR]; simp [h4]
    (repeat' (first|refine AW.seq_k (fun K hK=>?_)|(refine hK _ ?_;clear hK)|refine AW.ret ?_|refine AW.region ?_|refine Ud ?_|fail))
    ((first|refine RetOk.tupS [] Z Z Z Z Z ?_ ?_|refine RetOk.oneS [] Z Z Z Z ?_ ?_)<;>(repeat' (first|exact V0|refine V1 ?_|refine V2 ?_ ?_|fail)))
  obtain rfl : decide (co = co') = R := by rw [← hR]; simp [h1, h2, h3, h4]
  (repeat' (first|refine AW.seq_k (fun K hK=>?_)|(refine hK _ ?_;clear hK)|refine AW.ret ?_|refine AW.region ?_|refine Run.c0 hE Z Z Z Z Z Z Z Z ?_|refine Ud ?_|fail))
  ((first|refine RetOk.tupS [] Z Z Z Z Z ?_ ?_|refine RetOk.oneS [] Z Z Z Z ?_ ?_)<;>(repeat' (first|exact V0|refine V1 ?_|refine V2 ?_ ?_|fail)))
set_option maxHeartbeats 4000000 in
theorem equalR_c (a b : List Ru) (f g : Bool) (hl : a.length ≤ 9223372036854775807) (hcn : ∀ r ∈ a, r.cond.length ≤ 9223372036854775807) : ACalls Tryd.prog 27 [.sl 5 (ruP a) f, .sl 5 (ruP b) g, .fn 28 []] [] (.v (.bool (decide (a = b)))) [] := by
  generalize hR : decide (a = b) = R
  have hal : (ruP a).length = a.length := by simp
  have hbl : (ruP b).length = b.length := by simp
  refine (ACalls.of (fn := Tryd.f27) Tryd.func27 Z Z Tryd.ntmps27 (fun I M w own => ?_))
  by_cases h1 : ((ruP a).length : Int) ≠ ((ruP b).length : Int)
  · obtain rfl : R = false := by rw [← hR]; exact decide_eq_false (fun e => h1 (by rw [e]))
    (repeat' (first|refine AW.seq_k (fun K hK=>?_)|(refine hK _ ?_;clear hK)|refine AW.uC (fun hc=>?_) (fun hc=>?_)|refine AW.ret ?_|exact trivial|refine AW.rI [0, 1, 2] Z ?_|refine Ud ?_|fail))
    ((first|refine RetOk.tupS [] Z Z Z Z Z ?_ ?_|refine RetOk.oneS [] Z Z Z Z ?_ ?_)<;>(repeat' (first|exact V0|refine V1 ?_|refine V2 ?_ ?_|fail)))
  have e1 : a.length = b.length := by omega
  (repeat' (first|refine AW.seq_k (fun K hK=>?_)|(refine hK _ ?_;clear hK)|refine AW.uC (fun hc=>?_) (fun hc=>?_)|refine AW.block ?_|refine AW.skip ?_|exact trivial|refine AW.rI [0, 1, 3] Z ?_|refine Ud ?_|fail))
  refine AW.loopF (X := Nat) (fun x => ⟨[(0, .sl 5 (ruP a) f), (1, .sl 5 (ruP b) g), (2, .fn 28 []), (15, .sl 5 (ruP a) f), (16, .v (.int .i64 ((ruP a).length : Int))), (17, .v (.int .i64 (x : Int)))], []⟩)
    (fun x => x ≤ a.length ∧ a.take x = b.take x) (fun x => a.length - x) 0 ?_ ⟨Nat.zero_le _, rfl⟩ ?_
  · refine Conv.mk [] Z Z Z ?_ Z ?_
    · (repeat' (first|exact V0|refine V3 ?_|refine V2 ?_ ?_|fail))
    · (repeat' (first|exact V0|refine V3 ?_|refine V2 ?_ ?_|fail))
  rintro i ⟨g1, g2⟩
  rcases Nat.lt_or_ge i a.length with h | h
  · obtain ⟨x, hx⟩ : ∃ t, a[i]? = some t := ⟨a[i], by simp [h]⟩
    obtain ⟨y, hy⟩ : ∃ t, b[i]? = some t := ⟨b[i]'(by omega), by simp [show i < b.length by omega]⟩
    have hA : At (ruP a) (i : Int) [PV.v (.int .i64 x.hd.kind), PV.v (.string (bs x.hd.role)), PV.v (.string (bs x.hd.cls)), PV.v (.int .i64 x.hd.pct), PV.sl 2 (tmP x.cond)] := At.mk i Z (by simp [hx])
    have hA' : At (ruP b) (i : Int) [PV.v (.int .i64 y.hd.kind), PV.v (.string (bs y.hd.role)), PV.v (.string (bs y.hd.cls)), PV.v (.int .i64 y.hd.pct), PV.sl 2 (tmP y.cond)] := At.mk i Z (by simp [hy])
    have hlt : (i : Int) < ((ruP a).length : Int) := by omega
    have hs := psame_c x y false false (hcn x (List.mem_of_getElem? hx))
    have hse : sameRu x y = true → x = y := sameRu_eq
    cases hq : sameRu x y with
    | false =>
      rw [hq] at hs
      have hne : x ≠ y := by
        rintro rfl
        simp [sameRu] at hq
      obtain rfl : R = false := by
        rw [← hR]
        refine decide_eq_false (fun e => ?_)
        rw [e, hy] at hx
        exact hne (Option.some.inj hx).symm
      (repeat' (first|refine AW.seq_k (fun K hK=>?_)|(refine hK _ ?_;clear hK)|refine AW.uC (fun hc=>?_) (fun hc=>?_)|refine AW.block ?_|refine AW.ret ?_|refine AW.skip ?_|exact trivial|refine AW.rI [4, 5, 6, 7, 8] Z ?_|refine Run.c0 hs Z Z Z Z Z Z Z Z ?_|refine Ud ?_|fail))
      ((first|refine RetOk.tupS [] Z Z Z Z Z ?_ ?_|refine RetOk.oneS [] Z Z Z Z ?_ ?_)<;>(repeat' (first|exact V0|refine V1 ?_|refine V2 ?_ ?_|fail)))
    | true =>
      rw [hq] at hs
      have e2 := hse hq
      (repeat' (first|refine AW.seq_k (fun K hK=>?_)|(refine hK _ ?_;clear hK)|refine AW.uC (fun hc=>?_) (fun hc=>?_)|refine AW.block ?_|refine AW.skip ?_|exact trivial|refine AW.rI [4, 5, 6, 7, 9] Z ?_|refine Run.c0 hs Z Z Z Z Z Z Z Z ?_|refine Ud ?_|fail))
      ((repeat (with_reducible refine inB_n ?_)); refine thenA_n ?_)
      refine ⟨i + 1, ⟨h, ?_⟩, by omega, ?_⟩
      · rw [List.take_add_one, List.take_add_one, g2, hx, hy, e2]
      · refine Conv.mk [] Z Z Z ?_ Z ?_
        · (repeat' (first|exact V0|refine V3 ?_|refine V2 ?_ ?_|fail))
          all_goals first | rfl | (refine Cv.eq ?_; simp [AV.ren, renL]; done)
        · (repeat' (first|exact V0|refine V3 ?_|refine V2 ?_ ?_|fail))
  · have hge : ¬ (i : Int) < ((ruP a).length : Int) := by omega
    obtain rfl : R = true := by
      rw [← hR]
      refine decide_eq_true ?_
      rwa [List.take_of_length_le h, List.take_of_length_le (by omega)] at g2
    (repeat' (first|refine AW.seq_k (fun K hK=>?_)|(refine hK _ ?_;clear hK)|refine AW.uC (fun hc=>?_) (fun hc=>?_)|refine AW.exit ?_|refine AW.ret ?_|(clear hK;refine hK _ ?_;clear hK)|exact trivial|refine AW.rI [4, 10] Z ?_|refine Ud ?_|fail))
    ((first|refine RetOk.tupS [] Z Z Z Z Z ?_ ?_|refine RetOk.oneS [] Z Z Z Z ?_ ?_)<;>(repeat' (first|exact V0|refine V1 ?_|refine V2 ?_ ?_|fail)))
set_option maxHeartbeats 4000000 in
theorem pSame_c (a b : List Ru) (f g : Bool) (hl : a.length ≤ 9223372036854775807) (hcn : ∀ r ∈ a, r.cond.length ≤ 9223372036854775807) : ACalls Tryd.prog 12 [.sl 5 (ruP a) f, .sl 5 (ruP b) g] [] (.v (.bool (decide (a = b)))) [] := by
  have h := equalR_c a b f g hl hcn
  refine (ACalls.of (fn := Tryd.f12) Tryd.func12 Z Z Tryd.ntmps12 (fun I M w own => ?_))
  (repeat' (first|refine AW.seq_k (fun K hK=>?_)|(refine hK _ ?_;clear hK)|refine AW.ret ?_|refine AW.region ?_|refine Run.c0 h Z Z Z Z Z Z Z Z ?_|refine UA ?_|fail))
  ((first|refine RetOk.tupS [] Z Z Z Z Z ?_ ?_|refine RetOk.oneS [] Z Z Z Z ?_ ?_)<;>(repeat' (first|exact V0|refine V1 ?_|refine V2 ?_ ?_|fail)))
end Go.Proofs.YtpacgphnpalepaaDoor
