/-
  Walk of the reader of rules: read, which recovers from the reader's panics.
-/
import Derived.Test.YtpacgphnpalepaaRdE
import Derived.Test.YtpacgphnpalepaaAdf
import Derived.Lib.Bytealg
namespace Go.Proofs.Ytpacgphnpalepaa
set_option linter.unusedVariables false
set_option linter.unusedSimpArgs false
abbrev zeroRu : List AV := [.v (.int .i64 0), .v (.string (bs [])), .v (.string (bs [])), .v (.int .i64 0), .v (.slice none 0 0)]
theorem read1_no (r : Ru) (b : Value) : ADef Try.prog 49 [.ptr 0 0, .ptr 1 0] [.box r.cells, .box [.v b]] [.box r.cells, .box [.v b]] .returning .returning := by
  refine ADef.of (fn := Try.f49) Try.func49 rfl rfl Try.ntmps49 .no rfl rfl rfl rfl (fun _ => rfl) (fun _ => rfl) rfl rfl (fun I M w own => ?_)
  (repeat' (first | refine AW.seq_k (fun K hK => ?_) | (refine hK _ ?_; clear hK) | (refine AW.cond rfl (fun hc => ?_) (fun hc => ?_) <;> (try simp only [Bool.and_eq_true, Bool.or_eq_true, Bool.not_eq_true', Bool.not_eq_false', Bool.and_eq_false_iff, Bool.or_eq_false_iff, Bool.and_eq_false_imp, decide_eq_true_eq, decide_eq_false_iff_not, Decidable.not_not, Int.not_lt, Int.not_le, ne_eq, Bool.not_not] at hc) <;> try (first | (exfalso; omega) | (cases hc; done))) | refine AW.skip ?_ | refine AW.region (id := 1) ?_ | (refine Run.p rfl rfl rfl (OpP.mvA rfl) ?_) | (refine Run.p rfl rfl rfl (OpP.neqNil rfl rfl (by kernel_rfl) rfl) ?_) | refine Run.fin rfl ?_))
  ((first | refine RetOk.tupS [0, 1] rfl rfl rfl rfl rfl ?_ ?_ | refine RetOk.oneS [0, 1] rfl rfl rfl rfl ?_ ?_) <;> (repeat' (first | exact RetC.nil | exact CvL.refl _ | exact Crs.nil | refine Crs.cons ?_ rfl ?_ | refine Cr.box ?_)))
theorem read1_yes : ADef Try.prog 49 [.ptr 0 0, .ptr 1 0] [.box zeroRu, .box [.v (.bool false)]] [.box zeroRu, .box [.v (.bool false)]] (.panicking mstC) (.panicking [{ v := mst, recovered := true }]) := by
  refine ADef.of (fn := Try.f49) Try.func49 rfl rfl Try.ntmps49 .yes rfl rfl rfl rfl (fun _ => rfl) (fun _ => rfl) rfl rfl (fun I M w own => ?_)
  (repeat' (first | refine AW.seq_k (fun K hK => ?_) | (refine hK _ ?_; clear hK) | (refine AW.cond rfl (fun hc => ?_) (fun hc => ?_) <;> (try simp only [Bool.and_eq_true, Bool.or_eq_true, Bool.not_eq_true', Bool.not_eq_false', Bool.and_eq_false_iff, Bool.or_eq_false_iff, Bool.and_eq_false_imp, decide_eq_true_eq, decide_eq_false_iff_not, Decidable.not_not, Int.not_lt, Int.not_le, ne_eq, Bool.not_not] at hc) <;> try (first | (exfalso; omega) | (cases hc; done))) | refine AW.skip ?_ | refine AW.region (id := 1) ?_ | refine AW.region (id := 2) ?_ | refine AW.region (id := 3) ?_ | refine AW.region (id := 5) ?_ | (refine Run.p rfl rfl rfl (OpP.mvA rfl) ?_) | (refine Run.p rfl rfl rfl (OpP.neqNil rfl rfl (by kernel_rfl) rfl) ?_) | refine Run.fin rfl ?_ | (refine Run.p rfl rfl rfl (OpP.typeAssert0 rfl rfl rfl) ?_) | (refine Run.p rfl rfl rfl (OpP.extract rfl rfl rfl) ?_) | (refine Run.alA rfl rfl rfl rfl ?_) | (refine Run.stA rfl rfl rfl rfl rfl ?_) | (refine Run.p rfl rfl rfl (OpP.asA rfl) ?_) | (refine Run.p rfl rfl rfl (OpP.not rfl rfl) ?_) | (refine Run.p rfl rfl rfl (OpP.buildSA rfl) ?_)))
  ((first | refine RetOk.tupS [0, 1] rfl rfl rfl rfl rfl ?_ ?_ | refine RetOk.oneS [0, 1] rfl rfl rfl rfl ?_ ?_) <;> (repeat' (first | exact RetC.nil | exact CvL.refl _ | exact Crs.nil | refine Crs.cons ?_ rfl ?_ | refine Cr.box ?_)))
def readE : Option Ru → AV
  | none => .tup [.agg zeroRu, .v (.bool false)]
  | some r => .tup [.agg r.cells, .v (.bool true)]
theorem read_c (ws : List Wd) (f : Bool) (hs : ∀ x ∈ ws, x.length ≤ 1099511627776) (hl : ws.length ≤ 1000000) : ACalls Try.prog 27 [.sl 1 (wdsP ws) f] [] (readE (ruleF ws)) [] := by
  have hr := rule_e ws f hs hl
  cases he : ruleF ws with
  | none =>
    rw [he] at hr
    rw [readE]
    refine ACalls.ofDefer (fn := Try.f27) Try.func27 rfl rfl Try.ntmps27 rfl rfl rfl rfl (fun _ => rfl) (fun _ => rfl) rfl rfl rfl (fr1 := [(3, .ptr 1 0), (2, .ptr 0 0), (0, .sl 1 (wdsP ws) f)]) (σ1 := [.box zeroRu, .box [.v (.bool false)]]) (fun I M w own => ?_) (fun I M w own ds => ?_)
    · (repeat' (first | refine AW.region (id := 0) ?_ | (refine Run.alA rfl rfl rfl rfl ?_) | refine Run.fin rfl ?_))
      exact ⟨rfl, rfl⟩
    · refine AW.seq_k (fun K hK => ?_)
      refine AW.region (id := 2) ?_
      (iterate 4 (first | refine Run.p rfl rfl rfl (OpP.mvA rfl) ?_ | refine Run.p rfl rfl rfl (OpP.buildSA rfl) ?_ | refine Run.bxA rfl rfl rfl rfl ?_ | refine Run.p rfl rfl rfl (OpP.asA rfl) ?_))
      refine Run.fin rfl ?_
      refine hK _ ?_
      clear hK
      refine AW.seq_k (fun K hK => ?_)
      (refine AW.die (id := 3) 1 rfl ?_ <;> (try (refine Run.p rfl rfl rfl (OpP.mvA rfl) ?_)) <;> (try refine Run.fin rfl ?_))
      refine DieAt.call [2] hr (Enters.fn rfl rfl rfl) rfl rfl rfl rfl rfl ?_
      refine ⟨_, _, [(3, .ptr 1 0), (2, .ptr 0 0)], [.box zeroRu, .box [.v (.bool false)]], [.box zeroRu, .box [.v (.bool false)]], [.agg zeroRu, .v (.bool false)], rfl, ?_, read1_yes, rfl, rfl, rfl, ?_, Cv.refl, rfl⟩
      · refine Conv.mk [0, 1] rfl rfl rfl ?_ rfl ?_
        · (repeat' (first | exact Cf.nil | exact Cv.refl | refine Cf.cons' (by (conv => lhs; whnf) <;> rfl) ?_ ?_))
        · (repeat' (first | exact CvL.refl _ | exact Crs.nil | refine Crs.cons ?_ rfl ?_ | refine Cr.box ?_))
      · exact ResA.cellN rfl rfl rfl (Nat.le_of_ble_eq_true rfl) rfl (ResA.cell1 rfl rfl rfl rfl ResA.nil)
  | some r =>
    rw [he] at hr
    rw [readE]
    refine ACalls.ofDefer (fn := Try.f27) Try.func27 rfl rfl Try.ntmps27 rfl rfl rfl rfl (fun _ => rfl) (fun _ => rfl) rfl rfl rfl (fr1 := [(3, .ptr 1 0), (2, .ptr 0 0), (0, .sl 1 (wdsP ws) f)]) (σ1 := [.box zeroRu, .box [.v (.bool false)]]) (fun I M w own => ?_) (fun I M w own ds => ?_)
    · (repeat' (first | refine AW.region (id := 0) ?_ | (refine Run.alA rfl rfl rfl rfl ?_) | refine Run.fin rfl ?_))
      exact ⟨rfl, rfl⟩
    · refine AW.seq_k (fun K hK => ?_)
      refine AW.region (id := 2) ?_
      (iterate 4 (first | refine Run.p rfl rfl rfl (OpP.mvA rfl) ?_ | refine Run.p rfl rfl rfl (OpP.buildSA rfl) ?_ | refine Run.bxA rfl rfl rfl rfl ?_ | refine Run.p rfl rfl rfl (OpP.asA rfl) ?_))
      refine Run.fin rfl ?_
      refine hK _ ?_
      clear hK
      (repeat' (first | refine AW.seq_k (fun K hK => ?_) | (refine hK _ ?_; clear hK) | refine AW.ret ?_ | refine AW.region (id := 3) ?_ | (refine Run.p rfl rfl rfl (OpP.mvA rfl) ?_) | (refine Run.cSA [2] hr rfl rfl rfl rfl rfl rfl rfl rfl rfl rfl rfl rfl ?_) | (refine Run.stA rfl rfl rfl rfl rfl ?_) | refine Run.fin rfl ?_))
      refine ⟨_, _, [(3, .ptr 1 0), (2, .ptr 0 0)], [.box r.cells, .box [.v (.bool true)]], [.box r.cells, .box [.v (.bool true)]], [.agg r.cells, .v (.bool true)], rfl, ?_, read1_no _ _, rfl, rfl, rfl, ?_, Cv.refl, rfl⟩
      · refine Conv.mk [0, 1] rfl rfl rfl ?_ rfl ?_
        · (repeat' (first | exact Cf.nil | exact Cv.refl | refine Cf.cons' (by (conv => lhs; whnf) <;> rfl) ?_ ?_))
        · (repeat' (first | exact CvL.refl _ | exact Crs.nil | refine Crs.cons ?_ rfl ?_ | refine Cr.box ?_))
      · exact ResA.cellN rfl rfl rfl (Nat.le_of_ble_eq_true rfl) rfl (ResA.cell1 rfl rfl rfl rfl ResA.nil)
end Go.Proofs.Ytpacgphnpalepaa
/-
  Walks of what reads lines: the place of a byte, the end of a string.
-/
namespace Go.Proofs.Ytpacgphnpalepaa
set_option linter.unusedVariables false
set_option linter.unusedSimpArgs false
theorem OpP.indexByteS {o : Oper} {ρ : Operand → AV} {x y : Operand} {ts : Array TypeId} {s : List UInt8} {c : Int} (ho : o.op = .call { callee := .value (.func 77), args := #[x, y], argTypes := ts }) (hx : ρ x = .v (.string (bs s))) (hy : ρ y = .v (.int .u8 c)) :
    OpP Try.prog o ρ (.v (.int .i64 (Lib.indexByte s c.toNat.toUInt8))) := by
  intro I M w a h
  have h1 := (h x (by simp [ho, Op.operands, Call.operands])).val' hx
  have h2 := (h y (by simp [ho, Op.operands, Call.operands])).val' hy
  refine ⟨_, ?_, .v _⟩
  have e : a.eval (.func 77) = .func (.func 77) #[] #[] := rfl
  have hb := Lib.run_indexByteString (P := Try.prog) (bs s) c w
  simp [execOp, ho, resolve, e, h1, h2, Deferred.ofValue, invoke]
  rw [run_callFunc_extern Try.func77 (by kernel_rfl) (by kernel_rfl) (by kernel_rfl) (e := Extern.BytealgIndexByte.indexByte) (by kernel_rfl), hb]
  rfl
theorem IndexByte0_c (s : List UInt8) (c : Int) : ACalls Try.prog 63 [.v (.string (bs s)), .v (.int .u8 c)] [] (.v (.int .i64 (Lib.indexByte s c.toNat.toUInt8))) [] := by
  refine (ACalls.of (fn := Try.f63) Try.func63 rfl rfl Try.ntmps63 (fun I M w own => ?_))
  (repeat' (first | refine AW.seq_k (fun K hK => ?_) | (refine hK _ ?_; clear hK) | refine AW.region (id := 0) ?_ | (refine Run.p rfl rfl rfl (OpP.asA rfl) ?_) | refine Run.fin rfl ?_))
  refine AW.region (id := 1) ?_
  (skip <;> (try (refine Run.p rfl rfl rfl (OpP.mvA rfl) ?_)) <;> (try (refine Run.p rfl rfl rfl (OpP.mvA rfl) ?_)))
  refine Run.p rfl rfl rfl (OpP.indexByteS rfl rfl rfl) ?_
  (skip <;> (try (refine Run.p rfl rfl rfl (OpP.asA rfl) ?_)))
  refine Run.fin rfl ?_
  refine hK _ ?_
  refine AW.ret ?_
  ((first | refine RetOk.tupS [] rfl rfl rfl rfl rfl ?_ ?_ | refine RetOk.oneS [] rfl rfl rfl rfl ?_ ?_) <;> (repeat' (first | exact RetC.nil | exact Cv.refl | exact Crs.nil | refine RetC.tmp (by (conv => lhs; whnf) <;> rfl) ?_ ?_)))
theorem IndexByte_c (s : List UInt8) (c : Int) : ACalls Try.prog 45 [.v (.string (bs s)), .v (.int .u8 c)] [] (.v (.int .i64 (Lib.indexByte s c.toNat.toUInt8))) [] := by
  have h0 := IndexByte0_c s c
  refine (ACalls.of (fn := Try.f45) Try.func45 rfl rfl Try.ntmps45 (fun I M w own => ?_))
  (repeat' (first | refine AW.seq_k (fun K hK => ?_) | (refine hK _ ?_; clear hK) | refine AW.ret ?_ | refine AW.region (id := 0) ?_ | refine AW.region (id := 1) ?_ | (refine Run.p rfl rfl rfl (OpP.asA rfl) ?_) | refine Run.fin rfl ?_ | (refine Run.p rfl rfl rfl (OpP.mvA rfl) ?_) | (refine Run.c0 h0 rfl rfl rfl rfl rfl rfl rfl rfl ?_)))
  ((first | refine RetOk.tupS [] rfl rfl rfl rfl rfl ?_ ?_ | refine RetOk.oneS [] rfl rfl rfl rfl ?_ ?_) <;> (repeat' (first | exact RetC.nil | exact Cv.refl | exact Crs.nil | refine RetC.tmp (by (conv => lhs; whnf) <;> rfl) ?_ ?_)))
theorem Lines_c (s : List UInt8) : ACalls Try.prog 24 [.v (.string (bs s))] [] (.fn 44 [.ptr 0 0]) [.box [.v (.string (bs s))]] := by
  refine (ACalls.of (fn := Try.f24) Try.func24 rfl rfl Try.ntmps24 (fun I M w own => ?_))
  (repeat' (first | refine AW.seq_k (fun K hK => ?_) | (refine hK _ ?_; clear hK) | refine AW.ret ?_ | refine AW.region (id := 0) ?_ | refine AW.region (id := 1) ?_ | (refine Run.bxA rfl rfl rfl rfl ?_) | (refine Run.p rfl rfl rfl (OpP.asA rfl) ?_) | refine Run.fin rfl ?_ | (refine Run.p rfl rfl rfl (OpP.makeFunc rfl rfl) ?_)))
  ((first | refine RetOk.tupS [0] rfl rfl rfl rfl rfl ?_ ?_ | refine RetOk.oneS [0] rfl rfl rfl rfl ?_ ?_) <;> (repeat' (first | exact RetC.nil | exact CvL.refl _ | exact Cv.refl | exact Crs.nil | refine Crs.cons ?_ rfl ?_ | refine Cr.box ?_ | refine RetC.tmp (by (conv => lhs; whnf) <;> rfl) ?_ ?_)))
end Go.Proofs.Ytpacgphnpalepaa
/-
  Walks of what reads lines: the end of a string.
-/
namespace Go.Proofs.Ytpacgphnpalepaa
set_option linter.unusedVariables false
set_option linter.unusedSimpArgs false
def hasSuf (s t : List UInt8) : Bool := decide (t.length ≤ s.length ∧ s.drop (s.length - t.length) = t)
theorem HasSuffix_c (s t : List UInt8) (hs : s.length ≤ 1099511627776) (ht : t.length ≤ 1099511627776) : ACalls Try.prog 64 [.v (.string (bs s)), .v (.string (bs t))] [] (.v (.bool (hasSuf s t))) [] := by
  by_cases h : t.length ≤ s.length
  · have hb : hasSuf s t = (decide ((t.length : Int) ≤ (s.length : Int)) && decide (s.drop ((s.length : Int) - (t.length : Int)).toNat = t)) := by
      have e : ((s.length : Int) - (t.length : Int)).toNat = s.length - t.length := by omega
      rw [e]
      simp [hasSuf, h]
    rw [hb]
    refine (ACalls.of (fn := Try.f64) Try.func64 rfl rfl Try.ntmps64 (fun I M w own => ?_))
    (repeat' (first | refine AW.seq_k (fun K hK => ?_) | (refine hK _ ?_; clear hK) | refine AW.ret ?_ | refine AW.region (id := 0) ?_ | refine AW.region (id := 1) ?_ | (refine Run.p rfl rfl rfl (OpP.asA rfl) ?_) | refine Run.fin rfl ?_ | (refine Run.p rfl rfl rfl (OpP.mvA rfl) ?_) | (refine Run.p rfl rfl rfl (OpP.lenStr rfl rfl) ?_) | (refine Run.p rfl rfl rfl (OpP.gee rfl rfl rfl) ?_) | (refine Run.gpc (by first | exact Gd.t rfl rfl rfl rfl | exact Gd.t2 rfl rfl rfl rfl) rfl rfl (fun hg => ⟨OpP.mvA rfl, (by repeat (first | exact trivial | assumption | refine ⟨?_, ?_⟩))⟩) ?_) | (refine Run.gpc (by first | exact Gd.t rfl rfl rfl rfl | exact Gd.t2 rfl rfl rfl rfl) rfl rfl (fun hg => ⟨OpP.lenStr rfl rfl, (by repeat (first | exact trivial | assumption | refine ⟨?_, ?_⟩))⟩) ?_) | (refine Run.gpc (by first | exact Gd.t rfl rfl rfl rfl | exact Gd.t2 rfl rfl rfl rfl) rfl rfl (fun hg => ⟨OpP.subA rfl rfl rfl, (by repeat (first | exact trivial | assumption | refine ⟨?_, ?_⟩))⟩) ?_) | (refine Run.gpc (by first | exact Gd.t rfl rfl rfl rfl | exact Gd.t2 rfl rfl rfl rfl) rfl rfl (fun hg => ⟨OpP.sliceStrLA rfl rfl rfl rfl, (by repeat (first | exact trivial | assumption | refine ⟨?_, ?_⟩))⟩) ?_) | (refine Run.gpc (by first | exact Gd.t rfl rfl rfl rfl | exact Gd.t2 rfl rfl rfl rfl) rfl rfl (fun hg => ⟨OpP.seq rfl rfl rfl, (by repeat (first | exact trivial | assumption | refine ⟨?_, ?_⟩))⟩) ?_) | (refine Run.p rfl rfl rfl (OpP.pickAnd rfl rfl rfl rfl) ?_)))
    ((first | refine RetOk.tupS [] rfl rfl rfl rfl rfl ?_ ?_ | refine RetOk.oneS [] rfl rfl rfl rfl ?_ ?_) <;> (repeat' (first | exact RetC.nil | exact Cv.refl | exact Crs.nil | refine RetC.tmp (by (conv => lhs; whnf) <;> rfl) ?_ ?_)))
  · have hge : decide ((t.length : Int) ≤ (s.length : Int)) = false := by simpa using h
    have hb : hasSuf s t = false := by simp [hasSuf, h]
    rw [hb]
    refine (ACalls.of (fn := Try.f64) Try.func64 rfl rfl Try.ntmps64 (fun I M w own => ?_))
    (repeat' (first | refine AW.seq_k (fun K hK => ?_) | (refine hK _ ?_; clear hK) | refine AW.region (id := 0) ?_ | (refine Run.p rfl rfl rfl (OpP.asA rfl) ?_) | refine Run.fin rfl ?_))
    refine AW.region (id := 1) ?_
    (iterate 5 (first | refine Run.p rfl rfl rfl (OpP.mvA rfl) ?_ | refine Run.p rfl rfl rfl (OpP.lenStr rfl rfl) ?_ | refine Run.p rfl rfl rfl (OpP.gee rfl rfl rfl) ?_))
    rw [hge]
    (iterate 12 (first | refine Run.p rfl rfl rfl (OpP.mvA rfl) ?_ | refine Run.sk rfl rfl rfl ?_ | refine Run.p rfl rfl rfl (OpP.pickA rfl rfl) ?_ | refine Run.p rfl rfl rfl (OpP.asA rfl) ?_))
    refine Run.fin rfl ?_
    refine hK _ ?_
    refine AW.ret ?_
    ((first | refine RetOk.tupS [] rfl rfl rfl rfl rfl ?_ ?_ | refine RetOk.oneS [] rfl rfl rfl rfl ?_ ?_) <;> (repeat' (first | exact RetC.nil | exact Cv.refl | exact Crs.nil | refine RetC.tmp (by (conv => lhs; whnf) <;> rfl) ?_ ?_)))
def trimSuf (s t : List UInt8) : List UInt8 := if hasSuf s t = true then s.take (s.length - t.length) else s
theorem TrimSuffix0_c (s t : List UInt8) (hs : s.length ≤ 1099511627776) (ht : t.length ≤ 1099511627776) : ACalls Try.prog 46 [.v (.string (bs s)), .v (.string (bs t))] [] (.v (.string (bs (trimSuf s t)))) [] := by
  have h0 := HasSuffix_c s t hs ht
  cases h : hasSuf s t with
  | true =>
    rw [h] at h0
    rw [trimSuf, if_pos h]
    have hle : t.length ≤ s.length := by simp [hasSuf] at h; exact h.1
    have e : ((s.length : Int) - (t.length : Int)).toNat = s.length - t.length := by omega
    refine (ACalls.of (fn := Try.f46) Try.func46 rfl rfl Try.ntmps46 (fun I M w own => ?_))
    (repeat' (first | refine AW.seq_k (fun K hK => ?_) | (refine hK _ ?_; clear hK) | (refine AW.cond rfl (fun hc => ?_) (fun hc => ?_) <;> (try simp only [Bool.and_eq_true, Bool.or_eq_true, Bool.not_eq_true', Bool.not_eq_false', Bool.and_eq_false_iff, Bool.or_eq_false_iff, Bool.and_eq_false_imp, decide_eq_true_eq, decide_eq_false_iff_not, Decidable.not_not, Int.not_lt, Int.not_le, ne_eq, Bool.not_not] at hc) <;> try (first | (exfalso; omega) | (cases hc; done))) | refine AW.ret ?_ | refine AW.region (id := 0) ?_ | refine AW.region (id := 1) ?_ | refine AW.region (id := 2) ?_ | (refine Run.p rfl rfl rfl (OpP.asA rfl) ?_) | refine Run.fin rfl ?_ | (refine Run.p rfl rfl rfl (OpP.mvA rfl) ?_) | (refine Run.c0 h0 rfl rfl rfl rfl rfl rfl rfl rfl ?_) | (refine Run.p rfl rfl rfl (OpP.lenStr rfl rfl) ?_) | (refine Run.p rfl rfl rfl (OpP.subA rfl rfl rfl) ?_) | (refine Run.p rfl rfl rfl (OpP.sliceStrHA rfl rfl rfl rfl) ?_)))
    ((first | refine RetOk.tupS [] rfl rfl rfl rfl rfl ?_ ?_ | refine RetOk.oneS [] rfl rfl rfl rfl ?_ ?_) <;> (repeat' (first | exact RetC.nil | exact Crs.nil | refine RetC.tmp (by (conv => lhs; whnf) <;> rfl) ?_ ?_)))
    all_goals first | rfl | (refine Cv.eq ?_; rw [e]; rfl)
  | false =>
    rw [h] at h0
    rw [trimSuf, h, if_neg (by decide)]
    refine (ACalls.of (fn := Try.f46) Try.func46 rfl rfl Try.ntmps46 (fun I M w own => ?_))
    (repeat' (first | refine AW.seq_k (fun K hK => ?_) | (refine hK _ ?_; clear hK) | (refine AW.cond rfl (fun hc => ?_) (fun hc => ?_) <;> (try simp only [Bool.and_eq_true, Bool.or_eq_true, Bool.not_eq_true', Bool.not_eq_false', Bool.and_eq_false_iff, Bool.or_eq_false_iff, Bool.and_eq_false_imp, decide_eq_true_eq, decide_eq_false_iff_not, Decidable.not_not, Int.not_lt, Int.not_le, ne_eq, Bool.not_not] at hc) <;> try (first | (exfalso; omega) | (cases hc; done))) | refine AW.ret ?_ | refine AW.skip ?_ | refine AW.region (id := 0) ?_ | refine AW.region (id := 1) ?_ | refine AW.region (id := 3) ?_ | (refine Run.p rfl rfl rfl (OpP.asA rfl) ?_) | refine Run.fin rfl ?_ | (refine Run.p rfl rfl rfl (OpP.mvA rfl) ?_) | (refine Run.c0 h0 rfl rfl rfl rfl rfl rfl rfl rfl ?_)))
    ((first | refine RetOk.tupS [] rfl rfl rfl rfl rfl ?_ ?_ | refine RetOk.oneS [] rfl rfl rfl rfl ?_ ?_) <;> (repeat' (first | exact RetC.nil | exact Cv.refl | exact Crs.nil | refine RetC.tmp (by (conv => lhs; whnf) <;> rfl) ?_ ?_)))
theorem TrimSuffix_c (s t : List UInt8) (hs : s.length ≤ 1099511627776) (ht : t.length ≤ 1099511627776) : ACalls Try.prog 25 [.v (.string (bs s)), .v (.string (bs t))] [] (.v (.string (bs (trimSuf s t)))) [] := by
  have h0 := TrimSuffix0_c s t hs ht
  refine (ACalls.of (fn := Try.f25) Try.func25 rfl rfl Try.ntmps25 (fun I M w own => ?_))
  (repeat' (first | refine AW.seq_k (fun K hK => ?_) | (refine hK _ ?_; clear hK) | refine AW.ret ?_ | refine AW.region (id := 0) ?_ | refine AW.region (id := 1) ?_ | (refine Run.p rfl rfl rfl (OpP.asA rfl) ?_) | refine Run.fin rfl ?_ | (refine Run.p rfl rfl rfl (OpP.mvA rfl) ?_) | (refine Run.c0 h0 rfl rfl rfl rfl rfl rfl rfl rfl ?_)))
  ((first | refine RetOk.tupS [] rfl rfl rfl rfl rfl ?_ ?_ | refine RetOk.oneS [] rfl rfl rfl rfl ?_ ?_) <;> (repeat' (first | exact RetC.nil | exact Cv.refl | exact Crs.nil | refine RetC.tmp (by (conv => lhs; whnf) <;> rfl) ?_ ?_)))
end Go.Proofs.Ytpacgphnpalepaa
