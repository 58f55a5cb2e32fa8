/-
  Walk of the reader of rules: read, which recovers from the reader's panics.
-/
import Derived.Test.YtbbcokckealagaaGreatQAA
import Derived.Test.YtbbcokckealagaaGreatRdE
import Derived.Test.YtbbcokckealagaaGreatAdf
import Derived.Lib.Bytealg
namespace Go.Proofs.YtbbcokckealagaaGreat
set_option linter.unusedVariables false
set_option linter.unusedSimpArgs false
abbrev zeroRu : List AV := [.v (.int .i64 0), .v (.string (bs [])), .v (.string (bs [])), .v (.int .i64 0), .v (.slice none 0 0)]
set_option maxHeartbeats 4000000 in
theorem read1_no (r : Ru) (b : Value) : ADef Tryz.prog 126 [.ptr 0 0, .ptr 1 0] [.box r.cells, .box [.v b]] [.box r.cells, .box [.v b]] .returning .returning := by
  refine ADef.of (fn := Tryz.f126) Tryz.func126 O O Tryz.ntmps126 .no O O O O (fun _ => rfl) (fun _ => rfl) O O (fun I M w own => ?_)
  (repeat' (first|refine AW.seq_k (fun K hK=>?_)|(refine hK _ ?_;clear hK)|refine AW.uC (fun hc=>?_) (fun hc=>?_)|refine AW.skip ?_|exact trivial|refine rG 1 ?_|refine UA ?_|fail))
  ((first|refine RetOk.tupS [0, 1] O O O O O ?_ ?_|refine RetOk.oneS [0, 1] O O O O ?_ ?_)<;>(repeat' (first|exact V0|refine V1 ?_|refine V2 ?_ ?_|fail)))
set_option maxHeartbeats 4000000 in
theorem read1_yes : ADef Tryz.prog 126 [.ptr 0 0, .ptr 1 0] [.box zeroRu, .box [.v (.bool false)]] [.box zeroRu, .box [.v (.bool false)]] (.panicking mstC) (.panicking [{ v := mst, recovered := true }]) := by
  refine ADef.of (fn := Tryz.f126) Tryz.func126 O O Tryz.ntmps126 .yes O O O O (fun _ => rfl) (fun _ => rfl) O O (fun I M w own => ?_)
  (repeat' (first|refine AW.seq_k (fun K hK=>?_)|(refine hK _ ?_;clear hK)|refine AW.uC (fun hc=>?_) (fun hc=>?_)|refine AW.skip ?_|exact trivial|refine AW.rI [1, 2, 3, 5] O ?_|refine UA ?_|fail))
  ((first|refine RetOk.tupS [0, 1] O O O O O ?_ ?_|refine RetOk.oneS [0, 1] O O O O ?_ ?_)<;>(repeat' (first|exact V0|refine V1 ?_|refine V2 ?_ ?_|fail)))
def readE : Option Ru → AV
  | none => .tup [.agg zeroRu, .v (.bool false)]
  | some r => .tup [.agg r.cells, .v (.bool true)]
set_option maxHeartbeats 4000000 in
theorem read_c (ws : List Wd) (f : Bool) (hs : ∀ x ∈ ws, x.length ≤ 1099511627776) (hl : ws.length ≤ 1000000) : ACalls Tryz.prog 95 [.sl 1 (wdsP ws) f] [] (readE (ruleF ws)) [] := by
  have hr := rule_e ws f hs hl
  cases he : ruleF ws with
  | none =>
    rw [he] at hr
    rw [readE]
    refine ACalls.ofDefer (fn := Tryz.f95) Tryz.func95 O O Tryz.ntmps95 O O O O (fun _ => rfl) (fun _ => rfl) O O O (fr1 := [(3, .ptr 1 0), (2, .ptr 0 0), (0, .sl 1 (wdsP ws) f)]) (σ1 := [.box zeroRu, .box [.v (.bool false)]]) (fun I M w own => ?_) (fun I M w own ds => ?_)
    · (repeat' (first|refine rG 0 ?_|refine UA ?_|fail))
      exact ⟨rfl, rfl⟩
    · refine AW.seq_k (fun K hK => ?_)
      refine rG 2 ?_
      (iterate 4 (try (first|refine UA ?_|fail)))
      refine Run.fin O ?_
      refine hK _ ?_
      clear hK
      refine AW.seq_k (fun K hK => ?_)
      (refine AW.die (id := 3) 1 O ?_; iterate 1 (try (first|refine UA ?_|fail));(try refine Run.fin O ?_))
      refine DieAt.call [2] hr (Enters.fn O O O) O O O O O ?_
      refine ⟨_, _, [(3, .ptr 1 0), (2, .ptr 0 0)], [.box zeroRu, .box [.v (.bool false)]], [.box zeroRu, .box [.v (.bool false)]], [.agg zeroRu, .v (.bool false)], rfl, ?_, read1_yes, rfl, rfl, rfl, ?_, Cv.refl, rfl⟩
      · refine Conv.mk [0, 1] O O O ?_ O ?_
        · (repeat' (first|exact V0|refine V3 ?_|refine V2 ?_ ?_|fail))
        · (repeat' (first|exact V0|refine V3 ?_|refine V2 ?_ ?_|fail))
      · exact ResA.cellN O O O (Nat.le_of_ble_eq_true O) O (ResA.cell1 O O O O ResA.nil)
  | some r =>
    rw [he] at hr
    rw [readE]
    refine ACalls.ofDefer (fn := Tryz.f95) Tryz.func95 O O Tryz.ntmps95 O O O O (fun _ => rfl) (fun _ => rfl) O O O (fr1 := [(3, .ptr 1 0), (2, .ptr 0 0), (0, .sl 1 (wdsP ws) f)]) (σ1 := [.box zeroRu, .box [.v (.bool false)]]) (fun I M w own => ?_) (fun I M w own ds => ?_)
    · (repeat' (first|refine rG 0 ?_|refine UA ?_|fail))
      exact ⟨rfl, rfl⟩
    · refine AW.seq_k (fun K hK => ?_)
      refine rG 2 ?_
      (iterate 4 (try (first|refine UA ?_|fail)))
      refine Run.fin O ?_
      refine hK _ ?_
      clear hK
      (repeat' (first|refine AW.seq_k (fun K hK=>?_)|(refine hK _ ?_;clear hK)|refine AW.ret ?_|refine rG 3 ?_|refine Run.cSA [2] hr O O O O O O O O O O O O ?_|refine UA ?_|fail))
      refine ⟨_, _, [(3, .ptr 1 0), (2, .ptr 0 0)], [.box r.cells, .box [.v (.bool true)]], [.box r.cells, .box [.v (.bool true)]], [.agg r.cells, .v (.bool true)], rfl, ?_, read1_no _ _, rfl, rfl, rfl, ?_, Cv.refl, rfl⟩
      · refine Conv.mk [0, 1] O O O ?_ O ?_
        · (repeat' (first|exact V0|refine V3 ?_|refine V2 ?_ ?_|fail))
        · (repeat' (first|exact V0|refine V3 ?_|refine V2 ?_ ?_|fail))
      · exact ResA.cellN O O O (Nat.le_of_ble_eq_true O) O (ResA.cell1 O O O O ResA.nil)
theorem OpP.indexByteS {o : Oper} {ρ : Operand → AV} {x y : Operand} {ts : Array TypeId} {s : List UInt8} {c : Int} (ho : o.op = .call { callee := .value (.func 158), args := #[x, y], argTypes := ts }) (hx : ρ x = .v (.string (bs s))) (hy : ρ y = .v (.int .u8 c)) :
    OpP Tryz.prog o ρ (.v (.int .i64 (Lib.indexByte s c.toNat.toUInt8))) := by
  intro I M w a h
  have h1 := (h x (by simp [ho, Op.operands, Call.operands])).val' hx
  have h2 := (h y (by simp [ho, Op.operands, Call.operands])).val' hy
  refine ⟨_, ?_, .v _⟩
  have e : a.eval (.func 158) = .func (.func 158) #[] #[] := rfl
  have hb := Lib.run_indexByteString (P := Tryz.prog) (bs s) c w
  simp [execOp, ho, resolve, e, h1, h2, Deferred.ofValue, invoke]
  rw [run_callFunc_extern Tryz.func158 (by kernel_rfl) (by kernel_rfl) (by kernel_rfl) (e := Extern.BytealgIndexByte.indexByte) (by kernel_rfl), hb]
  rfl
set_option maxHeartbeats 4000000 in
theorem IndexByte0_c (s : List UInt8) (c : Int) : ACalls Tryz.prog 142 [.v (.string (bs s)), .v (.int .u8 c)] [] (.v (.int .i64 (Lib.indexByte s c.toNat.toUInt8))) [] := by
  refine (ACalls.of (fn := Tryz.f142) Tryz.func142 O O Tryz.ntmps142 (fun I M w own => ?_))
  (repeat' (first|refine AW.seq_k (fun K hK=>?_)|(refine hK _ ?_;clear hK)|refine rG 0 ?_|refine UA ?_|fail))
  refine rG 1 ?_
  (iterate 2 (try (first|refine UA ?_|fail)))
  refine Run.p O O O (OpP.indexByteS O O O) ?_
  (iterate 1 (try (first|refine UA ?_|fail)))
  refine Run.fin O ?_
  refine hK _ ?_
  refine AW.ret ?_
  ((first|refine RetOk.tupS [] O O O O O ?_ ?_|refine RetOk.oneS [] O O O O ?_ ?_)<;>(repeat' (first|exact V0|refine V1 ?_|refine V2 ?_ ?_|fail)))
set_option maxHeartbeats 4000000 in
theorem IndexByte_c (s : List UInt8) (c : Int) : ACalls Tryz.prog 122 [.v (.string (bs s)), .v (.int .u8 c)] [] (.v (.int .i64 (Lib.indexByte s c.toNat.toUInt8))) [] := by
  have h0 := IndexByte0_c s c
  refine (ACalls.of (fn := Tryz.f122) Tryz.func122 O O Tryz.ntmps122 (fun I M w own => ?_))
  (repeat' (first|refine AW.seq_k (fun K hK=>?_)|(refine hK _ ?_;clear hK)|refine AW.ret ?_|refine AW.region ?_|refine Run.c0 h0 O O O O O O O O ?_|refine UA ?_|fail))
  ((first|refine RetOk.tupS [] O O O O O ?_ ?_|refine RetOk.oneS [] O O O O ?_ ?_)<;>(repeat' (first|exact V0|refine V1 ?_|refine V2 ?_ ?_|fail)))
set_option maxHeartbeats 4000000 in
theorem Lines_c (s : List UInt8) : ACalls Tryz.prog 92 [.v (.string (bs s))] [] (.fn 121 [.ptr 0 0]) [.box [.v (.string (bs s))]] := by
  refine (ACalls.of (fn := Tryz.f92) Tryz.func92 O O Tryz.ntmps92 (fun I M w own => ?_))
  (repeat' (first|refine AW.seq_k (fun K hK=>?_)|(refine hK _ ?_;clear hK)|refine AW.ret ?_|refine AW.region ?_|refine UA ?_|fail))
  ((first|refine RetOk.tupS [0] O O O O O ?_ ?_|refine RetOk.oneS [0] O O O O ?_ ?_)<;>(repeat' (first|exact V0|refine V1 ?_|refine V2 ?_ ?_|fail)))
def hasSuf (s t : List UInt8) : Bool := decide (t.length ≤ s.length ∧ s.drop (s.length - t.length) = t)
set_option maxHeartbeats 4000000 in
theorem HasSuffix_c (s t : List UInt8) (hs : s.length ≤ 1099511627776) (ht : t.length ≤ 1099511627776) : ACalls Tryz.prog 143 [.v (.string (bs s)), .v (.string (bs t))] [] (.v (.bool (hasSuf s t))) [] := by
  by_cases h : t.length ≤ s.length
  · have hb : hasSuf s t = (decide ((t.length : Int) ≤ (s.length : Int)) && decide (s.drop ((s.length : Int) - (t.length : Int)).toNat = t)) := by
      have e : ((s.length : Int) - (t.length : Int)).toNat = s.length - t.length := by omega
      rw [e]
      simp [hasSuf, h]
    rw [hb]
    refine (ACalls.of (fn := Tryz.f143) Tryz.func143 O O Tryz.ntmps143 (fun I M w own => ?_))
    (repeat' (first|refine AW.seq_k (fun K hK=>?_)|(refine hK _ ?_;clear hK)|refine AW.ret ?_|refine AW.region ?_|refine Ud ?_|fail))
    ((first|refine RetOk.tupS [] O O O O O ?_ ?_|refine RetOk.oneS [] O O O O ?_ ?_)<;>(repeat' (first|exact V0|refine V1 ?_|refine V2 ?_ ?_|fail)))
  · have hge : decide ((t.length : Int) ≤ (s.length : Int)) = false := by simpa using h
    have hb : hasSuf s t = false := by simp [hasSuf, h]
    rw [hb]
    refine (ACalls.of (fn := Tryz.f143) Tryz.func143 O O Tryz.ntmps143 (fun I M w own => ?_))
    (repeat' (first|refine AW.seq_k (fun K hK=>?_)|(refine hK _ ?_;clear hK)|refine rG 0 ?_|refine Ud ?_|fail))
    refine rG 1 ?_
    (iterate 5 (try (first|refine UA ?_|fail)))
    rw [hge]
    (iterate 12 (try (first|refine UA ?_|fail)))
    refine Run.fin O ?_
    refine hK _ ?_
    refine AW.ret ?_
    ((first|refine RetOk.tupS [] O O O O O ?_ ?_|refine RetOk.oneS [] O O O O ?_ ?_)<;>(repeat' (first|exact V0|refine V1 ?_|refine V2 ?_ ?_|fail)))
def trimSuf (s t : List UInt8) : List UInt8 := if hasSuf s t = true then s.take (s.length - t.length) else s
set_option maxHeartbeats 4000000 in
theorem TrimSuffix0_c (s t : List UInt8) (hs : s.length ≤ 1099511627776) (ht : t.length ≤ 1099511627776) : ACalls Tryz.prog 123 [.v (.string (bs s)), .v (.string (bs t))] [] (.v (.string (bs (trimSuf s t)))) [] := by
  have h0 := HasSuffix_c s t hs ht
  cases h : hasSuf s t with
  | true =>
    rw [h] at h0
    rw [trimSuf, if_pos h]
    have hle : t.length ≤ s.length := by simp [hasSuf] at h; exact h.1
    have e : ((s.length : Int) - (t.length : Int)).toNat = s.length - t.length := by omega
    refine (ACalls.of (fn := Tryz.f123) Tryz.func123 O O Tryz.ntmps123 (fun I M w own => ?_))
    (repeat' (first|refine AW.seq_k (fun K hK=>?_)|(refine hK _ ?_;clear hK)|refine AW.uC (fun hc=>?_) (fun hc=>?_)|refine AW.ret ?_|exact trivial|refine AW.rI [0, 1, 2] O ?_|refine Run.c0 h0 O O O O O O O O ?_|refine Ud ?_|fail))
    ((first|refine RetOk.tupS [] O O O O O ?_ ?_|refine RetOk.oneS [] O O O O ?_ ?_)<;>(repeat' (first|exact V0|refine V1 ?_|refine V2 ?_ ?_|fail)))
    all_goals first | rfl | (refine Cv.eq ?_; rw [e]; rfl)
  | false =>
    rw [h] at h0
    rw [trimSuf, h, if_neg (by decide)]
    refine (ACalls.of (fn := Tryz.f123) Tryz.func123 O O Tryz.ntmps123 (fun I M w own => ?_))
    (repeat' (first|refine AW.seq_k (fun K hK=>?_)|(refine hK _ ?_;clear hK)|refine AW.uC (fun hc=>?_) (fun hc=>?_)|refine AW.ret ?_|refine AW.skip ?_|exact trivial|refine AW.rI [0, 1, 3] O ?_|refine Run.c0 h0 O O O O O O O O ?_|refine Ud ?_|fail))
    ((first|refine RetOk.tupS [] O O O O O ?_ ?_|refine RetOk.oneS [] O O O O ?_ ?_)<;>(repeat' (first|exact V0|refine V1 ?_|refine V2 ?_ ?_|fail)))
set_option maxHeartbeats 4000000 in
theorem TrimSuffix_c (s t : List UInt8) (hs : s.length ≤ 1099511627776) (ht : t.length ≤ 1099511627776) : ACalls Tryz.prog 93 [.v (.string (bs s)), .v (.string (bs t))] [] (.v (.string (bs (trimSuf s t)))) [] := by
  have h0 := TrimSuffix0_c s t hs ht
  refine (ACalls.of (fn := Tryz.f93) Tryz.func93 O O Tryz.ntmps93 (fun I M w own => ?_))
  (repeat' (first|refine AW.seq_k (fun K hK=>?_)|(refine hK _ ?_;clear hK)|refine AW.ret ?_|refine AW.region ?_|refine Run.c0 h0 O O O O O O O O ?_|refine UA ?_|fail))
  ((first|refine RetOk.tupS [] O O O O O ?_ ?_|refine RetOk.oneS [] O O O O ?_ ?_)<;>(repeat' (first|exact V0|refine V1 ?_|refine V2 ?_ ?_|fail)))
end Go.Proofs.YtbbcokckealagaaGreat
