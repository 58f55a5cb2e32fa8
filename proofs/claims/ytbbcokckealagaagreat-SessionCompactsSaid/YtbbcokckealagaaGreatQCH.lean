/-
  Sessions stay in order; what the readers of rules say of the texts of records.
-/
import Derived.Test.YtbbcokckealagaaGreatQCG
import Derived.Test.YtbbcokckealagaaGreatQBE
import Derived.Test.YtbbcokckealagaaGreatQAA
import Derived.Test.YtbbcokckealagaaGreatQCE
namespace Go.Proofs.YtbbcokckealagaaGreat
set_option linter.unusedVariables false
set_option linter.unusedSimpArgs false
theorem ins_asc {l : List Kp} (h : Asc l) {x : Kp} {i : Nat} (p : Plc l x.id i) (hn : hasW l x.id i = false) : Asc (l.take i ++ x :: l.drop i) := by
  have hd : ∀ y ∈ l.drop i, x.id < y.id := by
    intro y hy
    obtain ⟨m, hm, e⟩ := List.mem_iff_getElem.1 hy
    rw [List.length_drop] at hm
    rw [List.getElem_drop] at e
    subst e
    have h1 := p.hi (i + m) (by omega) (by omega)
    have h2 := p.hi i (by omega) (Nat.le_refl _)
    have h3 : l[i].id ≠ x.id := by
      intro e
      have : hasW l x.id i = true := by
        simp only [hasW, Bool.and_eq_true, decide_eq_true_eq]
        exact ⟨by omega, by rw [List.getD_eq_getElem?_getD, List.getElem?_eq_getElem (by omega)]; exact e⟩
      rw [hn] at this
      cases this
    rcases Nat.eq_zero_or_pos m with rfl | q
    · simp only [Nat.add_zero]; omega
    · have := h.get i (i + m) (by omega) (by omega) (by omega)
      omega
  rw [Asc, List.pairwise_append, List.pairwise_cons]
  refine ⟨h.sublist (List.take_sublist _ _), ⟨hd, h.sublist (List.drop_sublist _ _)⟩, fun a ha b hb => ?_⟩
  have hax : a.id < x.id := by
    obtain ⟨m, hm, e⟩ := List.mem_iff_getElem.1 ha
    rw [List.length_take] at hm
    rw [List.getElem_take] at e
    subst e
    exact p.lo m (by omega) (by omega)
  rcases List.mem_cons.1 hb with rfl | hb
  · exact hax
  · have := hd b hb; omega
theorem mod_ids (f : Kp → Kp) (hf : ∀ k, (f k).id = k.id) : ∀ (l : List Kp) (i : Nat), (l.modify i f).map Kp.id = l.map Kp.id
  | [], i => by cases i <;> rfl
  | k :: t, 0 => by simp [hf]
  | k :: t, i + 1 => by
    have := mod_ids f hf t i
    simp only [List.modify_succ_cons, List.map_cons, this]
theorem mod_asc {l : List Kp} (h : Asc l) (f : Kp → Kp) (hf : ∀ k, (f k).id = k.id) (i : Nat) : Asc (l.modify i f) := by
  have h1 : (l.map Kp.id).Pairwise (· < ·) := List.pairwise_map.2 h
  rw [← mod_ids f hf l i] at h1
  exact List.pairwise_map.1 h1
theorem del_asc {l : List Kp} (h : Asc l) (i : Nat) : Asc (l.take i ++ l.drop (i + 1)) := by
  rw [← List.eraseIdx_eq_take_drop_succ]
  exact h.sublist (List.eraseIdx_sublist _ _)
theorem applyP_asc {okT : List UInt8 → Bool} {s : Se} {r : Rc} (h : Asc s.streams) : Asc (applyP okT s r).1.streams := by
  have hz : Asc Se.zero.streams := List.Pairwise.nil
  rw [applyP]
  split
  · exact hz
  have hp : Plc s.streams r.id (bsW s.streams r.id 0 s.streams.length) := by rw [bs_ins h]; exact ins_plc h _
  generalize bsW s.streams r.id 0 s.streams.length = i at hp
  rw [stepP]
  split
  · split
    · exact hz
    split
    · exact hz
    · rename_i h1 h2
      exact ins_asc (x := r.kept) h hp (by simpa using h1)
  split
  · split
    · exact h
    · exact hz
  split
  · exact h
  split
  · exact hz
  split
  · exact del_asc h _
  split
  · exact mod_asc h (fun k => { k with vol := r.n }) (fun k => rfl) _
  split
  · exact mod_asc h (fun k => { k with muted := decide (r.n = 1) }) (fun k => rfl) _
  split
  · exact mod_asc h (fun k => { k with pin := r.dev }) (fun k => rfl) _
  · exact h
def okR (t : List UInt8) : Bool := match parseF t with | .inl _ => true | .inr _ => false
theorem lineF_err {x : PX} {line : List UInt8} {y : Nat × Int} (h : lineF x line = .inr y) : y.2 ≠ 0 := by
  rw [lineF] at h
  split at h
  · cases h
  split at h
  · rename_i h1
    obtain rfl := Sum.inr.inj h
    exact h1
  split at h
  · obtain rfl := Sum.inr.inj h
    simp
  split at h
  · obtain rfl := Sum.inr.inj h
    simp
  · cases h
theorem foldS_err : ∀ (ls : List (List UInt8)) (x : PX) (y : Nat × Int), foldS lineF x ls = .inr y → y.2 ≠ 0
  | [], x, y, h => by cases h
  | l :: r, x, y, h => by
    rw [foldS] at h
    cases hf : lineF x l with
    | inl z => rw [hf] at h; exact foldS_err r z y h
    | inr z =>
      rw [hf] at h
      obtain rfl := Sum.inr.inj h
      exact lineF_err hf
theorem parse_err {s : List UInt8} {y : Nat × Int} (h : parseF s = .inr y) : y.2 ≠ 0 := by
  rw [parseF] at h
  split at h
  · obtain rfl := Sum.inr.inj h
    simp
  · exact foldS_err _ _ _ h
theorem ACalls.cvr {P : Program} {f : FuncId} {args : List AV} {σ σ' : List Res} {r r' : AV} (h : ACalls P f args σ r σ') (hc : Cv (sto σ') r r') : ACalls P f args σ r' σ' := fun I M w cargs ha hav hs hno =>
  Calls.mono (h I M w cargs ha hav hs hno) (fun e w' ⟨cv, I', M', h1, h2, h3, h4⟩ => ⟨cv, I', M', h1, hc I' M' w' cv h3 h2, h3, h4⟩)
theorem ps_of {f : FuncId} {r : Rc} (h : ACalls Tryz.prog f [.v (.string (bs r.text))] [] (parseE (parseF r.text)) []) : PsOk okR f r := fun _ => by
  cases hq : parseF r.text with
  | inl x =>
    rw [hq] at h
    exact ⟨5, ruP x.2, (x.1 : Int), 0, by simp [okR, hq], h⟩
  | inr y =>
    rw [hq] at h
    have := parse_err hq
    exact ⟨6, [], (y.1 : Int), y.2, by simp [okR, hq, this], h.cvr (.tup (.cons Cv.nil (.cons Cv.refl (.cons Cv.refl .nil))))⟩
theorem ps_prog (r : Rc) (h : r.text.length ≤ 1099511627776) : PsOk okR 52 r := ps_of (Parse_c r.text h)
theorem ps_ref (r : Rc) (h : r.text.length ≤ 1099511627776) : PsOk okR 56 r := ps_of (rParse_p r.text h)
set_option maxHeartbeats 4000000 in
theorem Range_c (l : List Int) (hl : Fits l) (a : Nat) (ha : a ≤ l.length) (lo hi : Int) (h1 : 0 ≤ lo ∧ lo ≤ hi) (h2 : hi ≤ 1000000) : ACalls Tryz.prog 34 [.ptr 0 0, .v (.int .i64 lo), .v (.int .i64 hi)] [dkR l a] (.v (.int .i64 (lo + dkN l a (hi - lo + 1)))) [dkR l (dkA l a)] := by
  have hN := Next_c l hl a ha (hi - lo + 1) (by omega)
  obtain ⟨g1, g2⟩ := dkN_rng l a (hi - lo + 1) (by omega)
  refine (ACalls.of (fn := Tryz.f34) Tryz.func34 O O Tryz.ntmps34 (fun I M w own => ?_))
  (repeat' (first|refine AW.seq_k (fun K hK=>?_)|(refine hK _ ?_;clear hK)|refine AW.ret ?_|refine AW.region ?_|refine Run.cSA [0] hN O O O O O O O O O O O O ?_|refine UA ?_|fail))
  ((first|refine RetOk.tupS [0] O O O O O ?_ ?_|refine RetOk.oneS [0] O O O O ?_ ?_)<;>(repeat' (first|exact V0|refine V1 ?_|refine V2 ?_ ?_|fail)))
def kindAt (n : Nat) : Int := ([1, 1, 1, 2, 3, 4, 5, 6, 7] : List Int).getD n 1
def recTx (n : Nat) : List UInt8 := ([[], [109, 117, 116, 101, 32, 103, 97, 109, 101, 10], [114, 111, 117, 116, 101, 32, 97, 110, 121, 32, 104, 101, 97, 100, 115, 101, 116]] : List (List UInt8)).getD n []
def recB (l : List Int) (k : Int) (a : Nat) : Rc × Nat :=
  if k = 1 then (⟨1, 1 + dkN l a 5, roleAt (dkN l (dkA l a) 4), 1 + dkN l (dkA l (dkA l a)) 2, 1 + dkN l (dkA l (dkA l (dkA l a))) 8, 48000, dkN l (dkA l (dkA l (dkA l (dkA l a)))) 1000, 0, 0, [], []⟩, dkA l (dkA l (dkA l (dkA l (dkA l a)))))
  else if k = 2 then (⟨2, 1 + dkN l a 5, [], 0, 0, 0, 0, 0, 0, [], []⟩, dkA l a)
  else if k = 3 then (⟨3, 1 + dkN l a 5, [], 0, 0, 0, 0, dkN l (dkA l a) 101, 0, [], []⟩, dkA l (dkA l a))
  else if k = 4 then (⟨4, 1 + dkN l a 5, [], 0, 0, 0, 0, dkN l (dkA l a) 2, 0, [], []⟩, dkA l (dkA l a))
  else if k = 5 then (⟨5, 1 + dkN l a 5, [], 0, 0, 0, 0, 0, dkN l (dkA l a) 4, [], []⟩, dkA l (dkA l a))
  else if k = 6 then (⟨6, 0, (choiceP l a).1.role, 0, 0, 0, 0, 0, (choiceP l a).1.dev, (choiceP l a).1.set, []⟩, (choiceP l a).2)
  else (⟨7, 0, [], 0, 0, 0, 0, 0, 0, [], recTx (dkN l a 3).toNat⟩, dkA l a)
def recP (l : List Int) (a : Nat) : Rc × Nat := recB l (kindAt (dkN l a 9).toNat) (dkA l a)
theorem kindAt_mem {n : Nat} (h : n < 9) : kindAt n = 1 ∨ kindAt n = 2 ∨ kindAt n = 3 ∨ kindAt n = 4 ∨ kindAt n = 5 ∨ kindAt n = 6 ∨ kindAt n = 7 := by
  rcases n with _ | _ | _ | _ | _ | _ | _ | _ | _ | n
  all_goals first | (exfalso; omega) | simp [kindAt]
theorem kindAt_at {n : Nat} (h : n < 9) : At [[PV.v (.int .i64 1)], [PV.v (.int .i64 1)], [PV.v (.int .i64 1)], [PV.v (.int .i64 2)], [PV.v (.int .i64 3)], [PV.v (.int .i64 4)], [PV.v (.int .i64 5)], [PV.v (.int .i64 6)], [PV.v (.int .i64 7)]] (n : Int) [PV.v (.int .i64 (kindAt n))] := by
  refine At.mk n O ?_
  rcases n with _ | _ | _ | _ | _ | _ | _ | _ | _ | n
  all_goals first | (exfalso; omega) | rfl
theorem recTx_at {n : Nat} (h : n < 3) : At [[PV.v (.string (bs []))], [PV.v (.string (bs [109, 117, 116, 101, 32, 103, 97, 109, 101, 10]))], [PV.v (.string (bs [114, 111, 117, 116, 101, 32, 97, 110, 121, 32, 104, 101, 97, 100, 115, 101, 116]))]] (n : Int) [PV.v (.string (bs (recTx n)))] := by
  refine At.mk n O ?_
  rcases n with _ | _ | _ | n
  all_goals first | (exfalso; omega) | rfl
set_option maxHeartbeats 4000000 in
theorem Record_c (l : List Int) (hl : Fits l) (a : Nat) (ha : a ≤ l.length) : ACalls Tryz.prog 12 [.ptr 0 0] [dkR l a] (.agg (recP l a).1.cells) [dkR l (recP l a).2] := by
  have hN := Next_c l hl a ha 9 (by decide)
  have hk := dkN_rng l a 9 (by decide)
  have b1 := dkA_le ha
  generalize hR : recP l a = R
  rw [recP] at hR
  generalize dkA l a = a1 at hN hR b1
  obtain ⟨n, hn⟩ : ∃ n : Nat, dkN l a 9 = (n : Int) := ⟨(dkN l a 9).toNat, by omega⟩
  rw [hn] at hN hk hR
  rw [Int.toNat_natCast] at hR
  have hA := kindAt_at (n := n) (by omega)
  have hkm := kindAt_mem (n := n) (by omega)
  generalize kindAt n = k at hA hkm hR
  have hid := Range_c l hl a1 b1 1 5 (by decide) (by decide)
  have b2 := dkA_le b1
  refine (ACalls.of (fn := Tryz.f12) Tryz.func12 O O Tryz.ntmps12 (fun I M w own => ?_))
  rcases hkm with rfl | rfl | rfl | rfl | rfl | rfl | rfl
  · rw [recB, if_pos O] at hR
    subst hR
    have r1 := Role_c l hl (dkA l a1) b2
    have b3 := dkA_le b2
    have r2 := Range_c l hl (dkA l (dkA l a1)) b3 1 2 (by decide) (by decide)
    have b4 := dkA_le b3
    have r3 := Range_c l hl (dkA l (dkA l (dkA l a1))) b4 1 8 (by decide) (by decide)
    have b5 := dkA_le b4
    have r4 := Next_c l hl (dkA l (dkA l (dkA l (dkA l a1)))) b5 1000 (by decide)
    (repeat' (first|refine AW.seq_k (fun K hK=>?_)|(refine hK _ ?_;clear hK)|refine AW.uC (fun hc=>?_) (fun hc=>?_)|refine AW.block ?_|refine AW.ret ?_|exact trivial|refine AW.rI [0, 1, 2, 3, 4, 5, 6, 18] O ?_|refine Run.cSA [0] hN O O O O O O O O O O O O ?_|refine Run.cSA [0] hid O O O O O O O O O O O O ?_|refine Run.cSA [0] r1 O O O O O O O O O O O O ?_|refine Run.cSA [0] r2 O O O O O O O O O O O O ?_|refine Run.cSA [0] r3 O O O O O O O O O O O O ?_|refine Run.cSA [0] r4 O O O O O O O O O O O O ?_|refine Ud ?_|fail))
    ((first|refine RetOk.tupS [0] O O O O O ?_ ?_|refine RetOk.oneS [0] O O O O ?_ ?_)<;>(repeat' (first|exact V0|refine V1 ?_|refine V2 ?_ ?_|fail)))
    all_goals first | rfl | (refine Cv.eq ?_; simp [AV.ren, renL]; done)
  · rw [recB, if_neg (by decide), if_pos O] at hR
    subst hR
    (repeat' (first|refine AW.seq_k (fun K hK=>?_)|(refine hK _ ?_;clear hK)|refine AW.uC (fun hc=>?_) (fun hc=>?_)|refine AW.block ?_|refine AW.ret ?_|refine AW.skip ?_|exact trivial|refine AW.rI [0, 1, 2, 3, 4, 5, 7, 9, 11, 13, 16, 18] O ?_|refine Run.cSA [0] hN O O O O O O O O O O O O ?_|refine Run.cSA [0] hid O O O O O O O O O O O O ?_|refine Ud ?_|fail))
    ((first|refine RetOk.tupS [0] O O O O O ?_ ?_|refine RetOk.oneS [0] O O O O ?_ ?_)<;>(repeat' (first|exact V0|refine V1 ?_|refine V2 ?_ ?_|fail)))
    all_goals first | rfl | (refine Cv.eq ?_; simp [AV.ren, renL]; done)
  · rw [recB, if_neg (by decide), if_neg (by decide), if_pos O] at hR
    subst hR
    have r4 := Next_c l hl (dkA l a1) b2 101 (by decide)
    (repeat' (first|refine AW.seq_k (fun K hK=>?_)|(refine hK _ ?_;clear hK)|refine AW.uC (fun hc=>?_) (fun hc=>?_)|refine AW.block ?_|refine AW.ret ?_|exact trivial|refine AW.rI [0, 1, 2, 3, 4, 5, 7, 8, 18] O ?_|refine Run.cSA [0] hN O O O O O O O O O O O O ?_|refine Run.cSA [0] hid O O O O O O O O O O O O ?_|refine Run.cSA [0] r4 O O O O O O O O O O O O ?_|refine Ud ?_|fail))
    ((first|refine RetOk.tupS [0] O O O O O ?_ ?_|refine RetOk.oneS [0] O O O O ?_ ?_)<;>(repeat' (first|exact V0|refine V1 ?_|refine V2 ?_ ?_|fail)))
    all_goals first | rfl | (refine Cv.eq ?_; simp [AV.ren, renL]; done)
  · rw [recB, if_neg (by decide), if_neg (by decide), if_neg (by decide), if_pos O] at hR
    subst hR
    have r4 := Next_c l hl (dkA l a1) b2 2 (by decide)
    (repeat' (first|refine AW.seq_k (fun K hK=>?_)|(refine hK _ ?_;clear hK)|refine AW.uC (fun hc=>?_) (fun hc=>?_)|refine AW.block ?_|refine AW.ret ?_|exact trivial|refine AW.rI [0, 1, 2, 3, 4, 5, 7, 9, 10, 18] O ?_|refine Run.cSA [0] hN O O O O O O O O O O O O ?_|refine Run.cSA [0] hid O O O O O O O O O O O O ?_|refine Run.cSA [0] r4 O O O O O O O O O O O O ?_|refine Ud ?_|fail))
    ((first|refine RetOk.tupS [0] O O O O O ?_ ?_|refine RetOk.oneS [0] O O O O ?_ ?_)<;>(repeat' (first|exact V0|refine V1 ?_|refine V2 ?_ ?_|fail)))
    all_goals first | rfl | (refine Cv.eq ?_; simp [AV.ren, renL]; done)
  · rw [recB, if_neg (by decide), if_neg (by decide), if_neg (by decide), if_neg (by decide), if_pos O] at hR
    subst hR
    have r4 := Next_c l hl (dkA l a1) b2 4 (by decide)
    have hd := dkN_rng l (dkA l a1) 4 (by decide)
    (repeat' (first|refine AW.seq_k (fun K hK=>?_)|(refine hK _ ?_;clear hK)|refine AW.uC (fun hc=>?_) (fun hc=>?_)|refine AW.block ?_|refine AW.ret ?_|exact trivial|refine AW.rI [0, 1, 2, 3, 4, 5, 7, 9, 11, 12, 18] O ?_|refine Run.cSA [0] hN O O O O O O O O O O O O ?_|refine Run.cSA [0] hid O O O O O O O O O O O O ?_|refine Run.cSA [0] r4 O O O O O O O O O O O O ?_|refine Ud ?_|fail))
    ((first|refine RetOk.tupS [0] O O O O O ?_ ?_|refine RetOk.oneS [0] O O O O ?_ ?_)<;>(repeat' (first|exact V0|refine V1 ?_|refine V2 ?_ ?_|fail)))
    all_goals first | rfl | (refine Cv.eq ?_; simp [AV.ren, renL]; done)
  · rw [recB, if_neg (by decide), if_neg (by decide), if_neg (by decide), if_neg (by decide), if_neg (by decide), if_pos O] at hR
    subst hR
    have r4 := Choice_c l hl a1 b1
    (repeat' (first|refine AW.seq_k (fun K hK=>?_)|(refine hK _ ?_;clear hK)|refine AW.uC (fun hc=>?_) (fun hc=>?_)|refine AW.block ?_|refine AW.ret ?_|refine AW.skip ?_|exact trivial|refine AW.draw (id := 15) (by kernel_rfl) ?_|refine AW.rI [0, 1, 2, 4, 5, 7, 9, 11, 13, 14, 18] O ?_|refine Run.cSA [0] hN O O O O O O O O O O O O ?_|refine Run.cSA [0] r4 O O O O O O O O O O O O ?_|refine Ud ?_|fail))
    ((first|refine RetOk.tupS [0] O O O O O ?_ ?_|refine RetOk.oneS [0] O O O O ?_ ?_)<;>(repeat' (first|exact V0|refine V1 ?_|refine V2 ?_ ?_|fail)))
    all_goals first | rfl | (refine Cv.eq ?_; simp [AV.ren, renL]; done)
  · rw [recB, if_neg (by decide), if_neg (by decide), if_neg (by decide), if_neg (by decide), if_neg (by decide), if_neg (by decide)] at hR
    subst hR
    have r4 := Next_c l hl a1 b1 3 (by decide)
    have hd := dkN_rng l a1 3 (by decide)
    obtain ⟨m, hm⟩ : ∃ m : Nat, dkN l a1 3 = (m : Int) := ⟨(dkN l a1 3).toNat, by omega⟩
    rw [hm] at r4 hd ⊢
    have hT := recTx_at (n := m) (by omega)
    (repeat' (first|refine AW.seq_k (fun K hK=>?_)|(refine hK _ ?_;clear hK)|refine AW.uC (fun hc=>?_) (fun hc=>?_)|refine AW.block ?_|refine AW.ret ?_|refine AW.skip ?_|exact trivial|refine AW.rI [0, 1, 2, 4, 5, 7, 9, 11, 13, 16, 17, 18] O ?_|refine Run.cSA [0] hN O O O O O O O O O O O O ?_|refine Run.cSA [0] r4 O O O O O O O O O O O O ?_|refine Ud ?_|fail))
    ((first|refine RetOk.tupS [0] O O O O O ?_ ?_|refine RetOk.oneS [0] O O O O ?_ ?_)<;>(repeat' (first|exact V0|refine V1 ?_|refine V2 ?_ ?_|fail)))
    all_goals first | rfl | (refine Cv.eq ?_; simp [AV.ren, renL]; done)
end Go.Proofs.YtbbcokckealagaaGreat
