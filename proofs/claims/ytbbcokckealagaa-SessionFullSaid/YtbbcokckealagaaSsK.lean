/-
  Walks of chapter 41: the example; as many streams as can be open.
-/
import Derived.Test.YtbbcokckealagaaSsJ
import Derived.Test.YtbbcokckealagaaSsF
import Derived.Test.YtbbcokckealagaaNil
namespace Go.Proofs.Ytbbcokckealagaa
set_option linter.unusedVariables false
set_option linter.unusedSimpArgs false
theorem ACalls.cv {P : Program} {f : FuncId} {args args' : List AV} {σ σ' : List Res} {r : AV} (h : ACalls P f args σ r σ') (hc : CvL (sto σ) args' args) : ACalls P f args' σ r σ' := fun I M w cargs hs hav hsto hno =>
  h I M w cargs (by rw [hs, hc.len]) (fun i v c hv hcc => by
    obtain ⟨p, hp, hpq⟩ := hc.get hcc
    exact hpq I M w v hsto (hav i v p hv hp)) hsto hno
def noT : List UInt8 → Bool := fun _ => false
def musicN : List UInt8 := [109, 117, 115, 105, 99]
def gameN : List UInt8 := [103, 97, 109, 101]
abbrev o3 : Rc := ⟨1, 3, musicN, 1, 2, 48000, 0, 0, 0, [], []⟩
abbrev v3 : Rc := ⟨3, 3, [], 0, 0, 0, 0, 50, 0, [], []⟩
abbrev c3 : Rc := ⟨2, 3, [], 0, 0, 0, 0, 0, 0, [], []⟩
abbrev k3 : Kp := ⟨3, musicN, 1, 2, 48000, 0, 50, false, 0⟩
abbrev s3 : Se := ⟨[k3], [], []⟩
theorem zero_ok : Se.zero.ok := ⟨by simp [Se.zero], by simp [Se.zero], fun c hc => by simp [Se.zero] at hc, fun c hc => by simp [Se.zero] at hc⟩
theorem s3_ok : s3.ok := ⟨by simp, by simp, fun c hc => by simp at hc, fun c hc => by simp at hc⟩
theorem ap1 : applyP noT Se.zero o3 = (⟨[o3.kept], [], []⟩, 0) := by
  rw [apply_eq noT Se.zero o3 List.Pairwise.nil]; kernel_rfl
theorem ap2 : applyP noT ⟨[o3.kept], [], []⟩ v3 = (s3, 0) := by
  rw [apply_eq noT ⟨[o3.kept], [], []⟩ v3 (List.pairwise_singleton ..)]; kernel_rfl
theorem ap3 : applyP noT s3 c3 = (Se.zero, 0) := by
  rw [apply_eq noT s3 c3 (List.pairwise_singleton ..)]; kernel_rfl
theorem rp3 : replayGo noT [o3, v3] Se.zero 0 = (s3, 2, 0) := by
  rw [replayGo, ap1, if_pos rfl, replayGo, ap2, if_pos rfl, replayGo]
abbrev Rc.nv (r : Rc) : List PV := [.v (.int .i64 r.kind), .v (.int .i64 r.id), .v (.string (bs r.role)), .v (.int .i64 r.dir), .v (.int .i64 r.ch), .v (.int .i64 r.rate), .v (.int .i64 r.lat), .v (.int .i64 r.n), .v (.int .u64 r.dev), .v (.slice none 0 0), .v (.string (bs r.text))]
theorem rowN (r : Rc) (h : r.set = []) : NilRow r.nv r.pv := by
  obtain ⟨kind, id, role, dir, ch, rate, lat, n, dev, set, text⟩ := r
  subst h
  exact .cons (.same rfl) (.cons (.same rfl) (.cons (.same rfl) (.cons (.same rfl) (.cons (.same rfl) (.cons (.same rfl) (.cons (.same rfl) (.cons (.same rfl) (.cons (.same rfl) (.cons .nil (.cons (.same rfl) (.nil)))))))))))
abbrev Rc.ncells (r : Rc) : List AV := [.v (.int .i64 r.kind), .v (.int .i64 r.id), .v (.string (bs r.role)), .v (.int .i64 r.dir), .v (.int .i64 r.ch), .v (.int .i64 r.rate), .v (.int .i64 r.lat), .v (.int .i64 r.n), .v (.int .u64 r.dev), .v (.slice none 0 0), .v (.string (bs r.text))]
theorem wkN (r : Rc) (h : r.set = []) : Wk (.agg r.cells) (.agg r.ncells) := by
  obtain ⟨kind, id, role, dir, ch, rate, lat, n, dev, set, text⟩ := r
  subst h
  exact .agg (.cons .same (.cons .same (.cons .same (.cons .same (.cons .same (.cons .same (.cons .same (.cons .same (.cons .same (.cons .nil (.cons .same .nil)))))))))))
theorem sane_c : ACalls Try.prog 4 [] [] (.v (.bool true)) [] := by
  have hps : ∀ f (r : Rc), r.kind ≠ 7 → PsOk noT f r := fun f r h h7 => absurd h7 h
  have h1 := Replay_c noT [o3, v3] true (by simp) (fun r hr => by
    simp only [List.mem_cons, List.not_mem_nil, or_false] at hr
    rcases hr with rfl | rfl <;> exact ⟨by simp [musicN], by simp, by simp⟩) (fun r hr => hps _ _ (by
    simp only [List.mem_cons, List.not_mem_nil, or_false] at hr
    rcases hr with rfl | rfl <;> simp))
  rw [rp3] at h1
  have h2 := Apply_c noT s3 c3 s3_ok ⟨by simp, by simp, by simp⟩ (hps _ _ (by simp))
  rw [ap3] at h2
  have h3 := Records_c Se.zero zero_ok
  have h4 := Records_c s3 s3_ok
  have h1' := h1.cv (args' := [.sl 11 [o3.nv, v3.nv] true]) (.cons (Cv.slN (.cons (rowN o3 rfl) (.cons (rowN v3 rfl) .nil))) .nil)
  have h2' := h2.weak (args' := [.agg s3.cells, .agg c3.ncells]) (.cons .same (.cons (wkN c3 rfl) .nil))
  refine (ACalls.of (fn := Try.f4) Try.func4 rfl rfl Try.ntmps4 (fun I M w own => ?_))
  (repeat' (first | refine AW.seq_k (fun K hK => ?_) | (refine hK _ ?_; clear hK) | refine AW.ret ?_ | (first | (refine AW.region (id := 0) ?_ <;> (try (refine Run.p rfl rfl rfl (OpP.asA rfl) ?_)) <;> (try refine Run.fin rfl ?_)) | (refine AW.region (id := 1) ?_ <;> (try (refine Run.p rfl rfl rfl (OpP.buildSA rfl) ?_)) <;> (try (refine Run.p rfl rfl rfl (OpP.buildSA rfl) ?_)) <;> (try (refine Run.bsA rfl rfl rfl rfl rfl rfl ?_)) <;> (try (refine Run.c0 h1' rfl rfl rfl rfl rfl rfl rfl rfl ?_)) <;> (try (refine Run.p rfl rfl rfl (OpP.mvA rfl) ?_)) <;> (try (refine Run.p rfl rfl rfl (OpP.extract rfl rfl rfl) ?_)) <;> (try (refine Run.p rfl rfl rfl (OpP.extract rfl rfl rfl) ?_)) <;> (try (refine Run.p rfl rfl rfl (OpP.extract rfl rfl rfl) ?_)) <;> (try (refine Run.alA rfl rfl rfl rfl ?_)) <;> (try (refine Run.stA rfl rfl rfl rfl rfl ?_)) <;> (try (refine Run.p rfl rfl rfl (OpP.asA rfl) ?_)) <;> (try (refine Run.p rfl rfl rfl (OpP.asA rfl) ?_)) <;> (try refine Run.fin rfl ?_)) | (refine AW.region (id := 2) ?_ <;> (try (refine Run.ldNA rfl rfl rfl rfl rfl rfl rfl ?_)) <;> (try (refine Run.p rfl rfl rfl (OpP.buildSA rfl) ?_)) <;> (try (refine Run.c0 h2' rfl rfl rfl rfl rfl rfl rfl rfl ?_)) <;> (try (refine Run.p rfl rfl rfl (OpP.mvA rfl) ?_)) <;> (try (refine Run.p rfl rfl rfl (OpP.extract rfl rfl rfl) ?_)) <;> (try (refine Run.p rfl rfl rfl (OpP.extract rfl rfl rfl) ?_)) <;> (try (refine Run.alA rfl rfl rfl rfl ?_)) <;> (try (refine Run.stA rfl rfl rfl rfl rfl ?_)) <;> (try (refine Run.p rfl rfl rfl (OpP.asA rfl) ?_)) <;> (try refine Run.fin rfl ?_)) | (refine AW.region (id := 3) ?_ <;> (try (refine Run.p rfl rfl rfl (OpP.mvA rfl) ?_)) <;> (try (refine Run.p rfl rfl rfl (OpP.eq rfl rfl rfl) ?_)) <;> (try (refine Run.p rfl rfl rfl (OpP.mvA rfl) ?_)) <;> (try (refine Run.p rfl rfl rfl (OpP.mvA rfl) ?_)) <;> (try (refine Run.p rfl rfl rfl (OpP.eq rfl rfl rfl) ?_)) <;> (try (refine Run.p rfl rfl rfl (OpP.pickA rfl rfl) ?_)) <;> (try (refine Run.p rfl rfl rfl (OpP.mvA rfl) ?_)) <;> (try (refine Run.p rfl rfl rfl (OpP.fieldAddrA rfl rfl) ?_)) <;> (try (refine Run.ld1 rfl rfl rfl rfl rfl rfl rfl rfl ?_)) <;> (try (refine Run.ri rfl rfl rfl (OpRI.lenA rfl rfl) rfl ?_)) <;> (try (refine Run.p rfl rfl rfl (OpP.eq rfl rfl rfl) ?_)) <;> (try (refine Run.p rfl rfl rfl (OpP.pickA rfl rfl) ?_)) <;> (try (refine Run.p rfl rfl rfl (OpP.mvA rfl) ?_)) <;> (try (refine Run.p rfl rfl rfl (OpP.fieldAddrA rfl rfl) ?_)) <;> (try (refine Run.ld1 rfl rfl rfl rfl rfl rfl rfl rfl ?_)) <;> (try (refine Run.ri rfl rfl rfl (OpRI.indexAddrA rfl rfl) rfl ?_)) <;> (try (refine Run.p rfl rfl rfl (OpP.fieldAddrE rfl rfl (by decide) (by first | (simp only [Nat.reduceAdd, Nat.zero_add, Nat.add_zero]; rfl) | rfl) (Nat.le_of_ble_eq_true rfl)) ?_)) <;> (try (refine Run.p rfl rfl rfl (OpP.loadE1 rfl rfl rfl rfl (by (conv => lhs; whnf) <;> rfl)) ?_)) <;> (try (refine Run.p rfl rfl rfl (OpP.eq rfl rfl rfl) ?_)) <;> (try (refine Run.p rfl rfl rfl (OpP.pickA rfl rfl) ?_)) <;> (try (refine Run.p rfl rfl rfl (OpP.mvA rfl) ?_)) <;> (try (refine Run.p rfl rfl rfl (OpP.mvA rfl) ?_)) <;> (try (refine Run.p rfl rfl rfl (OpP.eq rfl rfl rfl) ?_)) <;> (try (refine Run.p rfl rfl rfl (OpP.pickA rfl rfl) ?_)) <;> (try (refine Run.p rfl rfl rfl (OpP.mvA rfl) ?_)) <;> (try (refine Run.p rfl rfl rfl (OpP.fieldAddrA rfl rfl) ?_)) <;> (try (refine Run.ld1 rfl rfl rfl rfl rfl rfl rfl rfl ?_)) <;> (try (refine Run.ri rfl rfl rfl (OpRI.lenA rfl rfl) rfl ?_)) <;> (try (refine Run.p rfl rfl rfl (OpP.eq rfl rfl rfl) ?_)) <;> (try (refine Run.p rfl rfl rfl (OpP.pickA rfl rfl) ?_)) <;> (try (refine Run.p rfl rfl rfl (OpP.mvA rfl) ?_)) <;> (try (refine Run.ldNA rfl rfl rfl rfl rfl rfl rfl ?_)) <;> (try (refine Run.c0 h3 rfl rfl rfl rfl rfl rfl rfl rfl ?_)) <;> (try (refine Run.ri rfl rfl rfl (OpRI.lenA rfl rfl) rfl ?_)) <;> (try (refine Run.p rfl rfl rfl (OpP.eq rfl rfl rfl) ?_)) <;> (try (refine Run.p rfl rfl rfl (OpP.pickA rfl rfl) ?_)) <;> (try (refine Run.p rfl rfl rfl (OpP.mvA rfl) ?_)) <;> (try (refine Run.ldNA rfl rfl rfl rfl rfl rfl rfl ?_)) <;> (try (refine Run.c0 h4 rfl rfl rfl rfl rfl rfl rfl rfl ?_)) <;> (try (refine Run.ri rfl rfl rfl (OpRI.lenA rfl rfl) rfl ?_)) <;> (try (refine Run.p rfl rfl rfl (OpP.eq rfl rfl rfl) ?_)) <;> (try (refine Run.p rfl rfl rfl (OpP.pickA rfl rfl) ?_)) <;> (try (refine Run.p rfl rfl rfl (OpP.asA rfl) ?_)) <;> (try refine Run.fin rfl ?_)))))
  ((first | refine RetOk.tup rfl rfl ?_ | refine RetOk.one rfl ?_) <;> (repeat' (first | exact Cv.nil | exact Cv.rowf rfl rfl | exact RetC.nil | exact CvL.refl _ | exact Cv.refl | refine RetC.tmp (by (conv => lhs; whnf) <;> rfl) ?_ ?_ | refine RetC.cell1 rfl rfl rfl rfl ?_ ?_ | refine RetC.cellN rfl rfl rfl (by repeat constructor) ?_ ?_ | refine Cv.rowE rfl rfl ?_ | exact Cv.full | exact CvL.nil | refine CvL.cons ?_ ?_)))
  (all_goals (try (first | refine CvL.eq ?_ | refine Cv.eq ?_)))
  all_goals (simp only [AV.ren, AV.v.injEq, Value.bool.injEq]; kernel_rfl)
abbrev opK (i : Int) : Rc := ⟨1, 2 * i, musicN, 1, 1, 48000, 0, 0, 0, [], []⟩
def fullS (m : Nat) : Se := ⟨(List.range m).map fun j : Nat => (opK ((j : Int) + 1)).kept, [], []⟩
theorem full_len (m : Nat) : (fullS m).streams.length = m := by simp [fullS]
theorem full_ok (m : Nat) (h : m ≤ 1000) : (fullS m).ok := ⟨by rw [full_len]; omega, by simp [fullS], fun c hc => by simp [fullS] at hc, fun c hc => by simp [fullS] at hc⟩
theorem full_asc (m : Nat) : Asc (fullS m).streams := by
  refine List.pairwise_iff_getElem.2 fun i j hi hj hij => ?_
  simp [fullS]
  omega
theorem ins_all : ∀ (l : List Kp) (id : Int), (∀ k ∈ l, k.id < id) → insI l id = l.length
  | [], _, _ => rfl
  | k :: t, id, h => by
    have := ins_all t id fun x hx => h x (List.mem_cons_of_mem _ hx)
    rw [insI] at this ⊢
    rw [List.takeWhile_cons, if_pos (by simpa using h k (List.mem_cons_self ..)), List.length_cons, this, List.length_cons]
theorem full_step (m : Nat) (h : m < 24) : rapplyP noT (fullS m) (opK ((m : Int) + 1)) = (fullS (m + 1), 0) := by
  have hp : properR noT (opK ((m : Int) + 1)) = true := by
    have e : opK ((m : Int) + 1) = aloneP (opK ((m : Int) + 1)) := by simp [aloneP]
    rw [properR, ← e, decide_eq_true rfl, Bool.true_and, if_pos rfl, decide_eq_true (p := 1 ≤ (opK ((m : Int) + 1)).id ∧ (opK ((m : Int) + 1)).id ≤ 9007199254740992) (by constructor <;> (simp only; omega)), Bool.true_and]
    show (nameB musicN && _) = true
    kernel_rfl
  have hn : ∀ k ∈ (fullS m).streams, k.id < 2 * ((m : Int) + 1) := by
    intro k hk
    simp only [fullS, List.mem_map, List.mem_range] at hk
    obtain ⟨j, hj, rfl⟩ := hk
    simp only
    omega
  have hi : insI (fullS m).streams (2 * ((m : Int) + 1)) = m := by
    rw [ins_all _ _ hn, full_len]
  rw [rapplyP, hp, if_neg (by decide), rstepP, place_none _ _ _ (fun k hk => by have := hn k hk; simp only; omega)]
  simp only [if_pos, hi]
  rw [if_neg (by decide), if_neg (by rw [full_len]; omega)]
  have h1 : (fullS m).streams.take m = (fullS m).streams := List.take_of_length_le (by rw [full_len]; exact Nat.le_refl _)
  have h2 : (fullS m).streams.drop m = [] := List.drop_eq_nil_of_le (by rw [full_len]; exact Nat.le_refl _)
  rw [h1, h2]
  simp [fullS, List.range_succ]
theorem SessionFull_c (n id : Int) (hn : -9223372036854775808 ≤ n ∧ n ≤ 9223372036854775807) (hid : -9223372036854775808 ≤ id ∧ id ≤ 9223372036854775807) : ACalls Try.prog 3 [.v (.int .i64 n), .v (.int .i64 id)] [] (.v (.bool true)) [] := by
  have hps : ∀ f (r : Rc), r.kind ≠ 7 → PsOk noT f r := fun f r h h7 => absurd h7 h
  have hm1 := Mod_c n 2 hn (by omega)
  have hm2 := Mod_c id 60 hid (by omega)
  obtain ⟨Kk, hK, hK1⟩ : ∃ Kk : Nat, (Kk : Int) = 23 + n % 2 ∧ Kk ≤ 24 := ⟨(23 + n % 2).toNat, by omega, by omega⟩
  have hq1 : 0 ≤ n % 2 ∧ n % 2 < 2 := by omega
  have hq2 : 0 ≤ id % 60 ∧ id % 60 < 60 := by omega
  generalize n % 2 = n2 at hm1 hK hq1
  generalize id % 60 = i60 at hm2 hq2
  refine (ACalls.of (fn := Try.f3) Try.func3 rfl rfl Try.ntmps3 (fun I M w own => ?_))
  (repeat' (first | refine AW.seq_k (fun K hK => ?_) | (refine hK _ ?_; clear hK) | (refine AW.cond rfl (fun hc => ?_) (fun hc => ?_) <;> (try simp only [Bool.and_eq_true, Bool.or_eq_true, Bool.not_eq_true', Bool.not_eq_false', Bool.and_eq_false_iff, Bool.or_eq_false_iff, Bool.and_eq_false_imp, decide_eq_true_eq, decide_eq_false_iff_not, Decidable.not_not, Int.not_lt, Int.not_le, ne_eq, Bool.not_not] at hc) <;> try (first | (exfalso; omega) | (cases hc; done))) | refine AW.block ?_ | refine AW.skip ?_ | (first | (refine AW.region (id := 0) ?_ <;> (try (refine Run.p rfl rfl rfl (OpP.asA rfl) ?_)) <;> (try refine Run.fin rfl ?_)) | (refine AW.region (id := 1) ?_ <;> (try (refine Run.c0 sane_c rfl rfl rfl rfl rfl rfl rfl rfl ?_)) <;> (try (refine Run.p rfl rfl rfl (OpP.not rfl rfl) ?_)) <;> (try refine Run.fin rfl ?_)) | (refine AW.region (id := 3) ?_ <;> (try (refine Run.alA rfl rfl rfl rfl ?_)) <;> (try refine Run.fin rfl ?_)) | (refine AW.region (id := 4) ?_ <;> (try (refine Run.p rfl rfl rfl (OpP.asA rfl) ?_)) <;> (try refine Run.fin rfl ?_)))))
  refine AW.loopF (X := Nat) (fun x => ⟨[(0, .v (.int .i64 n)), (1, .v (.int .i64 id)), (5, .ptr 0 0), (6, .v (.int .i64 ((x : Int) + 1)))], [.box (fullS x).cells]⟩) (fun x => x ≤ Kk) (fun x => Kk - x) 0 ?_ (Nat.zero_le _) ?_
  · refine Conv.mk [0] rfl rfl rfl ?_ rfl ?_
    · (repeat' (first | exact Cf.nil | exact Cv.refl | exact CvL.refl _ | exact Cv.rowf rfl rfl | exact Crs.nil | refine Cf.cons' (by (conv => lhs; whnf) <;> rfl) ?_ ?_ | refine Crs.cons ?_ rfl ?_ | exact Cr.no | refine Cr.row ?_ | refine Cr.box ?_ | exact Cv.nil | exact Cv.full | exact CvL.nil | refine CvL.cons ?_ ?_))
      (all_goals (try (first | refine CvL.eq ?_ | refine Cv.eq ?_)))
      all_goals simp [AV.ren, renL]
    · (repeat' (first | exact Cf.nil | exact Cv.refl | exact CvL.refl _ | exact Cv.rowf rfl rfl | exact Crs.nil | refine Cf.cons' (by (conv => lhs; whnf) <;> rfl) ?_ ?_ | refine Crs.cons ?_ rfl ?_ | exact Cr.no | refine Cr.row ?_ | refine Cr.box ?_ | exact Cv.nil | exact Cv.full | exact CvL.nil | refine CvL.cons ?_ ?_))
  · rintro x hx
    rcases Nat.lt_or_ge x Kk with h | h
    · have hst := full_step x (by omega)
      have h1 := rApply_c noT (fullS x) (opK ((x : Int) + 1)) (full_ok x (by omega)) ⟨by simp [musicN], by simp, by simp⟩ (hps _ _ (by simp))
      rw [hst] at h1
      have h1' := h1.weak (args' := [.agg (fullS x).cells, .agg (opK ((x : Int) + 1)).ncells]) (.cons .same (.cons (wkN _ rfl) .nil))
      (repeat' (first | refine AW.seq_k (fun K hK => ?_) | (refine hK _ ?_; clear hK) | (refine AW.condD rfl (fun hc => ?_) (fun hc => ?_) <;> try (first | (exfalso; omega) | (cases hc; done))) | refine AW.block ?_ | refine AW.skip ?_ | (first | (refine AW.region (id := 5) ?_ <;> (try (refine Run.p rfl rfl rfl (OpP.mvA rfl) ?_)) <;> (try (refine Run.p rfl rfl rfl (OpP.mvA rfl) ?_)) <;> (try (refine Run.c0 hm1 rfl rfl rfl rfl rfl rfl rfl rfl ?_)) <;> (try (refine Run.p rfl rfl rfl (OpP.addA rfl rfl rfl) ?_)) <;> (try (refine Run.p rfl rfl rfl (OpP.lee rfl rfl rfl) ?_)) <;> (try refine Run.fin rfl ?_)) | (refine AW.region (id := 7) ?_ <;> (try (refine Run.ldNA rfl rfl rfl rfl rfl rfl rfl ?_)) <;> (try (refine Run.p rfl rfl rfl (OpP.mvA rfl) ?_)) <;> (try (refine Run.p rfl rfl rfl (OpP.mulA rfl rfl rfl) ?_)) <;> (try (refine Run.p rfl rfl rfl (OpP.buildSA rfl) ?_)) <;> (try (refine Run.c0 h1' rfl rfl rfl rfl rfl rfl rfl rfl ?_)) <;> (try (refine Run.p rfl rfl rfl (OpP.mvA rfl) ?_)) <;> (try (refine Run.p rfl rfl rfl (OpP.extract rfl rfl rfl) ?_)) <;> (try (refine Run.p rfl rfl rfl (OpP.extract rfl rfl rfl) ?_)) <;> (try (refine Run.stA rfl rfl rfl rfl rfl ?_)) <;> (try refine Run.fin rfl ?_)) | (refine AW.region (id := 6) ?_ <;> (try (refine Run.p rfl rfl rfl (OpP.mvA rfl) ?_)) <;> (try (refine Run.p rfl rfl rfl (OpP.addA rfl rfl rfl) ?_)) <;> (try (refine Run.p rfl rfl rfl (OpP.asA rfl) ?_)) <;> (try refine Run.fin rfl ?_)))))
      ((repeat (with_reducible refine inB_n ?_)); refine thenA_n ?_)
      refine ⟨x + 1, h, by omega, ?_⟩
      refine Conv.mk [0] rfl rfl rfl ?_ rfl ?_
      · (repeat' (first | exact Cf.nil | exact Cv.refl | exact CvL.refl _ | exact Cv.rowf rfl rfl | exact Crs.nil | refine Cf.cons' (by (conv => lhs; whnf) <;> rfl) ?_ ?_ | refine Crs.cons ?_ rfl ?_ | exact Cr.no | refine Cr.row ?_ | refine Cr.box ?_ | exact Cv.nil | exact Cv.full | exact CvL.nil | refine CvL.cons ?_ ?_))
        (all_goals (try (first | refine CvL.eq ?_ | refine Cv.eq ?_)))
        all_goals simp [AV.ren, renL]
      · (repeat' (first | exact Cf.nil | exact Cv.refl | exact CvL.refl _ | exact Cv.rowf rfl rfl | exact Crs.nil | refine Cf.cons' (by (conv => lhs; whnf) <;> rfl) ?_ ?_ | refine Crs.cons ?_ rfl ?_ | exact Cr.no | refine Cr.row ?_ | refine Cr.box ?_ | exact Cv.nil | exact Cv.full | exact CvL.nil | refine CvL.cons ?_ ?_))
    · obtain rfl : x = Kk := by omega
      obtain ⟨r, hr⟩ : ∃ r : Rc, r = ⟨1, 1 + i60, gameN, 2, 1, 48000, 0, 0, 0, [], []⟩ := ⟨_, rfl⟩
      have hrs : r.set = [] := by rw [hr]
      have hr7 : r.kind ≠ 7 := by rw [hr]; simp
      have hro : r.ok := by rw [hr]; exact ⟨by simp [gameN], by simp, by simp⟩
      have g1 := Apply_c noT (fullS x) r (full_ok x (by omega)) hro (hps _ _ hr7)
      have g2 := rApply_c noT (fullS x) r (full_ok x (by omega)) hro (hps _ _ hr7)
      rw [apply_eq noT (fullS x) r (full_asc x)] at g1
      have gk : (rapplyP noT (fullS x) r).1.ok := by rw [← apply_eq noT (fullS x) r (full_asc x)]; exact applyP_ok (full_ok x (by omega))
      generalize rapplyP noT (fullS x) r = q at g1 g2 gk
      have g3 := SameS_c q.1 gk
      have g1' := g1.weak (args' := [.agg (fullS x).cells, .agg r.ncells]) (.cons .same (.cons (wkN _ hrs) .nil))
      have g2' := g2.weak (args' := [.agg (fullS x).cells, .agg r.ncells]) (.cons .same (.cons (wkN _ hrs) .nil))
      have hee : q.2 = q.2 := rfl
      subst hr
      (repeat' (first | refine AW.seq_k (fun K hK => ?_) | (refine hK _ ?_; clear hK) | (refine AW.condD rfl (fun hc => ?_) (fun hc => ?_) <;> try (first | (exfalso; omega) | (cases hc; done))) | refine AW.exit ?_ | refine AW.ret ?_ | (clear hK; clear hK; refine hK _ ?_; clear hK) | (first | (refine AW.region (id := 5) ?_ <;> (try (refine Run.p rfl rfl rfl (OpP.mvA rfl) ?_)) <;> (try (refine Run.p rfl rfl rfl (OpP.mvA rfl) ?_)) <;> (try (refine Run.c0 hm1 rfl rfl rfl rfl rfl rfl rfl rfl ?_)) <;> (try (refine Run.p rfl rfl rfl (OpP.addA rfl rfl rfl) ?_)) <;> (try (refine Run.p rfl rfl rfl (OpP.lee rfl rfl rfl) ?_)) <;> (try refine Run.fin rfl ?_)) | (refine AW.region (id := 8) ?_ <;> (try (refine Run.p rfl rfl rfl (OpP.mvA rfl) ?_)) <;> (try (refine Run.c0 hm2 rfl rfl rfl rfl rfl rfl rfl rfl ?_)) <;> (try (refine Run.p rfl rfl rfl (OpP.addA rfl rfl rfl) ?_)) <;> (try (refine Run.p rfl rfl rfl (OpP.buildSA rfl) ?_)) <;> (try (refine Run.alA rfl rfl rfl rfl ?_)) <;> (try (refine Run.stA rfl rfl rfl rfl rfl ?_)) <;> (try refine Run.fin rfl ?_)) | (refine AW.region (id := 9) ?_ <;> (try (refine Run.ldNA rfl rfl rfl rfl rfl rfl rfl ?_)) <;> (try (refine Run.ldNA rfl rfl rfl rfl rfl rfl rfl ?_)) <;> (try (refine Run.c0 g1' rfl rfl rfl rfl rfl rfl rfl rfl ?_)) <;> (try (refine Run.p rfl rfl rfl (OpP.mvA rfl) ?_)) <;> (try (refine Run.p rfl rfl rfl (OpP.extract rfl rfl rfl) ?_)) <;> (try (refine Run.p rfl rfl rfl (OpP.extract rfl rfl rfl) ?_)) <;> (try (refine Run.alA rfl rfl rfl rfl ?_)) <;> (try (refine Run.stA rfl rfl rfl rfl rfl ?_)) <;> (try (refine Run.p rfl rfl rfl (OpP.asA rfl) ?_)) <;> (try refine Run.fin rfl ?_)) | (refine AW.region (id := 10) ?_ <;> (try (refine Run.ldNA rfl rfl rfl rfl rfl rfl rfl ?_)) <;> (try (refine Run.ldNA rfl rfl rfl rfl rfl rfl rfl ?_)) <;> (try (refine Run.c0 g2' rfl rfl rfl rfl rfl rfl rfl rfl ?_)) <;> (try (refine Run.p rfl rfl rfl (OpP.mvA rfl) ?_)) <;> (try (refine Run.p rfl rfl rfl (OpP.extract rfl rfl rfl) ?_)) <;> (try (refine Run.p rfl rfl rfl (OpP.extract rfl rfl rfl) ?_)) <;> (try (refine Run.alA rfl rfl rfl rfl ?_)) <;> (try (refine Run.stA rfl rfl rfl rfl rfl ?_)) <;> (try (refine Run.p rfl rfl rfl (OpP.asA rfl) ?_)) <;> (try refine Run.fin rfl ?_)) | (refine AW.region (id := 11) ?_ <;> (try (refine Run.p rfl rfl rfl (OpP.mvA rfl) ?_)) <;> (try (refine Run.p rfl rfl rfl (OpP.mvA rfl) ?_)) <;> (try (refine Run.p rfl rfl rfl (OpP.decT (OpP.eq rfl rfl rfl) (by assumption)) ?_)) <;> (try (refine Run.p rfl rfl rfl (OpP.mvA rfl) ?_)) <;> (try (refine Run.ldNA rfl rfl rfl rfl rfl rfl rfl ?_)) <;> (try (refine Run.ldNA rfl rfl rfl rfl rfl rfl rfl ?_)) <;> (try (refine Run.c0 g3 rfl rfl rfl rfl rfl rfl rfl rfl ?_)) <;> (try (refine Run.p rfl rfl rfl (OpP.pickA rfl rfl) ?_)) <;> (try (refine Run.p rfl rfl rfl (OpP.asA rfl) ?_)) <;> (try refine Run.fin rfl ?_)))))
      ((first | refine RetOk.tup rfl rfl ?_ | refine RetOk.one rfl ?_) <;> (repeat' (first | exact Cv.nil | exact Cv.rowf rfl rfl | exact RetC.nil | exact CvL.refl _ | exact Cv.refl | refine RetC.tmp (by (conv => lhs; whnf) <;> rfl) ?_ ?_ | refine RetC.cell1 rfl rfl rfl rfl ?_ ?_ | refine RetC.cellN rfl rfl rfl (by repeat constructor) ?_ ?_ | refine Cv.rowE rfl rfl ?_ | exact Cv.full | exact CvL.nil | refine CvL.cons ?_ ?_)))
end Go.Proofs.Ytbbcokckealagaa
