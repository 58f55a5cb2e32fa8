/-
  The contract of AppendInt at nil over values without addresses, out of the kit's shelf.
-/
import Derived.Test.YtbmjdfhkcogglaaDoorTy
import Derived.Test.YtbmjdfhkcogglaaDoorAAu
import Derived.Test.YtbmjdfhkcogglaaDoorShf
import Derived.Sort.Grow
import Derived.Lib.ItoaLen
namespace Go.Proofs.YtbmjdfhkcogglaaDoor
open Go.RowKit
set_option linter.unusedVariables false
/-- a call that takes plain values and gives a new row of bytes -/
theorem ACalls.newRow {P : Program} {f : FuncId} {args : List Value} {e : TypeId} (l : List UInt8) (hl : 0 < l.length) (h : ∀ (M : Nat → Nat) (w : World), (∀ t ∈ tabs, Tb M w t) → Calls P f args.toArray w fun en w' => ∃ v', en = .returned v' ∧ w'.ownsRow w.heap.size e 1 v' l.length (l.map fun c => .int .u8 (c.toNat : Int)) ∧ Below w.heap.size w w') :
    ACalls P f (args.map AV.v) [] (.row 0 (bsP l).length) [.row 1 (bsP l)] := by
  intro I M w cargs ha hav hs hno
  have hc : cargs = args.toArray := by
    apply Array.ext
    · simpa using ha
    · intro i h1 h2
      have := hav i cargs[i] (.v args[i]) (by simp [h1]) (by simp)
      have := this.val
      simpa using this
  subst hc
  refine (h M w hs.tab).mono ?_
  rintro en w' ⟨v', rfl, ⟨_, ho⟩, hb⟩
  rcases ho with ⟨_, h0⟩ | ⟨g, cap, cur, rfl, hg, hh, hn, hcm, hcs, ht⟩
  · omega
  let I' : Nat → CI := fun k => if k = 0 then CI.row (bsP l) 1 (some ⟨g, 0, none⟩) cap else I k
  let M' : Nat → Nat := fun b => if b = g then l.length else M b
  have hbl : (bsP l).length = l.length := by simp
  have hMg : M g = 0 := hs.top g hg
  have hMle : ∀ b, M b ≤ M' b := by
    intro b
    simp only [M']
    split
    · rename_i h; rw [h, hMg]; exact Nat.zero_le _
    · exact Nat.le_refl _
  have hMne : ∀ b, b ≠ g → M' b = M b := fun b h => by simp [M', h]
  have hMg' : M' g = l.length := by simp [M']
  have ev : Evo M M' w w' := ⟨hb.size, hMle, fun b o v _ hv => by
    have hlt : b < w.heap.size := by
      rcases Nat.lt_or_ge b w.heap.size with q | q
      · exact q
      · simp only [World.cell?] at hv
        rw [Array.getElem?_eq_none q] at hv; cases hv
    rw [World.cell?_of_block (w := w) (hb.block b hlt)]
    exact hv⟩
  have hIle : ∀ k, (I k).le (I' k) := fun k => by rw [hno k (Nat.zero_le _)]; trivial
  have hext : ∀ own, Ext own I I' M M' w w' := fun own => ⟨hb.os, hb.tape, hb.output, hIle, ev, fun b hlt _ => ⟨hb.block b hlt, hMne b (by omega)⟩⟩
  have hcell : ∀ j, j < l.length → w'.cell? ⟨g, j, none⟩ = some (cur.getD j undef) := by
    intro j hj
    rw [cell_of_row w' g j cur e (0, 0) hh]
    have : j < cur.size := by omega
    simp [this]
  have hval : ∀ j (hj : j < l.length), cur.getD j undef = .int .u8 (l[j].toNat : Int) := by
    intro j hj
    have h1 : (cur.toList.take (l.length * 1))[j]? = some (.int .u8 (l[j].toNat : Int)) := by rw [ht]; simp [hj]
    rw [List.getElem?_take, if_pos (by omega), Array.getElem?_toList] at h1
    rw [Array.getD_eq_getD_getElem?, h1]; rfl
  have hr : RPV M' w' (.slice (some ⟨g, 0, none⟩) l.length cap) (.sl 1 (bsP l)) := by
    refine .sl g 0 (fun j => cur.getD j undef) hbl hn (by simp) (fun _ => rfl) (fun _ => by rw [hMg']; omega) (fun j hj => ?_) (fun j hj => ?_) (fun j p hp => ?_)
    · rw [Nat.zero_add]; exact hcell j (by omega)
    · rw [hval j (by omega)]; rfl
    · have hj : j < l.length := by
        have := (List.getElem?_eq_some_iff.1 hp).1
        rw [bsP_flat] at this; simpa using this
      rw [hval j hj]
      rw [bsP_flat, List.getElem?_map, List.getElem?_eq_getElem hj] at hp
      injection hp with hp
      subst hp
      exact .v _
  have hsto0 : sto [Res.row 1 (bsP l)] 0 = .row 1 (bsP l) := rfl
  have hstoN : ∀ k, k ≠ 0 → sto [Res.row 1 (bsP l)] k = .no := fun k hk => by
    rcases k with _ | k
    · exact absurd rfl hk
    · rfl
  refine ⟨_, I', M', rfl, ?_, ⟨fun k => ?_, fun k k' b hne hk hk' => ?_, fun b hbs => ?_, fun t htt => ?_⟩, fun k hk => ?_, hext _, fun k b hkb => ?_⟩
  · rw [hbl]
    refine Rp.row (sz := 1) (xs := bsP l) (c0 := cap) (A0 := some ⟨g, 0, none⟩) (by simp [I']) (by omega) ?_ (fun _ => ⟨rfl, rfl⟩)
    rw [List.take_of_length_le (by omega)]; exact hr
  · by_cases hk : k = 0
    · subst hk
      rw [hsto0]
      refine ⟨some ⟨g, 0, none⟩, cap, by simp [I'], by rw [hbl]; exact hr, fun _ => ⟨g, cur, e, (0, 0), rfl, hh, hcs, by rw [hMg', hbl]; omega, fun o _ h => by simp at h⟩⟩
    · rw [hstoN k hk]; trivial
  · have f : ∀ q b, blkOf (I' q) (sto [Res.row 1 (bsP l)] q) = some b → q = 0 := by
      intro q b h
      by_cases hq : q = 0
      · exact hq
      · rw [hstoN q hq] at h; cases hI : I' q <;> rw [hI] at h <;> cases h
    exact absurd ((f k b hk).trans (f k' b hk').symm) hne
  · have hgs : g < w'.heap.size := (Array.getElem?_eq_some_iff.1 hh).1
    rw [hMne b (by omega)]
    exact hs.top b (Nat.le_trans hb.size hbs)
  · obtain ⟨e', fr, t1, t2, t3⟩ := hs.tab t htt
    have hlt : t.1 < w.heap.size := (Array.getElem?_eq_some_iff.1 t1).1
    exact ⟨e', fr, by rw [hb.block _ hlt]; exact t1, by rw [hMne _ (by omega)]; exact t2, t3⟩
  · have : k ≠ 0 := by simp at hk; omega
    simp only [I', this, if_false]
    exact hno k (Nat.zero_le _)
  · by_cases hk : k = 0
    · subst hk
      rw [hsto0] at hkb
      simp only [I', if_true, blkOf] at hkb
      split at hkb
      · cases hkb
      · simp only [Option.map_some, Option.some.injEq] at hkb
        exact .inl (by omega)
    · rw [hstoN k hk] at hkb
      cases hI : I' k <;> rw [hI] at hkb <;> cases hkb
theorem AppendInt_c (n : Nat) (h1 : n ≤ 9223372036854775807) : ACalls Tryd.prog 17 [.v (.slice none 0 0), .v (.int .i64 (n : Int)), .v (.int .i64 10)] [] (.row 0 (bsP (Lib.decDigits n)).length) [.row 1 (bsP (Lib.decDigits n))] := by
  have hit : Lib.itoa (n : Int) = Lib.decDigits n := by rw [Lib.itoa, if_neg (by omega), Int.toNat_natCast]
  refine ACalls.newRow (args := [.slice none 0 0, .int .i64 (n : Int), .int .i64 10]) (e := laysM176_ren.t 5) (Lib.decDigits n) (by rw [Lib.decDigits_length]; exact Lib.nDigits_pos n) fun M w ht => ?_
  refine (Any.strconv_AppendInt_10 laysM176 w.heap.size 0 (n : Int) (by omega) (by omega) (.slice none 0 0) [] w ⟨rfl, .inl ⟨rfl, rfl⟩⟩ (Nat.le_refl _) (by omega) (Lib.tabBelow_of_tabIs (by
    obtain ⟨e, fr, t1, _⟩ := ht _ (List.mem_singleton.2 rfl)
    unfold Lib.TabIs World.var?
    rw [show Tryd.prog.globalNamed _ = some 0 by kernel_rfl]
    simp only [Option.bind_some, t1]))).mono ?_
  rintro en w' ⟨v', h1, h2, h3, _⟩
  refine ⟨v', h1, ?_, h3⟩
  rw [hit] at h2
  simpa [Lib.byteCells] using h2
end Go.Proofs.YtbmjdfhkcogglaaDoor
