/-
  The law PlugComes at arguments of the statement's shapes.
-/
import Derived.Test.YtjagechljibdjaaPlugL
import Derived.Test.YtjagechljibdjaaASh
namespace Go.Proofs.Ytjagechljibdjaa
theorem sg_of : ∀ (xs : List (List PV)), (∀ x ∈ xs, (Sh.st [.int .u64, .int .i64]).fits x) → ∃ l : List (Int × Int), xs = sgs l := by
  intro xs
  induction xs with
  | nil => intro _; exact ⟨[], rfl⟩
  | cons x xs ih =>
    intro h
    obtain ⟨l, rfl⟩ := ih (fun y hy => h y (List.mem_cons_of_mem _ hy))
    obtain ⟨a, b, rfl, ⟨n, rfl, hn⟩, c, d, rfl, ⟨m, rfl, hm⟩, hd⟩ := h x (by simp)
    obtain rfl : d = [] := hd
    exact ⟨(n, m) :: l, rfl⟩
theorem PlugComes_x (x0 : List (List PV)) (w0 : x0.length ≤ maxLen) (e0 : ∀ x ∈ x0, (Sh.int .i64).fits x) (p1 : List PV) (f1 : (Sh.st [.int .i64, .sl (.st [.int .u64, .int .i64])]).fits p1) (n2 n3 n4 : Int) (w2 : (Lit.int .u64 n2).wf = true) (w4 : (Lit.int .i64 n4).wf = true) :
    ACalls Try.prog 5 (Sh.avs [(.sl (.int .i64)), (.st [(.int .i64), (.sl (.st [(.int .u64), (.int .i64)]))]), (.int .u64), (.int .i64), (.int .i64)] [[.sl 1 x0], p1, [.v (.int .u64 n2)], [.v (.int .i64 n3)], [.v (.int .i64 n4)]]) [] (.v (.bool true)) [] := by
  obtain ⟨ls, rfl, hl⟩ := ints_of _ x0 e0
  obtain ⟨a, b, rfl, ⟨st, rfl, hn⟩, c, d, rfl, ⟨xs, rfl, wx, ex⟩, hd⟩ := f1
  obtain rfl : d = [] := hd
  obtain ⟨l, rfl⟩ := sg_of xs ex
  have hF : Fits ls := ⟨by simpa [maxLen] using w0, fun n hn => wfi64 (hl n hn)⟩
  exact PlugComes_c ls _ hF st l _ (by simpa [maxLen] using wx) n2 n3 n4 (wfu64 w2) (wfi64 w4)
end Go.Proofs.Ytjagechljibdjaa
