/-
  No cell of these rows narrows 'for every input' (looked for: loops, veiled, ifaces, maps, wideKeys, modest, calm, conditions, laid).
  DERIVED. THE GIVEN ROWS OF THIS SEAT. 4 by the template 'for every input the law returns true; each argument reads behind the call as it read before'; 0 by the template 'total and deterministic' (their statements: YtjagechljibdjaaTotals.lean).
  GIVEN WITH THE SEED: the statements are not yours to turn. If you find one false, say at which input.
  Laid BY PROGRAM, IN A SANDBOX (cutbox-rows.mjs): the forced cells as the released guide's own fill.sh prints them over the translation d49f9eda55e244a6… (all of the seat's roots in one cut). By AI agents, Wed Nov 11 2026. No macro, syntax, notation, axiom, sorry.
-/
import Derived.Test.YtjagechljibdjaaChecked
import GoSem.Claim
import GoSem.ClaimJoined
import GoSem.ClaimMapViews
import Derived.JoinedTies
import Derived.KernelRfl
namespace Go.Proofs.Ytjagechljibdjaa
/- THE CELL 'sum', in the pinned program and in every row, IS THE sha256 OF THE DUMP (.gsa) THAT YtjagechljibdjaaProg.lean LOADS. Nothing in Lean hashes anything: it is a label: what it is worth is what the hold of that sum in a sandbox is worth. -/
noncomputable def Try.pinned : Pinned := { name := "ytjagechljibdjaa", sum := "d49f9eda55e244a6b46c31b1e70cf2bd5118cfb56116789752d643dc3e7ae7dc", checked := Try.checked }
namespace Rows
def none {H : Type} : Left H := { results := [], args := [] }

/-- 'soundservicelaw33.PlugMoves': WHATEVER THE INPUT: true; the input reads as it did. -/
def plugMovesSpec : ChangeSpec := { name := "plugMoves", fn := fun _ => fun
  | [d1, d2, d3, d4, d5, d6] => { results := [.lit (.bool true)], args := [d1, d2, d3, d4, d5, d6] }
  | _ => none }
def plugMovesRow : OpenClaim := { program := "ytjagechljibdjaa", sum := "d49f9eda55e244a6b46c31b1e70cf2bd5118cfb56116789752d643dc3e7ae7dc", func := "soundservice/soundservicelaw33.PlugMoves", spec := "plugMoves", inPlace := ["slices.overlaps[soundservice/api.Sighting]"], unfollowed := true, recurses := true, apart := false }
def PlugMovesSaid : Prop := plugMovesRow.holds Try.pinned (OpenSpec.ofChange plugMovesSpec)

/-- ITS FALSE NEIGHBOUR: 'it returns false'. Refute it at one input. -/
def plugMovesWrong : ChangeSpec := { name := "plugMoves", fn := fun _ => fun
  | [d1, d2, d3, d4, d5, d6] => { results := [.lit (.bool false)], args := [d1, d2, d3, d4, d5, d6] }
  | _ => none }
def PlugMovesWrongFalsely : Prop := plugMovesRow.holds Try.pinned (OpenSpec.ofChange plugMovesWrong)

/-- 'soundservicelaw33.PlugFades': WHATEVER THE INPUT: true; the input reads as it did. -/
def plugFadesSpec : ChangeSpec := { name := "plugFades", fn := fun _ => fun
  | [d1, d2, d3, d4] => { results := [.lit (.bool true)], args := [d1, d2, d3, d4] }
  | _ => none }
def plugFadesRow : OpenClaim := { program := "ytjagechljibdjaa", sum := "d49f9eda55e244a6b46c31b1e70cf2bd5118cfb56116789752d643dc3e7ae7dc", func := "soundservice/soundservicelaw33.PlugFades", spec := "plugFades", inPlace := ["slices.overlaps[soundservice/api.Sighting]"], unfollowed := true, recurses := true, apart := false }
def PlugFadesSaid : Prop := plugFadesRow.holds Try.pinned (OpenSpec.ofChange plugFadesSpec)

/-- ITS FALSE NEIGHBOUR: 'it returns false'. Refute it at one input. -/
def plugFadesWrong : ChangeSpec := { name := "plugFades", fn := fun _ => fun
  | [d1, d2, d3, d4] => { results := [.lit (.bool false)], args := [d1, d2, d3, d4] }
  | _ => none }
def PlugFadesWrongFalsely : Prop := plugFadesRow.holds Try.pinned (OpenSpec.ofChange plugFadesWrong)

/-- 'soundservicelaw33.PlugComes': WHATEVER THE INPUT: true; the input reads as it did. -/
def plugComesSpec : ChangeSpec := { name := "plugComes", fn := fun _ => fun
  | [d1, d2, d3, d4, d5] => { results := [.lit (.bool true)], args := [d1, d2, d3, d4, d5] }
  | _ => none }
def plugComesRow : OpenClaim := { program := "ytjagechljibdjaa", sum := "d49f9eda55e244a6b46c31b1e70cf2bd5118cfb56116789752d643dc3e7ae7dc", func := "soundservice/soundservicelaw33.PlugComes", spec := "plugComes", inPlace := ["slices.overlaps[soundservice/api.Sighting]"], unfollowed := true, recurses := true, apart := false }
def PlugComesSaid : Prop := plugComesRow.holds Try.pinned (OpenSpec.ofChange plugComesSpec)

/-- ITS FALSE NEIGHBOUR: 'it returns false'. Refute it at one input. -/
def plugComesWrong : ChangeSpec := { name := "plugComes", fn := fun _ => fun
  | [d1, d2, d3, d4, d5] => { results := [.lit (.bool false)], args := [d1, d2, d3, d4, d5] }
  | _ => none }
def PlugComesWrongFalsely : Prop := plugComesRow.holds Try.pinned (OpenSpec.ofChange plugComesWrong)

/-- 'soundservicelaw33.PlugSettles': WHATEVER THE INPUT: true; the input reads as it did. -/
def plugSettlesSpec : ChangeSpec := { name := "plugSettles", fn := fun _ => fun
  | [d1, d2, d3, d4] => { results := [.lit (.bool true)], args := [d1, d2, d3, d4] }
  | _ => none }
def plugSettlesRow : OpenClaim := { program := "ytjagechljibdjaa", sum := "d49f9eda55e244a6b46c31b1e70cf2bd5118cfb56116789752d643dc3e7ae7dc", func := "soundservice/soundservicelaw33.PlugSettles", spec := "plugSettles", inPlace := ["slices.overlaps[soundservice/api.Sighting]"], unfollowed := true, recurses := true, apart := false }
def PlugSettlesSaid : Prop := plugSettlesRow.holds Try.pinned (OpenSpec.ofChange plugSettlesSpec)

/-- ITS FALSE NEIGHBOUR: 'it returns false'. Refute it at one input. -/
def plugSettlesWrong : ChangeSpec := { name := "plugSettles", fn := fun _ => fun
  | [d1, d2, d3, d4] => { results := [.lit (.bool false)], args := [d1, d2, d3, d4] }
  | _ => none }
def PlugSettlesWrongFalsely : Prop := plugSettlesRow.holds Try.pinned (OpenSpec.ofChange plugSettlesWrong)

/- THE SECOND FORM. 'bulk': how many values and letters a reading holds, each counted each time it is reached (what is shared counts as often as it is met; a slice's spare places count too). A statement '..UptoSaid' is the law's where the arguments, and the package variables that the reading takes, are together of bulk at most 1048576: NARROWER than '..Said'. Prove '..Said' where nothing that the law and all that it calls make is longer than what came in: it says more and counts as full. Else prove '..UptoSaid'. A law counts once. -/
mutual
def uptoBulk {H : Type} : DataW H → Nat
  | .lit (.string bytes) => bytes.length + 1
  | .lit _ => 1
  | .nil => 1
  | .ptr d => uptoBulk d + 1
  | .slice elems spare => uptoBulkAll elems + uptoBulkAll spare + 1
  | .agg parts => uptoBulkAll parts + 1
  | .iface _ d => uptoBulk d + 1
  | .map entries => uptoBulkEntries entries + 1
  | .held _ => 1
def uptoBulkAll {H : Type} : List (DataW H) → Nat
  | [] => 0
  | d :: r => uptoBulk d + uptoBulkAll r
def uptoBulkEntries {H : Type} : List (Lit × DataW H) → Nat
  | [] => 0
  | x :: r => uptoBulkEntry x + uptoBulkEntries r
def uptoBulkEntry {H : Type} : Lit × DataW H → Nat
  | (.string bytes, d) => bytes.length + uptoBulk d + 1
  | (_, d) => uptoBulk d + 1
 end
def uptoSmall : (H : Type) → List (DataW H) → Bool := fun _ ds => decide (uptoBulkAll ds ≤ 1048576)
def OpenSpec.upto (s : _root_.Go.ChangeSpec) : _root_.Go.OpenSpec := { _root_.Go.OpenSpec.ofChange s with cond := some uptoSmall }

/-- 'soundservicelaw33.PlugMoves', WHERE WHAT IT READS IS OF BULK AT MOST 1048576: true; the input reads as it did. -/
def plugMovesUptoRow : OpenClaim := { program := "ytjagechljibdjaa", sum := "d49f9eda55e244a6b46c31b1e70cf2bd5118cfb56116789752d643dc3e7ae7dc", func := "soundservice/soundservicelaw33.PlugMoves", spec := "plugMoves", inPlace := ["slices.overlaps[soundservice/api.Sighting]"], unfollowed := true, recurses := true, apart := false, narrowed := true }
def PlugMovesUptoSaid : Prop := plugMovesUptoRow.holds Try.pinned (OpenSpec.upto plugMovesSpec)

/-- 'soundservicelaw33.PlugFades', WHERE WHAT IT READS IS OF BULK AT MOST 1048576: true; the input reads as it did. -/
def plugFadesUptoRow : OpenClaim := { program := "ytjagechljibdjaa", sum := "d49f9eda55e244a6b46c31b1e70cf2bd5118cfb56116789752d643dc3e7ae7dc", func := "soundservice/soundservicelaw33.PlugFades", spec := "plugFades", inPlace := ["slices.overlaps[soundservice/api.Sighting]"], unfollowed := true, recurses := true, apart := false, narrowed := true }
def PlugFadesUptoSaid : Prop := plugFadesUptoRow.holds Try.pinned (OpenSpec.upto plugFadesSpec)

/-- 'soundservicelaw33.PlugComes', WHERE WHAT IT READS IS OF BULK AT MOST 1048576: true; the input reads as it did. -/
def plugComesUptoRow : OpenClaim := { program := "ytjagechljibdjaa", sum := "d49f9eda55e244a6b46c31b1e70cf2bd5118cfb56116789752d643dc3e7ae7dc", func := "soundservice/soundservicelaw33.PlugComes", spec := "plugComes", inPlace := ["slices.overlaps[soundservice/api.Sighting]"], unfollowed := true, recurses := true, apart := false, narrowed := true }
def PlugComesUptoSaid : Prop := plugComesUptoRow.holds Try.pinned (OpenSpec.upto plugComesSpec)

/-- 'soundservicelaw33.PlugSettles', WHERE WHAT IT READS IS OF BULK AT MOST 1048576: true; the input reads as it did. -/
def plugSettlesUptoRow : OpenClaim := { program := "ytjagechljibdjaa", sum := "d49f9eda55e244a6b46c31b1e70cf2bd5118cfb56116789752d643dc3e7ae7dc", func := "soundservice/soundservicelaw33.PlugSettles", spec := "plugSettles", inPlace := ["slices.overlaps[soundservice/api.Sighting]"], unfollowed := true, recurses := true, apart := false, narrowed := true }
def PlugSettlesUptoSaid : Prop := plugSettlesUptoRow.holds Try.pinned (OpenSpec.upto plugSettlesSpec)

end Rows
end Go.Proofs.Ytjagechljibdjaa
