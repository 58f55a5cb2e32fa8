/-
  No cell of these rows narrows 'for every input' (looked for: loops, veiled, ifaces, maps, wideKeys, modest, calm, conditions, laid).
  DERIVED. THE GIVEN ROWS OF THIS SEAT. 4 by the template 'for every input the law returns true; each argument reads behind the call as it read before'; 0 by the template 'total and deterministic' (their statements: YtbbcokckealagaaGreatTotals.lean).
  GIVEN WITH THE SEED: the statements are not yours to turn. If you find one false, say at which input.
  Laid BY PROGRAM, IN A SANDBOX (cutbox-rows.mjs): the forced cells as the released guide's own fill.sh prints them over the translation 8ffdeb9a7ad0d5a0… (all of the seat's roots in one cut). By AI agents, Wed Nov 11 2026. No macro, syntax, notation, axiom, sorry.
-/
import Derived.Test.YtbbcokckealagaaGreatChecked
import GoSem.Claim
import GoSem.ClaimJoined
import GoSem.ClaimMapViews
import Derived.JoinedTies
import Derived.KernelRfl
namespace Go.Proofs.YtbbcokckealagaaGreat
/- THE CELL 'sum', in the pinned program and in every row, IS THE sha256 OF THE DUMP (.gsa) THAT YtbbcokckealagaaGreatProg.lean LOADS. Nothing in Lean hashes anything: it is a label: what it is worth is what the hold of that sum in a sandbox is worth. -/
noncomputable def Tryz.pinned : Pinned := { name := "ytbbcokckealagaagreat", sum := "8ffdeb9a7ad0d5a01724bc5b708f2a75c56ab104d8682022ab74414159722c51", checked := Tryz.checked }
namespace Rows
def none {H : Type} : Left H := { results := [], args := [] }

/-- 'soundservicelaw41.SessionApplies': WHATEVER THE INPUT: true; the input reads as it did. -/
def sessionAppliesSpec : ChangeSpec := { name := "sessionApplies", fn := fun _ => fun
  | [d1, d2, d3, d4] => { results := [.lit (.bool true)], args := [d1, d2, d3, d4] }
  | _ => none }
def sessionAppliesRow : OpenClaim := { program := "ytbbcokckealagaagreat", sum := "8ffdeb9a7ad0d5a01724bc5b708f2a75c56ab104d8682022ab74414159722c51", func := "soundservice/soundservicelaw41.SessionApplies", spec := "sessionApplies", inPlace := ["internal/bytealg.IndexByteString", "slices.overlaps[soundservice/api.Kept]"], unfollowed := true, recurses := true, apart := false }
def SessionAppliesSaid : Prop := sessionAppliesRow.holds Tryz.pinned (OpenSpec.ofChange sessionAppliesSpec)

/-- ITS FALSE NEIGHBOUR: 'it returns false'. Refute it at one input. -/
def sessionAppliesWrong : ChangeSpec := { name := "sessionApplies", fn := fun _ => fun
  | [d1, d2, d3, d4] => { results := [.lit (.bool false)], args := [d1, d2, d3, d4] }
  | _ => none }
def SessionAppliesWrongFalsely : Prop := sessionAppliesRow.holds Tryz.pinned (OpenSpec.ofChange sessionAppliesWrong)

/-- 'soundservicelaw41.SessionRecords': WHATEVER THE INPUT: true; the input reads as it did. -/
def sessionRecordsSpec : ChangeSpec := { name := "sessionRecords", fn := fun _ => fun
  | [d1, d2, d3, d4] => { results := [.lit (.bool true)], args := [d1, d2, d3, d4] }
  | _ => none }
def sessionRecordsRow : OpenClaim := { program := "ytbbcokckealagaagreat", sum := "8ffdeb9a7ad0d5a01724bc5b708f2a75c56ab104d8682022ab74414159722c51", func := "soundservice/soundservicelaw41.SessionRecords", spec := "sessionRecords", inPlace := ["internal/bytealg.IndexByteString", "slices.overlaps[soundservice/api.Kept]"], unfollowed := true, recurses := true, apart := false }
def SessionRecordsSaid : Prop := sessionRecordsRow.holds Tryz.pinned (OpenSpec.ofChange sessionRecordsSpec)

/-- ITS FALSE NEIGHBOUR: 'it returns false'. Refute it at one input. -/
def sessionRecordsWrong : ChangeSpec := { name := "sessionRecords", fn := fun _ => fun
  | [d1, d2, d3, d4] => { results := [.lit (.bool false)], args := [d1, d2, d3, d4] }
  | _ => none }
def SessionRecordsWrongFalsely : Prop := sessionRecordsRow.holds Tryz.pinned (OpenSpec.ofChange sessionRecordsWrong)

/-- 'soundservicelaw41.SessionRestores': WHATEVER THE INPUT: true; the input reads as it did. -/
def sessionRestoresSpec : ChangeSpec := { name := "sessionRestores", fn := fun _ => fun
  | [d1, d2, d3] => { results := [.lit (.bool true)], args := [d1, d2, d3] }
  | _ => none }
def sessionRestoresRow : OpenClaim := { program := "ytbbcokckealagaagreat", sum := "8ffdeb9a7ad0d5a01724bc5b708f2a75c56ab104d8682022ab74414159722c51", func := "soundservice/soundservicelaw41.SessionRestores", spec := "sessionRestores", inPlace := ["internal/bytealg.IndexByteString", "slices.overlaps[soundservice/api.Kept]"], unfollowed := true, recurses := true, apart := false }
def SessionRestoresSaid : Prop := sessionRestoresRow.holds Tryz.pinned (OpenSpec.ofChange sessionRestoresSpec)

/-- ITS FALSE NEIGHBOUR: 'it returns false'. Refute it at one input. -/
def sessionRestoresWrong : ChangeSpec := { name := "sessionRestores", fn := fun _ => fun
  | [d1, d2, d3] => { results := [.lit (.bool false)], args := [d1, d2, d3] }
  | _ => none }
def SessionRestoresWrongFalsely : Prop := sessionRestoresRow.holds Tryz.pinned (OpenSpec.ofChange sessionRestoresWrong)

/-- 'soundservicelaw41.SessionCompacts': WHATEVER THE INPUT: true; the input reads as it did. -/
def sessionCompactsSpec : ChangeSpec := { name := "sessionCompacts", fn := fun _ => fun
  | [d1, d2] => { results := [.lit (.bool true)], args := [d1, d2] }
  | _ => none }
def sessionCompactsRow : OpenClaim := { program := "ytbbcokckealagaagreat", sum := "8ffdeb9a7ad0d5a01724bc5b708f2a75c56ab104d8682022ab74414159722c51", func := "soundservice/soundservicelaw41.SessionCompacts", spec := "sessionCompacts", inPlace := ["internal/bytealg.IndexByteString", "slices.overlaps[soundservice/api.Kept]"], unfollowed := true, recurses := true, apart := false }
def SessionCompactsSaid : Prop := sessionCompactsRow.holds Tryz.pinned (OpenSpec.ofChange sessionCompactsSpec)

/-- ITS FALSE NEIGHBOUR: 'it returns false'. Refute it at one input. -/
def sessionCompactsWrong : ChangeSpec := { name := "sessionCompacts", fn := fun _ => fun
  | [d1, d2] => { results := [.lit (.bool false)], args := [d1, d2] }
  | _ => none }
def SessionCompactsWrongFalsely : Prop := sessionCompactsRow.holds Tryz.pinned (OpenSpec.ofChange sessionCompactsWrong)

/- THE SECOND FORM. 'bulk': how many values and letters a reading holds, each counted each time it is reached (what is shared counts as often as it is met; a slice's spare places count too). A statement '..UptoSaid' is the law's where the arguments, and the package variables that the reading takes, are together of bulk at most 1048576: NARROWER than '..Said'. Prove '..Said' where nothing that the law and all that it calls make is longer than what came in: it says more and counts as full. Else prove '..UptoSaid'. A law counts once. -/
mutual
def uptoBulk {H : Type} : DataW H → Nat
  | .lit (.string bytes) => bytes.length + 1
  | .lit _ => 1
  | .nil => 1
  | .ptr d => uptoBulk d + 1
  | .slice elems spare => uptoBulkAll elems + uptoBulkAll spare + 1
  | .agg parts => uptoBulkAll parts + 1
  | .iface _ d => uptoBulk d + 1
  | .map entries => uptoBulkEntries entries + 1
  | .held _ => 1
def uptoBulkAll {H : Type} : List (DataW H) → Nat
  | [] => 0
  | d :: r => uptoBulk d + uptoBulkAll r
def uptoBulkEntries {H : Type} : List (Lit × DataW H) → Nat
  | [] => 0
  | x :: r => uptoBulkEntry x + uptoBulkEntries r
def uptoBulkEntry {H : Type} : Lit × DataW H → Nat
  | (.string bytes, d) => bytes.length + uptoBulk d + 1
  | (_, d) => uptoBulk d + 1
 end
def uptoSmall : (H : Type) → List (DataW H) → Bool := fun _ ds => decide (uptoBulkAll ds ≤ 1048576)
def OpenSpec.upto (s : _root_.Go.ChangeSpec) : _root_.Go.OpenSpec := { _root_.Go.OpenSpec.ofChange s with cond := some uptoSmall }

/-- 'soundservicelaw41.SessionApplies', WHERE WHAT IT READS IS OF BULK AT MOST 1048576: true; the input reads as it did. -/
def sessionAppliesUptoRow : OpenClaim := { program := "ytbbcokckealagaagreat", sum := "8ffdeb9a7ad0d5a01724bc5b708f2a75c56ab104d8682022ab74414159722c51", func := "soundservice/soundservicelaw41.SessionApplies", spec := "sessionApplies", inPlace := ["internal/bytealg.IndexByteString", "slices.overlaps[soundservice/api.Kept]"], unfollowed := true, recurses := true, apart := false, narrowed := true }
def SessionAppliesUptoSaid : Prop := sessionAppliesUptoRow.holds Tryz.pinned (OpenSpec.upto sessionAppliesSpec)

/-- 'soundservicelaw41.SessionRecords', WHERE WHAT IT READS IS OF BULK AT MOST 1048576: true; the input reads as it did. -/
def sessionRecordsUptoRow : OpenClaim := { program := "ytbbcokckealagaagreat", sum := "8ffdeb9a7ad0d5a01724bc5b708f2a75c56ab104d8682022ab74414159722c51", func := "soundservice/soundservicelaw41.SessionRecords", spec := "sessionRecords", inPlace := ["internal/bytealg.IndexByteString", "slices.overlaps[soundservice/api.Kept]"], unfollowed := true, recurses := true, apart := false, narrowed := true }
def SessionRecordsUptoSaid : Prop := sessionRecordsUptoRow.holds Tryz.pinned (OpenSpec.upto sessionRecordsSpec)

/-- 'soundservicelaw41.SessionRestores', WHERE WHAT IT READS IS OF BULK AT MOST 1048576: true; the input reads as it did. -/
def sessionRestoresUptoRow : OpenClaim := { program := "ytbbcokckealagaagreat", sum := "8ffdeb9a7ad0d5a01724bc5b708f2a75c56ab104d8682022ab74414159722c51", func := "soundservice/soundservicelaw41.SessionRestores", spec := "sessionRestores", inPlace := ["internal/bytealg.IndexByteString", "slices.overlaps[soundservice/api.Kept]"], unfollowed := true, recurses := true, apart := false, narrowed := true }
def SessionRestoresUptoSaid : Prop := sessionRestoresUptoRow.holds Tryz.pinned (OpenSpec.upto sessionRestoresSpec)

/-- 'soundservicelaw41.SessionCompacts', WHERE WHAT IT READS IS OF BULK AT MOST 1048576: true; the input reads as it did. -/
def sessionCompactsUptoRow : OpenClaim := { program := "ytbbcokckealagaagreat", sum := "8ffdeb9a7ad0d5a01724bc5b708f2a75c56ab104d8682022ab74414159722c51", func := "soundservice/soundservicelaw41.SessionCompacts", spec := "sessionCompacts", inPlace := ["internal/bytealg.IndexByteString", "slices.overlaps[soundservice/api.Kept]"], unfollowed := true, recurses := true, apart := false, narrowed := true }
def SessionCompactsUptoSaid : Prop := sessionCompactsUptoRow.holds Tryz.pinned (OpenSpec.upto sessionCompactsSpec)

end Rows
end Go.Proofs.YtbbcokckealagaaGreat
