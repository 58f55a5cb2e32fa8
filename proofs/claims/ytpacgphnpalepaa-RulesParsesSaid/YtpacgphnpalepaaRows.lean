/-
  No cell of these rows narrows 'for every input' (looked for: loops, veiled, ifaces, maps, wideKeys, modest, calm, conditions, laid).
  DERIVED. THE GIVEN ROWS OF THIS SEAT. 4 by the template 'for every input the law returns true; each argument reads behind the call as it read before'; 0 by the template 'total and deterministic' (their statements: YtpacgphnpalepaaTotals.lean).
  GIVEN WITH THE SEED: the statements are not yours to turn. If you find one false, say at which input.
  Laid BY PROGRAM, IN A SANDBOX (cutbox-rows.mjs): the forced cells as the released guide's own fill.sh prints them over the translation 31e32f89fe5a0e67… (all of the seat's roots in one cut). By AI agents, Wed Nov 11 2026. No macro, syntax, notation, axiom, sorry.
-/
import Derived.Test.YtpacgphnpalepaaChecked
import GoSem.Claim
import GoSem.ClaimJoined
import GoSem.ClaimMapViews
import Derived.JoinedTies
import Derived.KernelRfl
namespace Go.Proofs.Ytpacgphnpalepaa
/- THE CELL 'sum', in the pinned program and in every row, IS THE sha256 OF THE DUMP (.gsa) THAT YtpacgphnpalepaaProg.lean LOADS. Nothing in Lean hashes anything: it is a label: what it is worth is what the hold of that sum in a sandbox is worth. -/
noncomputable def Try.pinned : Pinned := { name := "ytpacgphnpalepaa", sum := "31e32f89fe5a0e67b799afe76359594f5376de2f897ecde2a33c2207019e3377", checked := Try.checked }
namespace Rows
def none {H : Type} : Left H := { results := [], args := [] }

/-- 'soundservicelaw29.RulesParses': WHATEVER THE INPUT: true; the input reads as it did. -/
def rulesParsesSpec : ChangeSpec := { name := "rulesParses", fn := fun _ => fun
  | [d1, d2] => { results := [.lit (.bool true)], args := [d1, d2] }
  | _ => none }
def rulesParsesRow : OpenClaim := { program := "ytpacgphnpalepaa", sum := "31e32f89fe5a0e67b799afe76359594f5376de2f897ecde2a33c2207019e3377", func := "soundservice/soundservicelaw29.RulesParses", spec := "rulesParses", inPlace := ["internal/bytealg.IndexByteString"], unfollowed := true, recurses := true, apart := false }
def RulesParsesSaid : Prop := rulesParsesRow.holds Try.pinned (OpenSpec.ofChange rulesParsesSpec)

/-- ITS FALSE NEIGHBOUR: 'it returns false'. Refute it at one input. -/
def rulesParsesWrong : ChangeSpec := { name := "rulesParses", fn := fun _ => fun
  | [d1, d2] => { results := [.lit (.bool false)], args := [d1, d2] }
  | _ => none }
def RulesParsesWrongFalsely : Prop := rulesParsesRow.holds Try.pinned (OpenSpec.ofChange rulesParsesWrong)

/-- 'soundservicelaw29.RulesLimits': WHATEVER THE INPUT: true; the input reads as it did. -/
def rulesLimitsSpec : ChangeSpec := { name := "rulesLimits", fn := fun _ => fun
  | [d] => { results := [.lit (.bool true)], args := [d] }
  | _ => none }
def rulesLimitsRow : OpenClaim := { program := "ytpacgphnpalepaa", sum := "31e32f89fe5a0e67b799afe76359594f5376de2f897ecde2a33c2207019e3377", func := "soundservice/soundservicelaw29.RulesLimits", spec := "rulesLimits", inPlace := ["internal/bytealg.IndexByteString"], unfollowed := true, recurses := true, apart := false }
def RulesLimitsSaid : Prop := rulesLimitsRow.holds Try.pinned (OpenSpec.ofChange rulesLimitsSpec)

/-- ITS FALSE NEIGHBOUR: 'it returns false'. Refute it at one input. -/
def rulesLimitsWrong : ChangeSpec := { name := "rulesLimits", fn := fun _ => fun
  | [d] => { results := [.lit (.bool false)], args := [d] }
  | _ => none }
def RulesLimitsWrongFalsely : Prop := rulesLimitsRow.holds Try.pinned (OpenSpec.ofChange rulesLimitsWrong)

/-- 'soundservicelaw29.RulesHolds': WHATEVER THE INPUT: true; the input reads as it did. -/
def rulesHoldsSpec : ChangeSpec := { name := "rulesHolds", fn := fun _ => fun
  | [d1, d2, d3, d4] => { results := [.lit (.bool true)], args := [d1, d2, d3, d4] }
  | _ => none }
def rulesHoldsRow : OpenClaim := { program := "ytpacgphnpalepaa", sum := "31e32f89fe5a0e67b799afe76359594f5376de2f897ecde2a33c2207019e3377", func := "soundservice/soundservicelaw29.RulesHolds", spec := "rulesHolds", inPlace := ["internal/bytealg.IndexByteString"], unfollowed := true, recurses := true, apart := false }
def RulesHoldsSaid : Prop := rulesHoldsRow.holds Try.pinned (OpenSpec.ofChange rulesHoldsSpec)

/-- ITS FALSE NEIGHBOUR: 'it returns false'. Refute it at one input. -/
def rulesHoldsWrong : ChangeSpec := { name := "rulesHolds", fn := fun _ => fun
  | [d1, d2, d3, d4] => { results := [.lit (.bool false)], args := [d1, d2, d3, d4] }
  | _ => none }
def RulesHoldsWrongFalsely : Prop := rulesHoldsRow.holds Try.pinned (OpenSpec.ofChange rulesHoldsWrong)

/-- 'soundservicelaw29.RulesLogic': WHATEVER THE INPUT: true; the input reads as it did. -/
def rulesLogicSpec : ChangeSpec := { name := "rulesLogic", fn := fun _ => fun
  | [d1, d2, d3, d4] => { results := [.lit (.bool true)], args := [d1, d2, d3, d4] }
  | _ => none }
def rulesLogicRow : OpenClaim := { program := "ytpacgphnpalepaa", sum := "31e32f89fe5a0e67b799afe76359594f5376de2f897ecde2a33c2207019e3377", func := "soundservice/soundservicelaw29.RulesLogic", spec := "rulesLogic", inPlace := ["internal/bytealg.IndexByteString"], unfollowed := true, recurses := true, apart := false }
def RulesLogicSaid : Prop := rulesLogicRow.holds Try.pinned (OpenSpec.ofChange rulesLogicSpec)

/-- ITS FALSE NEIGHBOUR: 'it returns false'. Refute it at one input. -/
def rulesLogicWrong : ChangeSpec := { name := "rulesLogic", fn := fun _ => fun
  | [d1, d2, d3, d4] => { results := [.lit (.bool false)], args := [d1, d2, d3, d4] }
  | _ => none }
def RulesLogicWrongFalsely : Prop := rulesLogicRow.holds Try.pinned (OpenSpec.ofChange rulesLogicWrong)

/- THE SECOND FORM. 'bulk': how many values and letters a reading holds, each counted each time it is reached (what is shared counts as often as it is met; a slice's spare places count too). A statement '..UptoSaid' is the law's where the arguments, and the package variables that the reading takes, are together of bulk at most 1048576: NARROWER than '..Said'. Prove '..Said' where nothing that the law and all that it calls make is longer than what came in: it says more and counts as full. Else prove '..UptoSaid'. A law counts once. -/
mutual
def uptoBulk {H : Type} : DataW H → Nat
  | .lit (.string bytes) => bytes.length + 1
  | .lit _ => 1
  | .nil => 1
  | .ptr d => uptoBulk d + 1
  | .slice elems spare => uptoBulkAll elems + uptoBulkAll spare + 1
  | .agg parts => uptoBulkAll parts + 1
  | .iface _ d => uptoBulk d + 1
  | .map entries => uptoBulkEntries entries + 1
  | .held _ => 1
def uptoBulkAll {H : Type} : List (DataW H) → Nat
  | [] => 0
  | d :: r => uptoBulk d + uptoBulkAll r
def uptoBulkEntries {H : Type} : List (Lit × DataW H) → Nat
  | [] => 0
  | x :: r => uptoBulkEntry x + uptoBulkEntries r
def uptoBulkEntry {H : Type} : Lit × DataW H → Nat
  | (.string bytes, d) => bytes.length + uptoBulk d + 1
  | (_, d) => uptoBulk d + 1
 end
def uptoSmall : (H : Type) → List (DataW H) → Bool := fun _ ds => decide (uptoBulkAll ds ≤ 1048576)
def OpenSpec.upto (s : _root_.Go.ChangeSpec) : _root_.Go.OpenSpec := { _root_.Go.OpenSpec.ofChange s with cond := some uptoSmall }

/-- 'soundservicelaw29.RulesParses', WHERE WHAT IT READS IS OF BULK AT MOST 1048576: true; the input reads as it did. -/
def rulesParsesUptoRow : OpenClaim := { program := "ytpacgphnpalepaa", sum := "31e32f89fe5a0e67b799afe76359594f5376de2f897ecde2a33c2207019e3377", func := "soundservice/soundservicelaw29.RulesParses", spec := "rulesParses", inPlace := ["internal/bytealg.IndexByteString"], unfollowed := true, recurses := true, apart := false, narrowed := true }
def RulesParsesUptoSaid : Prop := rulesParsesUptoRow.holds Try.pinned (OpenSpec.upto rulesParsesSpec)

/-- 'soundservicelaw29.RulesLimits', WHERE WHAT IT READS IS OF BULK AT MOST 1048576: true; the input reads as it did. -/
def rulesLimitsUptoRow : OpenClaim := { program := "ytpacgphnpalepaa", sum := "31e32f89fe5a0e67b799afe76359594f5376de2f897ecde2a33c2207019e3377", func := "soundservice/soundservicelaw29.RulesLimits", spec := "rulesLimits", inPlace := ["internal/bytealg.IndexByteString"], unfollowed := true, recurses := true, apart := false, narrowed := true }
def RulesLimitsUptoSaid : Prop := rulesLimitsUptoRow.holds Try.pinned (OpenSpec.upto rulesLimitsSpec)

/-- 'soundservicelaw29.RulesHolds', WHERE WHAT IT READS IS OF BULK AT MOST 1048576: true; the input reads as it did. -/
def rulesHoldsUptoRow : OpenClaim := { program := "ytpacgphnpalepaa", sum := "31e32f89fe5a0e67b799afe76359594f5376de2f897ecde2a33c2207019e3377", func := "soundservice/soundservicelaw29.RulesHolds", spec := "rulesHolds", inPlace := ["internal/bytealg.IndexByteString"], unfollowed := true, recurses := true, apart := false, narrowed := true }
def RulesHoldsUptoSaid : Prop := rulesHoldsUptoRow.holds Try.pinned (OpenSpec.upto rulesHoldsSpec)

/-- 'soundservicelaw29.RulesLogic', WHERE WHAT IT READS IS OF BULK AT MOST 1048576: true; the input reads as it did. -/
def rulesLogicUptoRow : OpenClaim := { program := "ytpacgphnpalepaa", sum := "31e32f89fe5a0e67b799afe76359594f5376de2f897ecde2a33c2207019e3377", func := "soundservice/soundservicelaw29.RulesLogic", spec := "rulesLogic", inPlace := ["internal/bytealg.IndexByteString"], unfollowed := true, recurses := true, apart := false, narrowed := true }
def RulesLogicUptoSaid : Prop := rulesLogicUptoRow.holds Try.pinned (OpenSpec.upto rulesLogicSpec)

end Rows
end Go.Proofs.Ytpacgphnpalepaa
