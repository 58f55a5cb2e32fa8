/-
  Walks of the made descriptors: their boxes in an array of one's own; changed descriptors.
-/
import Derived.Test.YtgnlohecllokhaaMdF
namespace Go.Proofs.Ytgnlohecllokhaa
set_option linter.unusedVariables false
set_option linter.unusedSimpArgs false
abbrev dsR (d : Ds) (k : Nat) : List AV := [.v (.int .u64 d.id), .v (.string (bs d.name)), .v (.int .i64 d.dir), .v (.int .i64 d.dom), .v (.int .i64 d.lat), .v (.int .i64 d.drift), .v (.int .i64 d.jit), .row k (bxL d.boxes).length]
end Go.Proofs.Ytgnlohecllokhaa
