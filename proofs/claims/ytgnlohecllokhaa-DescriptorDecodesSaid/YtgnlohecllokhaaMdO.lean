/-
  The law DescriptorEncodes: the walk.
-/
import Derived.Test.YtgnlohecllokhaaMdN
namespace Go.Proofs.Ytgnlohecllokhaa
set_option linter.unusedVariables false
set_option linter.unusedSimpArgs false
abbrev dsPV (d : Ds) : List PV := [PV.v (.int .u64 d.id), PV.v (.string (bs d.name)), PV.v (.int .i64 d.dir), PV.v (.int .i64 d.dom), PV.v (.int .i64 d.lat), PV.v (.int .i64 d.drift), PV.v (.int .i64 d.jit), PV.sl 4 (bxL d.boxes)]
end Go.Proofs.Ytgnlohecllokhaa
