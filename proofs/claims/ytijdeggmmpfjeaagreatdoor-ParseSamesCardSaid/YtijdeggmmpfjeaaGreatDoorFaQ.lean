/- Part of the proof: FaQ. -/
import Derived.Test.YtijdeggmmpfjeaaGreatDoorTie
import Derived.Test.YtijdeggmmpfjeaaGreatDoorCards
import Derived.ProofKit
set_option linter.unusedSimpArgs false
set_option linter.unusedVariables false
set_option linter.unusedSectionVars false
namespace Go.Proofs.YtijdeggmmpfjeaaGreatDoor
open Go.ChangeShapes Go.WideShapes Go.ChangeAt Go.RowKit
theorem faMain : Tryz.prog.mainIs = some (true, "efc997d672f5e45236f5179d2a8d5949e5cbff75aa412c2b25375e5c75de86a5".toList) := by kernel_rfl
end Go.Proofs.YtijdeggmmpfjeaaGreatDoor
