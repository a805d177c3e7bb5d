/- Part of the proof: FaL. -/
import Derived.Test.YtijdeggmmpfjeaaGreatDoorTie
import Derived.Test.YtijdeggmmpfjeaaGreatDoorCards
import Derived.ProofKit
set_option linter.unusedSimpArgs false
set_option linter.unusedVariables false
set_option linter.unusedSectionVars false
namespace Go.Proofs.YtijdeggmmpfjeaaGreatDoor
open Go.ChangeShapes Go.WideShapes Go.ChangeAt Go.RowKit
theorem faLifts : (Rows.parseChecksRow.lifted == Tryz.prog.liftsFinal) = true := by kernel_rfl
end Go.Proofs.YtijdeggmmpfjeaaGreatDoor
