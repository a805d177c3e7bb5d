/- Part of the proof: FcChecksA. -/
import Derived.Test.YtijdeggmmpfjeaaGreatDoorTie
import Derived.Test.YtijdeggmmpfjeaaGreatDoorCards
import Derived.ProofKit
set_option linter.unusedSimpArgs false
set_option linter.unusedVariables false
set_option linter.unusedSectionVars false
namespace Go.Proofs.YtijdeggmmpfjeaaGreatDoor
open Go.ChangeShapes Go.WideShapes Go.ChangeAt Go.RowKit
theorem fcCheckse : (Rows.parseChecksRow.inPlace == Tryz.prog.inPlace 4) = true := by kernel_rfl
theorem fcChecksf : (Rows.parseChecksRow.unfollowed == Tryz.prog.unfollowed 4) = true := by kernel_rfl
end Go.Proofs.YtijdeggmmpfjeaaGreatDoor
