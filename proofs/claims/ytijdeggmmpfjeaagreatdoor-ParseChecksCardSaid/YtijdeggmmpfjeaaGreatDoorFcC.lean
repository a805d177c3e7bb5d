/- Part of the proof: FcChecksC, FcChecksD. -/
import Derived.Test.YtijdeggmmpfjeaaGreatDoorTie
import Derived.Test.YtijdeggmmpfjeaaGreatDoorCards
import Derived.ProofKit
set_option linter.unusedSimpArgs false
set_option linter.unusedVariables false
set_option linter.unusedSectionVars false
namespace Go.Proofs.YtijdeggmmpfjeaaGreatDoor
open Go.ChangeShapes Go.WideShapes Go.ChangeAt Go.RowKit
theorem fcChecksr : false = Rows.parseChecksRow.goesBy Tryz.prog := by kernel_rfl
end Go.Proofs.YtijdeggmmpfjeaaGreatDoor
namespace Go.Proofs.YtijdeggmmpfjeaaGreatDoor
open Go.ChangeShapes Go.WideShapes Go.ChangeAt Go.RowKit
theorem fcCheckst : Tryz.prog.funcNamed "dripstone/dripstonelaw02.ParseChecks" = some 4 := by kernel_rfl
end Go.Proofs.YtijdeggmmpfjeaaGreatDoor
