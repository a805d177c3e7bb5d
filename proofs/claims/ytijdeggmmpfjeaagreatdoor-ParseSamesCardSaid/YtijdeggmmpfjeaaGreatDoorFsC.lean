/- Part of the proof: FcSamesC, FcSamesD. -/
import Derived.Test.YtijdeggmmpfjeaaGreatDoorTie
import Derived.Test.YtijdeggmmpfjeaaGreatDoorCards
import Derived.ProofKit
set_option linter.unusedSimpArgs false
set_option linter.unusedVariables false
set_option linter.unusedSectionVars false
namespace Go.Proofs.YtijdeggmmpfjeaaGreatDoor
open Go.ChangeShapes Go.WideShapes Go.ChangeAt Go.RowKit
theorem fcSamesr : false = Rows.parseSamesRow.goesBy Tryz.prog := by kernel_rfl
end Go.Proofs.YtijdeggmmpfjeaaGreatDoor
namespace Go.Proofs.YtijdeggmmpfjeaaGreatDoor
open Go.ChangeShapes Go.WideShapes Go.ChangeAt Go.RowKit
theorem fcSamest : Tryz.prog.funcNamed "dripstone/dripstonelaw02.ParseSames" = some 12 := by kernel_rfl
end Go.Proofs.YtijdeggmmpfjeaaGreatDoor
