/- Part of the proof: FcKinsC, FcKinsD. -/
import Derived.Test.YtijdeggmmpfjeaaGreatDoorTie
import Derived.Test.YtijdeggmmpfjeaaGreatDoorCards
import Derived.ProofKit
set_option linter.unusedSimpArgs false
set_option linter.unusedVariables false
set_option linter.unusedSectionVars false
namespace Go.Proofs.YtijdeggmmpfjeaaGreatDoor
open Go.ChangeShapes Go.WideShapes Go.ChangeAt Go.RowKit
theorem fcKinsr : false = Rows.parseKinsRow.goesBy Tryz.prog := by kernel_rfl
end Go.Proofs.YtijdeggmmpfjeaaGreatDoor
namespace Go.Proofs.YtijdeggmmpfjeaaGreatDoor
open Go.ChangeShapes Go.WideShapes Go.ChangeAt Go.RowKit
theorem fcKinst : Tryz.prog.funcNamed "dripstone/dripstonelaw02.ParseKins" = some 15 := by kernel_rfl
end Go.Proofs.YtijdeggmmpfjeaaGreatDoor
