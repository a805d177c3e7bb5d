/- Part of the proof: FcBackC, FcBackD. -/
import Derived.Test.YtijdeggmmpfjeaaGreatDoorTie
import Derived.Test.YtijdeggmmpfjeaaGreatDoorCards
import Derived.ProofKit
set_option linter.unusedSimpArgs false
set_option linter.unusedVariables false
set_option linter.unusedSectionVars false
namespace Go.Proofs.YtijdeggmmpfjeaaGreatDoor
open Go.ChangeShapes Go.WideShapes Go.ChangeAt Go.RowKit
theorem fcBackr : false = Rows.parseBackRow.goesBy Tryz.prog := by kernel_rfl
end Go.Proofs.YtijdeggmmpfjeaaGreatDoor
namespace Go.Proofs.YtijdeggmmpfjeaaGreatDoor
open Go.ChangeShapes Go.WideShapes Go.ChangeAt Go.RowKit
theorem fcBackt : Tryz.prog.funcNamed "dripstone/dripstonelaw02.ParseBack" = some 18 := by kernel_rfl
end Go.Proofs.YtijdeggmmpfjeaaGreatDoor
