/- Part of the proof: FcFoundC, FcFoundD. -/
import Derived.Test.YtijdeggmmpfjeaaGreatDoorTie
import Derived.Test.YtijdeggmmpfjeaaGreatDoorCards
import Derived.ProofKit
set_option linter.unusedSimpArgs false
set_option linter.unusedVariables false
set_option linter.unusedSectionVars false
namespace Go.Proofs.YtijdeggmmpfjeaaGreatDoor
open Go.ChangeShapes Go.WideShapes Go.ChangeAt Go.RowKit
theorem fcFoundr : false = Rows.parseFoundRow.goesBy Tryz.prog := by kernel_rfl
end Go.Proofs.YtijdeggmmpfjeaaGreatDoor
namespace Go.Proofs.YtijdeggmmpfjeaaGreatDoor
open Go.ChangeShapes Go.WideShapes Go.ChangeAt Go.RowKit
theorem fcFoundt : Tryz.prog.funcNamed "dripstone/dripstonelaw02.ParseFound" = some 16 := by kernel_rfl
end Go.Proofs.YtijdeggmmpfjeaaGreatDoor
