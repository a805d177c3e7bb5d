/- Part of the proof: FcBackA. -/
import Derived.Test.YtijdeggmmpfjeaaGreatDoorTie
import Derived.Test.YtijdeggmmpfjeaaGreatDoorCards
import Derived.ProofKit
set_option linter.unusedSimpArgs false
set_option linter.unusedVariables false
set_option linter.unusedSectionVars false
namespace Go.Proofs.YtijdeggmmpfjeaaGreatDoor
open Go.ChangeShapes Go.WideShapes Go.ChangeAt Go.RowKit
theorem fcBacke : (Rows.parseBackRow.inPlace == Tryz.prog.inPlace 18) = true := by kernel_rfl
theorem fcBackf : (Rows.parseBackRow.unfollowed == Tryz.prog.unfollowed 18) = true := by kernel_rfl
end Go.Proofs.YtijdeggmmpfjeaaGreatDoor
