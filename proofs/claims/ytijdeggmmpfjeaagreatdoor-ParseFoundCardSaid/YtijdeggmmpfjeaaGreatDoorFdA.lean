/- Part of the proof: FcFoundA. -/
import Derived.Test.YtijdeggmmpfjeaaGreatDoorTie
import Derived.Test.YtijdeggmmpfjeaaGreatDoorCards
import Derived.ProofKit
set_option linter.unusedSimpArgs false
set_option linter.unusedVariables false
set_option linter.unusedSectionVars false
namespace Go.Proofs.YtijdeggmmpfjeaaGreatDoor
open Go.ChangeShapes Go.WideShapes Go.ChangeAt Go.RowKit
theorem fcFounde : (Rows.parseFoundRow.inPlace == Tryz.prog.inPlace 16) = true := by kernel_rfl
theorem fcFoundf : (Rows.parseFoundRow.unfollowed == Tryz.prog.unfollowed 16) = true := by kernel_rfl
end Go.Proofs.YtijdeggmmpfjeaaGreatDoor
