/- Part of the proof: FcKinsA. -/
import Derived.Test.YtijdeggmmpfjeaaGreatDoorTie
import Derived.Test.YtijdeggmmpfjeaaGreatDoorCards
import Derived.ProofKit
set_option linter.unusedSimpArgs false
set_option linter.unusedVariables false
set_option linter.unusedSectionVars false
namespace Go.Proofs.YtijdeggmmpfjeaaGreatDoor
open Go.ChangeShapes Go.WideShapes Go.ChangeAt Go.RowKit
theorem fcKinse : (Rows.parseKinsRow.inPlace == Tryz.prog.inPlace 15) = true := by kernel_rfl
theorem fcKinsf : (Rows.parseKinsRow.unfollowed == Tryz.prog.unfollowed 15) = true := by kernel_rfl
end Go.Proofs.YtijdeggmmpfjeaaGreatDoor
