/- Part of the proof: FcKinsB. -/
import Derived.Test.YtijdeggmmpfjeaaGreatDoorTie
import Derived.Test.YtijdeggmmpfjeaaGreatDoorCards
import Derived.ProofKit
set_option linter.unusedSimpArgs false
set_option linter.unusedVariables false
set_option linter.unusedSectionVars false
namespace Go.Proofs.YtijdeggmmpfjeaaGreatDoor
open Go.ChangeShapes Go.WideShapes Go.ChangeAt Go.RowKit
theorem fcKinsg : (Rows.parseKinsRow.recurses == Tryz.prog.recurses 15) = true := by kernel_rfl
theorem fcKinsh : (Rows.parseKinsRow.named == Tryz.prog.varsNamed 15) = true := by kernel_rfl
end Go.Proofs.YtijdeggmmpfjeaaGreatDoor
