/- Part of the proof: FcChecksB. -/
import Derived.Test.YtijdeggmmpfjeaaGreatDoorTie
import Derived.Test.YtijdeggmmpfjeaaGreatDoorCards
import Derived.ProofKit
set_option linter.unusedSimpArgs false
set_option linter.unusedVariables false
set_option linter.unusedSectionVars false
namespace Go.Proofs.YtijdeggmmpfjeaaGreatDoor
open Go.ChangeShapes Go.WideShapes Go.ChangeAt Go.RowKit
theorem fcChecksg : (Rows.parseChecksRow.recurses == Tryz.prog.recurses 4) = true := by kernel_rfl
theorem fcChecksh : (Rows.parseChecksRow.named == Tryz.prog.varsNamed 4) = true := by kernel_rfl
end Go.Proofs.YtijdeggmmpfjeaaGreatDoor
