/- Part of the proof: FcSamesB. -/
import Derived.Test.YtijdeggmmpfjeaaGreatDoorTie
import Derived.Test.YtijdeggmmpfjeaaGreatDoorCards
import Derived.ProofKit
set_option linter.unusedSimpArgs false
set_option linter.unusedVariables false
set_option linter.unusedSectionVars false
namespace Go.Proofs.YtijdeggmmpfjeaaGreatDoor
open Go.ChangeShapes Go.WideShapes Go.ChangeAt Go.RowKit
theorem fcSamesg : (Rows.parseSamesRow.recurses == Tryz.prog.recurses 12) = true := by kernel_rfl
theorem fcSamesh : (Rows.parseSamesRow.named == Tryz.prog.varsNamed 12) = true := by kernel_rfl
end Go.Proofs.YtijdeggmmpfjeaaGreatDoor
