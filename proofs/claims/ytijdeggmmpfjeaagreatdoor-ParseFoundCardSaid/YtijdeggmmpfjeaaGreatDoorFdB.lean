/- Part of the proof: FcFoundB. -/
import Derived.Test.YtijdeggmmpfjeaaGreatDoorTie
import Derived.Test.YtijdeggmmpfjeaaGreatDoorCards
import Derived.ProofKit
set_option linter.unusedSimpArgs false
set_option linter.unusedVariables false
set_option linter.unusedSectionVars false
namespace Go.Proofs.YtijdeggmmpfjeaaGreatDoor
open Go.ChangeShapes Go.WideShapes Go.ChangeAt Go.RowKit
theorem fcFoundg : (Rows.parseFoundRow.recurses == Tryz.prog.recurses 16) = true := by kernel_rfl
theorem fcFoundh : (Rows.parseFoundRow.named == Tryz.prog.varsNamed 16) = true := by kernel_rfl
end Go.Proofs.YtijdeggmmpfjeaaGreatDoor
