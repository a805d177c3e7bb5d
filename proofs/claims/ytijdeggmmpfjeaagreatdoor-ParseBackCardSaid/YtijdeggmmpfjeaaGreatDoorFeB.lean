/- Part of the proof: FcBackB. -/
import Derived.Test.YtijdeggmmpfjeaaGreatDoorTie
import Derived.Test.YtijdeggmmpfjeaaGreatDoorCards
import Derived.ProofKit
set_option linter.unusedSimpArgs false
set_option linter.unusedVariables false
set_option linter.unusedSectionVars false
namespace Go.Proofs.YtijdeggmmpfjeaaGreatDoor
open Go.ChangeShapes Go.WideShapes Go.ChangeAt Go.RowKit
theorem fcBackg : (Rows.parseBackRow.recurses == Tryz.prog.recurses 18) = true := by kernel_rfl
theorem fcBackh : (Rows.parseBackRow.named == Tryz.prog.varsNamed 18) = true := by kernel_rfl
end Go.Proofs.YtijdeggmmpfjeaaGreatDoor
