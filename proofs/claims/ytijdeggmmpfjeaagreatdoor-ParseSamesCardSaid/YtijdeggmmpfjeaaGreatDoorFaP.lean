/- Part of the proof: FaP. -/
import Derived.Test.YtijdeggmmpfjeaaGreatDoorTie
import Derived.Test.YtijdeggmmpfjeaaGreatDoorCards
import Derived.ProofKit
set_option linter.unusedSimpArgs false
set_option linter.unusedVariables false
set_option linter.unusedSectionVars false
namespace Go.Proofs.YtijdeggmmpfjeaaGreatDoor
open Go.ChangeShapes Go.WideShapes Go.ChangeAt Go.RowKit
theorem ownTryz : ownKnob Tryz.prog.godebug = none := by kernel_rfl
theorem laidOutTryz : laidOutB Tryz.prog = true := by kernel_rfl
theorem faRowed : mapsRowed Tryz.prog = true := by kernel_rfl
theorem faHeard : Tryz.prog.stopsHeard = true := by kernel_rfl
theorem faLooks : true = Tryz.prog.looks [] := by kernel_rfl
theorem faKeys : (Rows.parseChecksRow.plainKeys == Tryz.prog.plainKeys) = true := by kernel_rfl
end Go.Proofs.YtijdeggmmpfjeaaGreatDoor
