/- Part of the proof: EvScan2. -/
import Derived.Test.YtijdeggmmpfjeaaGreatDoorS3
set_option linter.unusedSimpArgs false
set_option linter.unusedVariables false
set_option linter.unusedSectionVars false
namespace Go.Am
open Go Go.Proofs Go.RowKit
set_option maxRecDepth 1000000
theorem ev_scan2 : entOk scan2 (acall Tryz.prog exts orac 400 scan2.f scan2.args ⟨.leaf, 0⟩) = true := by decide +kernel
theorem scan2_ok : CallOk Tryz.prog (entO scan2) := entO_ok (ocall_ok 400) ev_scan2
end Go.Am
