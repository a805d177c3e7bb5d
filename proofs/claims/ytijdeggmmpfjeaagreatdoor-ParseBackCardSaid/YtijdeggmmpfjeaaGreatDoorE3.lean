/- Part of the proof: EvScan3. -/
import Derived.Test.YtijdeggmmpfjeaaGreatDoorS3
set_option linter.unusedSimpArgs false
set_option linter.unusedVariables false
set_option linter.unusedSectionVars false
namespace Go.Am
open Go Go.Proofs Go.RowKit
set_option maxRecDepth 1000000
theorem ev_scan3 : entOk scan3 (acall Tryz.prog exts orac 400 scan3.f scan3.args ⟨.leaf, 0⟩) = true := by decide +kernel
theorem scan3_ok : CallOk Tryz.prog (entO scan3) := entO_ok (ocall_ok 400) ev_scan3
end Go.Am
