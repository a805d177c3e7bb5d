/- Part of the proof: EvScan1. -/
import Derived.Test.YtijdeggmmpfjeaaGreatDoorS3
set_option linter.unusedSimpArgs false
set_option linter.unusedVariables false
set_option linter.unusedSectionVars false
namespace Go.Am
open Go Go.Proofs Go.RowKit
set_option maxRecDepth 1000000
theorem ev_scan1 : entOk scan1 (acall Tryz.prog exts orac 400 scan1.f scan1.args ⟨.leaf, 0⟩) = true := by decide +kernel
theorem scan1_ok : CallOk Tryz.prog (entO scan1) := entO_ok (ocall_ok 400) ev_scan1
end Go.Am
