/- Part of the proof: EvAwake. -/
import Derived.Test.YtijdeggmmpfjeaaGreatDoorS3
set_option linter.unusedSimpArgs false
set_option linter.unusedVariables false
set_option linter.unusedSectionVars false
namespace Go.Am
open Go Go.Proofs Go.RowKit
set_option maxRecDepth 1000000
def scans : CallK := orO (entO scan1) (orO (entO scan2) (orO (entO scan3) orac))
theorem ev_awake : isTrue (acall Tryz.prog exts scans 400 20 [] ⟨.leaf, 0⟩) = true := by decide +kernel
end Go.Am
