/- Part of the proof: WqE, WqF. -/
import Derived.Test.YtijdeggmmpfjeaaGreatDoorQ2
set_option linter.unusedSimpArgs false
set_option linter.unusedVariables false
set_option linter.unusedSectionVars false
namespace Go.Am
open Go Go.Proofs Go.RowKit Go.Pu
set_option maxRecDepth 1000000
def pzH (ns : List Nd) (l : List Int) : Heap := ⟨.node (some (.ro 50 5 (cellsN ns))) (.node (some (.ro 3 1 (cellsZ l))) .leaf .leaf) .leaf, 2⟩
end Go.Am
namespace Go.Am
open Go Go.Proofs Go.RowKit Go.Pu
set_option maxRecDepth 1000000
theorem checkR_pos {ns : List Nd} (h : checkR ns = 0) : 0 < ns.length := by
  cases ns with
  | nil =>
    have : checkR [] ≠ 0 := by decide +kernel
    exact absurd h this
  | cons x l => simp
end Go.Am
