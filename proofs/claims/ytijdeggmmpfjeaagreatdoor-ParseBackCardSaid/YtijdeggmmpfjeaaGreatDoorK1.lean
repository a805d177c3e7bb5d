/- Part of the proof: WmG. -/
import Derived.Test.YtijdeggmmpfjeaaGreatDoorW1
import Derived.Test.YtijdeggmmpfjeaaGreatDoorTie
import Derived.Test.YtijdeggmmpfjeaaGreatDoorCards
import Derived.ProofKit
set_option linter.unusedSimpArgs false
set_option linter.unusedVariables false
set_option linter.unusedSectionVars false
namespace Go.Proofs.YtijdeggmmpfjeaaGreatDoor
open Go.RowKit Go.Lib Go.ChangeShapes Go.WideShapes Go.ChangeAt Go.Am
theorem known (W : World) (hL : laidMet Tryz.prog Rows.parseChecksRow.laid W) : Known Tryz.prog W.heap.size W := by
  refine known_of (var_iface (g := 2) (t := 142) (by kernel_rfl) (by kernel_rfl) Tryz.underlying142 (Lib.laidMet.reads hL (d := Rows.laid_strconv_ErrRange) ?_)) (var_iface (g := 1) (t := 142) (by kernel_rfl) (by kernel_rfl) Tryz.underlying142 (Lib.laidMet.reads hL (d := Rows.laid_strconv_ErrSyntax) ?_))
    (var_tab (g := 5) (t := 258) (e := 239) (m := 20) (by kernel_rfl) (by kernel_rfl) (by kernel_rfl) (by kernel_rfl) (by kernel_rfl) (by kernel_rfl) (Lib.laidMet.reads hL (d := Lib.tabData .u64 Lib.pow10Tab) ?_))
  · exact .tail _ (.tail _ (.tail _ (.tail _ (.head _))))
  · exact .tail _ (.tail _ (.tail _ (.tail _ (.tail _ (.head _)))))
  · exact .tail _ (.tail _ (.head _))
end Go.Proofs.YtijdeggmmpfjeaaGreatDoor
