/- Part of the proof: EvAwake, AwakeAll. -/
import Derived.Test.YtijdeggmmpfjeaaGreatDoorS3
import Derived.Test.YtijdeggmmpfjeaaGreatDoorE1
import Derived.Test.YtijdeggmmpfjeaaGreatDoorE2
import Derived.Test.YtijdeggmmpfjeaaGreatDoorE3
set_option linter.unusedSimpArgs false
set_option linter.unusedVariables false
set_option linter.unusedSectionVars false
namespace Go.Am
open Go Go.Proofs Go.RowKit
set_option maxRecDepth 1000000
def scans : CallK := orO (entO scan1) (orO (entO scan2) (orO (entO scan3) orac))
theorem ev_awake : isTrue (acall Tryz.prog exts scans 400 20 [] ⟨.leaf, 0⟩) = true := by decide +kernel
end Go.Am
namespace Go.Am
open Go Go.Proofs Go.RowKit
theorem scans_ok : CallOk Tryz.prog scans := orO_ok scan1_ok (orO_ok scan2_ok (orO_ok scan3_ok orac_ok))
theorem scall_ok (fuel : Nat) : CallOk Tryz.prog (acall Tryz.prog exts scans fuel) := acallW_ok scans_ok (aexec_ok exts_ok mixed scans_ok fuel fuel (Nat.le_refl _))
theorem awake_calls (w : World) (g : Known Tryz.prog w.heap.size w) : Calls Tryz.prog 20 #[] w fun e w' => e = .returned (.bool true) ∧ Below w.heap.size w w' := by
  obtain ⟨h', e⟩ := isTrue_eq ev_awake
  refine (scall_ok 400 20 [] _ _ _ e w.heap.size w (fun _ => none) w (HRel.none w g) [] rfl).mono ?_
  rintro e w' ⟨M', c, _, rfl, hc, r⟩
  simp only [conc, Option.some.injEq] at hc
  exact ⟨by rw [← hc], r.below⟩
end Go.Am
