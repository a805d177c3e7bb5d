/- ParseChecks: for every tree the call returns true, and the tree reads afterwards as it read before. Conditions: the row lists package-level variables of the library (strconv.ErrRange, strconv.ErrSyntax, the tables) with what the program text lays; the card ties them. -/
import Derived.Test.YtijdeggmmpfjeaaGreatDoorC1
import Derived.Test.YtijdeggmmpfjeaaGreatDoorFaK
import Derived.Test.YtijdeggmmpfjeaaGreatDoorFaL
import Derived.Test.YtijdeggmmpfjeaaGreatDoorFaM
import Derived.Test.YtijdeggmmpfjeaaGreatDoorFaQ
import Derived.Test.YtijdeggmmpfjeaaGreatDoorFaP
import Derived.Test.YtijdeggmmpfjeaaGreatDoorFcA
import Derived.Test.YtijdeggmmpfjeaaGreatDoorFcB
import Derived.Test.YtijdeggmmpfjeaaGreatDoorFcC
import Derived.Test.YtijdeggmmpfjeaaGreatDoorTie
import Derived.Test.YtijdeggmmpfjeaaGreatDoorCards
import Derived.WalkKit
import Derived.ProofKit
import Derived.Carry
import Derived.PinnedBridge
import Derived.Lay
import Derived.LaidOnce
import Derived.SevenTiedAt
set_option linter.unusedSimpArgs false
set_option linter.unusedVariables false
set_option linter.unusedSectionVars false
namespace Go.Proofs.YtijdeggmmpfjeaaGreatDoor
open Go.RowKit Go.Shelf Go.Lib Go.ChangeShapes Go.WideShapes Go.ChangeAt Go.Am
theorem known (W : World) (hL : laidMet Tryz.prog Rows.parseChecksRow.laid W) : Known Tryz.prog W.heap.size W := by
  refine known_of (var_iface (g := 2) (t := 142) (by kernel_rfl) (by kernel_rfl) Tryz.underlying142 (Lib.laidMet.reads hL (d := Rows.laid_strconv_ErrRange) ?_)) (var_iface (g := 1) (t := 142) (by kernel_rfl) (by kernel_rfl) Tryz.underlying142 (Lib.laidMet.reads hL (d := Rows.laid_strconv_ErrSyntax) ?_))
    (var_tab (g := 5) (t := 258) (e := 239) (m := 20) (by kernel_rfl) (by kernel_rfl) (by kernel_rfl) (by kernel_rfl) (by kernel_rfl) (by kernel_rfl) (Lib.laidMet.reads hL (d := Lib.tabData .u64 Lib.pow10Tab) ?_))
  · exact .tail _ (.tail _ (.tail _ (.tail _ (.head _))))
  · exact .tail _ (.tail _ (.tail _ (.tail _ (.tail _ (.head _)))))
  · exact .tail _ (.tail _ (.head _))
set_option maxRecDepth 100000
theorem checks_lifted (os : Os) (started : os.Started) (H : Type) (enc : TypeId × Value → H) :
    ReturnsInHanded {} Tryz.checked os 4 .any (fun w args => (Rows.parseChecksSpec.pre enc Tryz.prog Tryz.f4 [] false w args ∧ laidMetH Tryz.prog Rows.parseChecksRow.laid w) ∧ sizedMet enc Tryz.prog Tryz.f4 (OpenSpec.ofChange Rows.parseChecksSpec) false w args)
      (Rows.parseChecksSpec.post enc Tryz.prog Tryz.f4 false true false false) := by
  refine returnsInHanded_of_change_and (C := Tryz.checked) (X := fun w _ => laidMetH Tryz.prog Rows.parseChecksRow.laid w) (fun _ _ _ hh h => h.of_heap hh) ownTryz started (by kernel_rfl) Tryz.func4
    (ChangeSpec.witness_shaped (enc := enc) (C := Tryz.checked) (os := os) (X := fun w _ => laidMetH Tryz.prog Rows.parseChecksRow.laid w) false (World.laidAll Tryz.prog os Rows.parseChecksRow.laid) #[.agg #[.slice none 0 0]] 8 (World.laidAll_os _ _ _)
      (World.shaped_of_ZipB (by kernel_rfl) (by kernel_rfl)) (by kernel_rfl) (by kernel_rfl) (by kernel_rfl)
      (by rw [MakeChecks.laidMetH_plain _ _ _ (by kernel_rfl)]; exact laidMet_laidAll _ (by kernel_rfl) (by kernel_rfl))) ?_
  intro W base args ds gs before hval0 hW _ _ hL _
  have hval : ∀ (j : Nat) t v, Tryz.f4.params[j]? = some t → args[j]? = some v → Value.okWide Tryz.prog W .any base t v := hval0
  have hW' := hW
  obtain ⟨p, q, hA0, hV, rfl, _, _⟩ := hW
  have hA : DataW.TrodAll enc Tryz.prog W 0 (fun _ => true) true Tryz.f4.params.toList args.toList ds p := hA0
  rw [Tryz.params4] at hA hval
  obtain ⟨v0, d0, rfl, rfl, h0⟩ := trodAll_one hA
  obtain ⟨rfl, rfl⟩ := trodVars_none hV
  simp only [List.append_nil] at hW'
  rw [MakeChecks.laidMetH_plain _ _ _ (by kernel_rfl)] at hL
  have hlt : ∀ x ∈ p, x.block < W.heap.size := fun x hx => by simpa using hW'.lt x hx
  obtain ⟨c, rfl, hc⟩ := tree_arg (hval 0 26 v0 rfl rfl) h0
  refine (calls4 W (known W hL) c hc).mono fun e W' ⟨he, hb⟩ => ?_
  subst he
  exact ⟨_, rfl, _, _, _, [], _, [], hW', trodAll_mk1 (shut_bool Tryz.underlying4 _), trodAll_mk1 (Below.trod laidOutTryz (by kernel_rfl) (of_decide_eq_true (by kernel_rfl)) h0 hb hlt), rfl, hb.frame _, fun h => by cases h⟩
theorem checks_facts : joinedFacts Tryz.prog 4 Tryz.f4 Rows.parseChecksSpec Rows.parseChecksRow = true := by
  unfold joinedFacts
  rw [laidOutTryz, faRowed, fcCheckse, fcChecksf, fcChecksg, fcChecksh, faKeys, faHeard, faEnter, faLifts, faMake]
  kernel_rfl
theorem checks_holds : Rows.ParseChecksSaid :=
  OpenClaim.holds_of_wide 4 Tryz.f4 rfl rfl rfl rfl rfl rfl rfl ⟨rfl, rfl, rfl, rfl, rfl⟩ rfl rfl rfl rfl rfl fcCheckst Tryz.func4 checks_facts
    (of_decide_eq_true (by kernel_rfl)) (by unfold Func.isWrapper; first | (rw [if_pos (by decide +kernel)]; kernel_rfl) | (rw [if_neg (by decide +kernel)]; exact ⟨rfl, rfl⟩))
    (fun os started H enc _ => checks_lifted os started H enc)
theorem parseChecks_holds : Rows.ParseChecksCardSaid :=
  Claim7.holds_tied_plain_at .later [] [.data, .data, .data, .data, .sentinel, .sentinel, .pinned] true (true, "efc997d672f5e45236f5179d2a8d5949e5cbff75aa412c2b25375e5c75de86a5") true
    checks_holds (fun _ h => by cases h) (by kernel_rfl) (fun _ h => by cases h) parseChecks_row_tie rfl ⟨rfl, rfl⟩ faMain rfl
    (fun f fn hf hfn => by
      obtain rfl : f = 4 := Option.some.inj (fcCheckst.symm.trans hf) |>.symm
      obtain rfl : fn = Tryz.f4 := (Option.some.inj (Tryz.func4.symm.trans hfn)).symm
      exact ⟨faLooks, fun j t ht => by
        rw [Tryz.params4] at ht
        have hm : t ∈ [26] := by simpa using Array.mem_of_getElem? ht
        have hall : ([26].all fun u => !Tryz.prog.wantsStandIn u) = true := by kernel_rfl
        exact (show Tryz.prog.wantsStandIn t = false by simpa using List.all_eq_true.1 hall t hm)⟩)
    fcChecksr
end Go.Proofs.YtijdeggmmpfjeaaGreatDoor
