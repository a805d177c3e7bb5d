/- ParseFound: for every tree the call returns true, and the tree reads afterwards as it read before. Conditions: the row lists package-level variables of the library (strconv.ErrRange, strconv.ErrSyntax, the tables) with what the program text lays; the card ties them. -/
import Derived.Test.YtijdeggmmpfjeaaGreatDoorF1
import Derived.Test.YtijdeggmmpfjeaaGreatDoorK1
import Derived.Test.YtijdeggmmpfjeaaGreatDoorFaK
import Derived.Test.YtijdeggmmpfjeaaGreatDoorFaL
import Derived.Test.YtijdeggmmpfjeaaGreatDoorFaM
import Derived.Test.YtijdeggmmpfjeaaGreatDoorFdA
import Derived.Test.YtijdeggmmpfjeaaGreatDoorFdB
import Derived.Test.YtijdeggmmpfjeaaGreatDoorFdC
import Derived.WalkKit
import Derived.ProofKit
import Derived.Carry
import Derived.PinnedBridge
import Derived.Lay
import Derived.LaidOnce
import Derived.SevenTiedAt
set_option linter.unusedSimpArgs false
set_option linter.unusedVariables false
set_option linter.unusedSectionVars false
namespace Go.Proofs.YtijdeggmmpfjeaaGreatDoor
open Go.RowKit Go.Shelf Go.Lib Go.ChangeShapes Go.WideShapes Go.ChangeAt Go.Am
set_option maxRecDepth 100000
theorem lifted (os : Os) (started : os.Started) (H : Type) (enc : TypeId × Value → H) :
    ReturnsInHanded {} Tryz.checked os 16 .any (fun w args => (Rows.parseFoundSpec.pre enc Tryz.prog Tryz.f16 [] false w args ∧ laidMetH Tryz.prog Rows.parseFoundRow.laid w) ∧ sizedMet enc Tryz.prog Tryz.f16 (OpenSpec.ofChange Rows.parseFoundSpec) false w args)
      (Rows.parseFoundSpec.post enc Tryz.prog Tryz.f16 false true false false) := by
  refine returnsInHanded_of_change_and (C := Tryz.checked) (X := fun w _ => laidMetH Tryz.prog Rows.parseFoundRow.laid w) (fun _ _ _ hh h => h.of_heap hh) ownTryz started (by kernel_rfl) Tryz.func16
    (ChangeSpec.witness_shaped (enc := enc) (C := Tryz.checked) (os := os) (X := fun w _ => laidMetH Tryz.prog Rows.parseFoundRow.laid w) false (World.laidAll Tryz.prog os Rows.parseFoundRow.laid) #[.agg #[.slice none 0 0]] 8 (World.laidAll_os _ _ _)
      (World.shaped_of_ZipB (by kernel_rfl) (by kernel_rfl)) (by kernel_rfl) (by kernel_rfl) (by kernel_rfl)
      (by rw [MakeChecks.laidMetH_plain _ _ _ (by kernel_rfl)]; exact laidMet_laidAll _ (by kernel_rfl) (by kernel_rfl))) ?_
  intro W base args ds gs before hval0 hW _ _ hL _
  have hval : ∀ (j : Nat) t v, Tryz.f16.params[j]? = some t → args[j]? = some v → Value.okWide Tryz.prog W .any base t v := hval0
  have hW' := hW
  obtain ⟨p, q, hA0, hV, rfl, _, _⟩ := hW
  have hA : DataW.TrodAll enc Tryz.prog W 0 (fun _ => true) true Tryz.f16.params.toList args.toList ds p := hA0
  rw [Tryz.params16] at hA hval
  obtain ⟨v0, d0, rfl, rfl, h0⟩ := trodAll_one hA
  obtain ⟨rfl, rfl⟩ := trodVars_none hV
  simp only [List.append_nil] at hW'
  rw [MakeChecks.laidMetH_plain _ _ _ (by kernel_rfl)] at hL
  have hlt0 : ∀ x ∈ p, x.block < W.heap.size := fun x hx => by simpa using hW'.lt x hx
  obtain ⟨c0, rfl, hc0⟩ := tree_arg (hval 0 26 v0 rfl rfl) h0
  refine (calls16 W (known W hL) c0 hc0).mono fun e W' ⟨he, hb⟩ => ?_
  subst he
  exact ⟨_, rfl, _, _, _, [], _, [], hW', trodAll_mk1 (shut_bool Tryz.underlying4 _), trodAll_mk1 (Below.trod laidOutTryz (by kernel_rfl) (of_decide_eq_true (by kernel_rfl)) h0 hb hlt0), rfl, hb.frame _, fun h => by cases h⟩
theorem e1 : (Rows.parseFoundRow.plainKeys == Tryz.prog.plainKeys) = true := faKeys
theorem e2 : (Rows.parseFoundRow.lifted == Tryz.prog.liftsFinal) = true := faLifts
theorem e3 : (Tryz.prog.make == some Rows.parseFoundRow.make) = true := faMake
theorem facts : joinedFacts Tryz.prog 16 Tryz.f16 Rows.parseFoundSpec Rows.parseFoundRow = true := by
  unfold joinedFacts
  rw [laidOutTryz, faRowed, fcFounde, fcFoundf, fcFoundg, fcFoundh, e1, faHeard, faEnter, e2, e3]
  kernel_rfl
theorem row_holds : Rows.ParseFoundSaid :=
  OpenClaim.holds_of_wide 16 Tryz.f16 rfl rfl rfl rfl rfl rfl rfl ⟨rfl, rfl, rfl, rfl, rfl⟩ rfl rfl rfl rfl rfl fcFoundt Tryz.func16 facts
    (of_decide_eq_true (by kernel_rfl)) (by unfold Func.isWrapper; first | (rw [if_pos (by decide +kernel)]; kernel_rfl) | (rw [if_neg (by decide +kernel)]; exact ⟨rfl, rfl⟩))
    (fun os started H enc _ => lifted os started H enc)
theorem parseFound_holds : Rows.ParseFoundCardSaid :=
  Claim7.holds_tied_plain_at .later [] [.data, .data, .data, .data, .sentinel, .sentinel, .pinned] true (true, "efc997d672f5e45236f5179d2a8d5949e5cbff75aa412c2b25375e5c75de86a5") true
    row_holds (fun _ h => by cases h) (by kernel_rfl) (fun _ h => by cases h) parseFound_row_tie rfl ⟨rfl, rfl⟩ faMain rfl
    (fun f fn hf hfn => by
      obtain rfl : f = 16 := Option.some.inj (fcFoundt.symm.trans hf) |>.symm
      obtain rfl : fn = Tryz.f16 := (Option.some.inj (Tryz.func16.symm.trans hfn)).symm
      exact ⟨faLooks, fun j t ht => by
        rw [Tryz.params16] at ht
        have hm : t ∈ [26] := by simpa using Array.mem_of_getElem? ht
        have hall : ([26].all fun u => !Tryz.prog.wantsStandIn u) = true := by kernel_rfl
        exact (show Tryz.prog.wantsStandIn t = false by simpa using List.all_eq_true.1 hall t hm)⟩)
    fcFoundr
end Go.Proofs.YtijdeggmmpfjeaaGreatDoor
