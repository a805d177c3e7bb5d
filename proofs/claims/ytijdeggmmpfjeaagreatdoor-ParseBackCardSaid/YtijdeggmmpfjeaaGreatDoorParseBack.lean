/- ParseBack: for every tree and every two numbers the call returns true, and the tree reads afterwards as it read before. Conditions: the row lists package-level variables of the library (strconv.ErrRange, strconv.ErrSyntax, the tables) with what the program text lays; the card ties them. -/
import Derived.Test.YtijdeggmmpfjeaaGreatDoorR6
import Derived.Test.YtijdeggmmpfjeaaGreatDoorK1
import Derived.Test.YtijdeggmmpfjeaaGreatDoorFaK
import Derived.Test.YtijdeggmmpfjeaaGreatDoorFaL
import Derived.Test.YtijdeggmmpfjeaaGreatDoorFaM
import Derived.Test.YtijdeggmmpfjeaaGreatDoorFeA
import Derived.Test.YtijdeggmmpfjeaaGreatDoorFeB
import Derived.Test.YtijdeggmmpfjeaaGreatDoorFeC
import Derived.WalkKit
import Derived.ProofKit
import Derived.Carry
import Derived.PinnedBridge
import Derived.Lay
import Derived.LaidOnce
import Derived.SevenTiedAt
set_option linter.unusedSimpArgs false
set_option linter.unusedVariables false
set_option linter.unusedSectionVars false
namespace Go.Proofs.YtijdeggmmpfjeaaGreatDoor
open Go.RowKit Go.Shelf Go.Lib Go.ChangeShapes Go.WideShapes Go.ChangeAt Go.Am
set_option maxRecDepth 100000
theorem lifted (os : Os) (started : os.Started) (H : Type) (enc : TypeId × Value → H) :
    ReturnsInHanded {} Tryz.checked os 18 .any (fun w args => (Rows.parseBackSpec.pre enc Tryz.prog Tryz.f18 [] false w args ∧ laidMetH Tryz.prog Rows.parseBackRow.laid w) ∧ sizedMet enc Tryz.prog Tryz.f18 (OpenSpec.ofChange Rows.parseBackSpec) false w args)
      (Rows.parseBackSpec.post enc Tryz.prog Tryz.f18 false true false false) := by
  refine returnsInHanded_of_change_and (C := Tryz.checked) (X := fun w _ => laidMetH Tryz.prog Rows.parseBackRow.laid w) (fun _ _ _ hh h => h.of_heap hh) ownTryz started (by kernel_rfl) Tryz.func18
    (ChangeSpec.witness_shaped (enc := enc) (C := Tryz.checked) (os := os) (X := fun w _ => laidMetH Tryz.prog Rows.parseBackRow.laid w) false (World.laidAll Tryz.prog os Rows.parseBackRow.laid) #[.agg #[.slice none 0 0], .int .u8 0, .int .u8 0] 8 (World.laidAll_os _ _ _)
      (World.shaped_of_ZipB (by kernel_rfl) (by kernel_rfl)) (by kernel_rfl) (by kernel_rfl) (by kernel_rfl)
      (by rw [MakeChecks.laidMetH_plain _ _ _ (by kernel_rfl)]; exact laidMet_laidAll _ (by kernel_rfl) (by kernel_rfl))) ?_
  intro W base args ds gs before hval0 hW _ _ hL _
  have hval : ∀ (j : Nat) t v, Tryz.f18.params[j]? = some t → args[j]? = some v → Value.okWide Tryz.prog W .any base t v := hval0
  have hW' := hW
  obtain ⟨p, q, hA0, hV, rfl, _, _⟩ := hW
  have hA : DataW.TrodAll enc Tryz.prog W 0 (fun _ => true) true Tryz.f18.params.toList args.toList ds p := hA0
  rw [Tryz.params18] at hA hval
  obtain ⟨v0, v1, v2, d0, d1, d2, p0, p1, p2, rfl, rfl, rfl, h0, h1, h2⟩ := trodAll_three hA
  obtain ⟨rfl, rfl⟩ := trodVars_none hV
  simp only [List.append_nil] at hW'
  rw [MakeChecks.laidMetH_plain _ _ _ (by kernel_rfl)] at hL
  have hlt0 : ∀ x ∈ p0, x.block < W.heap.size := fun x hx => by simpa using hW'.lt x (List.mem_append_left _ (List.mem_append_left _ hx))
  have hlt1 : ∀ x ∈ p1, x.block < W.heap.size := fun x hx => by simpa using hW'.lt x (List.mem_append_left _ (List.mem_append_right _ hx))
  have hlt2 : ∀ x ∈ p2, x.block < W.heap.size := fun x hx => by simpa using hW'.lt x (List.mem_append_right _ hx)
  obtain ⟨c0, rfl, hc0⟩ := tree_arg (hval 0 26 v0 rfl rfl) h0
  obtain ⟨z1, rfl, hz1⟩ := byte_arg (hval 1 5 v1 rfl rfl) h1
  obtain ⟨z2, rfl, hz2⟩ := byte_arg (hval 2 5 v2 rfl rfl) h2
  refine (calls18 W (known W hL) c0 z1 z2 hc0 hz1 hz2).mono fun e W' ⟨he, hb⟩ => ?_
  subst he
  exact ⟨_, rfl, _, _, _, [], _, [], hW', trodAll_mk1 (shut_bool Tryz.underlying4 _), trodAll_mk3 (Below.trod laidOutTryz (by kernel_rfl) (of_decide_eq_true (by kernel_rfl)) h0 hb hlt0) (Below.trod laidOutTryz (by kernel_rfl) (of_decide_eq_true (by kernel_rfl)) h1 hb hlt1) (Below.trod laidOutTryz (by kernel_rfl) (of_decide_eq_true (by kernel_rfl)) h2 hb hlt2), rfl, hb.frame _, fun h => by cases h⟩
theorem e1 : (Rows.parseBackRow.plainKeys == Tryz.prog.plainKeys) = true := faKeys
theorem e2 : (Rows.parseBackRow.lifted == Tryz.prog.liftsFinal) = true := faLifts
theorem e3 : (Tryz.prog.make == some Rows.parseBackRow.make) = true := faMake
theorem facts : joinedFacts Tryz.prog 18 Tryz.f18 Rows.parseBackSpec Rows.parseBackRow = true := by
  unfold joinedFacts
  rw [laidOutTryz, faRowed, fcBacke, fcBackf, fcBackg, fcBackh, e1, faHeard, faEnter, e2, e3]
  kernel_rfl
theorem row_holds : Rows.ParseBackSaid :=
  OpenClaim.holds_of_wide 18 Tryz.f18 rfl rfl rfl rfl rfl rfl rfl ⟨rfl, rfl, rfl, rfl, rfl⟩ rfl rfl rfl rfl rfl fcBackt Tryz.func18 facts
    (of_decide_eq_true (by kernel_rfl)) (by unfold Func.isWrapper; first | (rw [if_pos (by decide +kernel)]; kernel_rfl) | (rw [if_neg (by decide +kernel)]; exact ⟨rfl, rfl⟩))
    (fun os started H enc _ => lifted os started H enc)
theorem parseBack_holds : Rows.ParseBackCardSaid :=
  Claim7.holds_tied_plain_at .later [] [.data, .data, .data, .data, .sentinel, .sentinel, .pinned] true (true, "efc997d672f5e45236f5179d2a8d5949e5cbff75aa412c2b25375e5c75de86a5") true
    row_holds (fun _ h => by cases h) (by kernel_rfl) (fun _ h => by cases h) parseBack_row_tie rfl ⟨rfl, rfl⟩ faMain rfl
    (fun f fn hf hfn => by
      obtain rfl : f = 18 := Option.some.inj (fcBackt.symm.trans hf) |>.symm
      obtain rfl : fn = Tryz.f18 := (Option.some.inj (Tryz.func18.symm.trans hfn)).symm
      exact ⟨faLooks, fun j t ht => by
        rw [Tryz.params18] at ht
        have hm : t ∈ [26, 5, 5] := by simpa using Array.mem_of_getElem? ht
        have hall : ([26, 5, 5].all fun u => !Tryz.prog.wantsStandIn u) = true := by kernel_rfl
        exact (show Tryz.prog.wantsStandIn t = false by simpa using List.all_eq_true.1 hall t hm)⟩)
    fcBackr
end Go.Proofs.YtijdeggmmpfjeaaGreatDoor
