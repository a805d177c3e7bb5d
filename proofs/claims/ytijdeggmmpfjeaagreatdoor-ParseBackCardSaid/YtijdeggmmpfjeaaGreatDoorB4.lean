/- Part of the proof: WkV. -/
import Derived.Test.YtijdeggmmpfjeaaGreatDoorB3
set_option linter.unusedSimpArgs false
set_option linter.unusedVariables false
set_option linter.unusedSectionVars false
namespace Go.Am
open Go Go.Proofs Go.RowKit Go.Pu
set_option maxRecDepth 100000
theorem cutLF_nil {set : List UInt8} : ∀ {m : List UInt8}, cutLF set m = [] ↔ m.all (fun c => set.contains c) = true
  | [] => ⟨fun _ => rfl, fun _ => rfl⟩
  | c :: m => by
    unfold cutLF
    rw [List.all_cons, Bool.and_eq_true]
    by_cases h : set.contains c = true
    · rw [if_pos h, cutLF_nil]
      exact ⟨fun h' => ⟨h, h'⟩, fun h' => h'.2⟩
    · rw [if_neg h]
      exact ⟨fun h' => (nomatch h'), fun h' => absurd h'.1 h⟩
theorem cutLF_head {set : List UInt8} : ∀ {m : List UInt8} {c : UInt8} {l : List UInt8}, cutLF set m = c :: l → set.contains c = false
  | [], c, l, h => by cases h
  | d :: m, c, l, h => by
    unfold cutLF at h
    split at h
    · exact cutLF_head h
    · rename_i hd
      simp only [List.cons.injEq] at h
      rw [← h.1]
      simpa using hd
theorem cutRF_nil {set m : List UInt8} : cutRF set m = [] ↔ m.all (fun c => set.contains c) = true := by
  unfold cutRF
  rw [List.reverse_eq_nil_iff, cutLF_nil, List.all_reverse]
theorem cut_nil {set m : List UInt8} : cutRF set (cutLF set m) = [] ↔ m.all (fun c => set.contains c) = true := by
  rw [cutRF_nil]
  constructor
  · intro h
    rw [← cutLF_nil]
    cases e : cutLF set m with
    | nil => rfl
    | cons c l =>
      have := cutLF_head e
      rw [e] at h
      simp only [List.all_cons, Bool.and_eq_true] at h
      rw [this] at h
      exact absurd h.1 (by simp)
  · intro h
    rw [← cutLF_nil] at h
    rw [h]; rfl
theorem cutLF_sub (set : List UInt8) : ∀ (m : List UInt8), (∀ c ∈ cutLF set m, c ∈ m) ∧ (cutLF set m).length ≤ m.length
  | [] => ⟨fun c h => h, Nat.le_refl _⟩
  | c :: m => by
    have ih := cutLF_sub set m
    unfold cutLF
    split
    · exact ⟨fun d hd => List.mem_cons_of_mem _ (ih.1 d hd), by have := ih.2; simp; omega⟩
    · exact ⟨fun d hd => hd, Nat.le_refl _⟩
set_option maxHeartbeats 8000000 in
theorem sem105 (r : Rule) (s : List UInt8) (hl : s.length ≤ 1000000) (hs : Low s) (hb : r.behind.length ≤ 1000) (hm : r.many.length ≤ 1000) (hml : Low r.many) (h : Heap) : CSem Tryz.prog 105 [ruleV r, .str s] h (.bool (lk r s)) h := by
  obtain ⟨before, many, least, most, behind, named⟩ := r
  dsimp only at hb hm hml
  dsimp only [ruleV]
  refine CSem.pure ?_ (RenVs.cons (RenV.agg (RenVs.plain rfl)) (RenVs.plain rfl)) (RenV.plain rfl) h
  cases e1 : cutP before s with
  | none =>
    have e : lk ⟨before, many, least, most, behind, named⟩ s = false := by unfold lk; rw [e1]
    rw [e]
    refine CSem.into Tryz.func105 rfl (by decide) Tryz.ntmps105 rfl rfl rfl ?_
    dsimp only
    repeat' (first
     | refine S0 ?_
     | refine Sc (sem166F e1 _) ?_
     | (refine S2 ?_ ?_) <;> intro hc <;> try (exfalso; first | omega | (simp at hc; done))
     | refine St ?_
     | fail)
    exact ⟨rfl, _, rfl, [], ⟨rfl, rfl, rfl, True.intro⟩, RenV.plain rfl⟩
  | some x =>
    have e1' := cutP_iff.1 e1
    have hxl : x.length ≤ s.length := by rw [e1']; simp
    cases e2 : cutE behind x with
    | none =>
      have e : lk ⟨before, many, least, most, behind, named⟩ s = false := by unfold lk; simp only [e1, e2]
      rw [e]
      refine CSem.into Tryz.func105 rfl (by decide) Tryz.ntmps105 rfl rfl rfl ?_
      dsimp only
      repeat' (first
       | refine S0 ?_
       | refine Sc (sem166T e1' _) ?_
       | ((with_reducible refine' RO.fn (f := 167) exts_ok ?hw ?ha ?hf ?hs ?hp ?_); (case hw | ha | hf => exact rfl); (case hs => exact sem167F e2 (by omega) (by omega) _); (case hp => exact rfl))
       | ((with_reducible refine' RQ.fn (f := 167) exts_ok ?hw ?ha ?hf ?hs ?hp ?_); (case hw | ha | hf => exact rfl); (case hs => exact sem167F e2 (by omega) (by omega) _); (case hp => exact rfl))
       | (refine S2 ?_ ?_) <;> intro hc <;> try (exfalso; first | omega | (simp at hc; done))
       | refine St ?_
       | fail)
      exact ⟨rfl, _, rfl, [], ⟨rfl, rfl, rfl, True.intro⟩, RenV.plain rfl⟩
    | some m =>
      have e2' := cutE_iff.1 e2
      have hml' : m.length ≤ x.length := by rw [e2']; simp
      have hms : Low m := fun c hc => hs c (by rw [e1', e2']; simp [hc])
      have e : lk ⟨before, many, least, most, behind, named⟩ s = (m.all (fun c => many.contains c) && (decide (many ≠ []) || decide (m = [])) && decide (least ≤ m.length)) := by unfold lk; simp only [e1, e2]
      rw [e]
      have hcP := sem166T e1'
      have hcS := sem167T e2' (by omega) (by omega)
      have hcL := sem169 m many (by omega) hm hms hml
      have hsub := cutLF_sub many m
      have hcR := sem168 (cutLF many m) many (by omega) hm (fun c hc => hms c (hsub.1 c hc)) hml
      have hnil := cut_nil (set := many) (m := m)
      clear e hsub e1 e2 e1' e2'
      generalize m.all (fun c => many.contains c) = A at hnil ⊢
      generalize cutLF many m = L1 at hcL hcR hnil
      generalize cutRF many L1 = L2 at hcR hnil
      clear hms hs hml hml' hxl hl hm hb
      have hA : A = decide (L2 = []) := by
        rw [Bool.eq_iff_iff, decide_eq_true_eq]; exact hnil.symm
      subst hA
      clear hnil
      cases L2 <;> cases many <;> cases m
      all_goals refine CSem.into Tryz.func105 rfl (by decide) Tryz.ntmps105 rfl rfl rfl ?_
      all_goals dsimp only
      all_goals
        repeat' (first
         | refine S0 ?_
         | refine Sc (hcP _) ?_
         | refine Sc (hcS _) ?_
         | ((with_reducible refine' RD.read ?hw ?ho ?hp (fun _ => ?_)); (case hw => exact rfl); (case ho => (first | exact OSem.fn exts_ok rfl rfl rfl rfl (hcL _) | exact OSem.fn exts_ok rfl rfl rfl rfl (hcR _))); (case hp => exact rfl))
         | ((with_reducible refine' RS.drawE mixed [none, none, none, none, none, none, none, none, none, none, none, none, none, none, none, none, none, none, none, none, none, none, none, none, none] ?hn ?hms ?hord ?hh ?_); (case hn => exact rfl); (case hms => exact rfl); (case hord => exact rfl); (case hh => exact rfl))
         | ((with_reducible refine RD.nil ?_); (refine' RDk.intro ?oks ?hl ?_); (case hl => exact rfl); (case oks => (repeat' (first | exact True.intro | refine And.intro ?_ ?_ | exact rfl | exact OSem.load1 exts_ok rfl rfl rfl rfl | exact OSem.loadN exts_ok rfl rfl rfl rfl | (first | exact OSem.fn exts_ok rfl rfl rfl rfl (hcL _) | exact OSem.fn exts_ok rfl rfl rfl rfl (hcR _))))))
         | (refine S2 ?_ ?_) <;> intro hc <;> try (exfalso; first | omega | (simp at hc; done))
         | refine St ?_
         | ((with_reducible refine RD.nil ?_); (refine' RDk.intro ?oks ?hl ?_); (case hl => exact rfl); (case oks => (repeat' (first | exact True.intro | refine And.intro ?_ ?_ | exact rfl | exact OSem.load1 exts_ok rfl rfl rfl rfl | exact OSem.loadN exts_ok rfl rfl rfl rfl))))
         | ((with_reducible refine' RD.skip ?hw ?hp ?_); (case hw => exact rfl); (case hp => exact rfl))
         | ((with_reducible refine' RD.mem ?hw ?hk ?hp ?_); (case hw => exact rfl); (case hk => exact rfl); (case hp => exact rfl))
         | ((with_reducible refine' RD.eff ?hw ?ho ?hp ?_); (case hw => exact rfl); (case ho => exact OSem.skip exts_ok rfl); (case hp => exact rfl))
         | ((with_reducible refine' RD.calm ?hw ?ho ?hp ?_); (case hw => exact rfl); (case ho => exact fun H => OSem.val exts_ok rfl); (case hp => exact rfl))
         | ((with_reducible refine' RD.calm ?hw ?ho ?hp ?_); (case hw => exact rfl); (case ho => exact fun H => OSem.idxL exts_ok rfl rfl rfl rfl rfl rfl (by omega)); (case hp => exact rfl))
         | ((with_reducible refine' RD.read ?hw ?ho ?hp (fun _ => ?_)); (case hw => exact rfl); (case ho => (first | exact OSem.load1 exts_ok rfl rfl rfl rfl | exact OSem.loadN exts_ok rfl rfl rfl rfl)); (case hp => exact rfl))
         | fail)
      all_goals first | exact ⟨rfl, _, rfl, [], ⟨rfl, rfl, rfl, True.intro⟩, RenV.plain rfl⟩ | exact ⟨rfl, _, rfl, [], ⟨rfl, rfl, rfl, True.intro⟩, RenV.eq (congrArg AV.bool (not_ilt _ _)) rfl⟩
end Go.Am
