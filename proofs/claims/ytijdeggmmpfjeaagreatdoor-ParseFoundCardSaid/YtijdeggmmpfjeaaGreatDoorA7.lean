/- Part of the proof: WkJ. -/
import Derived.Test.YtijdeggmmpfjeaaGreatDoorA6
set_option linter.unusedSimpArgs false
set_option linter.unusedVariables false
set_option linter.unusedSectionVars false
namespace Go.Am
open Go Go.Proofs Go.RowKit Go.Pu
set_option maxRecDepth 100000
theorem largeF_neg {ns : List Nd} : ∀ (f i : Nat), i + f = ns.length → (largeF ns f i < 0 ↔ ∀ j x, i ≤ j → ns[j]? = some x → largeOk ns j x = true)
  | 0, i, hf => by
    simp only [largeF]
    constructor
    · intro _ j x hj hx
      have := (List.getElem?_eq_some_iff.1 hx).1
      omega
    · intro _; omega
  | f + 1, i, hf => by
    obtain ⟨x, hx⟩ : ∃ x, ns[i]? = some x := ⟨ns[i]'(by omega), by rw [List.getElem?_eq_getElem]⟩
    unfold largeF
    rw [hx]
    simp only
    by_cases h : largeOk ns i x = true
    · rw [if_pos h, largeF_neg f (i + 1) (by omega)]
      constructor
      · intro h2 j y hj hy
        by_cases e : j = i
        · subst e; rw [hx] at hy; simp only [Option.some.injEq] at hy; subst hy; exact h
        · exact h2 j y (by omega) hy
      · intro h2 j y hj hy; exact h2 j y (by omega) hy
    · rw [if_neg h]
      constructor
      · intro h2; omega
      · intro h2; exact absurd (h2 i x (Nat.le_refl _) hx) h
theorem refAll_iff {ns : List Nd} : refAll ns ns.length 0 = true ↔ ∀ j x, ns[j]? = some x → refOk isNm ns j x = true := by
  constructor
  · intro h j x hx
    have := (List.getElem?_eq_some_iff.1 hx).1
    exact refAll_get _ _ h j x (Nat.zero_le _) (by omega) hx
  · intro h
    have : ∀ f i, refAll ns f i = true := by
      intro f
      induction f with
      | zero => intro i; rfl
      | succ f ih =>
        intro i
        unfold refAll
        cases hi : ns[i]? with
        | none => rfl
        | some x => simp [h i x hi, ih]
    exact this _ _
theorem refFormB_iff (ns : List Nd) : refFormB ns = true ↔ RefForm isNm ns := by
  unfold refFormB
  simp only [Bool.and_eq_true, decide_eq_true_eq]
  rw [refAll_iff, largeF_neg ns.length 0 (by omega)]
  constructor
  · rintro ⟨h1, h2, h3⟩
    refine ⟨?_, h2, fun i x hx => h3 i x (Nat.zero_le _) hx⟩
    unfold rootOk at h1
    cases h0 : ns[0]? with
    | none => rw [h0] at h1; cases h1
    | some x =>
      rw [h0] at h1
      simp only [Bool.and_eq_true, decide_eq_true_eq] at h1
      exact ⟨x, rfl, h1.1, h1.2⟩
  · rintro ⟨⟨x, h0, h1, h2⟩, h3, h4⟩
    refine ⟨?_, h3, fun j x _ hx => h4 j x hx⟩
    unfold rootOk
    rw [h0]
    simp [h1, h2]
def checkR (ns : List Nd) : Int := if 600 < ns.length then 5 else if refFormB ns = true then (if 30 < deepFrom (sizes ns) ns.length 0 0 then 5 else 0) else 4
theorem ref_lam {ns : List Nd} (o : NdOk ns) (h : refFormB ns = true) : Lam (sizes ns) := ((form_eq o.k).2 ((refFormB_iff ns).1 h)).lam
theorem at64 {ns : List Nd} (o : NdOk ns) {h : Heap} {i : Nat} (hi : Nat.blt i h.next = true) (ht : tells (h.objs.get i) (cellsN ns)) : CSem Tryz.prog 64 [.agg [.slice i 0 ns.length 5]] h (.bool (refFormB ns)) h :=
  CSem.upN (sem64 ns o) hi ht (RenVs.cons (RenV.agg (RenVs.cons (RenV.slice rfl) RenVs.nil)) RenVs.nil) (RenV.plain rfl)
theorem at65 {ns : List Nd} (o : NdOk ns) (hl : Lam (sizes ns)) {h : Heap} {i : Nat} (hi : Nat.blt i h.next = true) (ht : tells (h.objs.get i) (cellsN ns)) : CSem Tryz.prog 65 [.agg [.slice i 0 ns.length 5]] h (.int .i64 (deepFrom (sizes ns) ns.length 0 0)) h :=
  CSem.upN (sem65 ns o hl) hi ht (RenVs.cons (RenV.agg (RenVs.cons (RenV.slice rfl) RenVs.nil)) RenVs.nil) (RenV.plain rfl)
set_option maxHeartbeats 4000000 in
theorem sem27 (ns : List Nd) (o : NdOk ns) : CSem Tryz.prog 27 [.agg [.slice 0 0 ns.length 5]] (nodesH ns) (.int .i64 (checkR ns)) (nodesH ns) := by
  refine CSem.into Tryz.func27 rfl (by decide) Tryz.ntmps27 rfl rfl rfl ?_
  dsimp only [nodesH]
  by_cases hB : refFormB ns = true
  · have hl := ref_lam o hB
    repeat' (first
     | refine S0 ?_
     | (refine Sb (at64 o) ?_ ?_) <;> intro hc
     | refine Sc (at65 o hl) ?_
     | (refine S2 ?_ ?_) <;> intro hc <;> try (exfalso; first | omega | (simp at hc; done))
     | refine St ?_
     | fail)
    all_goals refine ⟨rfl, _, rfl, [0], by (refine ⟨rfl, rfl, rfl, ?_⟩; repeat' (first | exact True.intro | refine And.intro ?_ ?_ | exact RenO.none | exact RenO.cells (RenVs.plain rfl) | exact RenO.ro (RenVs.plain (cellsN_plain _)) | exact RenO.cells (RenVs.plain (cellsN_plain _)) | exact RenO.cells (RenVs.plain (cellsI_plain _)) | exact RenO.cells (RenVs.plain (cellsZ_plain _)) | exact RenO.cells (RenVs.cons (RenV.slice rfl) RenVs.nil) | exact RenO.iter | exact RenO.cells (RenVs.plain (rowN_plain _)))), RenV.eq ?_ rfl⟩
    all_goals unfold checkR
    all_goals (repeat' split) <;> first | rfl | contradiction | (exfalso; omega) | (exfalso; simp_all; done)
  ·
    repeat' (first
     | refine S0 ?_
     | (refine Sb (at64 o) ?_ ?_) <;> intro hc
     | (refine S2 ?_ ?_) <;> intro hc <;> try (exfalso; first | omega | (simp at hc; done))
     | refine St ?_
     | fail)
    all_goals first | (exfalso; exact hB hc) | skip
    all_goals refine ⟨rfl, _, rfl, [0], by (refine ⟨rfl, rfl, rfl, ?_⟩; repeat' (first | exact True.intro | refine And.intro ?_ ?_ | exact RenO.none | exact RenO.cells (RenVs.plain rfl) | exact RenO.ro (RenVs.plain (cellsN_plain _)) | exact RenO.cells (RenVs.plain (cellsN_plain _)) | exact RenO.cells (RenVs.plain (cellsI_plain _)) | exact RenO.cells (RenVs.plain (cellsZ_plain _)) | exact RenO.cells (RenVs.cons (RenV.slice rfl) RenVs.nil) | exact RenO.iter | exact RenO.cells (RenVs.plain (rowN_plain _)))), RenV.eq ?_ rfl⟩
    all_goals unfold checkR
    all_goals (repeat' split) <;> first | rfl | contradiction | (exfalso; omega) | (exfalso; simp_all; done)
theorem at27 {ns : List Nd} (o : NdOk ns) {h : Heap} {i : Nat} (hi : Nat.blt i h.next = true) (ht : tells (h.objs.get i) (cellsN ns)) : CSem Tryz.prog 27 [.agg [.slice i 0 ns.length 5]] h (.int .i64 (checkR ns)) h :=
  CSem.upN (sem27 ns o) hi ht (RenVs.cons (RenV.agg (RenVs.cons (RenV.slice rfl) RenVs.nil)) RenVs.nil) (RenV.plain rfl)
end Go.Am
