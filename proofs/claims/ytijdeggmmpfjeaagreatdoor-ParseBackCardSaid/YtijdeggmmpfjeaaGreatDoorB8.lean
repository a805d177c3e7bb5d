/- Part of the proof: WlA, WlB, WlC, WlD. -/
import Derived.Test.YtijdeggmmpfjeaaGreatDoorB7
import Derived.Test.YtijdeggmmpfjeaaGreatDoorE4
set_option linter.unusedSimpArgs false
set_option linter.unusedVariables false
set_option linter.unusedSectionVars false
namespace Go.Am
open Go Go.Proofs Go.RowKit Go.Pu
set_option maxRecDepth 100000
theorem at62 {ns : List Nd} (o : NdOk ns) {h : Heap} {i : Nat} (hi : Nat.blt i h.next = true) (ht : tells (h.objs.get i) (cellsN ns)) : CSem Tryz.prog 62 [.slice i 0 ns.length 5] h (.bool (refFormB ns)) h := by
  rw [← form_same ns o]
  exact CSem.upN (sem62 ns o) hi ht (RenVs.cons (RenV.slice rfl) RenVs.nil) (RenV.plain rfl)
set_option maxHeartbeats 2000000 in
theorem sem26 (ns : List Nd) (o : NdOk ns) : CSem Tryz.prog 26 [.agg [.slice 0 0 ns.length 5]] (nodesH ns) (.int .i64 (checkR ns)) (nodesH ns) := by
  refine CSem.into Tryz.func26 rfl (by decide) Tryz.ntmps26 rfl rfl rfl ?_
  dsimp only [nodesH]
  by_cases hB : refFormB ns = true
  · have hl := ref_lam o hB
    repeat' (first
     | refine S0 ?_
     | (refine Sb (at62 o) ?_ ?_) <;> intro hc
     | refine Sc (at63 o hl) ?_
     | (refine S2 ?_ ?_) <;> intro hc <;> try (exfalso; first | omega | (simp at hc; done))
     | refine St ?_
     | fail)
    all_goals refine ⟨rfl, _, rfl, [0], by (refine ⟨rfl, rfl, rfl, ?_⟩; repeat' (first | exact True.intro | refine And.intro ?_ ?_ | exact RenO.none | exact RenO.cells (RenVs.plain rfl) | exact RenO.ro (RenVs.plain (cellsN_plain _)) | exact RenO.cells (RenVs.plain (cellsN_plain _)) | exact RenO.cells (RenVs.plain (cellsI_plain _)) | exact RenO.cells (RenVs.plain (cellsZ_plain _)) | exact RenO.cells (RenVs.cons (RenV.slice rfl) RenVs.nil) | exact RenO.iter | exact RenO.cells (RenVs.plain (rowN_plain _)))), RenV.eq ?_ rfl⟩
    all_goals unfold checkR
    all_goals (repeat' split) <;> first | rfl | contradiction | (exfalso; omega) | (exfalso; simp_all; done)
  ·
    repeat' (first
     | refine S0 ?_
     | (refine Sb (at62 o) ?_ ?_) <;> intro hc
     | (refine S2 ?_ ?_) <;> intro hc <;> try (exfalso; first | omega | (simp at hc; done))
     | refine St ?_
     | fail)
    all_goals first | (exfalso; exact hB hc) | skip
    all_goals refine ⟨rfl, _, rfl, [0], by (refine ⟨rfl, rfl, rfl, ?_⟩; repeat' (first | exact True.intro | refine And.intro ?_ ?_ | exact RenO.none | exact RenO.cells (RenVs.plain rfl) | exact RenO.ro (RenVs.plain (cellsN_plain _)) | exact RenO.cells (RenVs.plain (cellsN_plain _)) | exact RenO.cells (RenVs.plain (cellsI_plain _)) | exact RenO.cells (RenVs.plain (cellsZ_plain _)) | exact RenO.cells (RenVs.cons (RenV.slice rfl) RenVs.nil) | exact RenO.iter | exact RenO.cells (RenVs.plain (rowN_plain _)))), RenV.eq ?_ rfl⟩
    all_goals unfold checkR
    all_goals (repeat' split) <;> first | rfl | contradiction | (exfalso; omega) | (exfalso; simp_all; done)
theorem at26 {ns : List Nd} (o : NdOk ns) {h : Heap} {i : Nat} (hi : Nat.blt i h.next = true) (ht : tells (h.objs.get i) (cellsN ns)) : CSem Tryz.prog 26 [.agg [.slice i 0 ns.length 5]] h (.int .i64 (checkR ns)) h :=
  CSem.upN (sem26 ns o) hi ht (RenVs.cons (RenV.agg (RenVs.cons (RenV.slice rfl) RenVs.nil)) RenVs.nil) (RenV.plain rfl)
def thinB (ns : List Nd) : Bool := !((decide (120 < ns.length) && decide (ns.length ≤ 600)) || decide (700 < ns.length)) && ns.all fun x => decide (x.t.length ≤ 100)
set_option maxHeartbeats 4000000 in
theorem sem24 (ns : List Nd) : CSem Tryz.prog 24 [.agg [.slice 0 0 ns.length 5]] (nodesH ns) (.bool (thinB ns)) (nodesH ns) := by
  generalize hR : thinB ns = R
  refine CSem.into Tryz.func24 rfl (by decide) Tryz.ntmps24 rfl rfl rfl ?_
  dsimp only [nodesH]
  by_cases h1 : (120 < ns.length ∧ ns.length ≤ 600) ∨ 700 < ns.length
  · have : R = false := by
      rw [← hR]; unfold thinB
      have : ((decide (120 < ns.length) && decide (ns.length ≤ 600)) || decide (700 < ns.length)) = true := by simpa using h1
      rw [this]; rfl
    subst this
    repeat' (first
     | refine S0 ?_
     | (refine S2 ?_ ?_) <;> intro hc <;> try (exfalso; first | omega | (simp at hc; done))
     | refine St ?_
     | fail)
    all_goals first
      | (exfalso; omega)
      | exact ⟨rfl, _, rfl, [0], by (refine ⟨rfl, rfl, rfl, ?_⟩; repeat' (first | exact True.intro | refine And.intro ?_ ?_ | exact RenO.none | exact RenO.cells (RenVs.plain rfl) | exact RenO.ro (RenVs.plain (cellsN_plain _)) | exact RenO.cells (RenVs.plain (cellsN_plain _)) | exact RenO.cells (RenVs.plain (cellsI_plain _)) | exact RenO.cells (RenVs.plain (cellsZ_plain _)) | exact RenO.cells (RenVs.cons (RenV.slice rfl) RenVs.nil) | exact RenO.iter | exact RenO.cells (RenVs.plain (rowN_plain _)))), RenV.plain rfl⟩
  · have h2 : R = ns.all fun x => decide (x.t.length ≤ 100) := by
      rw [← hR]; unfold thinB
      have : ((decide (120 < ns.length) && decide (ns.length ≤ 600)) || decide (700 < ns.length)) = false := by simpa using h1
      rw [this]; rfl
    clear hR
    repeat' (first
     | refine S0 ?_
     | (refine S2 ?_ ?_) <;> intro hc <;> try (exfalso; first | omega | (simp at hc; done))
     | refine St ?_
     | fail)
    all_goals try (exfalso; omega)
    all_goals
      refine RS.loop (σ := Nat) (fun i => i ≤ ns.length ∧ ((ns.drop i).all fun x => decide (x.t.length ≤ 100)) = R) (fun i => [(1, .ptr 1 0), (3, .int .i64 (i : Int))]) (fun _ => ⟨.node (some (.ro 50 5 (cellsN ns))) (.node (some (.cells 26 1 [.slice 0 0 ns.length 5] true)) .leaf .leaf) .leaf, 2⟩) (fun i => ns.length - i) 0 ⟨Nat.zero_le _, h2.symm⟩ ⟨[0, 1], by (refine ⟨rfl, rfl, rfl, ?_⟩; repeat' (first | exact True.intro | refine And.intro ?_ ?_ | exact RenO.none | exact RenO.cells (RenVs.plain rfl) | exact RenO.ro (RenVs.plain (cellsN_plain _)) | exact RenO.cells (RenVs.plain (cellsN_plain _)) | exact RenO.cells (RenVs.plain (cellsI_plain _)) | exact RenO.cells (RenVs.plain (cellsZ_plain _)) | exact RenO.cells (RenVs.cons (RenV.slice rfl) RenVs.nil) | exact RenO.iter | exact RenO.cells (RenVs.plain (rowN_plain _)))), by (repeat' (first | exact True.intro | refine And.intro ?_ ?_ | exact ⟨_, rfl, RenV.plain rfl⟩ | exact ⟨_, rfl, RenV.slice rfl⟩ | exact ⟨_, rfl, RenV.ptr rfl⟩ | exact ⟨_, rfl, RenV.nilslice⟩))⟩ ?_
      rintro i ⟨hi, hR⟩
      refine ⟨_, rfl, ?_⟩
      by_cases hlt : i < ns.length
      · obtain ⟨x, hx⟩ : ∃ x, ns[i]? = some x := ⟨ns[i], by rw [List.getElem?_eq_getElem]⟩
        obtain ⟨q1, q2⟩ := List.getElem?_eq_some_iff.1 hx
        rw [List.drop_eq_getElem_cons q1, q2, List.all_cons] at hR
        repeat' (first
         | refine S0 ?_
         | (refine S2 ?_ ?_) <;> intro hc <;> try (exfalso; first | omega | (simp at hc; done))
         | refine Sf hx ?_
         | refine St ?_
         | fail)
        · rw [decide_eq_false (by omega)] at hR
          have hR' : false = R := hR
          subst hR'
          exact ⟨rfl, _, rfl, [0], by (refine ⟨rfl, rfl, rfl, ?_⟩; repeat' (first | exact True.intro | refine And.intro ?_ ?_ | exact RenO.none | exact RenO.cells (RenVs.plain rfl) | exact RenO.ro (RenVs.plain (cellsN_plain _)) | exact RenO.cells (RenVs.plain (cellsN_plain _)) | exact RenO.cells (RenVs.plain (cellsI_plain _)) | exact RenO.cells (RenVs.plain (cellsZ_plain _)) | exact RenO.cells (RenVs.cons (RenV.slice rfl) RenVs.nil) | exact RenO.iter | exact RenO.cells (RenVs.plain (rowN_plain _)))), RenV.plain rfl⟩
        · rw [decide_eq_true (by omega)] at hR
          refine Rnd.n (i + 1) [0, 1] ⟨by omega, hR⟩ (by omega) (by (refine ⟨rfl, rfl, rfl, ?_⟩; repeat' (first | exact True.intro | refine And.intro ?_ ?_ | exact RenO.none | exact RenO.cells (RenVs.plain rfl) | exact RenO.ro (RenVs.plain (cellsN_plain _)) | exact RenO.cells (RenVs.plain (cellsN_plain _)) | exact RenO.cells (RenVs.plain (cellsI_plain _)) | exact RenO.cells (RenVs.plain (cellsZ_plain _)) | exact RenO.cells (RenVs.cons (RenV.slice rfl) RenVs.nil) | exact RenO.iter | exact RenO.cells (RenVs.plain (rowN_plain _))))) ?_
          exact ⟨⟨_, rfl, RenV.ptr rfl⟩, ⟨_, rfl, RenV.eq (by simp) rfl⟩, True.intro⟩
      · rw [List.drop_of_length_le (by omega)] at hR
        have hR' : true = R := hR
        subst hR'
        repeat' (first
         | refine S0 ?_
         | (refine S2 ?_ ?_) <;> intro hc <;> try (exfalso; first | omega | (simp at hc; done))
         | refine St ?_
         | fail)
        exact ⟨rfl, _, rfl, [0], by (refine ⟨rfl, rfl, rfl, ?_⟩; repeat' (first | exact True.intro | refine And.intro ?_ ?_ | exact RenO.none | exact RenO.cells (RenVs.plain rfl) | exact RenO.ro (RenVs.plain (cellsN_plain _)) | exact RenO.cells (RenVs.plain (cellsN_plain _)) | exact RenO.cells (RenVs.plain (cellsI_plain _)) | exact RenO.cells (RenVs.plain (cellsZ_plain _)) | exact RenO.cells (RenVs.cons (RenV.slice rfl) RenVs.nil) | exact RenO.iter | exact RenO.cells (RenVs.plain (rowN_plain _)))), RenV.plain rfl⟩
theorem at24 {ns : List Nd} {h : Heap} {i : Nat} (hi : Nat.blt i h.next = true) (ht : tells (h.objs.get i) (cellsN ns)) : CSem Tryz.prog 24 [.agg [.slice i 0 ns.length 5]] h (.bool (thinB ns)) h :=
  CSem.upN (sem24 ns) hi ht (RenVs.cons (RenV.agg (RenVs.cons (RenV.slice rfl) RenVs.nil)) RenVs.nil) (RenV.plain rfl)
end Go.Am
namespace Go.Am
open Go Go.Proofs Go.RowKit Go.Pu
set_option maxRecDepth 100000
theorem allOne_rows : ∀ ns : List Nd, allOne (cellsN ns) = true
  | [] => rfl
  | x :: ns => by
    have : cellsN (x :: ns) = rowN x ++ cellsN ns := rfl
    rw [this]
    show allOne (cellsN ns) = true
    exact allOne_rows ns
def copyH (ns : List Nd) : Heap := ⟨.node (some (.ro 50 5 (cellsN ns))) (.node (some (.cells 50 5 (cellsN ns) false)) .leaf .leaf) .leaf, 2⟩
set_option maxHeartbeats 2000000 in
theorem sem25 (ns : List Nd) (hne : ns.length ≠ 0) (hl : ns.length ≤ 700) : CSem Tryz.prog 25 [.agg [.slice 0 0 ns.length 5]] (nodesH ns) (.agg [.slice 1 0 ns.length 5]) (copyH ns) := by
  refine CSem.into Tryz.func25 rfl (by decide) Tryz.ntmps25 rfl rfl rfl ?_
  dsimp only [nodesH]
  repeat' (first
   | refine S0 ?_
   | ((with_reducible refine' RO.app0 exts_ok ?hw ?hx ?hy ?ht ?hu ?hi ?hz ?hzl ?hes ?he0 ?hn ?hone ?hm ?hb ?hb2 ?ha ?hp ?_); (case hw => exact rfl); (case hx => exact rfl); (case hy => exact rfl); (case ht => exact rfl); (case hu => exact rfl); (case hi => exact rfl); (case hz => exact rfl); (case hzl => exact rfl); (case hes => exact rfl); (case he0 => exact rfl); (case hn => first | exact takeN_all (by simp [cellsN_len]) | exact takeN_pre (by simp [cellsN_len])); (case hone => exact allOne_rows ns); (case hm => exact hne); (case hb => omega); (case hb2 => show ns.length * 48 ≤ 1000000000; omega); (case ha => exact rfl); (case hp => exact rfl))
   | (refine S2 ?_ ?_) <;> intro hc <;> try (exfalso; first | omega | (simp at hc; done))
   | refine St ?_
   | fail)
  exact ⟨rfl, _, rfl, [0, 3], by (refine ⟨rfl, rfl, rfl, ?_⟩; repeat' (first | exact True.intro | refine And.intro ?_ ?_ | exact RenO.none | exact RenO.ro (RenVs.plain (cellsN_plain _)) | exact RenO.cells (RenVs.plain (cellsN_plain _)))), RenV.agg (RenVs.cons (RenV.slice rfl) RenVs.nil)⟩
end Go.Am
namespace Go.Am
open Go Go.Proofs Go.RowKit Go.Pu
set_option maxRecDepth 100000
theorem sem20 (h : Heap) : CSem Tryz.prog 20 [] h (.bool true) h := by
  refine CSem.ofPlain (fun _ => rfl) (fun _ => rfl) ?_ h
  intro w cargs hc g
  simp only [concs, Option.some.injEq] at hc
  subst hc
  refine (awake_calls w g).mono ?_
  rintro e w' ⟨rfl, bel⟩
  exact ⟨⟨_, rfl, rfl⟩, bel⟩
theorem at25 {ns : List Nd} (hne : ns.length ≠ 0) (hl : ns.length ≤ 700) {h h' : Heap} {i j : Nat} (hi : Nat.blt i h.next = true) (ht : tells (h.objs.get i) (cellsN ns)) (hadd : h.add (.cells 50 5 (cellsN ns) false) = some (j, h')) : CSem Tryz.prog 25 [.agg [.slice i 0 ns.length 5]] h (.agg [.slice j 0 ns.length 5]) h' := by
  have hj : h.next = j := by
    rw [Heap.add_eq] at hadd
    split at hadd
    · simp only [Option.some.injEq, Prod.mk.injEq] at hadd; exact hadd.1
    · cases hadd
  subst hj
  refine CSem.up (sem25 ns hne hl) [i] [⟨50, 5, cellsN ns, false⟩] rfl (by simp only [List.all_cons, hi, List.all_nil, Bool.and_true]) ⟨⟨cellsN_plain ns, ht⟩, True.intro⟩ (RenVs.cons (RenV.agg (RenVs.cons (RenV.slice rfl) RenVs.nil)) RenVs.nil) ⟨⟨(by show (copyH ns).objs.get 1 = _; rfl), cellsN_plain ns⟩, True.intro⟩ rfl (h' := h') ?_ ?_
  · simp only [addAll, hadd]
  · exact RenV.agg (RenVs.cons (RenV.slice rfl) RenVs.nil)
end Go.Am
namespace Go.Am
open Go Go.Proofs Go.RowKit Go.Pu
set_option maxRecDepth 100000
theorem alikeF_refl : ∀ ns : List Nd, alikeF ns ns = true
  | [] => by unfold alikeF; rfl
  | x :: l => by unfold alikeF; simp [alikeN, alikeF_refl l]
theorem placesF_refl : ∀ ns : List Nd, placesF ns ns = true
  | [] => by unfold placesF; rfl
  | x :: l => by unfold placesF; simp [placesF_refl l]
theorem equalB_refl (ns : List Nd) : equalB ns ns = true := by
  unfold equalB alikeB
  rw [alikeF_refl, placesF_refl]; simp
structure NdIn (ns : List Nd) : Prop where
  k : ∀ x ∈ ns, x.k < 256
  s : ∀ x ∈ ns, -9223372036854775808 ≤ x.s ∧ x.s < 9223372036854775808
theorem thin_ok {ns : List Nd} (o : NdIn ns) (h : thinB ns = true) : NdOk ns := by
  unfold thinB at h
  simp only [Bool.and_eq_true, Bool.not_eq_true', Bool.or_eq_false_iff, decide_eq_false_iff_not, List.all_eq_true, decide_eq_true_eq] at h
  refine ⟨by have := h.1.2; omega, o.k, o.s, fun x hx => by have := h.2 x hx; omega⟩
end Go.Am
