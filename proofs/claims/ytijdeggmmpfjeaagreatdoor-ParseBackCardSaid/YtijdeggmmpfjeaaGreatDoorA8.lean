/- Part of the proof: WkK. -/
import Derived.Test.YtijdeggmmpfjeaaGreatDoorA7
set_option linter.unusedSimpArgs false
set_option linter.unusedVariables false
set_option linter.unusedSectionVars false
namespace Go.Am
open Go Go.Proofs Go.RowKit Go.Pu
set_option maxRecDepth 100000
def endsH (ns : List Nd) (st : List Int) : Heap := ⟨.node (some (.ro 50 5 (cellsN ns))) (.node (some (.cells 3 1 (cellsZ st.reverse) false)) .leaf .leaf) .leaf, 2⟩
def endsX (ns : List Nd) (x : Nd) (st : List Int) : Heap := ⟨.node (some (.ro 50 5 (cellsN ns))) (.node (some (.cells 3 1 (cellsZ st.reverse) false)) .leaf .leaf) (.node (some (.cells 50 5 (rowN x) true)) .leaf .leaf), 3⟩
def endsV : Bool → List Int → AV
  | true, _ => .nilslice
  | false, st => .slice 1 0 st.length 1
def endsG (ns : List Nd) : Bool → List Int → Heap
  | true, _ => nodesH ns
  | false, st => endsH ns st
structure AS where
  nl : Bool
  i : Nat
  st : List Int
theorem top_at (e : Int) (st : List Int) : (e :: st).reverse[st.length]? = some e := by
  rw [List.reverse_cons, List.getElem?_append_right (by simp)]
  simp
theorem pop_ren (s : List Nat) (e : Int) (st : List Int) : RenVs s (cellsZ (e :: st).reverse) (cellsZ st.reverse ++ [.int .i64 e]) := RenVs.eq (by rw [List.reverse_cons, cellsZ_snoc]) (cellsZ_plain _)
theorem push_ren (s : List Nat) (e : Int) (st : List Int) : RenVs s (cellsZ st.reverse ++ [.int .i64 e]) (cellsZ (e :: st).reverse) := RenVs.eq (by rw [List.reverse_cons, cellsZ_snoc]) (by rw [← cellsZ_snoc]; exact cellsZ_plain _)
def sizedB (ns : List Nd) : Bool := match ns[0]? with
  | some x => decide (x.s = (ns.length : Int)) && areSz ns.length (sizes ns) 0 []
  | none => false
set_option maxHeartbeats 8000000 in
theorem sem100 (ns : List Nd) (o : NdOk ns) : CSem Tryz.prog 100 [.slice 0 0 ns.length 5] (nodesH ns) (.bool (sizedB ns)) (nodesH ns) := by
  have hn := o.len
  refine CSem.into Tryz.func100 rfl (by decide) Tryz.ntmps100 rfl rfl rfl ?_
  dsimp only [nodesH]
  cases hns : ns with
  | nil =>
    have e : sizedB [] = false := rfl
    rw [e]
    repeat' (first
     | refine S0 ?_
     | (refine S2 ?_ ?_) <;> intro hc <;> try (exfalso; first | omega | (simp at hc; done))
     | refine St ?_
     | fail)
    exact ⟨rfl, _, rfl, [0], by (refine ⟨rfl, rfl, rfl, ?_⟩; repeat' (first | exact True.intro | refine And.intro ?_ ?_ | exact RenO.none | exact RenO.cells (RenVs.plain rfl) | exact RenO.ro (RenVs.plain (cellsN_plain _)) | exact RenO.cells (RenVs.plain (cellsN_plain _)) | exact RenO.cells (RenVs.plain (cellsI_plain _)) | exact RenO.cells (RenVs.plain (cellsZ_plain _)) | exact RenO.cells (RenVs.cons (RenV.slice rfl) RenVs.nil) | exact RenO.iter | exact RenO.cells (RenVs.plain (rowN_plain _)))), RenV.plain rfl⟩
  | cons y ns' =>
    rw [← hns]
    have h0 : ns[0]? = some y := by rw [hns]; rfl
    have hpos : 0 < ns.length := by rw [hns]; simp
    have er : sizedB ns = (decide (y.s = (ns.length : Int)) && areSz ns.length (sizes ns) 0 []) := by unfold sizedB; rw [h0]
    clear hns
    by_cases hsz : y.s = (ns.length : Int)
    · rw [decide_eq_true hsz, Bool.true_and] at er
      rw [er]
      repeat' (first
       | refine S0 ?_
       | (refine S2 ?_ ?_) <;> intro hc <;> try (exfalso; first | omega | (simp at hc; done))
       | refine Sf h0 ?_
       | refine St ?_
       | fail)
      refine RS.loop (σ := AS) (fun s => s.i ≤ ns.length ∧ s.st.length ≤ s.i ∧ (s.nl = true → s.st = []) ∧ areSz ns.length ((sizes ns).drop s.i) s.i s.st = areSz ns.length (sizes ns) 0 []) (fun s => [(0, .slice 0 0 ns.length 5), (3, endsV s.nl s.st), (18, .slice 0 0 ns.length 5), (19, .int .i64 (ns.length : Int)), (20, .int .i64 (s.i : Int))]) (fun s => endsG ns s.nl s.st) (fun s => ns.length - s.i) ⟨true, 0, []⟩ ⟨Nat.zero_le _, Nat.le_refl _, fun _ => rfl, rfl⟩ ⟨[0], ⟨rfl, rfl, rfl, RenO.ro (RenVs.plain (cellsN_plain _)), True.intro⟩, by (repeat' (first | exact True.intro | refine And.intro ?_ ?_ | exact ⟨_, rfl, RenV.plain rfl⟩ | exact ⟨_, rfl, RenV.slice rfl⟩ | exact ⟨_, rfl, RenV.ptr rfl⟩ | exact ⟨_, rfl, RenV.nilslice⟩))⟩ ?round
      rintro ⟨nl, i, st⟩ ⟨hi, hsl, hnl, hR⟩
      simp only at hi hsl hnl hR
      by_cases hlt : i < ns.length
      · obtain ⟨x, hx⟩ : ∃ x, ns[i]? = some x := ⟨ns[i], by simp [hlt]⟩
        rw [drop_get' (sizes_get hx), areSz] at hR
        have hxs := o.s x (List.mem_of_getElem? hx)
        cases nl with
        | true =>
          have hst := hnl rfl
          subst hst
          refine ⟨_, rfl, ?_⟩
          dsimp only [endsV, endsG, nodesH]
          repeat' (first
           | refine S0 ?_
           | (refine S2 ?_ ?_) <;> intro hc <;> try (exfalso; first | omega | (simp at hc; done))
           | refine Sf hx ?_
           | refine St ?_
           | fail)
          refine RS.loop (σ := Unit) (fun _ => True) (fun t => [(0, .slice 0 0 ns.length 5), (3, .nilslice), (4, .int .i64 (i : Int)), (5, .ptr 1 0), (18, .slice 0 0 ns.length 5), (19, .int .i64 (ns.length : Int)), (20, .int .i64 (i : Int))]) (fun _ => ⟨.node (some (.ro 50 5 (cellsN ns))) (.node (some (.cells 50 5 (rowN x) true)) .leaf .leaf) .leaf, 2⟩) (fun _ => 0) () True.intro ⟨[0, 1], ⟨rfl, rfl, rfl, RenO.ro (RenVs.plain (cellsN_plain _)), RenO.cells (RenVs.plain rfl), True.intro⟩, by (repeat' (first | exact True.intro | refine And.intro ?_ ?_ | exact ⟨_, rfl, RenV.plain rfl⟩ | exact ⟨_, rfl, RenV.slice rfl⟩ | exact ⟨_, rfl, RenV.ptr rfl⟩ | exact ⟨_, rfl, RenV.nilslice⟩))⟩ ?round2
          rintro _ _
          refine ⟨_, rfl, ?_⟩
          have hp0 : pops i [] = [] := rfl
          rw [hp0] at hR
          repeat' (first
           | refine S0 ?_
           | (refine S2 ?_ ?_) <;> intro hc <;> try (exfalso; first | omega | (simp at hc; done))
           | refine St ?_
           | fail)
          all_goals first
            | (rw [if_pos (by simp only [top?]; omega)] at hR
               rw [← hR]
               exact ⟨rfl, _, rfl, [0], ⟨rfl, rfl, rfl, RenO.ro (RenVs.plain (cellsN_plain _)), True.intro⟩, RenV.plain rfl⟩)
            | (rw [if_neg (by simp only [top?, Bool.false_eq_true, or_false]; omega)] at hR
               refine Rnd.n ⟨false, i + 1, [(i : Int) + x.s]⟩ [0, 3] ⟨by dsimp only; omega, by simp, (by intro h; cases h), by rw [← hR]⟩ (by dsimp only; omega) ⟨rfl, rfl, rfl, RenO.ro (RenVs.plain (cellsN_plain _)), RenO.cells (push_ren _ _ []), True.intro⟩ ?_
               exact ⟨⟨_, rfl, RenV.slice rfl⟩, ⟨_, rfl, RenV.sliceL rfl (by simp)⟩, ⟨_, rfl, RenV.slice rfl⟩, ⟨_, rfl, RenV.plain rfl⟩, ⟨_, rfl, RenV.eq (by simp) rfl⟩, True.intro⟩)
        | false =>
          refine ⟨_, rfl, ?_⟩
          dsimp only [endsV, endsG, endsH]
          repeat' (first
           | refine S0 ?_
           | (refine S2 ?_ ?_) <;> intro hc <;> try (exfalso; first | omega | (simp at hc; done))
           | refine Sf hx ?_
           | refine St ?_
           | fail)
          refine RS.loop (σ := List Int) (fun t => pops i t = pops i st ∧ t.length ≤ st.length) (fun t => [(0, .slice 0 0 ns.length 5), (3, .slice 1 0 t.length 1), (4, .int .i64 (i : Int)), (5, .ptr 2 0), (18, .slice 0 0 ns.length 5), (19, .int .i64 (ns.length : Int)), (20, .int .i64 (i : Int))]) (fun t => endsX ns x t) (fun t => t.length) st ⟨rfl, Nat.le_refl _⟩ ⟨[0, 1, 2], ⟨rfl, rfl, rfl, RenO.ro (RenVs.plain (cellsN_plain _)), RenO.cells (RenVs.plain (cellsZ_plain _)), RenO.cells (RenVs.plain rfl), True.intro⟩, by (repeat' (first | exact True.intro | refine And.intro ?_ ?_ | exact ⟨_, rfl, RenV.plain rfl⟩ | exact ⟨_, rfl, RenV.slice rfl⟩ | exact ⟨_, rfl, RenV.ptr rfl⟩ | exact ⟨_, rfl, RenV.nilslice⟩))⟩ ?round3
          rintro t ⟨hpt, hlt'⟩
          cases t with
          | nil =>
            have hp0 : pops i st = [] := hpt.symm
            rw [hp0] at hR
            refine ⟨_, rfl, ?_⟩
            dsimp only [endsX, List.length_nil]
            repeat' (first
             | refine S0 ?_
             | (refine S2 ?_ ?_) <;> intro hc <;> try (exfalso; first | omega | (simp at hc; done))
             | refine St ?_
             | fail)
            all_goals first
              | (rw [if_pos (by simp only [top?]; omega)] at hR
                 rw [← hR]
                 exact ⟨rfl, _, rfl, [0], ⟨rfl, rfl, rfl, RenO.ro (RenVs.plain (cellsN_plain _)), True.intro⟩, RenV.plain rfl⟩)
              | (rw [if_neg (by simp only [top?, Bool.false_eq_true, or_false]; omega)] at hR
                 refine Rnd.n ⟨false, i + 1, [(i : Int) + x.s]⟩ [0, 4] ⟨by dsimp only; omega, by simp, (by intro h; cases h), by rw [← hR]⟩ (by dsimp only; omega) ⟨rfl, rfl, rfl, RenO.ro (RenVs.plain (cellsN_plain _)), RenO.cells (push_ren _ _ []), True.intro⟩ ?_
                 exact ⟨⟨_, rfl, RenV.slice rfl⟩, ⟨_, rfl, RenV.sliceL rfl (by simp)⟩, ⟨_, rfl, RenV.slice rfl⟩, ⟨_, rfl, RenV.plain rfl⟩, ⟨_, rfl, RenV.eq (by simp) rfl⟩, True.intro⟩)
          | cons e t =>
            have htop := top_at e t
            have hlc : ((e :: t).length : Nat) = t.length + 1 := rfl
            refine ⟨_, rfl, ?_⟩
            dsimp only [endsX]
            by_cases he : e = (i : Int)
            ·
              repeat' (first
               | refine S0 ?_
               | ((with_reducible refine' RO.idxL (m := t.length) exts_ok ?hw ?hx ?hy ?hu ?hi ?hes ?hz ?hlt ?hp ?_); (case hw | hx | hy | hu | hi | hes => exact rfl); (case hz | hlt => omega); (case hp => exact rfl))
               | ((with_reducible refine' RQ.idxL (m := t.length) exts_ok ?hw ?hx ?hy ?hu ?hi ?hes ?hz ?hlt ?hp ?_); (case hw | hx | hy | hu | hi | hes => exact rfl); (case hz | hlt => omega); (case hp => exact rfl))
               | ((with_reducible refine' RO.subL (b := t.length) exts_ok ?hw ?hx ?hu ?ht ?hi' ?hes ?hb ?hp ?_); (case hw | hx | hu | ht | hi' | hes => exact rfl); (case hb => exact abound_le (by omega) (by omega)); (case hp => exact rfl))
               | ((with_reducible refine' RQ.subL (b := t.length) exts_ok ?hw ?hx ?hu ?ht ?hi' ?hes ?hb ?hp ?_); (case hw | hx | hu | ht | hi' | hes => exact rfl); (case hb => exact abound_le (by omega) (by omega)); (case hp => exact rfl))
               | (refine S2 ?_ ?_) <;> intro hc <;> try (exfalso; first | omega | (simp at hc; done))
               | refine Sf htop ?_
               | refine St ?_
               | fail)
              refine Rnd.n t [0, 1, 2] ⟨by rw [← hpt, pops, if_pos he], by omega⟩ (by omega) ⟨rfl, rfl, rfl, RenO.ro (RenVs.plain (cellsN_plain _)), RenO.less (pop_ren _ _ _), RenO.cells (RenVs.plain rfl), True.intro⟩ ?_
              exact ⟨⟨_, rfl, RenV.slice rfl⟩, ⟨_, rfl, RenV.slice rfl⟩, ⟨_, rfl, RenV.plain rfl⟩, ⟨_, rfl, RenV.ptr rfl⟩, ⟨_, rfl, RenV.slice rfl⟩, ⟨_, rfl, RenV.plain rfl⟩, ⟨_, rfl, RenV.plain rfl⟩, True.intro⟩
            · have hp0 : pops i st = e :: t := by rw [← hpt, pops, if_neg he]
              rw [hp0] at hR
              repeat' (first
               | refine S0 ?_
               | ((with_reducible refine' RO.idxL (m := t.length) exts_ok ?hw ?hx ?hy ?hu ?hi ?hes ?hz ?hlt ?hp ?_); (case hw | hx | hy | hu | hi | hes => exact rfl); (case hz | hlt => omega); (case hp => exact rfl))
               | ((with_reducible refine' RQ.idxL (m := t.length) exts_ok ?hw ?hx ?hy ?hu ?hi ?hes ?hz ?hlt ?hp ?_); (case hw | hx | hy | hu | hi | hes => exact rfl); (case hz | hlt => omega); (case hp => exact rfl))
               | (refine S2 ?_ ?_) <;> intro hc <;> try (exfalso; first | omega | (simp at hc; done))
               | refine Sf htop ?_
               | refine St ?_
               | fail)
              all_goals first
                | (rw [if_pos (by simp only [top?, decide_eq_true_eq]; omega)] at hR
                   rw [← hR]
                   exact ⟨rfl, _, rfl, [0], ⟨rfl, rfl, rfl, RenO.ro (RenVs.plain (cellsN_plain _)), True.intro⟩, RenV.plain rfl⟩)
                | (rw [if_neg (by simp only [top?, decide_eq_true_eq]; omega)] at hR
                   refine Rnd.n ⟨false, i + 1, ((i : Int) + x.s) :: e :: t⟩ [0, 4] ⟨by dsimp only; omega, by dsimp only; simp only [List.length_cons] at *; omega, (by intro h; cases h), by rw [← hR]⟩ (by dsimp only; omega) ⟨rfl, rfl, rfl, RenO.ro (RenVs.plain (cellsN_plain _)), RenO.cells (push_ren _ _ _), True.intro⟩ ?_
                   exact ⟨⟨_, rfl, RenV.slice rfl⟩, ⟨_, rfl, RenV.sliceL rfl (by simp)⟩, ⟨_, rfl, RenV.slice rfl⟩, ⟨_, rfl, RenV.plain rfl⟩, ⟨_, rfl, RenV.eq (by simp) rfl⟩, True.intro⟩)
      · have hie : i = ns.length := by omega
        rw [List.drop_of_length_le (by simp [sizes]; omega), areSz] at hR
        rw [← hR]
        subst hie
        cases nl with
        | true =>
          refine ⟨_, rfl, ?_⟩
          dsimp only [endsV, endsG, nodesH]
          repeat' (first
           | refine S0 ?_
           | (refine S2 ?_ ?_) <;> intro hc <;> try (exfalso; first | omega | (simp at hc; done))
           | refine St ?_
           | fail)
          exact ⟨rfl, _, rfl, [0], ⟨rfl, rfl, rfl, RenO.ro (RenVs.plain (cellsN_plain _)), True.intro⟩, RenV.plain rfl⟩
        | false =>
          refine ⟨_, rfl, ?_⟩
          dsimp only [endsV, endsG, endsH]
          repeat' (first
           | refine S0 ?_
           | (refine S2 ?_ ?_) <;> intro hc <;> try (exfalso; first | omega | (simp at hc; done))
           | refine St ?_
           | fail)
          exact ⟨rfl, _, rfl, [0], ⟨rfl, rfl, rfl, RenO.ro (RenVs.plain (cellsN_plain _)), True.intro⟩, RenV.plain rfl⟩
    · rw [decide_eq_false hsz, Bool.false_and] at er
      rw [er]
      repeat' (first
       | refine S0 ?_
       | (refine S2 ?_ ?_) <;> intro hc <;> try (exfalso; first | omega | (simp at hc; done))
       | refine Sf h0 ?_
       | refine St ?_
       | fail)
      exact ⟨rfl, _, rfl, [0], by (refine ⟨rfl, rfl, rfl, ?_⟩; repeat' (first | exact True.intro | refine And.intro ?_ ?_ | exact RenO.none | exact RenO.cells (RenVs.plain rfl) | exact RenO.ro (RenVs.plain (cellsN_plain _)) | exact RenO.cells (RenVs.plain (cellsN_plain _)) | exact RenO.cells (RenVs.plain (cellsI_plain _)) | exact RenO.cells (RenVs.plain (cellsZ_plain _)) | exact RenO.cells (RenVs.cons (RenV.slice rfl) RenVs.nil) | exact RenO.iter | exact RenO.cells (RenVs.plain (rowN_plain _)))), RenV.plain rfl⟩
end Go.Am
