/- Part of the proof: WqA, WqB. -/
import Derived.Test.YtijdeggmmpfjeaaGreatDoorD1
import Derived.Test.YtijdeggmmpfjeaaGreatDoorP2
set_option linter.unusedSimpArgs false
set_option linter.unusedVariables false
set_option linter.unusedSectionVars false
namespace Go.Am
open Go Go.Proofs Go.RowKit Go.Pu
set_option maxRecDepth 1000000
def findR (ns : List Nd) (node : Int) : Int := if checkR ns = 0 then (if node < 0 ∨ (ns.length : Int) ≤ node then 7 else 0) else checkR ns
theorem findR_c {ns : List Nd} {node : Int} (h : ¬ checkR ns = 0) : findR ns node = checkR ns := by unfold findR; rw [if_neg h]
theorem findR_o {ns : List Nd} {node : Int} (h : checkR ns = 0) (k : node < 0 ∨ (ns.length : Int) ≤ node) : findR ns node = 7 := by unfold findR; rw [if_pos h, if_pos k]
theorem findR_z {ns : List Nd} {node : Int} (h : checkR ns = 0) (k : ¬ (node < 0 ∨ (ns.length : Int) ≤ node)) : findR ns node = 0 := by unfold findR; rw [if_pos h, if_neg k]
theorem up1TF {f i : Nat} {ns : List Nd} {u w : AV} {more : List AV} (c : ∀ u, TF 0 ns u → CSem Tryz.prog f (.agg [u] :: more) (nodesH ns) w (nodesH ns)) (hm : plains more = true) (hw : RenV [i] w w) (tu : TF i ns u) {h : Heap} (hi : Nat.blt i h.next = true) (ht : tells (h.objs.get i) (cellsN ns)) :
    CSem Tryz.prog f (.agg [u] :: more) h w h := by
  cases tu with
  | nil e => exact CSem.up (c _ (TF.nil e)) [i] [] rfl (by simp only [List.all_cons, hi, List.all_nil, Bool.and_true]) ⟨⟨cellsN_plain ns, ht⟩, True.intro⟩ (RenVs.cons (RenV.agg1 RenV.nilslice) (RenVs.plain hm)) True.intro rfl rfl hw
  | sl => exact CSem.up (c _ TF.sl) [i] [] rfl (by simp only [List.all_cons, hi, List.all_nil, Bool.and_true]) ⟨⟨cellsN_plain ns, ht⟩, True.intro⟩ (RenVs.cons (RenV.agg1 (RenV.slice rfl)) (RenVs.plain hm)) True.intro rfl rfl hw
set_option maxHeartbeats 4000000 in
theorem sem66 (ns : List Nd) (o : NdOk ns) (node : Int) (hr : -9223372036854775808 ≤ node ∧ node < 9223372036854775808) (u : AV) (tu : TF 0 ns u) : CSem Tryz.prog 66 [.agg [u], .int .i64 node] (nodesH ns) (.int .i64 (findR ns node)) (nodesH ns) := by
  have ca : ∀ {h : Heap}, Nat.blt 0 h.next = true → tells (h.objs.get 0) (cellsN ns) → CSem Tryz.prog 26 [.agg [u]] h (.int .i64 (checkR ns)) h := fun hi ht => tf26 o tu hi ht
  have hl : u = .nilslice → ns.length = 0 := fun e => by cases tu with | nil h => rw [h]; rfl | sl => cases e
  rcases tu.form with rfl | rfl
  all_goals
    refine CSem.into Tryz.func66 rfl (by decide) Tryz.ntmps66 rfl rfl rfl ?_
    dsimp only [nodesH]
    by_cases h0 : checkR ns = 0
    · by_cases hk : node < 0 ∨ (ns.length : Int) ≤ node
      · rw [findR_o h0 hk]
        repeat' (first
         | refine S0 ?_
         | refine Sc ca ?_
         | (refine S2 ?_ ?_) <;> intro hc <;> try (exfalso; first | omega | (simp at hc; done))
         | refine St ?_
         | fail)
        all_goals first
          | exact ⟨rfl, _, rfl, [0], ⟨rfl, rfl, rfl, RenO.ro (RenVs.plain (cellsN_plain _)), True.intro⟩, RenV.plain rfl⟩
          | (exfalso; have := hl rfl; have hc' : ¬ ((0 : Int) ≤ node) := hc; omega)
          | (exfalso; omega)
      · rw [findR_z h0 hk]
        repeat' (first
         | refine S0 ?_
         | refine Sc ca ?_
         | (refine S2 ?_ ?_) <;> intro hc <;> try (exfalso; first | omega | (simp at hc; done))
         | refine St ?_
         | fail)
        all_goals first
          | exact ⟨rfl, _, rfl, [0], ⟨rfl, rfl, rfl, RenO.ro (RenVs.plain (cellsN_plain _)), True.intro⟩, RenV.plain rfl⟩
          | (exfalso; have := hl rfl; omega)
          | (exfalso; omega)
    · rw [findR_c h0]
      repeat' (first
       | refine S0 ?_
       | refine Sc ca ?_
       | (refine S2 ?_ ?_) <;> intro hc <;> try (exfalso; first | omega | (simp at hc; done))
       | refine St ?_
       | fail)
      all_goals first
        | (exfalso; omega)
        | exact ⟨rfl, _, rfl, [0], ⟨rfl, rfl, rfl, RenO.ro (RenVs.plain (cellsN_plain _)), True.intro⟩, RenV.plain rfl⟩
theorem tf66 {i : Nat} {ns : List Nd} {u : AV} (o : NdOk ns) {node : Int} (hr : -9223372036854775808 ≤ node ∧ node < 9223372036854775808) (tu : TF i ns u) {h : Heap} (hi : Nat.blt i h.next = true) (ht : tells (h.objs.get i) (cellsN ns)) : CSem Tryz.prog 66 [.agg [u], .int .i64 node] h (.int .i64 (findR ns node)) h :=
  up1TF (fun u t => sem66 ns o node hr u t) rfl (RenV.plain rfl) tu hi ht
end Go.Am
namespace Go.Am
open Go Go.Proofs Go.RowKit Go.Pu
set_option maxRecDepth 1000000
theorem check_lam {ns : List Nd} (o : NdOk ns) (h : checkR ns = 0) : Lam (sizes ns) := by
  refine ref_lam o ?_
  unfold checkR at h
  split at h
  · cases h
  · split at h
    · assumption
    · cases h
theorem find_sl {i : Nat} {ns : List Nd} {u : AV} (tu : TF i ns u) {node : Nat} (hi : node < ns.length) : u = .slice i 0 ns.length 5 := by
  cases tu with
  | nil e => rw [e] at hi; cases hi
  | sl => rfl
set_option maxHeartbeats 4000000 in
theorem sem53 (ns : List Nd) (hl : Lam (sizes ns)) (hn : ns.length ≤ 700) (node : Nat) (hi : node < ns.length) : CSem Tryz.prog 53 [.agg [.slice 0 0 ns.length 5], .int .i64 (node : Int)] (nodesH ns) (.int .i64 (upF (ancF (sizeAt ns) node node))) (nodesH ns) := by
  refine CSem.into Tryz.func53 rfl (by decide) Tryz.ntmps53 rfl rfl rfl ?_
  dsimp only [nodesH]
  repeat' (first
   | refine S0 ?_
   | (refine S2 ?_ ?_) <;> intro hc <;> try (exfalso; first | omega | (simp at hc; done))
   | refine St ?_
   | fail)
  refine RS.loop (σ := Nat) (fun k => k ≤ node ∧ upF (ancF (sizeAt ns) node k) = upF (ancF (sizeAt ns) node node)) (fun k => [(1, .int .i64 (node : Int)), (2, .ptr 1 0), (5, .int .i64 ((k : Int) - 1))]) (fun _ => ⟨.node (some (.ro 50 5 (cellsN ns))) (.node (some (.cells 26 1 [.slice 0 0 ns.length 5] true)) .leaf .leaf) .leaf, 2⟩) (fun k => k) node ⟨Nat.le_refl _, rfl⟩ ⟨[0, 1], ⟨rfl, rfl, rfl, RenO.ro (RenVs.plain (cellsN_plain _)), RenO.cells (RenVs.cons (RenV.slice rfl) RenVs.nil), True.intro⟩, by (repeat' (first | exact True.intro | refine And.intro ?_ ?_ | exact ⟨_, rfl, RenV.plain rfl⟩ | exact ⟨_, rfl, RenV.slice rfl⟩ | exact ⟨_, rfl, RenV.ptr rfl⟩ | exact ⟨_, rfl, RenV.nilslice⟩))⟩ ?round
  rintro k ⟨hk, hR⟩
  refine ⟨_, rfl, ?_⟩
  cases k with
  | zero =>
    have hR' : (-1 : Int) = upF (ancF (sizeAt ns) node node) := hR
    rw [← hR']
    repeat' (first
     | refine S0 ?_
     | (refine S2 ?_ ?_) <;> intro hc <;> try (exfalso; first | omega | (simp at hc; done))
     | refine St ?_
     | fail)
    all_goals first
      | (exfalso; omega)
      | exact ⟨rfl, _, rfl, [0], ⟨rfl, rfl, rfl, RenO.ro (RenVs.plain (cellsN_plain _)), True.intro⟩, RenV.plain rfl⟩
  | succ k =>
    obtain ⟨x, hx⟩ : ∃ x, ns[k]? = some x := ⟨ns[k]'(by omega), by rw [List.getElem?_eq_getElem]⟩
    have hs : (sizes ns)[k]? = some x.s := by simp [sizes, hx]
    have hr := hl.rng k x.s hs
    have hz : (sizes ns).length = ns.length := by simp [sizes]
    have e : sizeAt ns k = x.s := by unfold sizeAt; rw [hs]; rfl
    rw [ancF, e] at hR
    by_cases hg : (node : Int) < k + x.s
    · rw [if_pos hg] at hR
      have hR' : (k : Int) = upF (ancF (sizeAt ns) node node) := hR
      rw [← hR']
      repeat' (first
       | refine S0 ?_
       | ((with_reducible refine' RO.idxL (m := k) exts_ok ?hw ?hx ?hy ?hu ?hi ?hes ?hz ?hlt ?hp ?_); (case hw | hx | hy | hu | hi | hes => exact rfl); (case hz | hlt => omega); (case hp => exact rfl))
       | ((with_reducible refine' RQ.idxL (m := k) exts_ok ?hw ?hx ?hy ?hu ?hi ?hes ?hz ?hlt ?hp ?_); (case hw | hx | hy | hu | hi | hes => exact rfl); (case hz | hlt => omega); (case hp => exact rfl))
       | (refine S2 ?_ ?_) <;> intro hc <;> try (exfalso; first | omega | (simp at hc; done))
       | refine Sf hx ?_
       | refine St ?_
       | fail)
      all_goals first
        | (exfalso; omega)
        | exact ⟨rfl, _, rfl, [0], ⟨rfl, rfl, rfl, RenO.ro (RenVs.plain (cellsN_plain _)), True.intro⟩, RenV.eq (by show AV.int .i64 _ = AV.int .i64 _; congr 1; omega) rfl⟩
    · rw [if_neg hg] at hR
      repeat' (first
       | refine S0 ?_
       | ((with_reducible refine' RO.idxL (m := k) exts_ok ?hw ?hx ?hy ?hu ?hi ?hes ?hz ?hlt ?hp ?_); (case hw | hx | hy | hu | hi | hes => exact rfl); (case hz | hlt => omega); (case hp => exact rfl))
       | ((with_reducible refine' RQ.idxL (m := k) exts_ok ?hw ?hx ?hy ?hu ?hi ?hes ?hz ?hlt ?hp ?_); (case hw | hx | hy | hu | hi | hes => exact rfl); (case hz | hlt => omega); (case hp => exact rfl))
       | (refine S2 ?_ ?_) <;> intro hc <;> try (exfalso; first | omega | (simp at hc; done))
       | refine Sf hx ?_
       | refine St ?_
       | fail)
      all_goals first
        | (exfalso; omega)
        | (refine Rnd.n k [0, 1] ⟨by omega, hR⟩ (by omega) ⟨rfl, rfl, rfl, RenO.ro (RenVs.plain (cellsN_plain _)), RenO.cells (RenVs.cons (RenV.slice rfl) RenVs.nil), True.intro⟩ ?_
           exact ⟨⟨_, rfl, RenV.plain rfl⟩, ⟨_, rfl, RenV.ptr rfl⟩, ⟨_, rfl, RenV.eq (by congr 1; omega) rfl⟩, True.intro⟩)
end Go.Am
