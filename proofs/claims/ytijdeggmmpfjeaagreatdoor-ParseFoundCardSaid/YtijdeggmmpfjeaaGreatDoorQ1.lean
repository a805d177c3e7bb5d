/- Part of the proof: WqA, WqB. -/
import Derived.Test.YtijdeggmmpfjeaaGreatDoorD1
import Derived.Test.YtijdeggmmpfjeaaGreatDoorP2
set_option linter.unusedSimpArgs false
set_option linter.unusedVariables false
set_option linter.unusedSectionVars false
namespace Go.Am
open Go Go.Proofs Go.RowKit Go.Pu
set_option maxRecDepth 1000000
def findR (ns : List Nd) (node : Int) : Int := if checkR ns = 0 then (if node < 0 ∨ (ns.length : Int) ≤ node then 7 else 0) else checkR ns
theorem findR_c {ns : List Nd} {node : Int} (h : ¬ checkR ns = 0) : findR ns node = checkR ns := by unfold findR; rw [if_neg h]
theorem findR_o {ns : List Nd} {node : Int} (h : checkR ns = 0) (k : node < 0 ∨ (ns.length : Int) ≤ node) : findR ns node = 7 := by unfold findR; rw [if_pos h, if_pos k]
theorem findR_z {ns : List Nd} {node : Int} (h : checkR ns = 0) (k : ¬ (node < 0 ∨ (ns.length : Int) ≤ node)) : findR ns node = 0 := by unfold findR; rw [if_pos h, if_neg k]
theorem up1TF {f i : Nat} {ns : List Nd} {u w : AV} {more : List AV} (c : ∀ u, TF 0 ns u → CSem Tryz.prog f (.agg [u] :: more) (nodesH ns) w (nodesH ns)) (hm : plains more = true) (hw : RenV [i] w w) (tu : TF i ns u) {h : Heap} (hi : Nat.blt i h.next = true) (ht : tells (h.objs.get i) (cellsN ns)) :
    CSem Tryz.prog f (.agg [u] :: more) h w h := by
  cases tu with
  | nil e => exact CSem.up (c _ (TF.nil e)) [i] [] rfl (by simp only [List.all_cons, hi, List.all_nil, Bool.and_true]) ⟨⟨cellsN_plain ns, ht⟩, True.intro⟩ (RenVs.cons (RenV.agg1 RenV.nilslice) (RenVs.plain hm)) True.intro rfl rfl hw
  | sl => exact CSem.up (c _ TF.sl) [i] [] rfl (by simp only [List.all_cons, hi, List.all_nil, Bool.and_true]) ⟨⟨cellsN_plain ns, ht⟩, True.intro⟩ (RenVs.cons (RenV.agg1 (RenV.slice rfl)) (RenVs.plain hm)) True.intro rfl rfl hw
set_option maxHeartbeats 4000000 in
theorem sem66 (ns : List Nd) (o : NdOk ns) (node : Int) (hr : -9223372036854775808 ≤ node ∧ node < 9223372036854775808) (u : AV) (tu : TF 0 ns u) : CSem Tryz.prog 66 [.agg [u], .int .i64 node] (nodesH ns) (.int .i64 (findR ns node)) (nodesH ns) := by
  have ca : ∀ {h : Heap}, Nat.blt 0 h.next = true → tells (h.objs.get 0) (cellsN ns) → CSem Tryz.prog 26 [.agg [u]] h (.int .i64 (checkR ns)) h := fun hi ht => tf26 o tu hi ht
  have hl : u = .nilslice → ns.length = 0 := fun e => by cases tu with | nil h => rw [h]; rfl | sl => cases e
  rcases tu.form with rfl | rfl
  all_goals
    refine CSem.into Tryz.func66 rfl (by decide) Tryz.ntmps66 rfl rfl rfl ?_
    dsimp only [nodesH]
    by_cases h0 : checkR ns = 0
    · by_cases hk : node < 0 ∨ (ns.length : Int) ≤ node
      · rw [findR_o h0 hk]
        repeat' (first
         | refine S0 ?_
         | refine Sc ca ?_
         | (refine S2 ?_ ?_) <;> intro hc <;> try (exfalso; first | omega | (simp at hc; done))
         | refine St ?_
         | fail)
        all_goals first
          | exact ⟨rfl, _, rfl, [0], ⟨rfl, rfl, rfl, RenO.ro (RenVs.plain (cellsN_plain _)), True.intro⟩, RenV.plain rfl⟩
          | (exfalso; have := hl rfl; have hc' : ¬ ((0 : Int) ≤ node) := hc; omega)
          | (exfalso; omega)
      · rw [findR_z h0 hk]
        repeat' (first
         | refine S0 ?_
         | refine Sc ca ?_
         | (refine S2 ?_ ?_) <;> intro hc <;> try (exfalso; first | omega | (simp at hc; done))
         | refine St ?_
         | fail)
        all_goals first
          | exact ⟨rfl, _, rfl, [0], ⟨rfl, rfl, rfl, RenO.ro (RenVs.plain (cellsN_plain _)), True.intro⟩, RenV.plain rfl⟩
          | (exfalso; have := hl rfl; omega)
          | (exfalso; omega)
    · rw [findR_c h0]
      repeat' (first
       | refine S0 ?_
       | refine Sc ca ?_
       | (refine S2 ?_ ?_) <;> intro hc <;> try (exfalso; first | omega | (simp at hc; done))
       | refine St ?_
       | fail)
      all_goals first
        | (exfalso; omega)
        | exact ⟨rfl, _, rfl, [0], ⟨rfl, rfl, rfl, RenO.ro (RenVs.plain (cellsN_plain _)), True.intro⟩, RenV.plain rfl⟩
theorem tf66 {i : Nat} {ns : List Nd} {u : AV} (o : NdOk ns) {node : Int} (hr : -9223372036854775808 ≤ node ∧ node < 9223372036854775808) (tu : TF i ns u) {h : Heap} (hi : Nat.blt i h.next = true) (ht : tells (h.objs.get i) (cellsN ns)) : CSem Tryz.prog 66 [.agg [u], .int .i64 node] h (.int .i64 (findR ns node)) h :=
  up1TF (fun u t => sem66 ns o node hr u t) rfl (RenV.plain rfl) tu hi ht
set_option maxHeartbeats 4000000 in
theorem sem51 (ns : List Nd) (o : NdOk ns) (node : Int) (hr : -9223372036854775808 ≤ node ∧ node < 9223372036854775808) (u : AV) (tu : TF 0 ns u) : CSem Tryz.prog 51 [.agg [u], .int .i64 node] (nodesH ns) (.int .i64 (findR ns node)) (nodesH ns) := by
  have ca : ∀ {h : Heap}, Nat.blt 0 h.next = true → tells (h.objs.get 0) (cellsN ns) → CSem Tryz.prog 27 [.agg [u]] h (.int .i64 (checkR ns)) h := fun hi ht => tf27 o tu hi ht
  have hl : u = .nilslice → ns.length = 0 := fun e => by cases tu with | nil h => rw [h]; rfl | sl => cases e
  have hn := o.len
  rcases tu.form with rfl | rfl
  · have h00 := hl rfl
    refine CSem.into Tryz.func51 rfl (by decide) Tryz.ntmps51 rfl rfl rfl ?_
    dsimp only [nodesH]
    by_cases h0 : checkR ns = 0
    · have hk : node < 0 ∨ (ns.length : Int) ≤ node := by omega
      have ci : ∀ h, CSem Tryz.prog 84 [.int .i64 node, .int .i64 0, .int .i64 (-1)] h (.bool false) h := fun h => by
        have := sem84 node 0 (-1) h
        rwa [decide_eq_false (by omega)] at this
      rw [findR_o h0 hk]
      repeat' (first
       | refine S0 ?_
       | refine Sc ca ?_
       | refine Sc (ci _) ?_
       | (refine S2 ?_ ?_) <;> intro hc <;> try (exfalso; first | omega | (simp at hc; done))
       | refine St ?_
       | fail)
      all_goals first
        | exact ⟨rfl, _, rfl, [0], ⟨rfl, rfl, rfl, RenO.ro (RenVs.plain (cellsN_plain _)), True.intro⟩, RenV.plain rfl⟩
        | (exfalso; omega)
    · rw [findR_c h0]
      repeat' (first
       | refine S0 ?_
       | refine Sc ca ?_
       | (refine S2 ?_ ?_) <;> intro hc <;> try (exfalso; first | omega | (simp at hc; done))
       | refine St ?_
       | fail)
      all_goals first
        | (exfalso; omega)
        | exact ⟨rfl, _, rfl, [0], ⟨rfl, rfl, rfl, RenO.ro (RenVs.plain (cellsN_plain _)), True.intro⟩, RenV.plain rfl⟩
  · refine CSem.into Tryz.func51 rfl (by decide) Tryz.ntmps51 rfl rfl rfl ?_
    dsimp only [nodesH]
    by_cases h0 : checkR ns = 0
    · by_cases hk : node < 0 ∨ (ns.length : Int) ≤ node
      · have ci : ∀ h, CSem Tryz.prog 84 [.int .i64 node, .int .i64 0, .int .i64 ((ns.length : Int) - 1)] h (.bool false) h := fun h => by
          have := sem84 node 0 ((ns.length : Int) - 1) h
          rwa [decide_eq_false (by omega)] at this
        rw [findR_o h0 hk]
        repeat' (first
         | refine S0 ?_
         | refine Sc ca ?_
         | refine Sc (ci _) ?_
         | (refine S2 ?_ ?_) <;> intro hc <;> try (exfalso; first | omega | (simp at hc; done))
         | refine St ?_
         | fail)
        all_goals first
          | exact ⟨rfl, _, rfl, [0], ⟨rfl, rfl, rfl, RenO.ro (RenVs.plain (cellsN_plain _)), True.intro⟩, RenV.plain rfl⟩
          | (exfalso; omega)
      · have ci : ∀ h, CSem Tryz.prog 84 [.int .i64 node, .int .i64 0, .int .i64 ((ns.length : Int) - 1)] h (.bool true) h := fun h => by
          have := sem84 node 0 ((ns.length : Int) - 1) h
          rwa [decide_eq_true (by omega)] at this
        rw [findR_z h0 hk]
        repeat' (first
         | refine S0 ?_
         | refine Sc ca ?_
         | refine Sc (ci _) ?_
         | (refine S2 ?_ ?_) <;> intro hc <;> try (exfalso; first | omega | (simp at hc; done))
         | refine St ?_
         | fail)
        all_goals first
          | exact ⟨rfl, _, rfl, [0], ⟨rfl, rfl, rfl, RenO.ro (RenVs.plain (cellsN_plain _)), True.intro⟩, RenV.plain rfl⟩
          | (exfalso; omega)
    · rw [findR_c h0]
      repeat' (first
       | refine S0 ?_
       | refine Sc ca ?_
       | (refine S2 ?_ ?_) <;> intro hc <;> try (exfalso; first | omega | (simp at hc; done))
       | refine St ?_
       | fail)
      all_goals first
        | (exfalso; omega)
        | exact ⟨rfl, _, rfl, [0], ⟨rfl, rfl, rfl, RenO.ro (RenVs.plain (cellsN_plain _)), True.intro⟩, RenV.plain rfl⟩
theorem tf51 {i : Nat} {ns : List Nd} {u : AV} (o : NdOk ns) {node : Int} (hr : -9223372036854775808 ≤ node ∧ node < 9223372036854775808) (tu : TF i ns u) {h : Heap} (hi : Nat.blt i h.next = true) (ht : tells (h.objs.get i) (cellsN ns)) : CSem Tryz.prog 51 [.agg [u], .int .i64 node] h (.int .i64 (findR ns node)) h :=
  up1TF (fun u t => sem51 ns o node hr u t) rfl (RenV.plain rfl) tu hi ht
theorem cellsN_at : ∀ (ns : List Nd) (k f : Nat) (x : Nd), ns[k]? = some x → f < 5 → (cellsN ns)[k * 5 + f]? = (rowN x)[f]?
  | [], k, f, x, h, _ => by simp at h
  | y :: ns, 0, f, x, h, hf => by
    simp only [List.getElem?_cons_zero, Option.some.injEq] at h
    subst h
    have e : cellsN (y :: ns) = rowN y ++ cellsN ns := rfl
    rw [e, List.getElem?_append_left (by rw [rowN_len]; omega)]
    simp
  | y :: ns, k + 1, f, x, h, hf => by
    have e : cellsN (y :: ns) = rowN y ++ cellsN ns := rfl
    rw [e, List.getElem?_append_right (by rw [rowN_len]; omega), rowN_len, show (k + 1) * 5 + f - 5 = k * 5 + f by omega]
    exact cellsN_at ns k f x (by simpa using h) hf
theorem sem94 (ns : List Nd) (hl : Lam (sizes ns)) (hn : ns.length ≤ 700) (node : Nat) (hi : node < ns.length) : CSem Tryz.prog 94 [.slice 0 0 ns.length 5, .int .i64 (node : Int)] (nodesH ns) (.int .i64 (upF (ancF (sizeAt ns) node node))) (nodesH ns) := by
  intro B w0 M w r cargs hc
  have hz : (sizes ns).length = ns.length := by simp [sizes]
  simp only [concs, conc] at hc
  cases hp : M 0 with
  | none => simp [hp] at hc
  | some p =>
    simp only [hp, Option.bind_some] at hc
    split at hc
    · rename_i v1 l1 e1 e2
      simp only [Option.some.injEq] at hc
      subst hc
      simp only [Option.some.injEq] at e2
      subst e2
      split at e1
      · simp only [Option.some.injEq] at e1
        subst e1
        obtain ⟨_, hb, ho⟩ := r.obj 0 p hp
        have ho' : ∀ (j : Nat) (a : AV), (cellsN ns)[j]? = some a → ∃ x, conc M a = some x ∧ cellAt w.heap[p.b]? (p.base + j) = some x := ho
        have := up_in Fence.wide 3 (fun _ => trivial) rfl (Nat.le_refl _) p.b (p.base + 0 * 5) ns.length (p.cap - 0) node (sizeAt ns) (fun k hk => by
          obtain ⟨x, hx⟩ : ∃ x, (sizes ns)[k]? = some x := ⟨(sizes ns)[k]'(by omega), by rw [List.getElem?_eq_getElem]⟩
          have := hl.rng k x hx
          unfold sizeAt
          rw [hx]
          simp only [Option.getD_some]
          omega) hi (by omega) w hb (fun j hj => by
          obtain ⟨x, hx⟩ : ∃ x, ns[j]? = some x := ⟨ns[j]'(by omega), by rw [List.getElem?_eq_getElem]⟩
          have h4 : (cellsN ns)[j * 5 + 4]? = some (.int .i64 x.s) := by rw [cellsN_at ns j 4 x hx (by omega)]; rfl
          obtain ⟨y, hy, hy'⟩ := ho' _ _ h4
          simp only [conc, Option.some.injEq] at hy
          subst hy
          rw [cell?_eq]
          simp only [Nat.zero_mul, Nat.add_zero]
          rw [hy']
          unfold sizeAt
          simp [sizes, hx])
        refine (callsIn_wide.1 this).mono ?_
        rintro e w' ⟨rfl, bel⟩
        exact ⟨M, _, Grow.refl _ M, rfl, by simp [conc], r.after bel⟩
      · cases e1
    · cases hc
end Go.Am
namespace Go.Am
open Go Go.Proofs Go.RowKit Go.Pu
set_option maxRecDepth 1000000
theorem check_lam {ns : List Nd} (o : NdOk ns) (h : checkR ns = 0) : Lam (sizes ns) := by
  refine ref_lam o ?_
  unfold checkR at h
  split at h
  · cases h
  · split at h
    · assumption
    · cases h
theorem tf94 {ns : List Nd} (hl : Lam (sizes ns)) (hn : ns.length ≤ 700) {node : Nat} (hi : node < ns.length) {h : Heap} {i : Nat} (hi' : Nat.blt i h.next = true) (ht : tells (h.objs.get i) (cellsN ns)) : CSem Tryz.prog 94 [.slice i 0 ns.length 5, .int .i64 (node : Int)] h (.int .i64 (upF (ancF (sizeAt ns) node node))) h :=
  CSem.upN (sem94 ns hl hn node hi) hi' ht (RenVs.cons (RenV.slice rfl) (RenVs.plain rfl)) (RenV.plain rfl)
theorem find_sl {i : Nat} {ns : List Nd} {u : AV} (tu : TF i ns u) {node : Nat} (hi : node < ns.length) : u = .slice i 0 ns.length 5 := by
  cases tu with
  | nil e => rw [e] at hi; cases hi
  | sl => rfl
set_option maxHeartbeats 4000000 in
theorem sem47k (ns : List Nd) (o : NdOk ns) (h0 : checkR ns = 0) (node : Nat) (hi : node < ns.length) : CSem Tryz.prog 47 [.agg [.slice 0 0 ns.length 5], .int .i64 (node : Int)] (nodesH ns) (.tuple [.int .i64 (upF (ancF (sizeAt ns) node node)), .int .i64 0]) (nodesH ns) := by
  have hl := check_lam o h0
  have hn := o.len
  have cf : ∀ {h : Heap}, Nat.blt 0 h.next = true → tells (h.objs.get 0) (cellsN ns) → CSem Tryz.prog 66 [.agg [.slice 0 0 ns.length 5], .int .i64 (node : Int)] h (.int .i64 0) h := fun hi' ht => by
    have := tf66 o (node := (node : Int)) (by omega) (TF.sl (i := 0)) hi' ht
    rwa [findR_z h0 (by omega)] at this
  refine CSem.into Tryz.func47 rfl (by decide) Tryz.ntmps47 rfl rfl rfl ?_
  dsimp only [nodesH]
  repeat' (first
   | refine S0 ?_
   | refine Sc cf ?_
   | refine Sc (tf94 hl hn hi) ?_
   | (refine S2 ?_ ?_) <;> intro hc <;> try (exfalso; first | omega | (simp at hc; done))
   | refine St ?_
   | fail)
  all_goals first
    | (exfalso; omega)
    | exact ⟨rfl, _, rfl, [0], ⟨rfl, rfl, rfl, RenO.ro (RenVs.plain (cellsN_plain _)), True.intro⟩, RenV.tuple (RenVs.plain rfl)⟩
set_option maxHeartbeats 4000000 in
theorem sem47e (ns : List Nd) (o : NdOk ns) (node : Int) (hr : -9223372036854775808 ≤ node ∧ node < 9223372036854775808) (he : findR ns node ≠ 0) (u : AV) (tu : TF 0 ns u) : CSem Tryz.prog 47 [.agg [u], .int .i64 node] (nodesH ns) (.tuple [.int .i64 0, .int .i64 (findR ns node)]) (nodesH ns) := by
  refine CSem.into Tryz.func47 rfl (by decide) Tryz.ntmps47 rfl rfl rfl ?_
  dsimp only [nodesH]
  repeat' (first
   | refine S0 ?_
   | refine Sc (tf66 o hr tu) ?_
   | (refine S2 ?_ ?_) <;> intro hc <;> try (exfalso; first | omega | (simp at hc; done))
   | refine St ?_
   | fail)
  all_goals first
    | (exfalso; omega)
    | exact ⟨rfl, _, rfl, [0], ⟨rfl, rfl, rfl, RenO.ro (RenVs.plain (cellsN_plain _)), True.intro⟩, RenV.tuple (RenVs.plain rfl)⟩
set_option maxHeartbeats 4000000 in
theorem sem46e (ns : List Nd) (o : NdOk ns) (node : Int) (hr : -9223372036854775808 ≤ node ∧ node < 9223372036854775808) (he : findR ns node ≠ 0) (u : AV) (tu : TF 0 ns u) : CSem Tryz.prog 46 [.agg [u], .int .i64 node] (nodesH ns) (.tuple [.nilslice, .int .i64 (findR ns node)]) (nodesH ns) := by
  refine CSem.into Tryz.func46 rfl (by decide) Tryz.ntmps46 rfl rfl rfl ?_
  dsimp only [nodesH]
  repeat' (first
   | refine S0 ?_
   | refine Sc (tf66 o hr tu) ?_
   | (refine S2 ?_ ?_) <;> intro hc <;> try (exfalso; first | omega | (simp at hc; done))
   | refine St ?_
   | fail)
  all_goals first
    | (exfalso; omega)
    | exact ⟨rfl, _, rfl, [0], ⟨rfl, rfl, rfl, RenO.ro (RenVs.plain (cellsN_plain _)), True.intro⟩, RenV.tuple (RenVs.plain rfl)⟩
set_option maxHeartbeats 4000000 in
theorem sem46k (ns : List Nd) (o : NdOk ns) (h0 : checkR ns = 0) (node : Nat) (hi : node < ns.length) : CSem Tryz.prog 46 [.agg [.slice 0 0 ns.length 5], .int .i64 (node : Int)] (nodesH ns) (.tuple [madeV 1 (kidsOf (sizes ns) node), .int .i64 0]) (kidsH ns (kidsOf (sizes ns) node)) := by
  have hl := check_lam o h0
  have hn := o.len
  have cf : ∀ {h : Heap}, Nat.blt 0 h.next = true → tells (h.objs.get 0) (cellsN ns) → CSem Tryz.prog 66 [.agg [.slice 0 0 ns.length 5], .int .i64 (node : Int)] h (.int .i64 0) h := fun hi' ht => by
    have := tf66 o (node := (node : Int)) (by omega) (TF.sl (i := 0)) hi' ht
    rwa [findR_z h0 (by omega)] at this
  cases hk : kidsOf (sizes ns) node with
  | nil =>
    refine CSem.into Tryz.func46 rfl (by decide) Tryz.ntmps46 rfl rfl rfl ?_
    dsimp only [nodesH, madeV, kidsH]
    repeat' (first
     | refine S0 ?_
     | refine Sc cf ?_
     | refine Sc (at93 hl hn hi hk 2) ?_
     | (refine S2 ?_ ?_) <;> intro hc <;> try (exfalso; first | omega | (simp at hc; done))
     | refine St ?_
     | fail)
    all_goals first
      | (exfalso; omega)
      | exact ⟨rfl, _, rfl, [0], ⟨rfl, rfl, rfl, RenO.ro (RenVs.plain (cellsN_plain _)), True.intro⟩, RenV.tuple (RenVs.plain rfl)⟩
  | cons a l =>
    refine CSem.into Tryz.func46 rfl (by decide) Tryz.ntmps46 rfl rfl rfl ?_
    dsimp only [nodesH, madeV, kidsH]
    repeat' (first
     | refine S0 ?_
     | refine Sc cf ?_
     | refine Sc (at93 hl hn hi hk 2) ?_
     | (refine S2 ?_ ?_) <;> intro hc <;> try (exfalso; first | omega | (simp at hc; done))
     | refine St ?_
     | fail)
    all_goals first
      | (exfalso; omega)
      | exact ⟨rfl, _, rfl, [0, 2], ⟨rfl, rfl, rfl, RenO.ro (RenVs.plain (cellsN_plain _)), RenO.cells (RenVs.plain (cellsI_plain _)), True.intro⟩, RenV.tuple (RenVs.cons (RenV.slice rfl) (RenVs.plain rfl))⟩
set_option maxHeartbeats 4000000 in
theorem sem53 (ns : List Nd) (hl : Lam (sizes ns)) (hn : ns.length ≤ 700) (node : Nat) (hi : node < ns.length) : CSem Tryz.prog 53 [.agg [.slice 0 0 ns.length 5], .int .i64 (node : Int)] (nodesH ns) (.int .i64 (upF (ancF (sizeAt ns) node node))) (nodesH ns) := by
  refine CSem.into Tryz.func53 rfl (by decide) Tryz.ntmps53 rfl rfl rfl ?_
  dsimp only [nodesH]
  repeat' (first
   | refine S0 ?_
   | (refine S2 ?_ ?_) <;> intro hc <;> try (exfalso; first | omega | (simp at hc; done))
   | refine St ?_
   | fail)
  refine RS.loop (σ := Nat) (fun k => k ≤ node ∧ upF (ancF (sizeAt ns) node k) = upF (ancF (sizeAt ns) node node)) (fun k => [(1, .int .i64 (node : Int)), (2, .ptr 1 0), (5, .int .i64 ((k : Int) - 1))]) (fun _ => ⟨.node (some (.ro 50 5 (cellsN ns))) (.node (some (.cells 26 1 [.slice 0 0 ns.length 5] true)) .leaf .leaf) .leaf, 2⟩) (fun k => k) node ⟨Nat.le_refl _, rfl⟩ ⟨[0, 1], ⟨rfl, rfl, rfl, RenO.ro (RenVs.plain (cellsN_plain _)), RenO.cells (RenVs.cons (RenV.slice rfl) RenVs.nil), True.intro⟩, by (repeat' (first | exact True.intro | refine And.intro ?_ ?_ | exact ⟨_, rfl, RenV.plain rfl⟩ | exact ⟨_, rfl, RenV.slice rfl⟩ | exact ⟨_, rfl, RenV.ptr rfl⟩ | exact ⟨_, rfl, RenV.nilslice⟩))⟩ ?round
  rintro k ⟨hk, hR⟩
  refine ⟨_, rfl, ?_⟩
  cases k with
  | zero =>
    have hR' : (-1 : Int) = upF (ancF (sizeAt ns) node node) := hR
    rw [← hR']
    repeat' (first
     | refine S0 ?_
     | (refine S2 ?_ ?_) <;> intro hc <;> try (exfalso; first | omega | (simp at hc; done))
     | refine St ?_
     | fail)
    all_goals first
      | (exfalso; omega)
      | exact ⟨rfl, _, rfl, [0], ⟨rfl, rfl, rfl, RenO.ro (RenVs.plain (cellsN_plain _)), True.intro⟩, RenV.plain rfl⟩
  | succ k =>
    obtain ⟨x, hx⟩ : ∃ x, ns[k]? = some x := ⟨ns[k]'(by omega), by rw [List.getElem?_eq_getElem]⟩
    have hs : (sizes ns)[k]? = some x.s := by simp [sizes, hx]
    have hr := hl.rng k x.s hs
    have hz : (sizes ns).length = ns.length := by simp [sizes]
    have e : sizeAt ns k = x.s := by unfold sizeAt; rw [hs]; rfl
    rw [ancF, e] at hR
    by_cases hg : (node : Int) < k + x.s
    · rw [if_pos hg] at hR
      have hR' : (k : Int) = upF (ancF (sizeAt ns) node node) := hR
      rw [← hR']
      repeat' (first
       | refine S0 ?_
       | ((with_reducible refine' RO.idxL (m := k) exts_ok ?hw ?hx ?hy ?hu ?hi ?hes ?hz ?hlt ?hp ?_); (case hw | hx | hy | hu | hi | hes => exact rfl); (case hz | hlt => omega); (case hp => exact rfl))
       | ((with_reducible refine' RQ.idxL (m := k) exts_ok ?hw ?hx ?hy ?hu ?hi ?hes ?hz ?hlt ?hp ?_); (case hw | hx | hy | hu | hi | hes => exact rfl); (case hz | hlt => omega); (case hp => exact rfl))
       | (refine S2 ?_ ?_) <;> intro hc <;> try (exfalso; first | omega | (simp at hc; done))
       | refine Sf hx ?_
       | refine St ?_
       | fail)
      all_goals first
        | (exfalso; omega)
        | exact ⟨rfl, _, rfl, [0], ⟨rfl, rfl, rfl, RenO.ro (RenVs.plain (cellsN_plain _)), True.intro⟩, RenV.eq (by show AV.int .i64 _ = AV.int .i64 _; congr 1; omega) rfl⟩
    · rw [if_neg hg] at hR
      repeat' (first
       | refine S0 ?_
       | ((with_reducible refine' RO.idxL (m := k) exts_ok ?hw ?hx ?hy ?hu ?hi ?hes ?hz ?hlt ?hp ?_); (case hw | hx | hy | hu | hi | hes => exact rfl); (case hz | hlt => omega); (case hp => exact rfl))
       | ((with_reducible refine' RQ.idxL (m := k) exts_ok ?hw ?hx ?hy ?hu ?hi ?hes ?hz ?hlt ?hp ?_); (case hw | hx | hy | hu | hi | hes => exact rfl); (case hz | hlt => omega); (case hp => exact rfl))
       | (refine S2 ?_ ?_) <;> intro hc <;> try (exfalso; first | omega | (simp at hc; done))
       | refine Sf hx ?_
       | refine St ?_
       | fail)
      all_goals first
        | (exfalso; omega)
        | (refine Rnd.n k [0, 1] ⟨by omega, hR⟩ (by omega) ⟨rfl, rfl, rfl, RenO.ro (RenVs.plain (cellsN_plain _)), RenO.cells (RenVs.cons (RenV.slice rfl) RenVs.nil), True.intro⟩ ?_
           exact ⟨⟨_, rfl, RenV.plain rfl⟩, ⟨_, rfl, RenV.ptr rfl⟩, ⟨_, rfl, RenV.eq (by congr 1; omega) rfl⟩, True.intro⟩)
end Go.Am
