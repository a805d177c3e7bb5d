/- Part of the proof: WrF. -/
import Derived.Test.YtijdeggmmpfjeaaGreatDoorR1
set_option linter.unusedSimpArgs false
set_option linter.unusedVariables false
set_option linter.unusedSectionVars false
namespace Go.Am
open Go Go.Proofs Go.RowKit Go.Pu
set_option maxRecDepth 1000000
inductive NF (i : Nat) (l : List Nd) : AV → Prop
  | nil (h : l = []) : NF i l .nilslice
  | sl : NF i l (.slice i 0 l.length 5)
theorem NF.form {i : Nat} {l : List Nd} {v : AV} (p : NF i l v) : v = .nilslice ∧ l = [] ∨ v = .slice i 0 l.length 5 := by
  cases p with
  | nil e => exact .inl ⟨rfl, e⟩
  | sl => exact .inr rfl
def lenC (a b c : Nat) : Nat → Nat
  | 0 => 0
  | 1 => a
  | 2 => a + b
  | _ => a + b + c
def partC (a b c : List Nd) : Nat → List Nd
  | 0 => []
  | 1 => a
  | 2 => a ++ b
  | _ => a ++ (b ++ c)
theorem RenVs.eqR {s : List Nat} {c c0 : List AV} (h : c = c0) (hp : plains c0 = true) : RenVs s c c0 := by subst h; exact RenVs.plain hp
theorem lenC_0 (a b c : Nat) : lenC a b c 0 = 0 := rfl
theorem lenC_1 (a b c : Nat) : lenC a b c 1 = a := rfl
theorem lenC_2 (a b c : Nat) : lenC a b c 2 = a + b := rfl
theorem lenC_3 (a b c : Nat) : lenC a b c 3 = a + b + c := rfl
theorem partC_0 (a b c : List Nd) : partC a b c 0 = [] := rfl
theorem partC_1 (a b c : List Nd) : partC a b c 1 = a := rfl
theorem partC_2 (a b c : List Nd) : partC a b c 2 = a ++ b := rfl
theorem partC_3 (a b c : List Nd) : partC a b c 3 = a ++ (b ++ c) := rfl
def catA (ns by' : List Nd) (node e : Nat) (v : AV) (s : Int) : Heap := ⟨.node (some (.ro 50 5 (cellsN ns))) (.node (some (.ro 50 5 (cellsN by'))) (.node (some (.cells 24 1 [v] true)) (.node (some (.cells 24 1 [.slice 0 0 node 5, v, .slice 0 e (ns.length - e) 5] true)) .leaf .leaf) .leaf) (.node (some (.cells 3 1 [.int .i64 s] true)) .leaf .leaf)) (.node (some (.cells 26 1 [.slice 0 0 ns.length 5] true)) (.node (some (.cells 26 1 [.nilslice] true)) .leaf .leaf) (.node (some (.cells 26 1 [.nilslice] true)) .leaf .leaf)), 8⟩
def catAo (ns by' : List Nd) (node e : Nat) (v : AV) (s : Int) (o : List Nd) : Heap := ⟨.node (some (.ro 50 5 (cellsN ns))) (.node (some (.ro 50 5 (cellsN by'))) (.node (some (.cells 24 1 [v] true)) (.node (some (.cells 24 1 [.slice 0 0 node 5, v, .slice 0 e (ns.length - e) 5] true)) .leaf .leaf) .leaf) (.node (some (.cells 3 1 [.int .i64 s] true)) .leaf .leaf)) (.node (some (.cells 26 1 [.slice 0 0 ns.length 5] true)) (.node (some (.cells 26 1 [.nilslice] true)) (.node (some (.cells 50 5 (cellsN o) false)) .leaf .leaf) .leaf) (.node (some (.cells 26 1 [.nilslice] true)) .leaf .leaf)), 9⟩
def catB (ns by' : List Nd) (node : Nat) (v : AV) (s : Int) : Heap := ⟨.node (some (.ro 50 5 (cellsN ns))) (.node (some (.ro 50 5 (cellsN by'))) (.node (some (.cells 24 1 [v] true)) .leaf .leaf) (.node (some (.cells 3 1 [.int .i64 s] true)) .leaf .leaf)) (.node (some (.cells 26 1 [.slice 0 0 ns.length 5] true)) (.node (some (.cells 26 1 [.nilslice] true)) (.node (some (.cells 24 1 [.slice 0 0 node 5, v, .slice 7 0 0 5] true)) .leaf .leaf) .leaf) (.node (some (.cells 26 1 [.nilslice] true)) .leaf .leaf)), 9⟩
def catBo (ns by' : List Nd) (node : Nat) (v : AV) (s : Int) (o : List Nd) : Heap := ⟨.node (some (.ro 50 5 (cellsN ns))) (.node (some (.ro 50 5 (cellsN by'))) (.node (some (.cells 24 1 [v] true)) .leaf .leaf) (.node (some (.cells 3 1 [.int .i64 s] true)) (.node (some (.cells 50 5 (cellsN o) false)) .leaf .leaf) .leaf)) (.node (some (.cells 26 1 [.slice 0 0 ns.length 5] true)) (.node (some (.cells 26 1 [.nilslice] true)) (.node (some (.cells 24 1 [.slice 0 0 node 5, v, .slice 7 0 0 5] true)) .leaf .leaf) .leaf) (.node (some (.cells 26 1 [.nilslice] true)) .leaf .leaf)), 10⟩
theorem cellsN_app (a b : List Nd) : cellsN (a ++ b) = cellsN a ++ cellsN b := by simp [cellsN]
theorem cellsN_nil : cellsN [] = [] := rfl
theorem layX {N : Nat} {s : List Nat} {h h0 : Heap} (h1 : Nat.beq s.length h0.next = true := by exact rfl) (h2 : upto? N s 0 = true := by exact rfl) (h3 : once h0 s 0 [] = true := by exact rfl) (h4 : LayL h h0 s s 0 := by
  repeat' (first | exact True.intro | refine And.intro ?_ ?_ | exact RenO.none | exact RenO.ro (RenVs.plain (cellsN_plain _)) | exact RenO.cells (RenVs.plain rfl) | exact RenO.cells (RenVs.cons (RenV.slice rfl) RenVs.nil) | exact RenO.cells (RenVs.cons (RenV.slice rfl) (RenVs.cons (RenV.slice rfl) (RenVs.cons (RenV.slice rfl) RenVs.nil))) | exact RenO.cells (RenVs.cons (RenV.slice rfl) (RenVs.cons (RenV.plain rfl) (RenVs.cons (RenV.slice rfl) RenVs.nil))) | exact RenO.cells (RenVs.plain (cellsN_plain _)) | exact RenO.cells (RenVs.eqR (by simp [cellsN_app, cellsN_nil, partC_0, partC_1, partC_2, partC_3]) (cellsN_plain _)))) : Lay N s h h0 := ⟨h1, h2, h3, h4⟩
theorem cellsN_whole (l : List Nd) : takeN (l.length * 5) ((cellsN l).drop (0 * 5)) = some (cellsN l) := by rw [Nat.zero_mul]; exact takeN_all (by rw [cellsN_len])
set_option maxHeartbeats 16000000 in
theorem sem99an (ns : List Nd) (node e : Nat) (s : Int) (hne : node ≤ e) (hen : e < ns.length) (hn : ns.length ≤ 700) (h1t : node + 0 + (ns.length - e) ≤ 1000) : CSem Tryz.prog 99 [.slice 7 0 3 1] (catA ns ([] : List Nd) node e .nilslice s) (.slice 8 0 (lenC node 0 (ns.length - e) 3) 5) (catAo ns ([] : List Nd) node e .nilslice s (partC (ns.take node) ([] : List Nd) (ns.drop e) 3)) := by
  have hT : takeN (node * 5) ((cellsN ns).drop (0 * 5)) = some (cellsN (ns.take node)) := by have := cellsN_sub (ns := ns) (k := 0) (m := node) (by omega); rwa [List.drop_zero] at this
  have hU : takeN ((ns.length - e) * 5) ((cellsN ns).drop (e * 5)) = some (cellsN (ns.drop e)) := by
    have := cellsN_sub (ns := ns) (k := e) (m := ns.length - e) (by omega)
    rwa [List.take_of_length_le (by rw [List.length_drop]; omega)] at this
  have h0t : 0 < node + 0 + (ns.length - e) := by omega
  have hO1 : takeN (node * 5) ((cellsN (ns.take node)).drop 0) = some (cellsN (ns.take node)) := takeN_all (by rw [cellsN_len, List.length_take, Nat.min_eq_left (by omega)])
  have hO2 : takeN ((node + 0) * 5) ((cellsN (ns.take node ++ ([] : List Nd))).drop 0) = some (cellsN (ns.take node ++ ([] : List Nd))) := takeN_all (by rw [cellsN_len, List.length_append, List.length_take, Nat.min_eq_left (by omega)]; rfl)
  refine CSem.into Tryz.func99 rfl (by decide) Tryz.ntmps99 rfl rfl rfl ?_
  dsimp only [catA]
  repeat' (first
   | refine S0 ?_
   | (refine S2 ?_ ?_) <;> intro hc <;> try (exfalso; first | omega | (simp at hc; done))
   | refine St ?_
   | fail)
  refine RS.loop (σ := Nat) (fun i => i ≤ 3) (fun i => [(0, .slice 7 0 3 1), (3, .int .i64 ((lenC node 0 (ns.length - e) i : Nat) : Int)), (9, .slice 7 0 3 1), (10, .int .i64 3), (11, .int .i64 (i : Int))]) (fun _ => catA ns ([] : List Nd) node e .nilslice s) (fun i => 3 - i) 0 (Nat.zero_le _) ⟨[0, 1, 2, 3, 4, 5, 6, 7], by exact layX, by (repeat' (first | exact True.intro | refine And.intro ?_ ?_ | exact ⟨_, rfl, RenV.plain rfl⟩ | exact ⟨_, rfl, RenV.slice rfl⟩ | exact ⟨_, rfl, RenV.ptr rfl⟩ | exact ⟨_, rfl, RenV.nilslice⟩))⟩ ?round
  rintro i hi
  refine ⟨_, rfl, ?_⟩
  dsimp only [catA]
  rcases (show i = 0 ∨ i = 1 ∨ i = 2 ∨ i = 3 by omega) with rfl | rfl | rfl | rfl
  · simp only [lenC_0, lenC_1, lenC_2, lenC_3]
    repeat' (first
     | refine S0 ?_
     | ((with_reducible refine' RO.addI (b := 0) exts_ok ?hw ?hx ?hy ?hi ?hp ?_); (case hw | hx | hy => exact rfl); (case hi => omega); (case hp => exact rfl))
     | (refine S2 ?_ ?_) <;> intro hc <;> try (exfalso; first | omega | (simp at hc; done))
     | refine St ?_
     | fail)
    all_goals first
      | (exfalso; omega)
      | (refine Rnd.n 1 [0, 1, 2, 3, 4, 5, 6, 7] (by omega) (by omega) (by exact layX) ?_
         exact ⟨⟨_, rfl, RenV.slice rfl⟩, ⟨_, rfl, RenV.eq (by first | rfl | (congr 1; simp [lenC_0, lenC_1, lenC_2, lenC_3]; done) | (congr 1; simp [lenC_0, lenC_1, lenC_2, lenC_3]; omega)) rfl⟩, ⟨_, rfl, RenV.slice rfl⟩, ⟨_, rfl, RenV.plain rfl⟩, ⟨_, rfl, RenV.eq (by first | rfl | (congr 1; done)) rfl⟩, True.intro⟩)
  · simp only [lenC_0, lenC_1, lenC_2, lenC_3]
    repeat' (first
     | refine S0 ?_
     | ((with_reducible refine' RO.addI (b := 0) exts_ok ?hw ?hx ?hy ?hi ?hp ?_); (case hw | hx | hy => exact rfl); (case hi => omega); (case hp => exact rfl))
     | (refine S2 ?_ ?_) <;> intro hc <;> try (exfalso; first | omega | (simp at hc; done))
     | refine St ?_
     | fail)
    all_goals first
      | (exfalso; omega)
      | (refine Rnd.n 2 [0, 1, 2, 3, 4, 5, 6, 7] (by omega) (by omega) (by exact layX) ?_
         exact ⟨⟨_, rfl, RenV.slice rfl⟩, ⟨_, rfl, RenV.eq (by first | rfl | (congr 1; simp [lenC_0, lenC_1, lenC_2, lenC_3]; done) | (congr 1; simp [lenC_0, lenC_1, lenC_2, lenC_3]; omega)) rfl⟩, ⟨_, rfl, RenV.slice rfl⟩, ⟨_, rfl, RenV.plain rfl⟩, ⟨_, rfl, RenV.eq (by first | rfl | (congr 1; done)) rfl⟩, True.intro⟩)
  · simp only [lenC_0, lenC_1, lenC_2, lenC_3]
    repeat' (first
     | refine S0 ?_
     | ((with_reducible refine' RO.addI (b := 0) exts_ok ?hw ?hx ?hy ?hi ?hp ?_); (case hw | hx | hy => exact rfl); (case hi => omega); (case hp => exact rfl))
     | (refine S2 ?_ ?_) <;> intro hc <;> try (exfalso; first | omega | (simp at hc; done))
     | refine St ?_
     | fail)
    all_goals first
      | (exfalso; omega)
      | (refine Rnd.n 3 [0, 1, 2, 3, 4, 5, 6, 7] (by omega) (by omega) (by exact layX) ?_
         exact ⟨⟨_, rfl, RenV.slice rfl⟩, ⟨_, rfl, RenV.eq (by first | rfl | (congr 1; simp [lenC_0, lenC_1, lenC_2, lenC_3]; done) | (congr 1; simp [lenC_0, lenC_1, lenC_2, lenC_3]; omega)) rfl⟩, ⟨_, rfl, RenV.slice rfl⟩, ⟨_, rfl, RenV.plain rfl⟩, ⟨_, rfl, RenV.eq (by first | rfl | (congr 1; done)) rfl⟩, True.intro⟩)
  · simp only [lenC_0, lenC_1, lenC_2, lenC_3]
    repeat' (first
     | refine S0 ?_
     | refine Sc (at163 h0t h1t) ?_
     | (refine S2 ?_ ?_) <;> intro hc <;> try (exfalso; first | omega | (simp at hc; done))
     | refine St ?_
     | fail)
    all_goals first
      | (exfalso; omega)
      | skip
    refine RS.loop (σ := Nat) (fun i => i ≤ 3) (fun i => [(6, .slice 8 0 (lenC node 0 (ns.length - e) i) 5), (25, .slice 7 0 3 1), (26, .int .i64 3), (27, .int .i64 (i : Int))]) (fun i => catAo ns ([] : List Nd) node e .nilslice s (partC (ns.take node) ([] : List Nd) (ns.drop e) i)) (fun i => 3 - i) 0 (Nat.zero_le _) ⟨[0, 1, 2, 3, 4, 5, 6, 7, 8], by exact layX, by (repeat' (first | exact True.intro | refine And.intro ?_ ?_ | exact ⟨_, rfl, RenV.plain rfl⟩ | exact ⟨_, rfl, RenV.slice rfl⟩ | exact ⟨_, rfl, RenV.ptr rfl⟩ | exact ⟨_, rfl, RenV.nilslice⟩))⟩ ?round2
    rintro i hi
    refine ⟨_, rfl, ?_⟩
    dsimp only [catAo]
    rcases (show i = 0 ∨ i = 1 ∨ i = 2 ∨ i = 3 by omega) with rfl | rfl | rfl | rfl
    · simp only [lenC_0, lenC_1, lenC_2, lenC_3, partC_0, partC_1, partC_2, partC_3]
      by_cases hz : node = 0
      · subst hz
        repeat' (first
         | refine S0 ?_
         | ((with_reducible refine' RO.appZ ?hw ?hx ?hy ?hxs ?ht ?hu ?hi ?hp ?_); (case hw | hx | hy => exact rfl); (case hxs => exact .inr ⟨_, _, rfl⟩); (case ht | hu | hi | hp => exact rfl))
         | (refine S2 ?_ ?_) <;> intro hc <;> try (exfalso; first | omega | (simp at hc; done))
         | refine St ?_
         | fail)
        all_goals first
          | (exfalso; omega)
          | (refine Rnd.n 1 [0, 1, 2, 3, 4, 5, 6, 7, 8] (by omega) (by omega) (by exact layX) ?_
             exact ⟨⟨_, rfl, RenV.sliceL rfl (by first | rfl | (simp [lenC_0, lenC_1, lenC_2, lenC_3]; done) | (simp [lenC_0, lenC_1, lenC_2, lenC_3]; omega))⟩, ⟨_, rfl, RenV.slice rfl⟩, ⟨_, rfl, RenV.plain rfl⟩, ⟨_, rfl, RenV.eq (by first | rfl | (congr 1; done)) rfl⟩, True.intro⟩)
      · skip
        repeat' (first
         | refine S0 ?_
         | ((with_reducible refine' RO.appM exts_ok ?hw ?hx ?hy ?ht ?hu ?hi ?hz ?hzl ?hes ?he0 ?hn ?hone ?hm ?hg ?ho ?hb ?hb2 ?hq ?ha ?hp ?_); (case hw | hx | hy | ht | hu | hi | hz | hzl | hes | he0 => exact rfl); (case hn => first | exact hT | exact cellsN_whole _ | exact hU); (case hone => exact allOne_rows _); (case hm => first | omega | (simp; omega)); (case hg => exact rfl); (case ho => first | exact takeN_all rfl | exact takeN_all (by rw [cellsN_len]; simp; omega) | exact takeN_all (by rw [cellsN_len]) | exact hO1 | exact hO2); (case hb => first | omega | (simp; omega)); (case hb2 => (show _ * 48 ≤ _; first | omega | (simp; omega))); (case hq | ha | hp => exact rfl))
         | (refine S2 ?_ ?_) <;> intro hc <;> try (exfalso; first | omega | (simp at hc; done))
         | refine St ?_
         | fail)
        all_goals first
          | (exfalso; omega)
          | (refine Rnd.n 1 [0, 1, 2, 3, 4, 5, 6, 7, 9] (by omega) (by omega) (by exact layX) ?_
             exact ⟨⟨_, rfl, RenV.sliceL rfl (by first | rfl | (simp [lenC_0, lenC_1, lenC_2, lenC_3]; done) | (simp [lenC_0, lenC_1, lenC_2, lenC_3]; omega))⟩, ⟨_, rfl, RenV.slice rfl⟩, ⟨_, rfl, RenV.plain rfl⟩, ⟨_, rfl, RenV.eq (by first | rfl | (congr 1; done)) rfl⟩, True.intro⟩)
    · simp only [lenC_0, lenC_1, lenC_2, lenC_3, partC_0, partC_1, partC_2, partC_3]
      repeat' (first
       | refine S0 ?_
       | ((with_reducible refine' RO.appY exts_ok ?hw ?hx ?hy ?ht ?hu ?hi ?hz ?hzl ?hes ?he0 ?hp ?_); (case hw | hx | hy | ht | hu | hi | hz | hzl | hes | he0 | hp => exact rfl))
       | (refine S2 ?_ ?_) <;> intro hc <;> try (exfalso; first | omega | (simp at hc; done))
       | refine St ?_
       | fail)
      all_goals first
        | (exfalso; omega)
        | (refine Rnd.n 2 [0, 1, 2, 3, 4, 5, 6, 7, 8] (by omega) (by omega) (by exact layX) ?_
           exact ⟨⟨_, rfl, RenV.sliceL rfl (by first | rfl | (simp [lenC_0, lenC_1, lenC_2, lenC_3]; done) | (simp [lenC_0, lenC_1, lenC_2, lenC_3]; omega))⟩, ⟨_, rfl, RenV.slice rfl⟩, ⟨_, rfl, RenV.plain rfl⟩, ⟨_, rfl, RenV.eq (by first | rfl | (congr 1; done)) rfl⟩, True.intro⟩)
    · simp only [lenC_0, lenC_1, lenC_2, lenC_3, partC_0, partC_1, partC_2, partC_3]
      repeat' (first
       | refine S0 ?_
       | ((with_reducible refine' RO.appM exts_ok ?hw ?hx ?hy ?ht ?hu ?hi ?hz ?hzl ?hes ?he0 ?hn ?hone ?hm ?hg ?ho ?hb ?hb2 ?hq ?ha ?hp ?_); (case hw | hx | hy | ht | hu | hi | hz | hzl | hes | he0 => exact rfl); (case hn => first | exact hT | exact cellsN_whole _ | exact hU); (case hone => exact allOne_rows _); (case hm => first | omega | (simp; omega)); (case hg => exact rfl); (case ho => first | exact takeN_all rfl | exact takeN_all (by rw [cellsN_len]; simp; omega) | exact takeN_all (by rw [cellsN_len]) | exact hO1 | exact hO2); (case hb => first | omega | (simp; omega)); (case hb2 => (show _ * 48 ≤ _; first | omega | (simp; omega))); (case hq | ha | hp => exact rfl))
       | (refine S2 ?_ ?_) <;> intro hc <;> try (exfalso; first | omega | (simp at hc; done))
       | refine St ?_
       | fail)
      all_goals first
        | (exfalso; omega)
        | (refine Rnd.n 3 [0, 1, 2, 3, 4, 5, 6, 7, 9] (by omega) (by omega) (by exact layX) ?_
           exact ⟨⟨_, rfl, RenV.sliceL rfl (by first | rfl | (simp [lenC_0, lenC_1, lenC_2, lenC_3]; done) | (simp [lenC_0, lenC_1, lenC_2, lenC_3]; omega))⟩, ⟨_, rfl, RenV.slice rfl⟩, ⟨_, rfl, RenV.plain rfl⟩, ⟨_, rfl, RenV.eq (by first | rfl | (congr 1; done)) rfl⟩, True.intro⟩)
    · simp only [lenC_0, lenC_1, lenC_2, lenC_3, partC_0, partC_1, partC_2, partC_3]
      repeat' (first
       | refine S0 ?_
       | (refine S2 ?_ ?_) <;> intro hc <;> try (exfalso; first | omega | (simp at hc; done))
       | refine St ?_
       | fail)
      all_goals first
        | (exfalso; omega)
        | exact ⟨rfl, _, rfl, [0, 1, 2, 3, 4, 5, 6, 7, 8], by exact layX, RenV.slice rfl⟩
set_option maxHeartbeats 16000000 in
theorem sem99as (ns by' : List Nd) (node e : Nat) (s : Int) (hne : node ≤ e) (hen : e < ns.length) (hn : ns.length ≤ 700) (hm : by'.length ≤ 700) (h1t : node + by'.length + (ns.length - e) ≤ 1000) : CSem Tryz.prog 99 [.slice 7 0 3 1] (catA ns by' node e (.slice 1 0 by'.length 5) s) (.slice 8 0 (lenC node by'.length (ns.length - e) 3) 5) (catAo ns by' node e (.slice 1 0 by'.length 5) s (partC (ns.take node) by' (ns.drop e) 3)) := by
  have hT : takeN (node * 5) ((cellsN ns).drop (0 * 5)) = some (cellsN (ns.take node)) := by have := cellsN_sub (ns := ns) (k := 0) (m := node) (by omega); rwa [List.drop_zero] at this
  have hU : takeN ((ns.length - e) * 5) ((cellsN ns).drop (e * 5)) = some (cellsN (ns.drop e)) := by
    have := cellsN_sub (ns := ns) (k := e) (m := ns.length - e) (by omega)
    rwa [List.take_of_length_le (by rw [List.length_drop]; omega)] at this
  have h0t : 0 < node + by'.length + (ns.length - e) := by omega
  have hO1 : takeN (node * 5) ((cellsN (ns.take node)).drop 0) = some (cellsN (ns.take node)) := takeN_all (by rw [cellsN_len, List.length_take, Nat.min_eq_left (by omega)])
  have hO2 : takeN ((node + by'.length) * 5) ((cellsN (ns.take node ++ by')).drop 0) = some (cellsN (ns.take node ++ by')) := takeN_all (by rw [cellsN_len, List.length_append, List.length_take, Nat.min_eq_left (by omega)])
  refine CSem.into Tryz.func99 rfl (by decide) Tryz.ntmps99 rfl rfl rfl ?_
  dsimp only [catA]
  repeat' (first
   | refine S0 ?_
   | (refine S2 ?_ ?_) <;> intro hc <;> try (exfalso; first | omega | (simp at hc; done))
   | refine St ?_
   | fail)
  refine RS.loop (σ := Nat) (fun i => i ≤ 3) (fun i => [(0, .slice 7 0 3 1), (3, .int .i64 ((lenC node by'.length (ns.length - e) i : Nat) : Int)), (9, .slice 7 0 3 1), (10, .int .i64 3), (11, .int .i64 (i : Int))]) (fun _ => catA ns by' node e (.slice 1 0 by'.length 5) s) (fun i => 3 - i) 0 (Nat.zero_le _) ⟨[0, 1, 2, 3, 4, 5, 6, 7], by exact layX, by (repeat' (first | exact True.intro | refine And.intro ?_ ?_ | exact ⟨_, rfl, RenV.plain rfl⟩ | exact ⟨_, rfl, RenV.slice rfl⟩ | exact ⟨_, rfl, RenV.ptr rfl⟩ | exact ⟨_, rfl, RenV.nilslice⟩))⟩ ?round
  rintro i hi
  refine ⟨_, rfl, ?_⟩
  dsimp only [catA]
  rcases (show i = 0 ∨ i = 1 ∨ i = 2 ∨ i = 3 by omega) with rfl | rfl | rfl | rfl
  · simp only [lenC_0, lenC_1, lenC_2, lenC_3]
    repeat' (first
     | refine S0 ?_
     | ((with_reducible refine' RO.addI (b := 0) exts_ok ?hw ?hx ?hy ?hi ?hp ?_); (case hw | hx | hy => exact rfl); (case hi => omega); (case hp => exact rfl))
     | (refine S2 ?_ ?_) <;> intro hc <;> try (exfalso; first | omega | (simp at hc; done))
     | refine St ?_
     | fail)
    all_goals first
      | (exfalso; omega)
      | (refine Rnd.n 1 [0, 1, 2, 3, 4, 5, 6, 7] (by omega) (by omega) (by exact layX) ?_
         exact ⟨⟨_, rfl, RenV.slice rfl⟩, ⟨_, rfl, RenV.eq (by first | rfl | (congr 1; simp [lenC_0, lenC_1, lenC_2, lenC_3]; done) | (congr 1; simp [lenC_0, lenC_1, lenC_2, lenC_3]; omega)) rfl⟩, ⟨_, rfl, RenV.slice rfl⟩, ⟨_, rfl, RenV.plain rfl⟩, ⟨_, rfl, RenV.eq (by first | rfl | (congr 1; done)) rfl⟩, True.intro⟩)
  · simp only [lenC_0, lenC_1, lenC_2, lenC_3]
    repeat' (first
     | refine S0 ?_
     | ((with_reducible refine' RO.addI (b := 0) exts_ok ?hw ?hx ?hy ?hi ?hp ?_); (case hw | hx | hy => exact rfl); (case hi => omega); (case hp => exact rfl))
     | (refine S2 ?_ ?_) <;> intro hc <;> try (exfalso; first | omega | (simp at hc; done))
     | refine St ?_
     | fail)
    all_goals first
      | (exfalso; omega)
      | (refine Rnd.n 2 [0, 1, 2, 3, 4, 5, 6, 7] (by omega) (by omega) (by exact layX) ?_
         exact ⟨⟨_, rfl, RenV.slice rfl⟩, ⟨_, rfl, RenV.eq (by first | rfl | (congr 1; simp [lenC_0, lenC_1, lenC_2, lenC_3]; done) | (congr 1; simp [lenC_0, lenC_1, lenC_2, lenC_3]; omega)) rfl⟩, ⟨_, rfl, RenV.slice rfl⟩, ⟨_, rfl, RenV.plain rfl⟩, ⟨_, rfl, RenV.eq (by first | rfl | (congr 1; done)) rfl⟩, True.intro⟩)
  · simp only [lenC_0, lenC_1, lenC_2, lenC_3]
    repeat' (first
     | refine S0 ?_
     | ((with_reducible refine' RO.addI (b := 0) exts_ok ?hw ?hx ?hy ?hi ?hp ?_); (case hw | hx | hy => exact rfl); (case hi => omega); (case hp => exact rfl))
     | (refine S2 ?_ ?_) <;> intro hc <;> try (exfalso; first | omega | (simp at hc; done))
     | refine St ?_
     | fail)
    all_goals first
      | (exfalso; omega)
      | (refine Rnd.n 3 [0, 1, 2, 3, 4, 5, 6, 7] (by omega) (by omega) (by exact layX) ?_
         exact ⟨⟨_, rfl, RenV.slice rfl⟩, ⟨_, rfl, RenV.eq (by first | rfl | (congr 1; simp [lenC_0, lenC_1, lenC_2, lenC_3]; done) | (congr 1; simp [lenC_0, lenC_1, lenC_2, lenC_3]; omega)) rfl⟩, ⟨_, rfl, RenV.slice rfl⟩, ⟨_, rfl, RenV.plain rfl⟩, ⟨_, rfl, RenV.eq (by first | rfl | (congr 1; done)) rfl⟩, True.intro⟩)
  · simp only [lenC_0, lenC_1, lenC_2, lenC_3]
    repeat' (first
     | refine S0 ?_
     | refine Sc (at163 h0t h1t) ?_
     | (refine S2 ?_ ?_) <;> intro hc <;> try (exfalso; first | omega | (simp at hc; done))
     | refine St ?_
     | fail)
    all_goals first
      | (exfalso; omega)
      | skip
    refine RS.loop (σ := Nat) (fun i => i ≤ 3) (fun i => [(6, .slice 8 0 (lenC node by'.length (ns.length - e) i) 5), (25, .slice 7 0 3 1), (26, .int .i64 3), (27, .int .i64 (i : Int))]) (fun i => catAo ns by' node e (.slice 1 0 by'.length 5) s (partC (ns.take node) by' (ns.drop e) i)) (fun i => 3 - i) 0 (Nat.zero_le _) ⟨[0, 1, 2, 3, 4, 5, 6, 7, 8], by exact layX, by (repeat' (first | exact True.intro | refine And.intro ?_ ?_ | exact ⟨_, rfl, RenV.plain rfl⟩ | exact ⟨_, rfl, RenV.slice rfl⟩ | exact ⟨_, rfl, RenV.ptr rfl⟩ | exact ⟨_, rfl, RenV.nilslice⟩))⟩ ?round2
    rintro i hi
    refine ⟨_, rfl, ?_⟩
    dsimp only [catAo]
    rcases (show i = 0 ∨ i = 1 ∨ i = 2 ∨ i = 3 by omega) with rfl | rfl | rfl | rfl
    · simp only [lenC_0, lenC_1, lenC_2, lenC_3, partC_0, partC_1, partC_2, partC_3]
      by_cases hz : node = 0
      · subst hz
        repeat' (first
         | refine S0 ?_
         | ((with_reducible refine' RO.appZ ?hw ?hx ?hy ?hxs ?ht ?hu ?hi ?hp ?_); (case hw | hx | hy => exact rfl); (case hxs => exact .inr ⟨_, _, rfl⟩); (case ht | hu | hi | hp => exact rfl))
         | (refine S2 ?_ ?_) <;> intro hc <;> try (exfalso; first | omega | (simp at hc; done))
         | refine St ?_
         | fail)
        all_goals first
          | (exfalso; omega)
          | (refine Rnd.n 1 [0, 1, 2, 3, 4, 5, 6, 7, 8] (by omega) (by omega) (by exact layX) ?_
             exact ⟨⟨_, rfl, RenV.sliceL rfl (by first | rfl | (simp [lenC_0, lenC_1, lenC_2, lenC_3]; done) | (simp [lenC_0, lenC_1, lenC_2, lenC_3]; omega))⟩, ⟨_, rfl, RenV.slice rfl⟩, ⟨_, rfl, RenV.plain rfl⟩, ⟨_, rfl, RenV.eq (by first | rfl | (congr 1; done)) rfl⟩, True.intro⟩)
      · skip
        repeat' (first
         | refine S0 ?_
         | ((with_reducible refine' RO.appM exts_ok ?hw ?hx ?hy ?ht ?hu ?hi ?hz ?hzl ?hes ?he0 ?hn ?hone ?hm ?hg ?ho ?hb ?hb2 ?hq ?ha ?hp ?_); (case hw | hx | hy | ht | hu | hi | hz | hzl | hes | he0 => exact rfl); (case hn => first | exact hT | exact cellsN_whole _ | exact hU); (case hone => exact allOne_rows _); (case hm => first | omega | (simp; omega)); (case hg => exact rfl); (case ho => first | exact takeN_all rfl | exact takeN_all (by rw [cellsN_len]; simp; omega) | exact takeN_all (by rw [cellsN_len]) | exact hO1 | exact hO2); (case hb => first | omega | (simp; omega)); (case hb2 => (show _ * 48 ≤ _; first | omega | (simp; omega))); (case hq | ha | hp => exact rfl))
         | (refine S2 ?_ ?_) <;> intro hc <;> try (exfalso; first | omega | (simp at hc; done))
         | refine St ?_
         | fail)
        all_goals first
          | (exfalso; omega)
          | (refine Rnd.n 1 [0, 1, 2, 3, 4, 5, 6, 7, 9] (by omega) (by omega) (by exact layX) ?_
             exact ⟨⟨_, rfl, RenV.sliceL rfl (by first | rfl | (simp [lenC_0, lenC_1, lenC_2, lenC_3]; done) | (simp [lenC_0, lenC_1, lenC_2, lenC_3]; omega))⟩, ⟨_, rfl, RenV.slice rfl⟩, ⟨_, rfl, RenV.plain rfl⟩, ⟨_, rfl, RenV.eq (by first | rfl | (congr 1; done)) rfl⟩, True.intro⟩)
    · simp only [lenC_0, lenC_1, lenC_2, lenC_3, partC_0, partC_1, partC_2, partC_3]
      by_cases hz : by' = []
      · subst hz
        repeat' (first
         | refine S0 ?_
         | ((with_reducible refine' RO.appZ ?hw ?hx ?hy ?hxs ?ht ?hu ?hi ?hp ?_); (case hw | hx | hy => exact rfl); (case hxs => exact .inr ⟨_, _, rfl⟩); (case ht | hu | hi | hp => exact rfl))
         | (refine S2 ?_ ?_) <;> intro hc <;> try (exfalso; first | omega | (simp at hc; done))
         | refine St ?_
         | fail)
        all_goals first
          | (exfalso; omega)
          | (refine Rnd.n 2 [0, 1, 2, 3, 4, 5, 6, 7, 8] (by omega) (by omega) (by exact layX) ?_
             exact ⟨⟨_, rfl, RenV.sliceL rfl (by first | rfl | (simp [lenC_0, lenC_1, lenC_2, lenC_3]; done) | (simp [lenC_0, lenC_1, lenC_2, lenC_3]; omega))⟩, ⟨_, rfl, RenV.slice rfl⟩, ⟨_, rfl, RenV.plain rfl⟩, ⟨_, rfl, RenV.eq (by first | rfl | (congr 1; done)) rfl⟩, True.intro⟩)
      · have hz' : by'.length ≠ 0 := fun h => hz (List.length_eq_zero_iff.1 h)
        repeat' (first
         | refine S0 ?_
         | ((with_reducible refine' RO.appM exts_ok ?hw ?hx ?hy ?ht ?hu ?hi ?hz ?hzl ?hes ?he0 ?hn ?hone ?hm ?hg ?ho ?hb ?hb2 ?hq ?ha ?hp ?_); (case hw | hx | hy | ht | hu | hi | hz | hzl | hes | he0 => exact rfl); (case hn => first | exact hT | exact cellsN_whole _ | exact hU); (case hone => exact allOne_rows _); (case hm => first | omega | (simp; omega)); (case hg => exact rfl); (case ho => first | exact takeN_all rfl | exact takeN_all (by rw [cellsN_len]; simp; omega) | exact takeN_all (by rw [cellsN_len]) | exact hO1 | exact hO2); (case hb => first | omega | (simp; omega)); (case hb2 => (show _ * 48 ≤ _; first | omega | (simp; omega))); (case hq | ha | hp => exact rfl))
         | (refine S2 ?_ ?_) <;> intro hc <;> try (exfalso; first | omega | (simp at hc; done))
         | refine St ?_
         | fail)
        all_goals first
          | (exfalso; omega)
          | (refine Rnd.n 2 [0, 1, 2, 3, 4, 5, 6, 7, 9] (by omega) (by omega) (by exact layX) ?_
             exact ⟨⟨_, rfl, RenV.sliceL rfl (by first | rfl | (simp [lenC_0, lenC_1, lenC_2, lenC_3]; done) | (simp [lenC_0, lenC_1, lenC_2, lenC_3]; omega))⟩, ⟨_, rfl, RenV.slice rfl⟩, ⟨_, rfl, RenV.plain rfl⟩, ⟨_, rfl, RenV.eq (by first | rfl | (congr 1; done)) rfl⟩, True.intro⟩)
    · simp only [lenC_0, lenC_1, lenC_2, lenC_3, partC_0, partC_1, partC_2, partC_3]
      repeat' (first
       | refine S0 ?_
       | ((with_reducible refine' RO.appM exts_ok ?hw ?hx ?hy ?ht ?hu ?hi ?hz ?hzl ?hes ?he0 ?hn ?hone ?hm ?hg ?ho ?hb ?hb2 ?hq ?ha ?hp ?_); (case hw | hx | hy | ht | hu | hi | hz | hzl | hes | he0 => exact rfl); (case hn => first | exact hT | exact cellsN_whole _ | exact hU); (case hone => exact allOne_rows _); (case hm => first | omega | (simp; omega)); (case hg => exact rfl); (case ho => first | exact takeN_all rfl | exact takeN_all (by rw [cellsN_len]; simp; omega) | exact takeN_all (by rw [cellsN_len]) | exact hO1 | exact hO2); (case hb => first | omega | (simp; omega)); (case hb2 => (show _ * 48 ≤ _; first | omega | (simp; omega))); (case hq | ha | hp => exact rfl))
       | (refine S2 ?_ ?_) <;> intro hc <;> try (exfalso; first | omega | (simp at hc; done))
       | refine St ?_
       | fail)
      all_goals first
        | (exfalso; omega)
        | (refine Rnd.n 3 [0, 1, 2, 3, 4, 5, 6, 7, 9] (by omega) (by omega) (by exact layX) ?_
           exact ⟨⟨_, rfl, RenV.sliceL rfl (by first | rfl | (simp [lenC_0, lenC_1, lenC_2, lenC_3]; done) | (simp [lenC_0, lenC_1, lenC_2, lenC_3]; omega))⟩, ⟨_, rfl, RenV.slice rfl⟩, ⟨_, rfl, RenV.plain rfl⟩, ⟨_, rfl, RenV.eq (by first | rfl | (congr 1; done)) rfl⟩, True.intro⟩)
    · simp only [lenC_0, lenC_1, lenC_2, lenC_3, partC_0, partC_1, partC_2, partC_3]
      repeat' (first
       | refine S0 ?_
       | (refine S2 ?_ ?_) <;> intro hc <;> try (exfalso; first | omega | (simp at hc; done))
       | refine St ?_
       | fail)
      all_goals first
        | (exfalso; omega)
        | exact ⟨rfl, _, rfl, [0, 1, 2, 3, 4, 5, 6, 7, 8], by exact layX, RenV.slice rfl⟩
set_option maxHeartbeats 16000000 in
theorem sem99bn (ns : List Nd) (node : Nat) (s : Int) (hne : node ≤ ns.length) (hn : ns.length ≤ 700) (h0t : 0 < node + 0 + 0) (h1t : node + 0 + 0 ≤ 1000) : CSem Tryz.prog 99 [.slice 8 0 3 1] (catB ns ([] : List Nd) node .nilslice s) (.slice 9 0 (lenC node 0 0 3) 5) (catBo ns ([] : List Nd) node .nilslice s (partC (ns.take node) ([] : List Nd) ([] : List Nd) 3)) := by
  have hT : takeN (node * 5) ((cellsN ns).drop (0 * 5)) = some (cellsN (ns.take node)) := by have := cellsN_sub (ns := ns) (k := 0) (m := node) (by omega); rwa [List.drop_zero] at this
  have hU : True := trivial
  have hO1 : takeN (node * 5) ((cellsN (ns.take node)).drop 0) = some (cellsN (ns.take node)) := takeN_all (by rw [cellsN_len, List.length_take, Nat.min_eq_left (by omega)])
  have hO2 : takeN ((node + 0) * 5) ((cellsN (ns.take node ++ ([] : List Nd))).drop 0) = some (cellsN (ns.take node ++ ([] : List Nd))) := takeN_all (by rw [cellsN_len, List.length_append, List.length_take, Nat.min_eq_left (by omega)]; rfl)
  refine CSem.into Tryz.func99 rfl (by decide) Tryz.ntmps99 rfl rfl rfl ?_
  dsimp only [catB]
  repeat' (first
   | refine S0 ?_
   | (refine S2 ?_ ?_) <;> intro hc <;> try (exfalso; first | omega | (simp at hc; done))
   | refine St ?_
   | fail)
  refine RS.loop (σ := Nat) (fun i => i ≤ 3) (fun i => [(0, .slice 8 0 3 1), (3, .int .i64 ((lenC node 0 0 i : Nat) : Int)), (9, .slice 8 0 3 1), (10, .int .i64 3), (11, .int .i64 (i : Int))]) (fun _ => catB ns ([] : List Nd) node .nilslice s) (fun i => 3 - i) 0 (Nat.zero_le _) ⟨[0, 1, 2, 3, 4, 5, 6, 7, 8], by exact layX, by (repeat' (first | exact True.intro | refine And.intro ?_ ?_ | exact ⟨_, rfl, RenV.plain rfl⟩ | exact ⟨_, rfl, RenV.slice rfl⟩ | exact ⟨_, rfl, RenV.ptr rfl⟩ | exact ⟨_, rfl, RenV.nilslice⟩))⟩ ?round
  rintro i hi
  refine ⟨_, rfl, ?_⟩
  dsimp only [catB]
  rcases (show i = 0 ∨ i = 1 ∨ i = 2 ∨ i = 3 by omega) with rfl | rfl | rfl | rfl
  · simp only [lenC_0, lenC_1, lenC_2, lenC_3]
    repeat' (first
     | refine S0 ?_
     | ((with_reducible refine' RO.addI (b := 0) exts_ok ?hw ?hx ?hy ?hi ?hp ?_); (case hw | hx | hy => exact rfl); (case hi => omega); (case hp => exact rfl))
     | (refine S2 ?_ ?_) <;> intro hc <;> try (exfalso; first | omega | (simp at hc; done))
     | refine St ?_
     | fail)
    all_goals first
      | (exfalso; omega)
      | (refine Rnd.n 1 [0, 1, 2, 3, 4, 5, 6, 7, 8] (by omega) (by omega) (by exact layX) ?_
         exact ⟨⟨_, rfl, RenV.slice rfl⟩, ⟨_, rfl, RenV.eq (by first | rfl | (congr 1; simp [lenC_0, lenC_1, lenC_2, lenC_3]; done) | (congr 1; simp [lenC_0, lenC_1, lenC_2, lenC_3]; omega)) rfl⟩, ⟨_, rfl, RenV.slice rfl⟩, ⟨_, rfl, RenV.plain rfl⟩, ⟨_, rfl, RenV.eq (by first | rfl | (congr 1; done)) rfl⟩, True.intro⟩)
  · simp only [lenC_0, lenC_1, lenC_2, lenC_3]
    repeat' (first
     | refine S0 ?_
     | ((with_reducible refine' RO.addI (b := 0) exts_ok ?hw ?hx ?hy ?hi ?hp ?_); (case hw | hx | hy => exact rfl); (case hi => omega); (case hp => exact rfl))
     | (refine S2 ?_ ?_) <;> intro hc <;> try (exfalso; first | omega | (simp at hc; done))
     | refine St ?_
     | fail)
    all_goals first
      | (exfalso; omega)
      | (refine Rnd.n 2 [0, 1, 2, 3, 4, 5, 6, 7, 8] (by omega) (by omega) (by exact layX) ?_
         exact ⟨⟨_, rfl, RenV.slice rfl⟩, ⟨_, rfl, RenV.eq (by first | rfl | (congr 1; simp [lenC_0, lenC_1, lenC_2, lenC_3]; done) | (congr 1; simp [lenC_0, lenC_1, lenC_2, lenC_3]; omega)) rfl⟩, ⟨_, rfl, RenV.slice rfl⟩, ⟨_, rfl, RenV.plain rfl⟩, ⟨_, rfl, RenV.eq (by first | rfl | (congr 1; done)) rfl⟩, True.intro⟩)
  · simp only [lenC_0, lenC_1, lenC_2, lenC_3]
    repeat' (first
     | refine S0 ?_
     | ((with_reducible refine' RO.addI (b := 0) exts_ok ?hw ?hx ?hy ?hi ?hp ?_); (case hw | hx | hy => exact rfl); (case hi => omega); (case hp => exact rfl))
     | (refine S2 ?_ ?_) <;> intro hc <;> try (exfalso; first | omega | (simp at hc; done))
     | refine St ?_
     | fail)
    all_goals first
      | (exfalso; omega)
      | (refine Rnd.n 3 [0, 1, 2, 3, 4, 5, 6, 7, 8] (by omega) (by omega) (by exact layX) ?_
         exact ⟨⟨_, rfl, RenV.slice rfl⟩, ⟨_, rfl, RenV.eq (by first | rfl | (congr 1; simp [lenC_0, lenC_1, lenC_2, lenC_3]; done) | (congr 1; simp [lenC_0, lenC_1, lenC_2, lenC_3]; omega)) rfl⟩, ⟨_, rfl, RenV.slice rfl⟩, ⟨_, rfl, RenV.plain rfl⟩, ⟨_, rfl, RenV.eq (by first | rfl | (congr 1; done)) rfl⟩, True.intro⟩)
  · simp only [lenC_0, lenC_1, lenC_2, lenC_3]
    repeat' (first
     | refine S0 ?_
     | refine Sc (at163 h0t h1t) ?_
     | (refine S2 ?_ ?_) <;> intro hc <;> try (exfalso; first | omega | (simp at hc; done))
     | refine St ?_
     | fail)
    all_goals first
      | (exfalso; omega)
      | skip
    refine RS.loop (σ := Nat) (fun i => i ≤ 3) (fun i => [(6, .slice 9 0 (lenC node 0 0 i) 5), (25, .slice 8 0 3 1), (26, .int .i64 3), (27, .int .i64 (i : Int))]) (fun i => catBo ns ([] : List Nd) node .nilslice s (partC (ns.take node) ([] : List Nd) ([] : List Nd) i)) (fun i => 3 - i) 0 (Nat.zero_le _) ⟨[0, 1, 2, 3, 4, 5, 6, 7, 8, 9], by exact layX, by (repeat' (first | exact True.intro | refine And.intro ?_ ?_ | exact ⟨_, rfl, RenV.plain rfl⟩ | exact ⟨_, rfl, RenV.slice rfl⟩ | exact ⟨_, rfl, RenV.ptr rfl⟩ | exact ⟨_, rfl, RenV.nilslice⟩))⟩ ?round2
    rintro i hi
    refine ⟨_, rfl, ?_⟩
    dsimp only [catBo]
    rcases (show i = 0 ∨ i = 1 ∨ i = 2 ∨ i = 3 by omega) with rfl | rfl | rfl | rfl
    · simp only [lenC_0, lenC_1, lenC_2, lenC_3, partC_0, partC_1, partC_2, partC_3]
      by_cases hz : node = 0
      · subst hz
        repeat' (first
         | refine S0 ?_
         | ((with_reducible refine' RO.appZ ?hw ?hx ?hy ?hxs ?ht ?hu ?hi ?hp ?_); (case hw | hx | hy => exact rfl); (case hxs => exact .inr ⟨_, _, rfl⟩); (case ht | hu | hi | hp => exact rfl))
         | (refine S2 ?_ ?_) <;> intro hc <;> try (exfalso; first | omega | (simp at hc; done))
         | refine St ?_
         | fail)
        all_goals first
          | (exfalso; omega)
          | (refine Rnd.n 1 [0, 1, 2, 3, 4, 5, 6, 7, 8, 9] (by omega) (by omega) (by exact layX) ?_
             exact ⟨⟨_, rfl, RenV.sliceL rfl (by first | rfl | (simp [lenC_0, lenC_1, lenC_2, lenC_3]; done) | (simp [lenC_0, lenC_1, lenC_2, lenC_3]; omega))⟩, ⟨_, rfl, RenV.slice rfl⟩, ⟨_, rfl, RenV.plain rfl⟩, ⟨_, rfl, RenV.eq (by first | rfl | (congr 1; done)) rfl⟩, True.intro⟩)
      · skip
        repeat' (first
         | refine S0 ?_
         | ((with_reducible refine' RO.appM exts_ok ?hw ?hx ?hy ?ht ?hu ?hi ?hz ?hzl ?hes ?he0 ?hn ?hone ?hm ?hg ?ho ?hb ?hb2 ?hq ?ha ?hp ?_); (case hw | hx | hy | ht | hu | hi | hz | hzl | hes | he0 => exact rfl); (case hn => first | exact hT | exact cellsN_whole _ | exact hU); (case hone => exact allOne_rows _); (case hm => first | omega | (simp; omega)); (case hg => exact rfl); (case ho => first | exact takeN_all rfl | exact takeN_all (by rw [cellsN_len]; simp; omega) | exact takeN_all (by rw [cellsN_len]) | exact hO1 | exact hO2); (case hb => first | omega | (simp; omega)); (case hb2 => (show _ * 48 ≤ _; first | omega | (simp; omega))); (case hq | ha | hp => exact rfl))
         | (refine S2 ?_ ?_) <;> intro hc <;> try (exfalso; first | omega | (simp at hc; done))
         | refine St ?_
         | fail)
        all_goals first
          | (exfalso; omega)
          | (refine Rnd.n 1 [0, 1, 2, 3, 4, 5, 6, 7, 8, 10] (by omega) (by omega) (by exact layX) ?_
             exact ⟨⟨_, rfl, RenV.sliceL rfl (by first | rfl | (simp [lenC_0, lenC_1, lenC_2, lenC_3]; done) | (simp [lenC_0, lenC_1, lenC_2, lenC_3]; omega))⟩, ⟨_, rfl, RenV.slice rfl⟩, ⟨_, rfl, RenV.plain rfl⟩, ⟨_, rfl, RenV.eq (by first | rfl | (congr 1; done)) rfl⟩, True.intro⟩)
    · simp only [lenC_0, lenC_1, lenC_2, lenC_3, partC_0, partC_1, partC_2, partC_3]
      repeat' (first
       | refine S0 ?_
       | ((with_reducible refine' RO.appY exts_ok ?hw ?hx ?hy ?ht ?hu ?hi ?hz ?hzl ?hes ?he0 ?hp ?_); (case hw | hx | hy | ht | hu | hi | hz | hzl | hes | he0 | hp => exact rfl))
       | (refine S2 ?_ ?_) <;> intro hc <;> try (exfalso; first | omega | (simp at hc; done))
       | refine St ?_
       | fail)
      all_goals first
        | (exfalso; omega)
        | (refine Rnd.n 2 [0, 1, 2, 3, 4, 5, 6, 7, 8, 9] (by omega) (by omega) (by exact layX) ?_
           exact ⟨⟨_, rfl, RenV.sliceL rfl (by first | rfl | (simp [lenC_0, lenC_1, lenC_2, lenC_3]; done) | (simp [lenC_0, lenC_1, lenC_2, lenC_3]; omega))⟩, ⟨_, rfl, RenV.slice rfl⟩, ⟨_, rfl, RenV.plain rfl⟩, ⟨_, rfl, RenV.eq (by first | rfl | (congr 1; done)) rfl⟩, True.intro⟩)
    · simp only [lenC_0, lenC_1, lenC_2, lenC_3, partC_0, partC_1, partC_2, partC_3]
      repeat' (first
       | refine S0 ?_
       | ((with_reducible refine' RO.appZ ?hw ?hx ?hy ?hxs ?ht ?hu ?hi ?hp ?_); (case hw | hx | hy => exact rfl); (case hxs => exact .inr ⟨_, _, rfl⟩); (case ht | hu | hi | hp => exact rfl))
       | (refine S2 ?_ ?_) <;> intro hc <;> try (exfalso; first | omega | (simp at hc; done))
       | refine St ?_
       | fail)
      all_goals first
        | (exfalso; omega)
        | (refine Rnd.n 3 [0, 1, 2, 3, 4, 5, 6, 7, 8, 9] (by omega) (by omega) (by exact layX) ?_
           exact ⟨⟨_, rfl, RenV.sliceL rfl (by first | rfl | (simp [lenC_0, lenC_1, lenC_2, lenC_3]; done) | (simp [lenC_0, lenC_1, lenC_2, lenC_3]; omega))⟩, ⟨_, rfl, RenV.slice rfl⟩, ⟨_, rfl, RenV.plain rfl⟩, ⟨_, rfl, RenV.eq (by first | rfl | (congr 1; done)) rfl⟩, True.intro⟩)
    · simp only [lenC_0, lenC_1, lenC_2, lenC_3, partC_0, partC_1, partC_2, partC_3]
      repeat' (first
       | refine S0 ?_
       | (refine S2 ?_ ?_) <;> intro hc <;> try (exfalso; first | omega | (simp at hc; done))
       | refine St ?_
       | fail)
      all_goals first
        | (exfalso; omega)
        | exact ⟨rfl, _, rfl, [0, 1, 2, 3, 4, 5, 6, 7, 8, 9], by exact layX, RenV.slice rfl⟩
set_option maxHeartbeats 16000000 in
theorem sem99bs (ns by' : List Nd) (node : Nat) (s : Int) (hne : node ≤ ns.length) (hn : ns.length ≤ 700) (h0t : 0 < node + by'.length + 0) (hm : by'.length ≤ 700) (h1t : node + by'.length + 0 ≤ 1000) : CSem Tryz.prog 99 [.slice 8 0 3 1] (catB ns by' node (.slice 1 0 by'.length 5) s) (.slice 9 0 (lenC node by'.length 0 3) 5) (catBo ns by' node (.slice 1 0 by'.length 5) s (partC (ns.take node) by' ([] : List Nd) 3)) := by
  have hT : takeN (node * 5) ((cellsN ns).drop (0 * 5)) = some (cellsN (ns.take node)) := by have := cellsN_sub (ns := ns) (k := 0) (m := node) (by omega); rwa [List.drop_zero] at this
  have hU : True := trivial
  have hO1 : takeN (node * 5) ((cellsN (ns.take node)).drop 0) = some (cellsN (ns.take node)) := takeN_all (by rw [cellsN_len, List.length_take, Nat.min_eq_left (by omega)])
  have hO2 : takeN ((node + by'.length) * 5) ((cellsN (ns.take node ++ by')).drop 0) = some (cellsN (ns.take node ++ by')) := takeN_all (by rw [cellsN_len, List.length_append, List.length_take, Nat.min_eq_left (by omega)])
  refine CSem.into Tryz.func99 rfl (by decide) Tryz.ntmps99 rfl rfl rfl ?_
  dsimp only [catB]
  repeat' (first
   | refine S0 ?_
   | (refine S2 ?_ ?_) <;> intro hc <;> try (exfalso; first | omega | (simp at hc; done))
   | refine St ?_
   | fail)
  refine RS.loop (σ := Nat) (fun i => i ≤ 3) (fun i => [(0, .slice 8 0 3 1), (3, .int .i64 ((lenC node by'.length 0 i : Nat) : Int)), (9, .slice 8 0 3 1), (10, .int .i64 3), (11, .int .i64 (i : Int))]) (fun _ => catB ns by' node (.slice 1 0 by'.length 5) s) (fun i => 3 - i) 0 (Nat.zero_le _) ⟨[0, 1, 2, 3, 4, 5, 6, 7, 8], by exact layX, by (repeat' (first | exact True.intro | refine And.intro ?_ ?_ | exact ⟨_, rfl, RenV.plain rfl⟩ | exact ⟨_, rfl, RenV.slice rfl⟩ | exact ⟨_, rfl, RenV.ptr rfl⟩ | exact ⟨_, rfl, RenV.nilslice⟩))⟩ ?round
  rintro i hi
  refine ⟨_, rfl, ?_⟩
  dsimp only [catB]
  rcases (show i = 0 ∨ i = 1 ∨ i = 2 ∨ i = 3 by omega) with rfl | rfl | rfl | rfl
  · simp only [lenC_0, lenC_1, lenC_2, lenC_3]
    repeat' (first
     | refine S0 ?_
     | ((with_reducible refine' RO.addI (b := 0) exts_ok ?hw ?hx ?hy ?hi ?hp ?_); (case hw | hx | hy => exact rfl); (case hi => omega); (case hp => exact rfl))
     | (refine S2 ?_ ?_) <;> intro hc <;> try (exfalso; first | omega | (simp at hc; done))
     | refine St ?_
     | fail)
    all_goals first
      | (exfalso; omega)
      | (refine Rnd.n 1 [0, 1, 2, 3, 4, 5, 6, 7, 8] (by omega) (by omega) (by exact layX) ?_
         exact ⟨⟨_, rfl, RenV.slice rfl⟩, ⟨_, rfl, RenV.eq (by first | rfl | (congr 1; simp [lenC_0, lenC_1, lenC_2, lenC_3]; done) | (congr 1; simp [lenC_0, lenC_1, lenC_2, lenC_3]; omega)) rfl⟩, ⟨_, rfl, RenV.slice rfl⟩, ⟨_, rfl, RenV.plain rfl⟩, ⟨_, rfl, RenV.eq (by first | rfl | (congr 1; done)) rfl⟩, True.intro⟩)
  · simp only [lenC_0, lenC_1, lenC_2, lenC_3]
    repeat' (first
     | refine S0 ?_
     | ((with_reducible refine' RO.addI (b := 0) exts_ok ?hw ?hx ?hy ?hi ?hp ?_); (case hw | hx | hy => exact rfl); (case hi => omega); (case hp => exact rfl))
     | (refine S2 ?_ ?_) <;> intro hc <;> try (exfalso; first | omega | (simp at hc; done))
     | refine St ?_
     | fail)
    all_goals first
      | (exfalso; omega)
      | (refine Rnd.n 2 [0, 1, 2, 3, 4, 5, 6, 7, 8] (by omega) (by omega) (by exact layX) ?_
         exact ⟨⟨_, rfl, RenV.slice rfl⟩, ⟨_, rfl, RenV.eq (by first | rfl | (congr 1; simp [lenC_0, lenC_1, lenC_2, lenC_3]; done) | (congr 1; simp [lenC_0, lenC_1, lenC_2, lenC_3]; omega)) rfl⟩, ⟨_, rfl, RenV.slice rfl⟩, ⟨_, rfl, RenV.plain rfl⟩, ⟨_, rfl, RenV.eq (by first | rfl | (congr 1; done)) rfl⟩, True.intro⟩)
  · simp only [lenC_0, lenC_1, lenC_2, lenC_3]
    repeat' (first
     | refine S0 ?_
     | ((with_reducible refine' RO.addI (b := 0) exts_ok ?hw ?hx ?hy ?hi ?hp ?_); (case hw | hx | hy => exact rfl); (case hi => omega); (case hp => exact rfl))
     | (refine S2 ?_ ?_) <;> intro hc <;> try (exfalso; first | omega | (simp at hc; done))
     | refine St ?_
     | fail)
    all_goals first
      | (exfalso; omega)
      | (refine Rnd.n 3 [0, 1, 2, 3, 4, 5, 6, 7, 8] (by omega) (by omega) (by exact layX) ?_
         exact ⟨⟨_, rfl, RenV.slice rfl⟩, ⟨_, rfl, RenV.eq (by first | rfl | (congr 1; simp [lenC_0, lenC_1, lenC_2, lenC_3]; done) | (congr 1; simp [lenC_0, lenC_1, lenC_2, lenC_3]; omega)) rfl⟩, ⟨_, rfl, RenV.slice rfl⟩, ⟨_, rfl, RenV.plain rfl⟩, ⟨_, rfl, RenV.eq (by first | rfl | (congr 1; done)) rfl⟩, True.intro⟩)
  · simp only [lenC_0, lenC_1, lenC_2, lenC_3]
    repeat' (first
     | refine S0 ?_
     | refine Sc (at163 h0t h1t) ?_
     | (refine S2 ?_ ?_) <;> intro hc <;> try (exfalso; first | omega | (simp at hc; done))
     | refine St ?_
     | fail)
    all_goals first
      | (exfalso; omega)
      | skip
    refine RS.loop (σ := Nat) (fun i => i ≤ 3) (fun i => [(6, .slice 9 0 (lenC node by'.length 0 i) 5), (25, .slice 8 0 3 1), (26, .int .i64 3), (27, .int .i64 (i : Int))]) (fun i => catBo ns by' node (.slice 1 0 by'.length 5) s (partC (ns.take node) by' ([] : List Nd) i)) (fun i => 3 - i) 0 (Nat.zero_le _) ⟨[0, 1, 2, 3, 4, 5, 6, 7, 8, 9], by exact layX, by (repeat' (first | exact True.intro | refine And.intro ?_ ?_ | exact ⟨_, rfl, RenV.plain rfl⟩ | exact ⟨_, rfl, RenV.slice rfl⟩ | exact ⟨_, rfl, RenV.ptr rfl⟩ | exact ⟨_, rfl, RenV.nilslice⟩))⟩ ?round2
    rintro i hi
    refine ⟨_, rfl, ?_⟩
    dsimp only [catBo]
    rcases (show i = 0 ∨ i = 1 ∨ i = 2 ∨ i = 3 by omega) with rfl | rfl | rfl | rfl
    · simp only [lenC_0, lenC_1, lenC_2, lenC_3, partC_0, partC_1, partC_2, partC_3]
      by_cases hz : node = 0
      · subst hz
        repeat' (first
         | refine S0 ?_
         | ((with_reducible refine' RO.appZ ?hw ?hx ?hy ?hxs ?ht ?hu ?hi ?hp ?_); (case hw | hx | hy => exact rfl); (case hxs => exact .inr ⟨_, _, rfl⟩); (case ht | hu | hi | hp => exact rfl))
         | (refine S2 ?_ ?_) <;> intro hc <;> try (exfalso; first | omega | (simp at hc; done))
         | refine St ?_
         | fail)
        all_goals first
          | (exfalso; omega)
          | (refine Rnd.n 1 [0, 1, 2, 3, 4, 5, 6, 7, 8, 9] (by omega) (by omega) (by exact layX) ?_
             exact ⟨⟨_, rfl, RenV.sliceL rfl (by first | rfl | (simp [lenC_0, lenC_1, lenC_2, lenC_3]; done) | (simp [lenC_0, lenC_1, lenC_2, lenC_3]; omega))⟩, ⟨_, rfl, RenV.slice rfl⟩, ⟨_, rfl, RenV.plain rfl⟩, ⟨_, rfl, RenV.eq (by first | rfl | (congr 1; done)) rfl⟩, True.intro⟩)
      · skip
        repeat' (first
         | refine S0 ?_
         | ((with_reducible refine' RO.appM exts_ok ?hw ?hx ?hy ?ht ?hu ?hi ?hz ?hzl ?hes ?he0 ?hn ?hone ?hm ?hg ?ho ?hb ?hb2 ?hq ?ha ?hp ?_); (case hw | hx | hy | ht | hu | hi | hz | hzl | hes | he0 => exact rfl); (case hn => first | exact hT | exact cellsN_whole _ | exact hU); (case hone => exact allOne_rows _); (case hm => first | omega | (simp; omega)); (case hg => exact rfl); (case ho => first | exact takeN_all rfl | exact takeN_all (by rw [cellsN_len]; simp; omega) | exact takeN_all (by rw [cellsN_len]) | exact hO1 | exact hO2); (case hb => first | omega | (simp; omega)); (case hb2 => (show _ * 48 ≤ _; first | omega | (simp; omega))); (case hq | ha | hp => exact rfl))
         | (refine S2 ?_ ?_) <;> intro hc <;> try (exfalso; first | omega | (simp at hc; done))
         | refine St ?_
         | fail)
        all_goals first
          | (exfalso; omega)
          | (refine Rnd.n 1 [0, 1, 2, 3, 4, 5, 6, 7, 8, 10] (by omega) (by omega) (by exact layX) ?_
             exact ⟨⟨_, rfl, RenV.sliceL rfl (by first | rfl | (simp [lenC_0, lenC_1, lenC_2, lenC_3]; done) | (simp [lenC_0, lenC_1, lenC_2, lenC_3]; omega))⟩, ⟨_, rfl, RenV.slice rfl⟩, ⟨_, rfl, RenV.plain rfl⟩, ⟨_, rfl, RenV.eq (by first | rfl | (congr 1; done)) rfl⟩, True.intro⟩)
    · simp only [lenC_0, lenC_1, lenC_2, lenC_3, partC_0, partC_1, partC_2, partC_3]
      by_cases hz : by' = []
      · subst hz
        repeat' (first
         | refine S0 ?_
         | ((with_reducible refine' RO.appZ ?hw ?hx ?hy ?hxs ?ht ?hu ?hi ?hp ?_); (case hw | hx | hy => exact rfl); (case hxs => exact .inr ⟨_, _, rfl⟩); (case ht | hu | hi | hp => exact rfl))
         | (refine S2 ?_ ?_) <;> intro hc <;> try (exfalso; first | omega | (simp at hc; done))
         | refine St ?_
         | fail)
        all_goals first
          | (exfalso; omega)
          | (refine Rnd.n 2 [0, 1, 2, 3, 4, 5, 6, 7, 8, 9] (by omega) (by omega) (by exact layX) ?_
             exact ⟨⟨_, rfl, RenV.sliceL rfl (by first | rfl | (simp [lenC_0, lenC_1, lenC_2, lenC_3]; done) | (simp [lenC_0, lenC_1, lenC_2, lenC_3]; omega))⟩, ⟨_, rfl, RenV.slice rfl⟩, ⟨_, rfl, RenV.plain rfl⟩, ⟨_, rfl, RenV.eq (by first | rfl | (congr 1; done)) rfl⟩, True.intro⟩)
      · have hz' : by'.length ≠ 0 := fun h => hz (List.length_eq_zero_iff.1 h)
        repeat' (first
         | refine S0 ?_
         | ((with_reducible refine' RO.appM exts_ok ?hw ?hx ?hy ?ht ?hu ?hi ?hz ?hzl ?hes ?he0 ?hn ?hone ?hm ?hg ?ho ?hb ?hb2 ?hq ?ha ?hp ?_); (case hw | hx | hy | ht | hu | hi | hz | hzl | hes | he0 => exact rfl); (case hn => first | exact hT | exact cellsN_whole _ | exact hU); (case hone => exact allOne_rows _); (case hm => first | omega | (simp; omega)); (case hg => exact rfl); (case ho => first | exact takeN_all rfl | exact takeN_all (by rw [cellsN_len]; simp; omega) | exact takeN_all (by rw [cellsN_len]) | exact hO1 | exact hO2); (case hb => first | omega | (simp; omega)); (case hb2 => (show _ * 48 ≤ _; first | omega | (simp; omega))); (case hq | ha | hp => exact rfl))
         | (refine S2 ?_ ?_) <;> intro hc <;> try (exfalso; first | omega | (simp at hc; done))
         | refine St ?_
         | fail)
        all_goals first
          | (exfalso; omega)
          | (refine Rnd.n 2 [0, 1, 2, 3, 4, 5, 6, 7, 8, 10] (by omega) (by omega) (by exact layX) ?_
             exact ⟨⟨_, rfl, RenV.sliceL rfl (by first | rfl | (simp [lenC_0, lenC_1, lenC_2, lenC_3]; done) | (simp [lenC_0, lenC_1, lenC_2, lenC_3]; omega))⟩, ⟨_, rfl, RenV.slice rfl⟩, ⟨_, rfl, RenV.plain rfl⟩, ⟨_, rfl, RenV.eq (by first | rfl | (congr 1; done)) rfl⟩, True.intro⟩)
    · simp only [lenC_0, lenC_1, lenC_2, lenC_3, partC_0, partC_1, partC_2, partC_3]
      repeat' (first
       | refine S0 ?_
       | ((with_reducible refine' RO.appZ ?hw ?hx ?hy ?hxs ?ht ?hu ?hi ?hp ?_); (case hw | hx | hy => exact rfl); (case hxs => exact .inr ⟨_, _, rfl⟩); (case ht | hu | hi | hp => exact rfl))
       | (refine S2 ?_ ?_) <;> intro hc <;> try (exfalso; first | omega | (simp at hc; done))
       | refine St ?_
       | fail)
      all_goals first
        | (exfalso; omega)
        | (refine Rnd.n 3 [0, 1, 2, 3, 4, 5, 6, 7, 8, 9] (by omega) (by omega) (by exact layX) ?_
           exact ⟨⟨_, rfl, RenV.sliceL rfl (by first | rfl | (simp [lenC_0, lenC_1, lenC_2, lenC_3]; done) | (simp [lenC_0, lenC_1, lenC_2, lenC_3]; omega))⟩, ⟨_, rfl, RenV.slice rfl⟩, ⟨_, rfl, RenV.plain rfl⟩, ⟨_, rfl, RenV.eq (by first | rfl | (congr 1; done)) rfl⟩, True.intro⟩)
    · simp only [lenC_0, lenC_1, lenC_2, lenC_3, partC_0, partC_1, partC_2, partC_3]
      repeat' (first
       | refine S0 ?_
       | (refine S2 ?_ ?_) <;> intro hc <;> try (exfalso; first | omega | (simp at hc; done))
       | refine St ?_
       | fail)
      all_goals first
        | (exfalso; omega)
        | exact ⟨rfl, _, rfl, [0, 1, 2, 3, 4, 5, 6, 7, 8, 9], by exact layX, RenV.slice rfl⟩
end Go.Am
