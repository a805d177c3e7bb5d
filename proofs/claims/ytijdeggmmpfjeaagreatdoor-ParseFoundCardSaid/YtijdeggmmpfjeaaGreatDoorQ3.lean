/- Part of the proof: WqE, WqF. -/
import Derived.Test.YtijdeggmmpfjeaaGreatDoorQ2
set_option linter.unusedSimpArgs false
set_option linter.unusedVariables false
set_option linter.unusedSectionVars false
namespace Go.Am
open Go Go.Proofs Go.RowKit Go.Pu
set_option maxRecDepth 1000000
def twoZ (l m : List Int) : Heap := ⟨.node (some (.ro 3 1 (cellsZ l))) (.node (some (.ro 3 1 (cellsZ m))) .leaf .leaf) .leaf, 2⟩
set_option maxHeartbeats 4000000 in
theorem sem52 (l : List Int) (hl : l.length ≤ 1000) : CSem Tryz.prog 52 [.slice 0 0 l.length 1, .slice 1 0 l.length 1] (twoZ l l) (.bool true) (twoZ l l) := by
  refine CSem.into Tryz.func52 rfl (by decide) Tryz.ntmps52 rfl rfl rfl ?_
  dsimp only [twoZ]
  repeat' (first
   | refine S0 ?_
   | (refine S2 ?_ ?_) <;> intro hc <;> try (exfalso; first | omega | (simp at hc; done))
   | refine St ?_
   | fail)
  refine RS.loop (σ := Nat) (fun i => i ≤ l.length) (fun i => [(0, .slice 0 0 l.length 1), (1, .slice 1 0 l.length 1), (5, .int .i64 (i : Int))]) (fun _ => twoZ l l) (fun i => l.length - i) 0 (Nat.zero_le _) ⟨[0, 1], ⟨rfl, rfl, rfl, RenO.ro (RenVs.plain (cellsZ_plain _)), RenO.ro (RenVs.plain (cellsZ_plain _)), True.intro⟩, by (repeat' (first | exact True.intro | refine And.intro ?_ ?_ | exact ⟨_, rfl, RenV.plain rfl⟩ | exact ⟨_, rfl, RenV.slice rfl⟩ | exact ⟨_, rfl, RenV.ptr rfl⟩ | exact ⟨_, rfl, RenV.nilslice⟩))⟩ ?round
  rintro i hi
  refine ⟨_, rfl, ?_⟩
  dsimp only [twoZ]
  by_cases hlt : i < l.length
  · obtain ⟨x, hx⟩ : ∃ x, l[i]? = some x := ⟨l[i], by simp [hlt]⟩
    repeat' (first
     | refine S0 ?_
     | (refine S2 ?_ ?_) <;> intro hc <;> try (exfalso; first | omega | (simp at hc; done))
     | refine Sf hx ?_
     | refine St ?_
     | fail)
    all_goals first
      | (exfalso; omega)
      | (refine Rnd.n (i + 1) [0, 1] (by omega) (by omega) ⟨rfl, rfl, rfl, RenO.ro (RenVs.plain (cellsZ_plain _)), RenO.ro (RenVs.plain (cellsZ_plain _)), True.intro⟩ ?_
         exact ⟨⟨_, rfl, RenV.slice rfl⟩, ⟨_, rfl, RenV.slice rfl⟩, ⟨_, rfl, RenV.eq (by simp) rfl⟩, True.intro⟩)
  · have hie : i = l.length := by omega
    subst hie
    repeat' (first
     | refine S0 ?_
     | (refine S2 ?_ ?_) <;> intro hc <;> try (exfalso; first | omega | (simp at hc; done))
     | refine St ?_
     | fail)
    all_goals first
      | (exfalso; omega)
      | exact ⟨rfl, _, rfl, [0, 1], ⟨rfl, rfl, rfl, RenO.ro (RenVs.plain (cellsZ_plain _)), RenO.ro (RenVs.plain (cellsZ_plain _)), True.intro⟩, RenV.plain rfl⟩
theorem sem52n (h : Heap) : CSem Tryz.prog 52 [.nilslice, .nilslice] h (.bool true) h := by
  refine CSem.pure ?_ (RenVs.plain rfl) (RenV.plain rfl) h
  refine CSem.into Tryz.func52 rfl (by decide) Tryz.ntmps52 rfl rfl rfl ?_
  dsimp only
  repeat' (first
   | refine S0 ?_
   | (refine S2 ?_ ?_) <;> intro hc <;> try (exfalso; first | omega | (simp at hc; done))
   | refine St ?_
   | fail)
  refine RS.loop (σ := Unit) (fun _ => True) (fun _ => [(0, .nilslice), (1, .nilslice), (5, .int .i64 0)]) (fun _ => ⟨.leaf, 0⟩) (fun _ => 0) () trivial ⟨[], ⟨rfl, rfl, rfl, True.intro⟩, by (repeat' (first | exact True.intro | refine And.intro ?_ ?_ | exact ⟨_, rfl, RenV.plain rfl⟩ | exact ⟨_, rfl, RenV.slice rfl⟩ | exact ⟨_, rfl, RenV.ptr rfl⟩ | exact ⟨_, rfl, RenV.nilslice⟩))⟩ ?round
  rintro _ _
  refine ⟨_, rfl, ?_⟩
  repeat' (first
   | refine S0 ?_
   | (refine S2 ?_ ?_) <;> intro hc <;> try (exfalso; first | omega | (simp at hc; done))
   | refine St ?_
   | fail)
  all_goals first
    | (exfalso; omega)
    | exact ⟨rfl, _, rfl, [], ⟨rfl, rfl, rfl, True.intro⟩, RenV.plain rfl⟩
theorem at52 {l : List Int} (hl : l.length ≤ 1000) {n m : Nat} (hn : l.length = n) (hm : l.length = m) {h : Heap} {i j : Nat} (hi : Nat.blt i h.next = true) (ht : tells (h.objs.get i) (cellsZ l)) (hj : Nat.blt j h.next = true) (htj : tells (h.objs.get j) (cellsZ l)) : CSem Tryz.prog 52 [.slice i 0 n 1, .slice j 0 m 1] h (.bool true) h := by
  subst hn hm
  exact CSem.up (sem52 l hl) [i, j] [] rfl (by simp only [List.all_cons, hi, hj, List.all_nil, Bool.and_true]) ⟨⟨cellsZ_plain l, ht⟩, ⟨cellsZ_plain l, htj⟩, True.intro⟩ (RenVs.cons (RenV.slice rfl) (RenVs.cons (RenV.slice rfl) RenVs.nil)) True.intro rfl rfl (RenV.plain rfl)
theorem kids_lt {S : List Int} (hl : Lam S) {i j : Nat} (hi : i < S.length) (hm : j ∈ kidsOf S i) : j < S.length := by
  obtain ⟨t, ht⟩ : ∃ t, S[i]? = some t := ⟨S[i], by simp [hi]⟩
  have hr := hl.rng i t ht
  have main : ∀ (f k : Nat) (e : Int), e ≤ S.length → ∀ x ∈ kidsF S f k e, x < S.length := by
    intro f
    induction f with
    | zero => intro k e _ x hx; simp [kidsF] at hx
    | succ f ih =>
      intro k e he x hx
      unfold kidsF at hx
      split at hx
      · rcases List.mem_cons.1 hx with rfl | hx
        · omega
        · exact ih _ _ he _ hx
      · cases hx
  unfold kidsOf at hm
  rw [ht] at hm
  exact main _ _ _ (by simp only [Option.getD_some]; omega) _ hm
def nodeF (S : List Int) : Nat → List Int → Option Nat
  | c, [] => some c
  | c, i :: l => if 0 ≤ i ∧ i < (kidsOf S c).length then nodeF S ((kidsOf S c).getD i.toNat 0) l else none
def nodeV (o : Option Nat) : AV := match o with
  | some k => .tuple [.int .i64 (k : Int), .int .i64 0]
  | none => .tuple [.int .i64 0, .int .i64 7]
def pzH (ns : List Nd) (l : List Int) : Heap := ⟨.node (some (.ro 50 5 (cellsN ns))) (.node (some (.ro 3 1 (cellsZ l))) .leaf .leaf) .leaf, 2⟩
def pzB (ns : List Nd) (l : List Int) : Heap := ⟨.node (some (.ro 50 5 (cellsN ns))) (.node (some (.ro 3 1 (cellsZ l))) .leaf .leaf) (.node (some (.cells 26 1 [.slice 0 0 ns.length 5] true)) .leaf .leaf), 3⟩
structure NS where
  i : Nat
  c : Nat
set_option maxHeartbeats 4000000 in
theorem sem49 (ns : List Nd) (o : NdOk ns) (h0 : checkR ns = 0) (hne : 0 < ns.length) (l : List Int) (hl0 : l.length ≤ 1000) : CSem Tryz.prog 49 [.agg [.slice 0 0 ns.length 5], .slice 1 0 l.length 1] (pzH ns l) (nodeV (nodeF (sizes ns) 0 l)) (pzH ns l) := by
  have hl := check_lam o h0
  have hn := o.len
  have hz : (sizes ns).length = ns.length := by simp [sizes]
  have ca : ∀ {h : Heap}, Nat.blt 0 h.next = true → tells (h.objs.get 0) (cellsN ns) → CSem Tryz.prog 26 [.agg [.slice 0 0 ns.length 5]] h (.int .i64 0) h := fun hi ht => by
    have := tf26 o (TF.sl (i := 0)) hi ht
    rwa [h0] at this
  refine CSem.into Tryz.func49 rfl (by decide) Tryz.ntmps49 rfl rfl rfl ?_
  dsimp only [pzH]
  repeat' (first
   | refine S0 ?_
   | refine Sc ca ?_
   | (refine S2 ?_ ?_) <;> intro hc <;> try (exfalso; first | omega | (simp at hc; done))
   | refine St ?_
   | fail)
  refine RS.loop (σ := NS) (fun s => s.i ≤ l.length ∧ s.c < ns.length ∧ nodeF (sizes ns) s.c (l.drop s.i) = nodeF (sizes ns) 0 l) (fun s => [(2, .ptr 2 0), (7, .int .i64 (s.c : Int)), (16, .slice 1 0 l.length 1), (17, .int .i64 (l.length : Int)), (18, .int .i64 (s.i : Int))]) (fun _ => pzB ns l) (fun s => l.length - s.i) ⟨0, 0⟩ ⟨Nat.zero_le _, hne, rfl⟩ ⟨[0, 1, 2], ⟨rfl, rfl, rfl, RenO.ro (RenVs.plain (cellsN_plain _)), RenO.ro (RenVs.plain (cellsZ_plain _)), RenO.cells (RenVs.cons (RenV.slice rfl) RenVs.nil), True.intro⟩, by (repeat' (first | exact True.intro | refine And.intro ?_ ?_ | exact ⟨_, rfl, RenV.plain rfl⟩ | exact ⟨_, rfl, RenV.slice rfl⟩ | exact ⟨_, rfl, RenV.ptr rfl⟩ | exact ⟨_, rfl, RenV.nilslice⟩))⟩ ?round
  rintro ⟨i, c⟩ ⟨hi, hc0, hR⟩
  simp only at hi hc0 hR
  refine ⟨_, rfl, ?_⟩
  dsimp only [pzB]
  by_cases hlt : i < l.length
  · obtain ⟨z, hzz⟩ : ∃ z, l[i]? = some z := ⟨l[i], by simp [hlt]⟩
    rw [drop_get' hzz, nodeF] at hR
    have hkl := kidsOf_len (sizes ns) c
    cases hk : kidsOf (sizes ns) c with
    | nil =>
      rw [hk, if_neg (by simp only [List.length_nil]; omega)] at hR
      rw [← hR]
      repeat' (first
       | refine S0 ?_
       | refine Sc (at93 hl hn hc0 hk 3) ?_
       | (refine S2 ?_ ?_) <;> intro hc <;> try (exfalso; first | omega | (simp at hc; done))
       | refine Sf hzz ?_
       | refine St ?_
       | fail)
      all_goals first
        | (exfalso; have hc' : ¬ ((0 : Int) ≤ z) := hc; omega)
        | (exfalso; omega)
        | exact ⟨rfl, _, rfl, [0, 1], ⟨rfl, rfl, rfl, RenO.ro (RenVs.plain (cellsN_plain _)), RenO.ro (RenVs.plain (cellsZ_plain _)), True.intro⟩, RenV.tuple (RenVs.plain rfl)⟩
    | cons b bs =>
      rw [hk] at hR hkl
      by_cases hin : 0 ≤ z ∧ z < (b :: bs).length
      · obtain ⟨q, hq⟩ : ∃ q : Nat, z = (q : Int) := ⟨z.toNat, by omega⟩
        obtain ⟨d, hd⟩ : ∃ d, (b :: bs)[q]? = some d := ⟨(b :: bs)[q]'(by omega), by rw [List.getElem?_eq_getElem]⟩
        have hdm : d ∈ kidsOf (sizes ns) c := by rw [hk]; exact List.mem_of_getElem? hd
        have hdl := kids_lt hl (by omega) hdm
        rw [if_pos hin, hq, Int.toNat_natCast, List.getD_eq_getElem?_getD, hd, Option.getD_some] at hR
        have hR : nodeF (sizes ns) d (l.drop (i + 1)) = nodeF (sizes ns) 0 l := hR
        subst hq
        repeat' (first
         | refine S0 ?_
         | refine Sc (at93 hl hn hc0 hk 3) ?_
         | ((with_reducible refine' RO.idxL (m := q) exts_ok ?hw ?hx ?hy ?hu ?hi ?hes ?hz ?hlt ?hp ?_); (case hw | hx | hy | hu | hi | hes => exact rfl); (case hz | hlt => omega); (case hp => exact rfl))
         | ((with_reducible refine' RQ.idxL (m := q) exts_ok ?hw ?hx ?hy ?hu ?hi ?hes ?hz ?hlt ?hp ?_); (case hw | hx | hy | hu | hi | hes => exact rfl); (case hz | hlt => omega); (case hp => exact rfl))
         | (refine S2 ?_ ?_) <;> intro hc <;> try (exfalso; first | omega | (simp at hc; done))
         | refine Sf hzz ?_
         | refine Sf hd ?_
         | refine St ?_
         | fail)
        all_goals first
          | (exfalso; omega)
          | (refine Rnd.n ⟨i + 1, d⟩ [0, 1, 2] ⟨by dsimp only; omega, by dsimp only; omega, hR⟩ (by dsimp only; omega) ⟨rfl, rfl, rfl, RenO.ro (RenVs.plain (cellsN_plain _)), RenO.ro (RenVs.plain (cellsZ_plain _)), RenO.cells (RenVs.cons (RenV.slice rfl) RenVs.nil), True.intro⟩ ?_
             exact ⟨⟨_, rfl, RenV.ptr rfl⟩, ⟨_, rfl, RenV.plain rfl⟩, ⟨_, rfl, RenV.slice rfl⟩, ⟨_, rfl, RenV.plain rfl⟩, ⟨_, rfl, RenV.eq (by simp) rfl⟩, True.intro⟩)
      · rw [if_neg hin] at hR
        rw [← hR]
        repeat' (first
         | refine S0 ?_
         | refine Sc (at93 hl hn hc0 hk 3) ?_
         | (refine S2 ?_ ?_) <;> intro hc <;> try (exfalso; first | omega | (simp at hc; done))
         | refine Sf hzz ?_
         | refine St ?_
         | fail)
        all_goals first
          | (exfalso; omega)
          | exact ⟨rfl, _, rfl, [0, 1], ⟨rfl, rfl, rfl, RenO.ro (RenVs.plain (cellsN_plain _)), RenO.ro (RenVs.plain (cellsZ_plain _)), True.intro⟩, RenV.tuple (RenVs.plain rfl)⟩
  · have hie : i = l.length := by omega
    subst hie
    rw [List.drop_length, nodeF] at hR
    rw [← hR]
    repeat' (first
     | refine S0 ?_
     | (refine S2 ?_ ?_) <;> intro hc <;> try (exfalso; first | omega | (simp at hc; done))
     | refine St ?_
     | fail)
    all_goals first
      | (exfalso; omega)
      | exact ⟨rfl, _, rfl, [0, 1], ⟨rfl, rfl, rfl, RenO.ro (RenVs.plain (cellsN_plain _)), RenO.ro (RenVs.plain (cellsZ_plain _)), True.intro⟩, RenV.tuple (RenVs.plain rfl)⟩
set_option maxHeartbeats 4000000 in
theorem sem50 (ns : List Nd) (o : NdOk ns) (h0 : checkR ns = 0) (hne : 0 < ns.length) (l : List Int) (hl0 : l.length ≤ 1000) : CSem Tryz.prog 50 [.agg [.slice 0 0 ns.length 5], .slice 1 0 l.length 1] (pzH ns l) (nodeV (nodeF (sizes ns) 0 l)) (pzH ns l) := by
  have hl := check_lam o h0
  have hn := o.len
  have hb := o.s
  have hz : (sizes ns).length = ns.length := by simp [sizes]
  have ca : ∀ {h : Heap}, Nat.blt 0 h.next = true → tells (h.objs.get 0) (cellsN ns) → CSem Tryz.prog 27 [.agg [.slice 0 0 ns.length 5]] h (.int .i64 0) h := fun hi ht => by
    have := tf27 o (TF.sl (i := 0)) hi ht
    rwa [h0] at this
  refine CSem.into Tryz.func50 rfl (by decide) Tryz.ntmps50 rfl rfl rfl ?_
  dsimp only [pzH]
  repeat' (first
   | refine S0 ?_
   | refine Sc ca ?_
   | (refine S2 ?_ ?_) <;> intro hc <;> try (exfalso; first | omega | (simp at hc; done))
   | refine St ?_
   | fail)
  refine RS.loop (σ := NS) (fun s => s.i ≤ l.length ∧ s.c < ns.length ∧ nodeF (sizes ns) s.c (l.drop s.i) = nodeF (sizes ns) 0 l) (fun s => [(1, .slice 1 0 l.length 1), (2, .ptr 2 0), (7, .int .i64 (s.c : Int)), (8, .int .i64 (s.i : Int))]) (fun _ => pzB ns l) (fun s => l.length - s.i) ⟨0, 0⟩ ⟨Nat.zero_le _, hne, rfl⟩ ⟨[0, 1, 2], ⟨rfl, rfl, rfl, RenO.ro (RenVs.plain (cellsN_plain _)), RenO.ro (RenVs.plain (cellsZ_plain _)), RenO.cells (RenVs.cons (RenV.slice rfl) RenVs.nil), True.intro⟩, by (repeat' (first | exact True.intro | refine And.intro ?_ ?_ | exact ⟨_, rfl, RenV.plain rfl⟩ | exact ⟨_, rfl, RenV.slice rfl⟩ | exact ⟨_, rfl, RenV.ptr rfl⟩ | exact ⟨_, rfl, RenV.nilslice⟩))⟩ ?round
  rintro ⟨i, c⟩ ⟨hi, hc0, hR⟩
  simp only at hi hc0 hR
  refine ⟨_, rfl, ?_⟩
  dsimp only [pzB]
  by_cases hlt : i < l.length
  · obtain ⟨z, hzz⟩ : ∃ z, l[i]? = some z := ⟨l[i], by simp [hlt]⟩
    rw [drop_get' hzz, nodeF] at hR
    have hkl := kidsOf_len (sizes ns) c
    have hrk := rkOf_lam hl (i := c) (by omega)
    cases hk : kidsOf (sizes ns) c with
    | nil =>
      rw [hk] at hrk
      have c84 : ∀ h, CSem Tryz.prog 84 [.int .i64 z, .int .i64 0, .int .i64 (-1)] h (.bool false) h := fun h => by
        have := sem84 z 0 (-1) h
        rwa [decide_eq_false (by omega)] at this
      rw [hk, if_neg (by simp only [List.length_nil]; omega)] at hR
      rw [← hR]
      repeat' (first
       | refine S0 ?_
       | refine Sc (at40 hn hb hc0 hrk 3) ?_
       | refine Sc (c84 _) ?_
       | (refine S2 ?_ ?_) <;> intro hc <;> try (exfalso; first | omega | (simp at hc; done))
       | refine Sf hzz ?_
       | refine St ?_
       | fail)
      all_goals exact ⟨rfl, _, rfl, [0, 1], ⟨rfl, rfl, rfl, RenO.ro (RenVs.plain (cellsN_plain _)), RenO.ro (RenVs.plain (cellsZ_plain _)), True.intro⟩, RenV.tuple (RenVs.plain rfl)⟩
    | cons b bs =>
      rw [hk] at hR hkl hrk
      by_cases hin : 0 ≤ z ∧ z < (b :: bs).length
      · obtain ⟨q, hq⟩ : ∃ q : Nat, z = (q : Int) := ⟨z.toNat, by omega⟩
        obtain ⟨d, hd⟩ : ∃ d, (b :: bs)[q]? = some d := ⟨(b :: bs)[q]'(by omega), by rw [List.getElem?_eq_getElem]⟩
        have hdm : d ∈ kidsOf (sizes ns) c := by rw [hk]; exact List.mem_of_getElem? hd
        have hdl := kids_lt hl (by omega) hdm
        rw [if_pos hin, hq, Int.toNat_natCast, List.getD_eq_getElem?_getD, hd, Option.getD_some] at hR
        have hR : nodeF (sizes ns) d (l.drop (i + 1)) = nodeF (sizes ns) 0 l := hR
        subst hq
        have c84 : ∀ h, CSem Tryz.prog 84 [.int .i64 (q : Int), .int .i64 0, .int .i64 (((b :: bs).length : Int) - 1)] h (.bool true) h := fun h => by
          have := sem84 (q : Int) 0 (((b :: bs).length : Int) - 1) h
          rwa [decide_eq_true (by omega)] at this
        repeat' (first
         | refine S0 ?_
         | refine Sc (at40 hn hb hc0 hrk 3) ?_
         | refine Sc (c84 _) ?_
         | ((with_reducible refine' RO.idxL (m := q) exts_ok ?hw ?hx ?hy ?hu ?hi ?hes ?hz ?hlt ?hp ?_); (case hw | hx | hy | hu | hi | hes => exact rfl); (case hz | hlt => omega); (case hp => exact rfl))
         | ((with_reducible refine' RQ.idxL (m := q) exts_ok ?hw ?hx ?hy ?hu ?hi ?hes ?hz ?hlt ?hp ?_); (case hw | hx | hy | hu | hi | hes => exact rfl); (case hz | hlt => omega); (case hp => exact rfl))
         | (refine S2 ?_ ?_) <;> intro hc <;> try (exfalso; first | omega | (simp at hc; done))
         | refine Sf hzz ?_
         | refine Sf hd ?_
         | refine St ?_
         | fail)
        refine Rnd.n ⟨i + 1, d⟩ [0, 1, 2] ⟨by dsimp only; omega, by dsimp only; omega, hR⟩ (by dsimp only; omega) ⟨rfl, rfl, rfl, RenO.ro (RenVs.plain (cellsN_plain _)), RenO.ro (RenVs.plain (cellsZ_plain _)), RenO.cells (RenVs.cons (RenV.slice rfl) RenVs.nil), True.intro⟩ ?_
        exact ⟨⟨_, rfl, RenV.slice rfl⟩, ⟨_, rfl, RenV.ptr rfl⟩, ⟨_, rfl, RenV.plain rfl⟩, ⟨_, rfl, RenV.eq (by simp) rfl⟩, True.intro⟩
      · rw [if_neg hin] at hR
        rw [← hR]
        have c84 : ∀ h, CSem Tryz.prog 84 [.int .i64 z, .int .i64 0, .int .i64 (((b :: bs).length : Int) - 1)] h (.bool false) h := fun h => by
          have := sem84 z 0 (((b :: bs).length : Int) - 1) h
          rwa [decide_eq_false (by omega)] at this
        repeat' (first
         | refine S0 ?_
         | refine Sc (at40 hn hb hc0 hrk 3) ?_
         | refine Sc (c84 _) ?_
         | (refine S2 ?_ ?_) <;> intro hc <;> try (exfalso; first | omega | (simp at hc; done))
         | refine Sf hzz ?_
         | refine St ?_
         | fail)
        all_goals exact ⟨rfl, _, rfl, [0, 1], ⟨rfl, rfl, rfl, RenO.ro (RenVs.plain (cellsN_plain _)), RenO.ro (RenVs.plain (cellsZ_plain _)), True.intro⟩, RenV.tuple (RenVs.plain rfl)⟩
  · have hie : i = l.length := by omega
    subst hie
    rw [List.drop_length, nodeF] at hR
    rw [← hR]
    repeat' (first
     | refine S0 ?_
     | (refine S2 ?_ ?_) <;> intro hc <;> try (exfalso; first | omega | (simp at hc; done))
     | refine St ?_
     | fail)
    all_goals first
      | (exfalso; omega)
      | exact ⟨rfl, _, rfl, [0, 1], ⟨rfl, rfl, rfl, RenO.ro (RenVs.plain (cellsN_plain _)), RenO.ro (RenVs.plain (cellsZ_plain _)), True.intro⟩, RenV.tuple (RenVs.plain rfl)⟩
end Go.Am
namespace Go.Am
open Go Go.Proofs Go.RowKit Go.Pu
set_option maxRecDepth 1000000
inductive PF (i : Nat) (l : List Int) : AV → Prop
  | nil (h : l = []) : PF i l .nilslice
  | sl : PF i l (.slice i 0 l.length 1)
theorem checkR_pos {ns : List Nd} (h : checkR ns = 0) : 0 < ns.length := by
  cases ns with
  | nil =>
    have : checkR [] ≠ 0 := by decide +kernel
    exact absurd h this
  | cons x l => simp
def nodeA (ns : List Nd) (l : List Int) : Int := if checkR ns = 0 then (match nodeF (sizes ns) 0 l with | some k => (k : Int) | none => 0) else 0
def nodeE (ns : List Nd) (l : List Int) : Int := if checkR ns = 0 then (match nodeF (sizes ns) 0 l with | some _ => 0 | none => 7) else checkR ns
theorem nodeV_eq {ns : List Nd} {l : List Int} (h : checkR ns = 0) : nodeV (nodeF (sizes ns) 0 l) = .tuple [.int .i64 (nodeA ns l), .int .i64 (nodeE ns l)] := by
  unfold nodeA nodeE
  rw [if_pos h, if_pos h]
  cases nodeF (sizes ns) 0 l <;> rfl
set_option maxHeartbeats 4000000 in
theorem sem49e (ns : List Nd) (o : NdOk ns) (h0 : checkR ns ≠ 0) (l : List Int) (u v : AV) (tu : TF 0 ns u) (pv : PF 1 l v) : CSem Tryz.prog 49 [.agg [u], v] (pzH ns l) (.tuple [.int .i64 0, .int .i64 (checkR ns)]) (pzH ns l) := by
  have ca : ∀ {h : Heap}, Nat.blt 0 h.next = true → tells (h.objs.get 0) (cellsN ns) → CSem Tryz.prog 26 [.agg [u]] h (.int .i64 (checkR ns)) h := fun hi ht => tf26 o tu hi ht
  refine CSem.into Tryz.func49 rfl (by decide) Tryz.ntmps49 rfl rfl rfl ?_
  dsimp only [pzH]
  repeat' (first
   | refine S0 ?_
   | refine Sc ca ?_
   | (refine S2 ?_ ?_) <;> intro hc <;> try (exfalso; first | omega | (simp at hc; done))
   | refine St ?_
   | fail)
  all_goals first
    | (exfalso; omega)
    | exact ⟨rfl, _, rfl, [0, 1], ⟨rfl, rfl, rfl, RenO.ro (RenVs.plain (cellsN_plain _)), RenO.ro (RenVs.plain (cellsZ_plain _)), True.intro⟩, RenV.tuple (RenVs.plain rfl)⟩
set_option maxHeartbeats 4000000 in
theorem sem50e (ns : List Nd) (o : NdOk ns) (h0 : checkR ns ≠ 0) (l : List Int) (u v : AV) (tu : TF 0 ns u) (pv : PF 1 l v) : CSem Tryz.prog 50 [.agg [u], v] (pzH ns l) (.tuple [.int .i64 0, .int .i64 (checkR ns)]) (pzH ns l) := by
  have ca : ∀ {h : Heap}, Nat.blt 0 h.next = true → tells (h.objs.get 0) (cellsN ns) → CSem Tryz.prog 27 [.agg [u]] h (.int .i64 (checkR ns)) h := fun hi ht => tf27 o tu hi ht
  refine CSem.into Tryz.func50 rfl (by decide) Tryz.ntmps50 rfl rfl rfl ?_
  dsimp only [pzH]
  repeat' (first
   | refine S0 ?_
   | refine Sc ca ?_
   | (refine S2 ?_ ?_) <;> intro hc <;> try (exfalso; first | omega | (simp at hc; done))
   | refine St ?_
   | fail)
  all_goals first
    | (exfalso; omega)
    | exact ⟨rfl, _, rfl, [0, 1], ⟨rfl, rfl, rfl, RenO.ro (RenVs.plain (cellsN_plain _)), RenO.ro (RenVs.plain (cellsZ_plain _)), True.intro⟩, RenV.tuple (RenVs.plain rfl)⟩
set_option maxHeartbeats 4000000 in
theorem sem49n (ns : List Nd) (o : NdOk ns) (h0 : checkR ns = 0) : CSem Tryz.prog 49 [.agg [.slice 0 0 ns.length 5], .nilslice] (pzH ns []) (nodeV (nodeF (sizes ns) 0 [])) (pzH ns []) := by
  have ca : ∀ {h : Heap}, Nat.blt 0 h.next = true → tells (h.objs.get 0) (cellsN ns) → CSem Tryz.prog 26 [.agg [.slice 0 0 ns.length 5]] h (.int .i64 0) h := fun hi ht => by
    have := tf26 o (TF.sl (i := 0)) hi ht
    rwa [h0] at this
  refine CSem.into Tryz.func49 rfl (by decide) Tryz.ntmps49 rfl rfl rfl ?_
  dsimp only [pzH]
  repeat' (first
   | refine S0 ?_
   | refine Sc ca ?_
   | (refine S2 ?_ ?_) <;> intro hc <;> try (exfalso; first | omega | (simp at hc; done))
   | refine St ?_
   | fail)
  refine RS.loop (σ := Unit) (fun _ => True) (fun _ => [(7, .int .i64 0), (16, .nilslice), (17, .int .i64 0), (18, .int .i64 0)]) (fun _ => pzH ns []) (fun _ => 0) () trivial ⟨[0, 1], ⟨rfl, rfl, rfl, RenO.ro (RenVs.plain (cellsN_plain _)), RenO.ro (RenVs.plain (cellsZ_plain _)), True.intro⟩, by (repeat' (first | exact True.intro | refine And.intro ?_ ?_ | exact ⟨_, rfl, RenV.plain rfl⟩ | exact ⟨_, rfl, RenV.slice rfl⟩ | exact ⟨_, rfl, RenV.ptr rfl⟩ | exact ⟨_, rfl, RenV.nilslice⟩))⟩ ?round
  rintro _ _
  refine ⟨_, rfl, ?_⟩
  dsimp only [pzH]
  repeat' (first
   | refine S0 ?_
   | (refine S2 ?_ ?_) <;> intro hc <;> try (exfalso; first | omega | (simp at hc; done))
   | refine St ?_
   | fail)
  all_goals first
    | (exfalso; omega)
    | exact ⟨rfl, _, rfl, [0, 1], ⟨rfl, rfl, rfl, RenO.ro (RenVs.plain (cellsN_plain _)), RenO.ro (RenVs.plain (cellsZ_plain _)), True.intro⟩, RenV.tuple (RenVs.plain rfl)⟩
set_option maxHeartbeats 4000000 in
theorem sem50n (ns : List Nd) (o : NdOk ns) (h0 : checkR ns = 0) : CSem Tryz.prog 50 [.agg [.slice 0 0 ns.length 5], .nilslice] (pzH ns []) (nodeV (nodeF (sizes ns) 0 [])) (pzH ns []) := by
  have ca : ∀ {h : Heap}, Nat.blt 0 h.next = true → tells (h.objs.get 0) (cellsN ns) → CSem Tryz.prog 27 [.agg [.slice 0 0 ns.length 5]] h (.int .i64 0) h := fun hi ht => by
    have := tf27 o (TF.sl (i := 0)) hi ht
    rwa [h0] at this
  refine CSem.into Tryz.func50 rfl (by decide) Tryz.ntmps50 rfl rfl rfl ?_
  dsimp only [pzH]
  repeat' (first
   | refine S0 ?_
   | refine Sc ca ?_
   | (refine S2 ?_ ?_) <;> intro hc <;> try (exfalso; first | omega | (simp at hc; done))
   | refine St ?_
   | fail)
  refine RS.loop (σ := Unit) (fun _ => True) (fun _ => [(1, .nilslice), (7, .int .i64 0), (8, .int .i64 0)]) (fun _ => pzH ns []) (fun _ => 0) () trivial ⟨[0, 1], ⟨rfl, rfl, rfl, RenO.ro (RenVs.plain (cellsN_plain _)), RenO.ro (RenVs.plain (cellsZ_plain _)), True.intro⟩, by (repeat' (first | exact True.intro | refine And.intro ?_ ?_ | exact ⟨_, rfl, RenV.plain rfl⟩ | exact ⟨_, rfl, RenV.slice rfl⟩ | exact ⟨_, rfl, RenV.ptr rfl⟩ | exact ⟨_, rfl, RenV.nilslice⟩))⟩ ?round
  rintro _ _
  refine ⟨_, rfl, ?_⟩
  dsimp only [pzH]
  repeat' (first
   | refine S0 ?_
   | (refine S2 ?_ ?_) <;> intro hc <;> try (exfalso; first | omega | (simp at hc; done))
   | refine St ?_
   | fail)
  all_goals first
    | (exfalso; omega)
    | exact ⟨rfl, _, rfl, [0, 1], ⟨rfl, rfl, rfl, RenO.ro (RenVs.plain (cellsN_plain _)), RenO.ro (RenVs.plain (cellsZ_plain _)), True.intro⟩, RenV.tuple (RenVs.plain rfl)⟩
theorem upTP {f i j : Nat} {ns : List Nd} {l : List Int} {u v w : AV} (c : ∀ u v, TF 0 ns u → PF 1 l v → CSem Tryz.prog f [.agg [u], v] (pzH ns l) w (pzH ns l)) (hw : RenV [i, j] w w) (tu : TF i ns u) (pv : PF j l v) {h : Heap} (hi : Nat.blt i h.next = true) (ht : tells (h.objs.get i) (cellsN ns)) (hj : Nat.blt j h.next = true) (htj : tells (h.objs.get j) (cellsZ l)) :
    CSem Tryz.prog f [.agg [u], v] h w h := by
  have hu : ∃ u0, TF 0 ns u0 ∧ RenV [i, j] u u0 := by
    cases tu with
    | nil e => exact ⟨_, TF.nil e, RenV.nilslice⟩
    | sl => exact ⟨_, TF.sl, RenV.slice rfl⟩
  have hv : ∃ v0, PF 1 l v0 ∧ RenV [i, j] v v0 := by
    cases pv with
    | nil e => exact ⟨_, PF.nil e, RenV.nilslice⟩
    | sl => exact ⟨_, PF.sl, RenV.slice rfl⟩
  obtain ⟨u0, t0, ru⟩ := hu
  obtain ⟨v0, p0, rv⟩ := hv
  exact CSem.up (c u0 v0 t0 p0) [i, j] [] rfl (by simp only [List.all_cons, hi, hj, List.all_nil, Bool.and_true]) ⟨⟨cellsN_plain ns, ht⟩, ⟨cellsZ_plain l, htj⟩, True.intro⟩ (RenVs.cons (RenV.agg1 ru) (RenVs.cons rv RenVs.nil)) True.intro rfl rfl hw
theorem tf49 {ns : List Nd} (o : NdOk ns) {l : List Int} (hl0 : l.length ≤ 1000) {i j : Nat} {u v : AV} (tu : TF i ns u) (pv : PF j l v) {h : Heap} (hi : Nat.blt i h.next = true) (ht : tells (h.objs.get i) (cellsN ns)) (hj : Nat.blt j h.next = true) (htj : tells (h.objs.get j) (cellsZ l)) :
    CSem Tryz.prog 49 [.agg [u], v] h (.tuple [.int .i64 (nodeA ns l), .int .i64 (nodeE ns l)]) h := by
  refine upTP (fun u v tu pv => ?_) (RenV.tuple (RenVs.plain rfl)) tu pv hi ht hj htj
  by_cases h0 : checkR ns = 0
  · rw [← nodeV_eq h0]
    have hne := checkR_pos h0
    rw [find_sl tu hne]
    cases pv with
    | nil e => subst e; exact sem49n ns o h0
    | sl => exact sem49 ns o h0 hne l hl0
  · have := sem49e ns o h0 l u v tu pv
    unfold nodeA nodeE
    rw [if_neg h0, if_neg h0]
    exact this
theorem tf50 {ns : List Nd} (o : NdOk ns) {l : List Int} (hl0 : l.length ≤ 1000) {i j : Nat} {u v : AV} (tu : TF i ns u) (pv : PF j l v) {h : Heap} (hi : Nat.blt i h.next = true) (ht : tells (h.objs.get i) (cellsN ns)) (hj : Nat.blt j h.next = true) (htj : tells (h.objs.get j) (cellsZ l)) :
    CSem Tryz.prog 50 [.agg [u], v] h (.tuple [.int .i64 (nodeA ns l), .int .i64 (nodeE ns l)]) h := by
  refine upTP (fun u v tu pv => ?_) (RenV.tuple (RenVs.plain rfl)) tu pv hi ht hj htj
  by_cases h0 : checkR ns = 0
  · rw [← nodeV_eq h0]
    have hne := checkR_pos h0
    rw [find_sl tu hne]
    cases pv with
    | nil e => subst e; exact sem50n ns o h0
    | sl => exact sem50 ns o h0 hne l hl0
  · have := sem50e ns o h0 l u v tu pv
    unfold nodeA nodeE
    rw [if_neg h0, if_neg h0]
    exact this
end Go.Am
