/- Part of the proof: PuFnd, WrA, WrB, WrK. -/
import Derived.Test.YtijdeggmmpfjeaaGreatDoorQ3
import Derived.Test.YtijdeggmmpfjeaaGreatDoorQ4
import Derived.Test.YtijdeggmmpfjeaaGreatDoorQ6
set_option linter.unusedSimpArgs false
set_option linter.unusedVariables false
set_option linter.unusedSectionVars false
namespace Go.Am
open Go Go.Pu
theorem kidsF_lo (S : List Int) : ∀ (f k : Nat) (e : Int) (x : Nat), x ∈ kidsF S f k e → k ≤ x
  | 0, k, e, x, hm => by simp [kidsF] at hm
  | f + 1, k, e, x, hm => by
    unfold kidsF at hm
    split at hm
    · rcases List.mem_cons.1 hm with rfl | hm
      · exact Nat.le_refl _
      · have := kidsF_lo S f _ _ x hm; omega
    · cases hm
theorem kidsF_gap {S : List Int} (hl : Lam S) {e : Int} (he : e ≤ S.length) : ∀ (f k : Nat) (x : Nat), x ∈ kidsF S f k e → (x : Int) < e ∧ ∀ j s, k ≤ j → j < x → S[j]? = some s → (j : Int) + s ≤ x
  | 0, k, x, hm => by simp [kidsF] at hm
  | f + 1, k, x, hm => by
    unfold kidsF at hm
    split at hm
    · rename_i hlt
      rcases List.mem_cons.1 hm with rfl | hm
      · exact ⟨hlt, fun j s h1 h2 _ => by omega⟩
      · obtain ⟨t, ht⟩ : ∃ t, S[k]? = some t := ⟨S[k]'(by omega), by rw [List.getElem?_eq_getElem]⟩
        have hr := hl.rng k t ht
        rw [ht] at hm
        simp only [Option.getD_some] at hm
        obtain ⟨h1, h2⟩ := kidsF_gap hl he f _ x hm
        have hlo := kidsF_lo S f _ _ x hm
        refine ⟨h1, fun j s h3 h4 hs => ?_⟩
        by_cases hj : (j : Int) < k + t
        · by_cases hjk : k < j
          · have := hl.lam k j t s hjk ht hs hj
            omega
          · have : j = k := by omega
            subst this
            rw [ht] at hs
            simp only [Option.some.injEq] at hs
            subst hs
            omega
        · exact h2 j s (by omega) h4 hs
    · cases hm
theorem ancF_first {s : Nat → Int} {node y : Nat} : ∀ (k : Nat), y < k → (node : Int) < y + s y → (∀ j, y < j → j < k → ¬ (node : Int) < j + s j) → ancF s node k = y :: ancF s node y
  | 0, h, _, _ => by omega
  | k + 1, h, hy, hn => by
    rw [ancF]
    by_cases e : y = k
    · subst e; rw [if_pos hy]
    · rw [if_neg (hn k (by omega) (by omega))]
      exact ancF_first k (by omega) hy fun j a b => hn j a (by omega)
theorem kid_lt {S : List Int} {i j : Nat} (h : j ∈ kidsOf S i) : i < j := kidsF_lo S _ _ _ j h
theorem kid_anc {ns : List Nd} (hl : Lam (sizes ns)) {i j : Nat} (hi : i < ns.length) (h : j ∈ kidsOf (sizes ns) i) : ancF (sizeAt ns) j j = i :: ancF (sizeAt ns) j i := by
  have hz : (sizes ns).length = ns.length := by simp [sizes]
  have hs := sizeAt_of (ns := ns) hi
  have hr := hl.rng i _ hs
  have hlt := kid_lt h
  have hjl := kids_lt hl (by omega) h
  unfold kidsOf at h
  rw [hs] at h
  simp only [Option.getD_some] at h
  obtain ⟨h1, h2⟩ := kidsF_gap hl (by omega) _ _ _ h
  refine ancF_first j hlt h1 fun k a b => ?_
  have := h2 k _ (by omega) b (sizeAt_of (ns := ns) (k := k) (by omega))
  omega
theorem kid_up {ns : List Nd} (hl : Lam (sizes ns)) {i j : Nat} (hi : i < ns.length) (h : j ∈ kidsOf (sizes ns) i) : upF (ancF (sizeAt ns) j j) = (i : Int) := by
  rw [kid_anc hl hi h]
  rfl
theorem up_kid {ns : List Nd} (hl : Lam (sizes ns)) {i j : Nat} (hj : j < ns.length) (h : upF (ancF (sizeAt ns) j j) = (i : Int)) : j ∈ kidsOf (sizes ns) i := by
  cases e : ancF (sizeAt ns) j j with
  | nil => rw [e] at h; simp [upF] at h
  | cons y ys =>
    rw [e] at h
    have : y = i := by have h' : (y : Int) = (i : Int) := h; omega
    subst this
    exact (anc_next hl hj e).2.2
theorem root_up {ns : List Nd} (hl : Lam (sizes ns)) (h0 : (sizes ns)[0]? = some (ns.length : Int)) {j : Nat} (hj : j < ns.length) (hj0 : 0 < j) : ∃ i, i < j ∧ upF (ancF (sizeAt ns) j j) = (i : Int) := by
  have hz : (sizes ns).length = ns.length := by simp [sizes]
  obtain ⟨i, hi, hm⟩ := has_parent hl (by rw [hz]; exact h0) (j := j) (by omega) hj0
  exact ⟨i, kid_lt hm, kid_up hl (by omega) hm⟩
theorem nodeF_snoc (S : List Int) (i : Int) : ∀ (l : List Int) (c d : Nat), nodeF S c l = some d → nodeF S c (l ++ [i]) = nodeF S d [i]
  | [], c, d, h => by
    simp only [nodeF, Option.some.injEq] at h
    subst h
    rfl
  | a :: l, c, d, h => by
    simp only [nodeF, List.cons_append] at h ⊢
    split at h
    · rename_i hc
      rw [if_pos hc]
      exact nodeF_snoc S i l _ d h
    · cases h
theorem path_node {ns : List Nd} (hl : Lam (sizes ns)) (h0 : (sizes ns)[0]? = some (ns.length : Int)) : ∀ (b j : Nat), j < b → j < ns.length → nodeF (sizes ns) 0 (stepsF (sizes ns) j (ancF (sizeAt ns) j j)).reverse = some j
  | 0, j, h, _ => by omega
  | b + 1, j, h, hj => by
    cases e : ancF (sizeAt ns) j j with
    | nil =>
      by_cases hj0 : 0 < j
      · obtain ⟨i, _, hu⟩ := root_up hl h0 hj hj0
        rw [e] at hu
        simp [upF] at hu
      · have : j = 0 := by omega
        subst this
        rfl
    | cons y ys =>
      obtain ⟨h1, h2, h3⟩ := anc_next hl hj e
      subst h2
      show nodeF (sizes ns) 0 (kidZ (kidsOf (sizes ns) y) j :: stepsF (sizes ns) y (ancF (sizeAt ns) y y)).reverse = _
      rw [List.reverse_cons, nodeF_snoc _ _ _ _ _ (path_node hl h0 b y (by omega) (by omega))]
      unfold kidZ
      rw [if_pos h3]
      have hlt := List.idxOf_lt_length_of_mem h3
      simp only [nodeF]
      rw [if_pos ⟨by omega, by omega⟩, Int.toNat_natCast, List.getD_eq_getElem?_getD, List.getElem?_eq_getElem hlt]
      simp
def metZ (ns : List Nd) (i : Nat) (l : List Nat) (k : Nat) (j : Nat) : Int := if (0 ≤ upF (ancF (sizeAt ns) j j) ∧ upF (ancF (sizeAt ns) j j) < i) ∨ j ∈ l.take k then 1 else 0
def metL (ns : List Nd) (i : Nat) (l : List Nat) (k : Nat) : List Int := (List.range ns.length).map (metZ ns i l k)
theorem metL_len (ns : List Nd) (i : Nat) (l : List Nat) (k : Nat) : (metL ns i l k).length = ns.length := by simp [metL]
theorem metL_get {ns : List Nd} {i : Nat} {l : List Nat} {k j : Nat} (hj : j < ns.length) : (metL ns i l k)[j]? = some (metZ ns i l k j) := by simp [metL, hj]
theorem metL_zero (ns : List Nd) : metL ns 0 [] 0 = List.replicate ns.length 0 := by
  refine List.ext_getElem? fun j => ?_
  by_cases hj : j < ns.length
  · rw [metL_get hj, List.getElem?_replicate, if_pos hj]
    unfold metZ
    rw [if_neg]
    rintro (h | h)
    · omega
    · simp at h
  · rw [List.getElem?_eq_none (by rw [metL_len]; omega), List.getElem?_eq_none (by simp; omega)]
theorem metL_start (ns : List Nd) (i : Nat) (l l' : List Nat) : metL ns i l 0 = metL ns i l' 0 := by
  refine List.map_congr_left fun j _ => ?_
  unfold metZ
  rfl
theorem metL_fresh {ns : List Nd} (hl : Lam (sizes ns)) {i : Nat} (hi : i < ns.length) {k c : Nat} (hk : (kidsOf (sizes ns) i)[k]? = some c) : metZ ns i (kidsOf (sizes ns) i) k c = 0 := by
  have hz : (sizes ns).length = ns.length := by simp [sizes]
  have hm : c ∈ kidsOf (sizes ns) i := List.mem_of_getElem? hk
  have hu := kid_up hl hi hm
  have hn := kids_nodup hl i (by omega)
  unfold metZ
  rw [if_neg]
  rintro (h | h)
  · omega
  · obtain ⟨q, hq⟩ := List.mem_iff_getElem?.1 h
    rw [List.getElem?_take] at hq
    split at hq
    · rename_i hlt
      have hkl := (List.getElem?_eq_some_iff.1 hk).1
      have e1 := (List.getElem?_eq_some_iff.1 hk).2
      have hql := (List.getElem?_eq_some_iff.1 hq).1
      have e2 := (List.getElem?_eq_some_iff.1 hq).2
      rcases Nat.lt_or_ge q k with hqk | hqk
      · exact (List.pairwise_iff_getElem.1 hn q k hql hkl hqk) (by rw [e1, e2])
      · omega
    · cases hq
theorem metL_step {ns : List Nd} (hl : Lam (sizes ns)) {i : Nat} (hi : i < ns.length) {k c : Nat} (hk : (kidsOf (sizes ns) i)[k]? = some c) : (metL ns i (kidsOf (sizes ns) i) k).set c 1 = metL ns i (kidsOf (sizes ns) i) (k + 1) := by
  refine List.ext_getElem? fun j => ?_
  rw [List.getElem?_set, metL_len]
  by_cases hj : j < ns.length
  · rw [metL_get hj, metL_get hj]
    have htk : (kidsOf (sizes ns) i).take (k + 1) = (kidsOf (sizes ns) i).take k ++ [c] := by
      rw [List.take_add_one, hk]; rfl
    by_cases e : c = j
    · subst e
      rw [if_pos rfl, if_pos hj]
      unfold metZ
      rw [htk, if_pos (.inr (by simp))]
    · rw [if_neg e]
      unfold metZ
      rw [htk]
      have : j ∈ (kidsOf (sizes ns) i).take k ++ [c] ↔ j ∈ (kidsOf (sizes ns) i).take k := by
        simp only [List.mem_append, List.mem_singleton]
        exact ⟨fun h => h.elim id (fun h => absurd h.symm e), .inl⟩
      simp only [this]
  · have h1 : (metL ns i (kidsOf (sizes ns) i) k)[j]? = none := List.getElem?_eq_none (by rw [metL_len]; omega)
    have h2 : (metL ns i (kidsOf (sizes ns) i) (k + 1))[j]? = none := List.getElem?_eq_none (by rw [metL_len]; omega)
    rw [h1, h2]
    split
    · rw [if_neg (by omega)]
    · rfl
theorem metL_next {ns : List Nd} (hl : Lam (sizes ns)) {i : Nat} (hi : i < ns.length) : metL ns i (kidsOf (sizes ns) i) (kidsOf (sizes ns) i).length = metL ns (i + 1) [] 0 := by
  refine List.map_congr_left fun j hj => ?_
  have hj := List.mem_range.1 hj
  unfold metZ
  rw [List.take_length]
  have : (0 ≤ upF (ancF (sizeAt ns) j j) ∧ upF (ancF (sizeAt ns) j j) < i ∨ j ∈ kidsOf (sizes ns) i) ↔ (0 ≤ upF (ancF (sizeAt ns) j j) ∧ upF (ancF (sizeAt ns) j j) < (i + 1 : Nat) ∨ j ∈ ([] : List Nat).take 0) := by
    constructor
    · rintro (h | h)
      · exact .inl ⟨h.1, by omega⟩
      · have := kid_up hl hi h
        exact .inl ⟨by omega, by omega⟩
    · rintro (h | h)
      · by_cases e : upF (ancF (sizeAt ns) j j) = i
        · exact .inr (up_kid hl hj e)
        · exact .inl ⟨h.1, by omega⟩
      · simp at h
  simp only [this]
theorem metL_end {ns : List Nd} (hl : Lam (sizes ns)) (h0 : (sizes ns)[0]? = some (ns.length : Int)) {j : Nat} (hj : j < ns.length) : metZ ns ns.length [] 0 j = if 0 < j then 1 else 0 := by
  unfold metZ
  by_cases h : 0 < j
  · obtain ⟨i, hi, hu⟩ := root_up hl h0 hj h
    rw [if_pos h, if_pos (.inl ⟨by omega, by omega⟩)]
  · have : j = 0 := by omega
    subst this
    rw [if_neg h, if_neg]
    rintro (h | h)
    · have : upF (ancF (sizeAt ns) 0 0) = -1 := rfl
      omega
    · simp at h
end Go.Am
namespace Go.Am
open Go Go.Proofs Go.RowKit Go.Pu
set_option maxRecDepth 1000000
theorem OSem.mk {P : Program} {d : Option Tmp} {ty : TypeId} {pos : String} {af : Array Edge} {gd : Option (Nat × Bool)} {g : Ev} {h h' : Heap} {t e : TypeId} {x y : Operand} {n es : Nat} {k1 k2 : IntKind} {inf : TypeInfo} {z : AV} {c : List AV} {j : Nat}
    (hx : g x = some (.int k1 (n : Int))) (hy : g y = some (.int k2 (n : Int))) (ht : P.underlying t = some (.slice e)) (hi : P.info? e = some inf) (hz : azero P e = some z) (hzl : Nat.beq z.cells.length es = true) (hes : P.cellsOf e = es) (he0 : Nat.blt 0 es = true) (hn : n ≤ 1000000) (hb : n * inf.bytes ≤ 1000000000) (hc : c.length = n * es) (hcg : ∀ (k : Nat) (a : AV), c[k]? = some a → z.cells[k % es]? = some a) (ha : h.add (.cells e es c true) = some (j, h')) :
    OSem P ⟨d, .makeSlice t x y, ty, pos, af, gd⟩ g h (.slice j 0 n es) h' := by
  intro B w0 M w a r re next Q hn'
  have e1 := re _ _ hx
  have e2 := re _ _ hy
  simp only [conc, Option.some.injEq] at e1 e2
  have hes' : P.cellsOf e = inf.size := by simp [Program.cellsOf, hi]
  have hinfo : (P.info? e).isSome = true := by rw [hi]; rfl
  have hzl' := Nat.eq_of_beq_eq_true hzl
  have h0 : 0 < es := by simpa [blt_iff] using he0
  obtain ⟨cz, z1, hz2⟩ : ∃ cz, conc M z = some cz ∧ inf.zero = some cz := by
    unfold azero at hz
    rw [hi] at hz
    simp only at hz
    split at hz
    · rename_i cz hcz
      exact ⟨cz, absV_sound M hz, hcz⟩
    · cases hz
  have hczc := conc_cells z1
  have hczs : cz.cells.size = es := by
    have := concs_length hczc
    have h3 : cz.cells.toList.length = cz.cells.size := by simp
    omega
  have hsz : inf.size = es := by rw [← hes', hes]
  have hrun := run_make (P := P) w t e inf cz ht hi hz2 k1 k2 n n (by omega) (Int.le_refl _) (by have : ((inf.bytes * n : Nat) : Int) ≤ 281474976710656 := by { rw [Nat.mul_comm]; omega }; rwa [Int.natCast_mul] at this) (by omega)
  simp only [Int.toNat_natCast] at hrun
  obtain ⟨_, g', r'⟩ := r.add ha (co := .cells (madeCells cz.cells (n * inf.size)) e) (cap := n)
    ⟨rfl, hes, hinfo, h0, (by simp only [maxLen]; omega), _, rfl, by rw [size_madeCells, hsz], by rw [size_madeCells, hsz]; omega, fun _ => by rw [size_madeCells, hsz]; exact hc, fun k a hk => by
      have hkl := (List.getElem?_eq_some_iff.1 hk).1
      have h1 := hcg k a hk
      obtain ⟨v, v1, v2⟩ := concs_get hczc h1
      refine ⟨v, v2, ?_⟩
      have hlt : k % es < cz.cells.size := by rw [hczs]; exact Nat.mod_lt _ h0
      have v3 : cz.cells[k % es]? = some v := by simpa using v1
      unfold madeCells
      rw [Array.getElem?_map, hsz, Array.getElem?_range, if_pos (by omega)]
      simp only [Option.map_some, Option.some.injEq, hczs]
      rw [getElem!_pos cz.cells (k % es) hlt]
      rw [Array.getElem?_eq_getElem hlt] at v3
      exact Option.some.inj v3⟩
  unfold Oper.wp
  have hx' : (execOp a.eval (⟨d, .makeSlice t x y, ty, pos, af, gd⟩ : Oper)).run P w = .ok (.value (.slice (some ⟨w.heap.size, 0, none⟩) n n)) (w.alloc (.cells (madeCells cz.cells (n * inf.size)) e)) := by simp [execOp, ← e1, ← e2, hrun]
  rw [hx']
  exact hn' _ _ _ g' (conc_slice.2 ⟨_, Map.put_self _ _ _, by simp, by simp⟩) r'
theorem RO.mk {P : Program} {N n' : Nat} {ops : Array Oper} {l : List Oper} {env env1 : Env} {Post : APost} {d : Option Tmp} {ty : TypeId} {pos : String} {af : Array Edge} {gd : Option (Nat × Bool)} {h h' : Heap} {t e : TypeId} {x y : Operand} {n es : Nat} {k1 k2 : IntKind} {inf : TypeInfo} {z : AV} (c : List AV) {j : Nat}
    (hw : awanted ops (aeval env) (⟨d, .makeSlice t x y, ty, pos, af, gd⟩ : Oper) = some true) (hx : aeval env x = some (.int k1 (n : Int))) (hy : aeval env y = some (.int k2 (n : Int))) (ht : P.underlying t = some (.slice e)) (hi : P.info? e = some inf) (hz : azero P e = some z) (hzl : Nat.beq z.cells.length es = true) (hes : P.cellsOf e = es) (he0 : Nat.blt 0 es = true) (hn : n ≤ 1000000) (hb : n * inf.bytes ≤ 1000000000) (hc : c.length = n * es) (hcg : ∀ (k : Nat) (a : AV), c[k]? = some a → z.cells[k % es]? = some a) (ha : h.add (.cells e es c true) = some (j, h')) (hp : aput env n' d (.slice j 0 n es) = some env1) (rest : RO P N n' ops l env1 h' Post) : RO P N n' ops ((⟨d, .makeSlice t x y, ty, pos, af, gd⟩ : Oper) :: l) env h Post :=
  RO.step hw (OSem.mk hx hy ht hi hz hzl hes he0 hn hb hc hcg ha) hp rest
theorem RO.opSt {P : Program} {ext : FuncId → Bool} {N n : Nat} {ops : Array Oper} {l : List Oper} {env env1 : Env} {h h1 : Heap} {Post : APost} {d : Option Tmp} {ty : TypeId} {pos : String} {af : Array Edge} {gd : Option (Nat × Bool)} (hext : ExtOk P ext) {t : TypeId} {x y : Operand} {i off e es : Nat} {v : AV} {c : List AV} (c' : List AV) {ex : Bool} (hw : awanted ops (aeval env) (⟨d, .store t x y, ty, pos, af, gd⟩ : Oper) = some true) (hx : aeval env x = some (.ptr i off)) (hy : aeval env y = some v) (hv : v.cells = [v]) (hone : allOne [v] = true) (hi : (P.info? t).isSome = true) (hk : Nat.beq 1 (P.cellsOf t) = true) (hg : h.objs.get i = some (.cells e es c ex)) (hlt : off < c.length) (hc : c.set off v = c') (hput : h.put i (some (.cells e es c' ex)) = some h1) (hp : aput env n d (.tuple []) = some env1) (rest : RO P N n ops l env1 h1 Post) : RO P N n ops ((⟨d, .store t x y, ty, pos, af, gd⟩ : Oper) :: l) env h Post :=
  RO.step hw (OSem.st1 hext hx hy hv hone hi hk hg hlt hc hput) hp rest
def rightB (ns : List Nd) : Bool := thinB ns && decide (checkR ns = 0)
set_option maxHeartbeats 4000000 in
theorem sem37 (ns : List Nd) (ia : NdIn ns) (u : AV) (tu : TF 0 ns u) : CSem Tryz.prog 37 [.agg [u]] (nodesH ns) (.bool (rightB ns)) (nodesH ns) := by
  have hT : ∀ {b : Bool}, thinB ns = b → ∀ {h : Heap}, Nat.blt 0 h.next = true → tells (h.objs.get 0) (cellsN ns) → CSem Tryz.prog 24 [.agg [u]] h (.bool b) h := fun e _ hi h2 => e ▸ tf24 tu hi h2
  cases ht : thinB ns with
  | false =>
    have : rightB ns = false := by unfold rightB; rw [ht]; rfl
    rw [this]
    rcases tu.form with rfl | rfl
    all_goals
      refine CSem.into Tryz.func37 rfl (by decide) Tryz.ntmps37 rfl rfl rfl ?_
      dsimp only [nodesH]
      repeat' (first
       | refine S0 ?_
       | refine Sc (hT ht) ?_
       | (refine S2 ?_ ?_) <;> intro hc <;> try (exfalso; first | omega | (simp at hc; done))
       | refine St ?_
       | fail)
      all_goals exact ⟨rfl, _, rfl, [0], ⟨rfl, rfl, rfl, RenO.ro (RenVs.plain (cellsN_plain _)), True.intro⟩, RenV.plain rfl⟩
  | true =>
    have ok := thin_ok ia ht
    have : rightB ns = decide (checkR ns = 0) := by unfold rightB; rw [ht]; rfl
    rw [this]
    have ca : ∀ {h : Heap}, Nat.blt 0 h.next = true → tells (h.objs.get 0) (cellsN ns) → CSem Tryz.prog 27 [.agg [u]] h (.int .i64 (checkR ns)) h := fun hi ht => tf27 ok tu hi ht
    generalize checkR ns = q at ca
    rcases tu.form with rfl | rfl
    all_goals
      by_cases hq : q = 0
      · rw [decide_eq_true hq]
        refine CSem.into Tryz.func37 rfl (by decide) Tryz.ntmps37 rfl rfl rfl ?_
        dsimp only [nodesH]
        repeat' (first
         | refine S0 ?_
         | refine Sc (hT ht) ?_
         | refine Sc ca ?_
         | (refine S2 ?_ ?_) <;> intro hc <;> try (exfalso; first | omega | (simp at hc; done))
         | refine St ?_
         | fail)
        all_goals first
          | (exfalso; omega)
          | exact ⟨rfl, _, rfl, [0], ⟨rfl, rfl, rfl, RenO.ro (RenVs.plain (cellsN_plain _)), True.intro⟩, RenV.plain rfl⟩
      · rw [decide_eq_false hq]
        refine CSem.into Tryz.func37 rfl (by decide) Tryz.ntmps37 rfl rfl rfl ?_
        dsimp only [nodesH]
        repeat' (first
         | refine S0 ?_
         | refine Sc (hT ht) ?_
         | refine Sc ca ?_
         | (refine S2 ?_ ?_) <;> intro hc <;> try (exfalso; first | omega | (simp at hc; done))
         | refine St ?_
         | fail)
        all_goals first
          | (exfalso; omega)
          | exact ⟨rfl, _, rfl, [0], ⟨rfl, rfl, rfl, RenO.ro (RenVs.plain (cellsN_plain _)), True.intro⟩, RenV.plain rfl⟩
theorem tf37 {i : Nat} {ns : List Nd} {u : AV} (ia : NdIn ns) (tu : TF i ns u) {h : Heap} (hi : Nat.blt i h.next = true) (ht : tells (h.objs.get i) (cellsN ns)) : CSem Tryz.prog 37 [.agg [u]] h (.bool (rightB ns)) h :=
  up1TF (more := []) (fun u t => sem37 ns ia u t) rfl (RenV.plain rfl) tu hi ht
theorem right_thin {ns : List Nd} (h : rightB ns = true) : thinB ns = true ∧ checkR ns = 0 := by
  unfold rightB at h
  simpa using h
theorem right_len {ns : List Nd} (h : rightB ns = true) : ns.length ≤ 120 ∧ 0 < ns.length := by
  obtain ⟨h1, h2⟩ := right_thin h
  refine ⟨?_, checkR_pos h2⟩
  unfold thinB at h1
  simp only [Bool.and_eq_true, Bool.not_eq_true', Bool.or_eq_false_iff, Bool.and_eq_false_iff, decide_eq_false_iff_not] at h1
  have h3 : ns.length ≤ 600 := by
    unfold checkR at h2
    split at h2
    · cases h2
    · omega
  omega
theorem check_root {ns : List Nd} (h : checkR ns = 0) : (sizes ns)[0]? = some (ns.length : Int) := by
  have h1 : refFormB ns = true := by
    unfold checkR at h
    split at h
    · cases h
    · split at h
      · assumption
      · cases h
  unfold refFormB rootOk at h1
  simp only [Bool.and_eq_true] at h1
  obtain ⟨h1, _⟩ := h1
  cases e : ns[0]? with
  | none => rw [e] at h1; cases h1
  | some x =>
    rw [e] at h1
    simp only [Bool.and_eq_true, decide_eq_true_eq] at h1
    simp [sizes, e, h1.2]
theorem t49f {ns : List Nd} (o : NdOk ns) (h0 : checkR ns = 0) {node : Nat} (hn : node < ns.length) {v : AV} {j : Nat} (pv : PF j (pathOf ns node) v) {h : Heap} {i : Nat} (hi : Nat.blt i h.next = true) (ht : tells (h.objs.get i) (cellsN ns)) (hj : Nat.blt j h.next = true) (htj : tells (h.objs.get j) (cellsZ (pathOf ns node))) : CSem Tryz.prog 49 [.agg [.slice i 0 ns.length 5], v] h (.tuple [.int .i64 (node : Int), .int .i64 0]) h := by
  have hpl : (pathOf ns node).length ≤ 1000 := by
    unfold pathOf
    rw [List.length_reverse, stepsF_len]
    have := ancF_len (sizeAt ns) node node
    have := o.len
    omega
  have c := tf49 o hpl TF.sl pv hi ht hj htj
  have e : nodeF (sizes ns) 0 (pathOf ns node) = some node := path_node (check_lam o h0) (check_root h0) (node + 1) node (by omega) hn
  have e1 : nodeA ns (pathOf ns node) = node := by unfold nodeA; rw [if_pos h0, e]
  have e2 : nodeE ns (pathOf ns node) = 0 := by unfold nodeE; rw [if_pos h0, e]
  rw [e1, e2] at c
  exact c
set_option maxHeartbeats 4000000 in
theorem sem49m (ns : List Nd) (o : NdOk ns) (h0 : checkR ns = 0) : CSem Tryz.prog 49 [.agg [.slice 0 0 ns.length 5], .nilslice] (nodesH ns) (.tuple [.int .i64 0, .int .i64 0]) (nodesH ns) := by
  have ca : ∀ {h : Heap}, Nat.blt 0 h.next = true → tells (h.objs.get 0) (cellsN ns) → CSem Tryz.prog 26 [.agg [.slice 0 0 ns.length 5]] h (.int .i64 0) h := fun hi ht => by
    have := tf26 o (TF.sl (i := 0)) hi ht
    rwa [h0] at this
  refine CSem.into Tryz.func49 rfl (by decide) Tryz.ntmps49 rfl rfl rfl ?_
  dsimp only [nodesH]
  repeat' (first
   | refine S0 ?_
   | refine Sc ca ?_
   | (refine S2 ?_ ?_) <;> intro hc <;> try (exfalso; first | omega | (simp at hc; done))
   | refine St ?_
   | fail)
  refine RS.loop (σ := Unit) (fun _ => True) (fun _ => [(7, .int .i64 0), (16, .nilslice), (17, .int .i64 0), (18, .int .i64 0)]) (fun _ => nodesH ns) (fun _ => 0) () trivial ⟨[0], ⟨rfl, rfl, rfl, RenO.ro (RenVs.plain (cellsN_plain _)), True.intro⟩, by (repeat' (first | exact True.intro | refine And.intro ?_ ?_ | exact ⟨_, rfl, RenV.plain rfl⟩ | exact ⟨_, rfl, RenV.slice rfl⟩ | exact ⟨_, rfl, RenV.ptr rfl⟩ | exact ⟨_, rfl, RenV.nilslice⟩))⟩ ?round
  rintro _ _
  refine ⟨_, rfl, ?_⟩
  dsimp only [nodesH]
  repeat' (first
   | refine S0 ?_
   | (refine S2 ?_ ?_) <;> intro hc <;> try (exfalso; first | omega | (simp at hc; done))
   | refine St ?_
   | fail)
  all_goals first
    | (exfalso; omega)
    | exact ⟨rfl, _, rfl, [0], ⟨rfl, rfl, rfl, RenO.ro (RenVs.plain (cellsN_plain _)), True.intro⟩, RenV.tuple (RenVs.plain rfl)⟩
theorem t49z {ns : List Nd} (o : NdOk ns) (h0 : checkR ns = 0) {node : Nat} (hn : node < ns.length) (hp : pathOf ns node = []) {h : Heap} {i : Nat} (hi : Nat.blt i h.next = true) (ht : tells (h.objs.get i) (cellsN ns)) : CSem Tryz.prog 49 [.agg [.slice i 0 ns.length 5], .nilslice] h (.tuple [.int .i64 (node : Int), .int .i64 0]) h := by
  have e : nodeF (sizes ns) 0 (pathOf ns node) = some node := path_node (check_lam o h0) (check_root h0) (node + 1) node (by omega) hn
  rw [hp] at e
  simp only [nodeF, Option.some.injEq] at e
  subst e
  exact CSem.upN (sem49m ns o h0) hi ht (RenVs.cons (RenV.agg1 (RenV.slice rfl)) (RenVs.plain rfl)) (RenV.tuple (RenVs.plain rfl))
def fndH (ns : List Nd) (m : List Int) : Heap := ⟨.node (some (.ro 50 5 (cellsN ns))) (.node (some (.cells 26 1 [.slice 0 0 ns.length 5] true)) .leaf .leaf) (.node (some (.cells 3 1 (cellsZ m) true)) .leaf .leaf), 3⟩
def fndK (ns : List Nd) (m : List Int) (l : List Nat) : Heap := ⟨.node (some (.ro 50 5 (cellsN ns))) (.node (some (.cells 26 1 [.slice 0 0 ns.length 5] true)) (.node (some (.cells 3 1 (cellsI l) false)) .leaf .leaf) .leaf) (.node (some (.cells 3 1 (cellsZ m) true)) .leaf .leaf), 4⟩
theorem cellsZ_rep (n : Nat) : ∀ (k : Nat) (a : AV), (cellsZ (List.replicate n 0))[k]? = some a → [AV.int .i64 0][k % 1]? = some a := by
  intro k a h
  simp only [cellsZ, List.map_replicate, List.getElem?_replicate] at h
  split at h
  · rw [Nat.mod_one]
    simpa [intZ] using h
  · cases h
set_option maxHeartbeats 4000000 in
theorem sem16f (ns : List Nd) (ia : NdIn ns) (hr : rightB ns = false) (u : AV) (tu : TF 0 ns u) : CSem Tryz.prog 16 [.agg [u]] (nodesH ns) (.bool true) (nodesH ns) := by
  have hT : ∀ {h : Heap}, Nat.blt 0 h.next = true → tells (h.objs.get 0) (cellsN ns) → CSem Tryz.prog 37 [.agg [u]] h (.bool false) h := fun hi h2 => hr ▸ tf37 ia tu hi h2
  rcases tu.form with rfl | rfl
  all_goals
    refine CSem.into Tryz.func16 rfl (by decide) Tryz.ntmps16 rfl rfl rfl ?_
    dsimp only [nodesH]
    repeat' (first
     | refine S0 ?_
     | refine Sc hT ?_
     | refine Sc (sem20 _) ?_
     | (refine S2 ?_ ?_) <;> intro hc <;> try (exfalso; first | omega | (simp at hc; done))
     | refine St ?_
     | fail)
    all_goals exact ⟨rfl, _, rfl, [0], ⟨rfl, rfl, rfl, RenO.ro (RenVs.plain (cellsN_plain _)), True.intro⟩, RenV.plain rfl⟩
end Go.Am
namespace Go.Am
open Go Go.Proofs Go.RowKit Go.Pu
set_option maxRecDepth 1000000
theorem metL_end_get {ns : List Nd} (hl : Lam (sizes ns)) (h0 : (sizes ns)[0]? = some (ns.length : Int)) {j : Nat} (hj : j < ns.length) : (metL ns ns.length [] 0)[j]? = some (if 0 < j then 1 else 0) := by
  rw [metL_get hj, metL_end hl h0 hj]
theorem cells_met {ns : List Nd} (hl : Lam (sizes ns)) {i : Nat} (hi : i < ns.length) {ks : List Nat} (he : kidsOf (sizes ns) i = ks) {k c : Nat} (hk : ks[k]? = some c) : (cellsZ (metL ns i ks k)).set (c * 1) (.int .i64 (0 + 1)) = cellsZ (metL ns i ks (k + 1)) := by
  subst he
  rw [Nat.mul_one, show (0 + 1 : Int) = 1 from rfl, cellsZ_set, metL_step hl hi hk]
set_option maxHeartbeats 16000000 in
theorem sem16k (ns : List Nd) (ia : NdIn ns) (hr : rightB ns = true) : CSem Tryz.prog 16 [.agg [.slice 0 0 ns.length 5]] (nodesH ns) (.bool true) (nodesH ns) := by
  obtain ⟨ht, h0⟩ := right_thin hr
  obtain ⟨hn1, hn0⟩ := right_len hr
  have ok := thin_ok ia ht
  have hla := ok.len
  have hne : ns.length ≠ 0 := by omega
  have hl := check_lam ok h0
  have hroot := check_root h0
  have hz : (sizes ns).length = ns.length := by simp [sizes]
  have hT : ∀ {h : Heap}, Nat.blt 0 h.next = true → tells (h.objs.get 0) (cellsN ns) → CSem Tryz.prog 37 [.agg [.slice 0 0 ns.length 5]] h (.bool true) h := fun hi h2 => hr ▸ tf37 ia TF.sl hi h2
  refine CSem.into Tryz.func16 rfl (by decide) Tryz.ntmps16 rfl rfl rfl ?_
  dsimp only [nodesH]
  repeat' (first
   | refine S0 ?_
   | refine Sc hT ?_
   | ((with_reducible refine' RO.mk (es := 1) (cellsZ (List.replicate ns.length 0)) ?hw ?hx ?hy ?ht ?hu ?hz ?hzl ?hes ?he0 ?hn ?hb ?hc ?hcg ?ha ?hp ?_); (case hw | hx | hy | ht | hu | hz | hzl | hes | he0 => exact rfl); (case hn => omega); (case hb => (show _ * 8 ≤ _; omega)); (case hc => (simp [cellsZ_len])); (case hcg => exact cellsZ_rep _); (case ha | hp => exact rfl))
   | (refine S2 ?_ ?_) <;> intro hc <;> try (exfalso; first | omega | (simp at hc; done))
   | refine St ?_
   | fail)
  rw [← metL_zero ns]
  refine RS.loop (σ := Nat) (fun i => i ≤ ns.length) (fun i => [(1, .ptr 1 0), (3, .slice 2 0 ns.length 1), (4, .int .i64 (i : Int))]) (fun i => fndH ns (metL ns i [] 0)) (fun i => ns.length - i) 0 (Nat.zero_le _) ⟨[0, 1, 2], ⟨rfl, rfl, rfl, RenO.ro (RenVs.plain (cellsN_plain _)), RenO.cells (RenVs.cons (RenV.slice rfl) RenVs.nil), RenO.cells (RenVs.plain (cellsZ_plain _)), True.intro⟩, by (repeat' (first | exact True.intro | refine And.intro ?_ ?_ | exact ⟨_, rfl, RenV.plain rfl⟩ | exact ⟨_, rfl, RenV.slice rfl⟩ | exact ⟨_, rfl, RenV.ptr rfl⟩ | exact ⟨_, rfl, RenV.nilslice⟩))⟩ ?round
  rintro i hi
  refine ⟨_, rfl, ?_⟩
  dsimp only [fndH]
  by_cases hlt : i < ns.length
  · have c49 : ∀ {v : AV} {j : Nat}, PF j (pathOf ns i) v → ∀ {h : Heap} {b : Nat}, Nat.blt b h.next = true → tells (h.objs.get b) (cellsN ns) → Nat.blt j h.next = true → tells (h.objs.get j) (cellsZ (pathOf ns i)) → CSem Tryz.prog 49 [.agg [.slice b 0 ns.length 5], v] h (.tuple [.int .i64 (i : Int), .int .i64 0]) h := fun pv _ _ q1 q2 q3 q4 => t49f ok h0 hlt pv q1 q2 q3 q4
    have hkl : (kidsOf (sizes ns) i).length ≤ ns.length := by
      have := kidsOf_len (sizes ns) i
      omega
    have hnext := metL_next hl hlt
    have hstart := metL_start ns i [] (kidsOf (sizes ns) i)
    rw [hstart]
    have hkk : ∀ x ∈ kidsOf (sizes ns) i, i < x ∧ x < ns.length ∧ upF (ancF (sizeAt ns) x x) = (i : Int) := fun x hx => ⟨kid_lt hx, by have := kids_lt hl (by omega) hx; omega, kid_up hl hlt hx⟩
    have hfr : ∀ (k c : Nat), (kidsOf (sizes ns) i)[k]? = some c → (metL ns i (kidsOf (sizes ns) i) k)[c]? = some 0 := fun k c hk => by
      rw [metL_get (hkk c (List.mem_of_getElem? hk)).2.1, metL_fresh hl hlt hk]
    have hst : ∀ (k c : Nat), (kidsOf (sizes ns) i)[k]? = some c → (cellsZ (metL ns i (kidsOf (sizes ns) i) k)).set (c * 1) (.int .i64 (0 + 1)) = cellsZ (metL ns i (kidsOf (sizes ns) i) (k + 1)) := fun k c hk => cells_met hl hlt rfl hk
    generalize hp : pathOf ns i = ps at c49
    generalize hk : kidsOf (sizes ns) i = ks at hkl hnext hkk hfr hst ⊢
    cases ks with
    | nil =>
      have hnext : metL ns i [] 0 = metL ns (i + 1) [] 0 := hnext
      rw [hnext]
      cases ps
      all_goals
        repeat' (first
         | refine S0 ?_
         | refine Sc (at25 hne hla) ?_
         | refine Sc (t48n ok h0 hlt hp) ?_
         | refine Sc (t48c ok h0 hlt hp) ?_
         | refine Sc (t49z ok h0 hlt hp) ?_
         | refine Sc (c49 PF.sl) ?_
         | refine Sc (t46n ok h0 hlt hk) ?_
         | (refine S2 ?_ ?_) <;> intro hc <;> try (exfalso; first | omega | (simp at hc; done))
         | refine St ?_
         | fail)
        all_goals first
          | (exfalso; omega)
          | (exfalso; have hc' : (ns.length : Int) < 0 := hc; omega)
          | skip
        refine RS.loop (σ := Unit) (fun _ => True) (fun _ => [(1, .ptr 1 0), (3, .slice 2 0 ns.length 1), (4, .int .i64 (i : Int)), (9, .nilslice), (11, .int .i64 0)]) (fun _ => fndH ns (metL ns (i + 1) [] 0)) (fun _ => 0) () trivial ⟨[0, 1, 2], ⟨rfl, rfl, rfl, RenO.ro (RenVs.plain (cellsN_plain _)), RenO.cells (RenVs.cons (RenV.slice rfl) RenVs.nil), RenO.cells (RenVs.plain (cellsZ_plain _)), True.intro⟩, by (repeat' (first | exact True.intro | refine And.intro ?_ ?_ | exact ⟨_, rfl, RenV.plain rfl⟩ | exact ⟨_, rfl, RenV.slice rfl⟩ | exact ⟨_, rfl, RenV.ptr rfl⟩ | exact ⟨_, rfl, RenV.nilslice⟩))⟩ ?_
        rintro _ _
        refine ⟨_, rfl, ?_⟩
        dsimp only [fndH]
        repeat' (first
         | refine S0 ?_
         | (refine S2 ?_ ?_) <;> intro hc <;> try (exfalso; first | omega | (simp at hc; done))
         | refine St ?_
         | fail)
        all_goals first
          | (exfalso; omega)
          | (refine Rnd.n (i + 1) [0, 1, 2] (by omega) (by omega) ⟨rfl, rfl, rfl, RenO.ro (RenVs.plain (cellsN_plain _)), RenO.cells (RenVs.cons (RenV.slice rfl) RenVs.nil), RenO.cells (RenVs.plain (cellsZ_plain _)), True.intro⟩ ?_
             exact ⟨⟨_, rfl, RenV.ptr rfl⟩, ⟨_, rfl, RenV.slice rfl⟩, ⟨_, rfl, RenV.eq (by simp) rfl⟩, True.intro⟩)
    | cons a l =>
      cases ps
      all_goals
        repeat' (first
         | refine S0 ?_
         | refine Sc (at25 hne hla) ?_
         | refine Sc (t48n ok h0 hlt hp) ?_
         | refine Sc (t48c ok h0 hlt hp) ?_
         | refine Sc (t49z ok h0 hlt hp) ?_
         | refine Sc (c49 PF.sl) ?_
         | refine Sc (t46c ok h0 hlt hk) ?_
         | (refine S2 ?_ ?_) <;> intro hc <;> try (exfalso; first | omega | (simp at hc; done))
         | refine St ?_
         | fail)
        all_goals first
          | (exfalso; omega)
          | skip
        refine RS.loop (σ := Nat) (fun k => k ≤ (a :: l).length) (fun k => [(1, .ptr 1 0), (3, .slice 2 0 ns.length 1), (4, .int .i64 (i : Int)), (9, .slice 3 0 (a :: l).length 1), (11, .int .i64 (k : Int))]) (fun k => fndK ns (metL ns i (a :: l) k) (a :: l)) (fun k => (a :: l).length - k) 0 (Nat.zero_le _) (by first | exact ⟨[0, 1, 2, 5], ⟨rfl, rfl, rfl, RenO.ro (RenVs.plain (cellsN_plain _)), RenO.cells (RenVs.cons (RenV.slice rfl) RenVs.nil), RenO.cells (RenVs.plain (cellsZ_plain _)), RenO.cells (RenVs.plain (cellsI_plain (_ :: _))), True.intro⟩, by (repeat' (first | exact True.intro | refine And.intro ?_ ?_ | exact ⟨_, rfl, RenV.plain rfl⟩ | exact ⟨_, rfl, RenV.slice rfl⟩ | exact ⟨_, rfl, RenV.ptr rfl⟩ | exact ⟨_, rfl, RenV.nilslice⟩))⟩ | exact ⟨[0, 1, 2, 6], ⟨rfl, rfl, rfl, RenO.ro (RenVs.plain (cellsN_plain _)), RenO.cells (RenVs.cons (RenV.slice rfl) RenVs.nil), RenO.cells (RenVs.plain (cellsZ_plain _)), RenO.cells (RenVs.plain (cellsI_plain (_ :: _))), True.intro⟩, by (repeat' (first | exact True.intro | refine And.intro ?_ ?_ | exact ⟨_, rfl, RenV.plain rfl⟩ | exact ⟨_, rfl, RenV.slice rfl⟩ | exact ⟨_, rfl, RenV.ptr rfl⟩ | exact ⟨_, rfl, RenV.nilslice⟩))⟩ | exact ⟨[0, 1, 2, 7], ⟨rfl, rfl, rfl, RenO.ro (RenVs.plain (cellsN_plain _)), RenO.cells (RenVs.cons (RenV.slice rfl) RenVs.nil), RenO.cells (RenVs.plain (cellsZ_plain _)), RenO.cells (RenVs.plain (cellsI_plain (_ :: _))), True.intro⟩, by (repeat' (first | exact True.intro | refine And.intro ?_ ?_ | exact ⟨_, rfl, RenV.plain rfl⟩ | exact ⟨_, rfl, RenV.slice rfl⟩ | exact ⟨_, rfl, RenV.ptr rfl⟩ | exact ⟨_, rfl, RenV.nilslice⟩))⟩) ?_
        rintro k hkn
        refine ⟨_, rfl, ?_⟩
        dsimp only [fndK]
        by_cases hkt : k < (a :: l).length
        · obtain ⟨c, hgc⟩ : ∃ c, (a :: l)[k]? = some c := ⟨(a :: l)[k], by rw [List.getElem?_eq_getElem]⟩
          obtain ⟨hc1, hc2, hc3⟩ := hkk c (List.mem_of_getElem? hgc)
          have hme := hfr k c hgc
          have hset := hst k c hgc
          have c47 : ∀ {h : Heap} {b : Nat}, Nat.blt b h.next = true → tells (h.objs.get b) (cellsN ns) → CSem Tryz.prog 47 [.agg [.slice b 0 ns.length 5], .int .i64 (c : Int)] h (.tuple [.int .i64 (i : Int), .int .i64 0]) h := fun q1 q2 => by
            have := t47 ok h0 hc2 q1 q2
            rwa [hc3] at this
          repeat' (first
           | refine S0 ?_
           | ((with_reducible refine' RS.drawE mixed [none, none, none, none, none, none, none, none, none, none, none, none] ?hn ?hms ?hord ?hh ?_); (case hn | hms | hord | hh => exact rfl))
           | ((with_reducible refine' RD.opFnE exts_ok 25 ?hLL ?hw ?ha ?hf ?hs ?hp ?_); (case hLL | hw | ha | hf => exact rfl); (case hs => exact at25 hne hla rfl rfl rfl); (case hp => exact rfl))
           | ((with_reducible refine' RD.opFnE exts_ok 47 ?hLL ?hw ?ha ?hf ?hs ?hp ?_); (case hLL | hw | ha | hf => exact rfl); (case hs => exact c47 rfl rfl); (case hp => exact rfl))
           | ((with_reducible refine' RD.calm ?hw ?ho ?hp ?_); (case hw => exact rfl); (case ho => exact fun H => OSem.idxL (m := k) exts_ok rfl rfl rfl rfl rfl rfl (by omega)); (case hp => exact rfl))
           | ((with_reducible refine' RO.idxL (m := k) exts_ok ?hw ?hx ?hy ?hu ?hi ?hes ?hz ?hlt ?hp ?_); (case hw | hx | hy | hu | hi | hes => exact rfl); (case hz | hlt => omega); (case hp => exact rfl))
           | ((with_reducible refine' RQ.idxL (m := k) exts_ok ?hw ?hx ?hy ?hu ?hi ?hes ?hz ?hlt ?hp ?_); (case hw | hx | hy | hu | hi | hes => exact rfl); (case hz | hlt => omega); (case hp => exact rfl))
           | ((with_reducible refine' RO.idxL (m := c) exts_ok ?hw ?hx ?hy ?hu ?hi ?hes ?hz ?hlt ?hp ?_); (case hw | hx | hy | hu | hi | hes => exact rfl); (case hz | hlt => omega); (case hp => exact rfl))
           | ((with_reducible refine' RQ.idxL (m := c) exts_ok ?hw ?hx ?hy ?hu ?hi ?hes ?hz ?hlt ?hp ?_); (case hw | hx | hy | hu | hi | hes => exact rfl); (case hz | hlt => omega); (case hp => exact rfl))
           | ((with_reducible refine' RO.opSt exts_ok (cellsZ (metL ns i (a :: l) (k + 1))) ?hw ?hx ?hy ?hv ?hone ?hi ?hk ?hg ?hlt ?hc ?hput ?hp ?_); (case hw | hx | hy | hv | hone | hi | hk | hg => exact rfl); (case hlt => (simp [cellsZ_len, metL_len]; omega)); (case hc => exact hset); (case hput | hp => exact rfl))
           | (refine S2 ?_ ?_) <;> intro hc <;> try (exfalso; first | omega | (simp at hc; done))
           | refine Sf hgc ?_
           | refine Sf hme ?_
           | refine St ?_
           | ((with_reducible refine RD.nil ?_); (refine' RDk.intro ?oks ?hl ?_); (case hl => exact rfl); (case oks => (repeat' (first | exact True.intro | refine And.intro ?_ ?_ | exact rfl | exact OSem.load1 exts_ok rfl rfl rfl rfl | exact OSem.loadN exts_ok rfl rfl rfl rfl | exact OSem.load1 exts_ok rfl rfl rfl (cellsN_one hgc rfl) | exact OSem.load1 exts_ok rfl rfl rfl (cellsN_row hgc) | exact OSem.load1 exts_ok rfl rfl rfl (cellsI_one hgc) | exact OSem.load1 exts_ok rfl rfl rfl (cellsZ_one hgc) | exact OSem.load1 exts_ok rfl rfl rfl (cellsS_one hgc) | exact OSem.load1 exts_ok rfl rfl rfl (cellsN_one hme rfl) | exact OSem.load1 exts_ok rfl rfl rfl (cellsN_row hme) | exact OSem.load1 exts_ok rfl rfl rfl (cellsI_one hme) | exact OSem.load1 exts_ok rfl rfl rfl (cellsZ_one hme) | exact OSem.load1 exts_ok rfl rfl rfl (cellsS_one hme) | exact OSem.loadN exts_ok rfl rfl rfl (cellsN_one hgc rfl) | exact OSem.loadN exts_ok rfl rfl rfl (cellsN_row hgc) | exact OSem.loadN exts_ok rfl rfl rfl (cellsI_one hgc) | exact OSem.loadN exts_ok rfl rfl rfl (cellsZ_one hgc) | exact OSem.loadN exts_ok rfl rfl rfl (cellsS_one hgc) | exact OSem.loadN exts_ok rfl rfl rfl (cellsN_one hme rfl) | exact OSem.loadN exts_ok rfl rfl rfl (cellsN_row hme) | exact OSem.loadN exts_ok rfl rfl rfl (cellsI_one hme) | exact OSem.loadN exts_ok rfl rfl rfl (cellsZ_one hme) | exact OSem.loadN exts_ok rfl rfl rfl (cellsS_one hme)))))
           | refine Sd ?_
           | refine Sr hgc ?_
           | refine Sr hme ?_
           | fail)
          all_goals first
            | (exfalso; omega)
            | (refine Rnd.n (k + 1) [0, 1, 2, 3] (by omega) (by omega) ⟨rfl, rfl, rfl, RenO.ro (RenVs.plain (cellsN_plain _)), RenO.cells (RenVs.cons (RenV.slice rfl) RenVs.nil), RenO.cells (RenVs.plain (cellsZ_plain _)), RenO.cells (RenVs.plain (cellsI_plain (_ :: _))), True.intro⟩ ?_
               exact ⟨⟨_, rfl, RenV.ptr rfl⟩, ⟨_, rfl, RenV.slice rfl⟩, ⟨_, rfl, RenV.plain rfl⟩, ⟨_, rfl, RenV.slice rfl⟩, ⟨_, rfl, RenV.eq (by simp) rfl⟩, True.intro⟩)
        · have hke : k = (a :: l).length := by omega
          subst hke
          rw [hnext]
          repeat' (first
           | refine S0 ?_
           | (refine S2 ?_ ?_) <;> intro hc <;> try (exfalso; first | omega | (simp at hc; done))
           | refine St ?_
           | fail)
          all_goals first
            | (exfalso; omega)
            | (refine Rnd.n (i + 1) [0, 1, 2] (by omega) (by omega) ⟨rfl, rfl, rfl, RenO.ro (RenVs.plain (cellsN_plain _)), RenO.cells (RenVs.cons (RenV.slice rfl) RenVs.nil), RenO.cells (RenVs.plain (cellsZ_plain _)), True.intro⟩ ?_
               exact ⟨⟨_, rfl, RenV.ptr rfl⟩, ⟨_, rfl, RenV.slice rfl⟩, ⟨_, rfl, RenV.eq (by simp) rfl⟩, True.intro⟩)
  · have hie : i = ns.length := by omega
    subst hie
    repeat' (first
     | refine S0 ?_
     | (refine S2 ?_ ?_) <;> intro hc <;> try (exfalso; first | omega | (simp at hc; done))
     | refine St ?_
     | fail)
    all_goals first
      | (exfalso; omega)
      | skip
    refine RS.loop (σ := Nat) (fun j => j ≤ ns.length) (fun j => [(3, .slice 2 0 ns.length 1), (14, .int .i64 (j : Int))]) (fun _ => fndH ns (metL ns ns.length [] 0)) (fun j => ns.length - j) 0 (Nat.zero_le _) ⟨[0, 1, 2], ⟨rfl, rfl, rfl, RenO.ro (RenVs.plain (cellsN_plain _)), RenO.cells (RenVs.cons (RenV.slice rfl) RenVs.nil), RenO.cells (RenVs.plain (cellsZ_plain _)), True.intro⟩, by (repeat' (first | exact True.intro | refine And.intro ?_ ?_ | exact ⟨_, rfl, RenV.plain rfl⟩ | exact ⟨_, rfl, RenV.slice rfl⟩ | exact ⟨_, rfl, RenV.ptr rfl⟩ | exact ⟨_, rfl, RenV.nilslice⟩))⟩ ?_
    rintro j hj
    refine ⟨_, rfl, ?_⟩
    dsimp only [fndH]
    by_cases hjt : j < ns.length
    · have hme := metL_end_get hl hroot hjt
      by_cases hj0 : 0 < j
      · rw [if_pos hj0] at hme
        repeat' (first
         | refine S0 ?_
         | (refine S2 ?_ ?_) <;> intro hc <;> try (exfalso; first | omega | (simp at hc; done))
         | refine Sf hme ?_
         | refine St ?_
         | fail)
        all_goals first
          | (exfalso; omega)
          | (refine Rnd.n (j + 1) [0, 1, 2] (by omega) (by omega) ⟨rfl, rfl, rfl, RenO.ro (RenVs.plain (cellsN_plain _)), RenO.cells (RenVs.cons (RenV.slice rfl) RenVs.nil), RenO.cells (RenVs.plain (cellsZ_plain _)), True.intro⟩ ?_
             exact ⟨⟨_, rfl, RenV.slice rfl⟩, ⟨_, rfl, RenV.eq (by simp) rfl⟩, True.intro⟩)
      · rw [if_neg hj0] at hme
        repeat' (first
         | refine S0 ?_
         | (refine S2 ?_ ?_) <;> intro hc <;> try (exfalso; first | omega | (simp at hc; done))
         | refine Sf hme ?_
         | refine St ?_
         | fail)
        all_goals first
          | (exfalso; omega)
          | (refine Rnd.n (j + 1) [0, 1, 2] (by omega) (by omega) ⟨rfl, rfl, rfl, RenO.ro (RenVs.plain (cellsN_plain _)), RenO.cells (RenVs.cons (RenV.slice rfl) RenVs.nil), RenO.cells (RenVs.plain (cellsZ_plain _)), True.intro⟩ ?_
             exact ⟨⟨_, rfl, RenV.slice rfl⟩, ⟨_, rfl, RenV.eq (by simp) rfl⟩, True.intro⟩)
    · have hje : j = ns.length := by omega
      subst hje
      repeat' (first
       | refine S0 ?_
       | refine Sc (sem20 _) ?_
       | (refine S2 ?_ ?_) <;> intro hc <;> try (exfalso; first | omega | (simp at hc; done))
       | refine St ?_
       | fail)
      all_goals first
        | (exfalso; omega)
        | exact ⟨rfl, _, rfl, [0], ⟨rfl, rfl, rfl, RenO.ro (RenVs.plain (cellsN_plain _)), True.intro⟩, RenV.plain rfl⟩
theorem sem16 (ns : List Nd) (ia : NdIn ns) (u : AV) (tu : TF 0 ns u) : CSem Tryz.prog 16 [.agg [u]] (nodesH ns) (.bool true) (nodesH ns) := by
  cases hr : rightB ns with
  | false => exact sem16f ns ia hr u tu
  | true =>
    rw [find_sl tu (node := 0) (right_len hr).2]
    exact sem16k ns ia hr
end Go.Am
namespace Go.Am
open Go Go.Proofs Go.RowKit Go.Pu
set_option maxRecDepth 100000
theorem calls16 (W : World) (g : Known Tryz.prog W.heap.size W) (v : Value) (hv : TreeIn W v) :
    Calls Tryz.prog 16 #[.agg #[v]] W fun e w' => e = .returned (.bool true) ∧ Below W.heap.size W w' := by
  obtain ⟨l0, ns, u, tu, iu, t0, c0⟩ := treeIn_TF hv 0
  have c := up1TF (more := []) (fun u t => sem16 ns iu u t) rfl (RenV.plain rfl) tu (h := pzH ns []) rfl rfl
  refine (c W.heap.size W (map2 l0 none) W (heapTP g t0 (fun p hp => by cases hp)) [.agg #[v]] (by simp [concs, conc, c0 (map2 l0 none) rfl])).mono ?_
  rintro e w' ⟨M', c, _, rfl, hc, r⟩
  simp only [conc, Option.some.injEq] at hc
  exact ⟨by rw [← hc], r.below⟩
end Go.Am
