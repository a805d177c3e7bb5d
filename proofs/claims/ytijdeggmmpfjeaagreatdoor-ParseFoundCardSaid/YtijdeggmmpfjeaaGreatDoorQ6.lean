/- Part of the proof: WqK, WqL. -/
import Derived.Test.YtijdeggmmpfjeaaGreatDoorD3
import Derived.Test.YtijdeggmmpfjeaaGreatDoorQ5
import Derived.ChangeArms
set_option linter.unusedSimpArgs false
set_option linter.unusedVariables false
set_option linter.unusedSectionVars false
namespace Go.Am
open Go Go.Proofs Go.RowKit Go.Pu Go.ChangeShapes Go.WideShapes Go.Deep
set_option maxRecDepth 100000
def ListIn (W : World) (c : Value) : Prop := c = .slice none 0 0 ∨ ∃ (b off cap : Nat) (l : List Int), c = .slice (some ⟨b, off, none⟩) l.length cap ∧ l.length ≤ cap ∧ b < W.heap.size ∧ ∀ (i : Nat) (z : Int), l[i]? = some z → W.cell? ⟨b, off + i, none⟩ = some (.int .i64 z)
theorem ints_of {H : Type} {enc : TypeId × Value → H} {W : World} {base : Nat} {c : Value} {n : Nat} {x : DataW H × List MemPlace} (hok : Cell.okWide Tryz.prog W .any base 47 c)
    (h : DataW.trod enc Tryz.prog W 0 (fun _ => true) true n 47 [c] = some x) : ListIn W c := by
  rcases open_slice Tryz.underlying47 h with h0 | ⟨a, len, cap, m, k, D, Pl, e, _, hl, _, hm, _, hi⟩
  · exact .inl (by simpa using h0.1)
  · right
    obtain rfl : c = .slice (some a) len cap := by simpa using e
    simp only [Cell.okWide, Tryz.underlying47, Cell.ok, World.has] at hok
    obtain ⟨_, _, _, hspot, row, cells, hshape, _⟩ := hok
    obtain ⟨b, off, spot⟩ := a
    simp only at hspot hshape hm hi
    subst hspot
    have hb : b < W.heap.size := by
      unfold World.shape? at hshape
      cases e : W.heap[b]? with
      | none => rw [e] at hshape; cases hshape
      | some o => exact (Array.getElem?_eq_some_iff.1 e).1
    have hml : len ≤ m := by rw [hm]; split <;> omega
    obtain ⟨l, h1, h2⟩ := list_of (fun i (z : Int) => W.cell? ⟨b, off + i, none⟩ = some (.int .i64 z)) len fun i hlt => by
      obtain ⟨cs', hcs, htr⟩ := hi i (by omega)
      rw [show Tryz.prog.cellsOf 3 = 1 by kernel_rfl] at hcs
      obtain ⟨z, rfl, _, _⟩ := DataW.trod_int Tryz.underlying3 htr
      obtain ⟨_, _, hat⟩ := World.cells?_some hcs
      refine ⟨z, ?_⟩
      have := hat 0 (by omega)
      rw [spot_add, spot_add] at this
      simpa using this
    subst h1
    exact ⟨b, off, cap, l, rfl, hl, hb, h2⟩
theorem ints_arg {H : Type} {enc : TypeId × Value → H} {W : World} {base : Nat} {v : Value} {d : DataW H} {p : List MemPlace} (hok : Value.okWide Tryz.prog W .any base 47 v) (h : DataW.Trod enc Tryz.prog W 0 (fun _ => true) true 47 v d p) : ListIn W v := by
  obtain ⟨fuel, hf⟩ := h
  simp only [Value.okWide, Tryz.underlying47] at hok
  refine ints_of (enc := enc) hok (n := fuel) (x := (d, p)) ?_
  cases v <;> first | exact hf | (simp only [Cell.okWide, Tryz.underlying47, Cell.ok] at hok)
theorem int_arg {H : Type} {enc : TypeId × Value → H} {W : World} {base : Nat} {v : Value} {d : DataW H} {p : List MemPlace} (hok : Value.okWide Tryz.prog W .any base 3 v) (h : DataW.Trod enc Tryz.prog W 0 (fun _ => true) true 3 v d p) : ∃ z : Int, v = .int .i64 z ∧ -9223372036854775808 ≤ z ∧ z < 9223372036854775808 := by
  obtain ⟨fuel, hf⟩ := h
  simp only [Value.okWide, Tryz.underlying3] at hok
  have hf' : DataW.trod enc Tryz.prog W 0 (fun _ => true) true fuel 3 [v] = some (d, p) := by
    cases v <;> first | exact hf | (simp only [Cell.okWide, Tryz.underlying3, Cell.ok] at hok)
  obtain ⟨z, e, _, w⟩ := DataW.trod_int Tryz.underlying3 hf'
  obtain rfl : v = .int .i64 z := by simpa using e
  simp only [Lit.wf, IntKind.min, IntKind.max, IntKind.signed, IntKind.bits, Bool.and_eq_true, decide_eq_true_eq] at w
  have k4 : -9223372036854775808 ≤ z ∧ z ≤ 9223372036854775807 := by simpa using w
  exact ⟨z, rfl, k4.1, by omega⟩
end Go.Am
namespace Go.Am
open Go Go.Proofs Go.RowKit Go.Pu
set_option maxRecDepth 100000
theorem sem15 (ns : List Nd) (ia : NdIn ns) (node : Int) (hr : -9223372036854775808 ≤ node ∧ node < 9223372036854775808) (l : List Int) (u v : AV) (tu : TF 0 ns u) (pv : PF 1 l v) : CSem Tryz.prog 15 [.agg [u], .int .i64 node, v] (pzH ns l) (.bool true) (pzH ns l) := by
  by_cases ht : thinB ns = true
  · by_cases hl : l.length ≤ 40
    · by_cases he : findR ns node = 0
      · have h0 : checkR ns = 0 := by
          rcases Decidable.em (checkR ns = 0) with h | h
          · exact h
          · rw [findR_c h] at he; exact absurd he h
        have hk : ¬ (node < 0 ∨ (ns.length : Int) ≤ node) := fun h => by rw [findR_o h0 h] at he; cases he
        obtain ⟨n, rfl⟩ : ∃ n : Nat, node = (n : Int) := ⟨node.toNat, by omega⟩
        have hn : n < ns.length := by omega
        rw [find_sl tu hn]
        exact sem15k ns ia n l v pv ht hl h0 hn
      · by_cases hne : ns.length = 0
        · exact sem15e0 ns ia node hr l u v tu pv ht hl he (List.length_eq_zero_iff.1 hne)
        · rw [find_sl tu (node := 0) (by omega)]
          exact sem15e1 ns ia node hr l v pv ht hl he hne
    · exact sem15a ns ia node hr l u v tu pv (.inr (by omega))
  · exact sem15a ns ia node hr l u v tu pv (.inl (by simpa using ht))
def TellsZ (W : World) (l : List Int) (p : Loc) : Prop := p.b < W.heap.size ∧ ∀ (i : Nat) (z : Int), l[i]? = some z → W.cell? ⟨p.b, p.base + i, none⟩ = some (.int .i64 z)
theorem listIn_PF {W : World} {c : Value} (h : ListIn W c) (i : Nat) : ∃ (lo : Option Loc) (l : List Int) (v : AV), PF i l v ∧ (∀ p, lo = some p → TellsZ W l p) ∧ ∀ M : Map, M i = lo → conc M v = some c := by
  rcases h with rfl | ⟨b, off, cap, l, rfl, hl, hb, hn⟩
  · exact ⟨none, [], .nilslice, PF.nil rfl, fun p hp => (by cases hp), fun M _ => rfl⟩
  · refine ⟨some ⟨b, off, cap⟩, l, .slice i 0 l.length 1, PF.sl, fun p hp => ?_, fun M hM => ?_⟩
    · cases hp
      exact ⟨hb, hn⟩
    · simp [conc, hM, hl]
theorem roZ_ok {P : Program} {W : World} {l : List Int} {p : Loc} (M : Map) (h : TellsZ W l p) : ORel P M p (some (.ro 3 1 (cellsZ l))) W.heap[p.b]? := by
  intro j a ha
  obtain ⟨z, hz, rfl⟩ : ∃ z, l[j]? = some z ∧ a = intZ z := by
    simp only [cellsZ, List.getElem?_map, Option.map_eq_some_iff] at ha
    obtain ⟨z, h1, h2⟩ := ha
    exact ⟨z, h1, h2.symm⟩
  exact ⟨.int .i64 z, by simp [intZ, conc], by rw [← cell?_eq]; exact h.2 j z hz⟩
theorem heapTP {W : World} (g : Known Tryz.prog W.heap.size W) {l0 l1 : Option Loc} {ns : List Nd} {l : List Int} (h0 : ∀ p, l0 = some p → TellsAt W ns p) (h1 : ∀ p, l1 = some p → TellsZ W l p) : HRel Tryz.prog W.heap.size W (map2 l0 l1) (pzH ns l) W := by
  refine ⟨BelowM.refl _ _, ⟨Nat.le_refl _, g⟩, fun i hi => ?_, fun i p hp => ?_, fun i j p q hi hj hpq ho hs => ?_⟩
  · have : 2 ≤ i := hi
    simp only [map2]
    rw [if_neg (by omega), if_neg (by omega)]
  · simp only [map2] at hp
    split at hp
    · rename_i e
      subst e
      refine ⟨fun o h1' h2 => ?_, (h0 p hp).1, ro_ok _ (h0 p hp)⟩
      have : o = .ro 50 5 (cellsN ns) := (Option.some.inj h1').symm
      subst this
      cases h2
    · split at hp
      · rename_i e
        subst e
        refine ⟨fun o h1' h2 => ?_, (h1 p hp).1, roZ_ok _ (h1 p hp)⟩
        have : o = .ro 3 1 (cellsZ l) := (Option.some.inj h1').symm
        subst this
        cases h2
      · cases hp
  · exfalso
    obtain ⟨o, ho, hr⟩ := ho
    simp only [map2] at hi
    split at hi
    · rename_i e
      subst e
      have : o = .ro 50 5 (cellsN ns) := (Option.some.inj ho).symm
      subst this
      cases hr
    · split at hi
      · rename_i e
        subst e
        have : o = .ro 3 1 (cellsZ l) := (Option.some.inj ho).symm
        subst this
        cases hr
      · cases hi
theorem calls15 (W : World) (g : Known Tryz.prog W.heap.size W) (a : Value) (z : Int) (c : Value) (ha : TreeIn W a) (hz : -9223372036854775808 ≤ z ∧ z < 9223372036854775808) (hc : ListIn W c) :
    Calls Tryz.prog 15 #[.agg #[a], .int .i64 z, c] W fun e w' => e = .returned (.bool true) ∧ Below W.heap.size W w' := by
  obtain ⟨l0, ns, u, tu, iu, t0, c0⟩ := treeIn_TF ha 0
  obtain ⟨l1, l, v, pv, t1, c1⟩ := listIn_PF hc 1
  refine (sem15 ns iu z hz l u v tu pv W.heap.size W (map2 l0 l1) W (heapTP g t0 t1) [.agg #[a], .int .i64 z, c] (by simp [concs, conc, c0 (map2 l0 l1) rfl, c1 (map2 l0 l1) rfl])).mono ?_
  rintro e w' ⟨M', c, _, rfl, hc, r⟩
  simp only [conc, Option.some.injEq] at hc
  exact ⟨by rw [← hc], r.below⟩
end Go.Am
