/- Part of the proof: WkJ. -/
import Derived.Test.YtijdeggmmpfjeaaGreatDoorA6
set_option linter.unusedSimpArgs false
set_option linter.unusedVariables false
set_option linter.unusedSectionVars false
namespace Go.Am
open Go Go.Proofs Go.RowKit Go.Pu
set_option maxRecDepth 100000
theorem largeF_neg {ns : List Nd} : ∀ (f i : Nat), i + f = ns.length → (largeF ns f i < 0 ↔ ∀ j x, i ≤ j → ns[j]? = some x → largeOk ns j x = true)
  | 0, i, hf => by
    simp only [largeF]
    constructor
    · intro _ j x hj hx
      have := (List.getElem?_eq_some_iff.1 hx).1
      omega
    · intro _; omega
  | f + 1, i, hf => by
    obtain ⟨x, hx⟩ : ∃ x, ns[i]? = some x := ⟨ns[i]'(by omega), by rw [List.getElem?_eq_getElem]⟩
    unfold largeF
    rw [hx]
    simp only
    by_cases h : largeOk ns i x = true
    · rw [if_pos h, largeF_neg f (i + 1) (by omega)]
      constructor
      · intro h2 j y hj hy
        by_cases e : j = i
        · subst e; rw [hx] at hy; simp only [Option.some.injEq] at hy; subst hy; exact h
        · exact h2 j y (by omega) hy
      · intro h2 j y hj hy; exact h2 j y (by omega) hy
    · rw [if_neg h]
      constructor
      · intro h2; omega
      · intro h2; exact absurd (h2 i x (Nat.le_refl _) hx) h
theorem refAll_iff {ns : List Nd} : refAll ns ns.length 0 = true ↔ ∀ j x, ns[j]? = some x → refOk isNm ns j x = true := by
  constructor
  · intro h j x hx
    have := (List.getElem?_eq_some_iff.1 hx).1
    exact refAll_get _ _ h j x (Nat.zero_le _) (by omega) hx
  · intro h
    have : ∀ f i, refAll ns f i = true := by
      intro f
      induction f with
      | zero => intro i; rfl
      | succ f ih =>
        intro i
        unfold refAll
        cases hi : ns[i]? with
        | none => rfl
        | some x => simp [h i x hi, ih]
    exact this _ _
theorem refFormB_iff (ns : List Nd) : refFormB ns = true ↔ RefForm isNm ns := by
  unfold refFormB
  simp only [Bool.and_eq_true, decide_eq_true_eq]
  rw [refAll_iff, largeF_neg ns.length 0 (by omega)]
  constructor
  · rintro ⟨h1, h2, h3⟩
    refine ⟨?_, h2, fun i x hx => h3 i x (Nat.zero_le _) hx⟩
    unfold rootOk at h1
    cases h0 : ns[0]? with
    | none => rw [h0] at h1; cases h1
    | some x =>
      rw [h0] at h1
      simp only [Bool.and_eq_true, decide_eq_true_eq] at h1
      exact ⟨x, rfl, h1.1, h1.2⟩
  · rintro ⟨⟨x, h0, h1, h2⟩, h3, h4⟩
    refine ⟨?_, h3, fun j x _ hx => h4 j x hx⟩
    unfold rootOk
    rw [h0]
    simp [h1, h2]
def checkR (ns : List Nd) : Int := if 600 < ns.length then 5 else if refFormB ns = true then (if 30 < deepFrom (sizes ns) ns.length 0 0 then 5 else 0) else 4
theorem ref_lam {ns : List Nd} (o : NdOk ns) (h : refFormB ns = true) : Lam (sizes ns) := ((form_eq o.k).2 ((refFormB_iff ns).1 h)).lam
theorem at64 {ns : List Nd} (o : NdOk ns) {h : Heap} {i : Nat} (hi : Nat.blt i h.next = true) (ht : tells (h.objs.get i) (cellsN ns)) : CSem Tryz.prog 64 [.agg [.slice i 0 ns.length 5]] h (.bool (refFormB ns)) h :=
  CSem.upN (sem64 ns o) hi ht (RenVs.cons (RenV.agg (RenVs.cons (RenV.slice rfl) RenVs.nil)) RenVs.nil) (RenV.plain rfl)
theorem at65 {ns : List Nd} (o : NdOk ns) (hl : Lam (sizes ns)) {h : Heap} {i : Nat} (hi : Nat.blt i h.next = true) (ht : tells (h.objs.get i) (cellsN ns)) : CSem Tryz.prog 65 [.agg [.slice i 0 ns.length 5]] h (.int .i64 (deepFrom (sizes ns) ns.length 0 0)) h :=
  CSem.upN (sem65 ns o hl) hi ht (RenVs.cons (RenV.agg (RenVs.cons (RenV.slice rfl) RenVs.nil)) RenVs.nil) (RenV.plain rfl)
set_option maxHeartbeats 4000000 in
theorem sem27 (ns : List Nd) (o : NdOk ns) : CSem Tryz.prog 27 [.agg [.slice 0 0 ns.length 5]] (nodesH ns) (.int .i64 (checkR ns)) (nodesH ns) := by
  refine CSem.into Tryz.func27 rfl (by decide) Tryz.ntmps27 rfl rfl rfl ?_
  dsimp only [nodesH]
  by_cases hB : refFormB ns = true
  · have hl := ref_lam o hB
    repeat' (first
     | refine S0 ?_
     | (refine Sb (at64 o) ?_ ?_) <;> intro hc
     | refine Sc (at65 o hl) ?_
     | (refine S2 ?_ ?_) <;> intro hc <;> try (exfalso; first | omega | (simp at hc; done))
     | refine St ?_
     | fail)
    all_goals refine ⟨rfl, _, rfl, [0], by (refine ⟨rfl, rfl, rfl, ?_⟩; repeat' (first | exact True.intro | refine And.intro ?_ ?_ | exact RenO.none | exact RenO.cells (RenVs.plain rfl) | exact RenO.ro (RenVs.plain (cellsN_plain _)) | exact RenO.cells (RenVs.plain (cellsN_plain _)) | exact RenO.cells (RenVs.plain (cellsI_plain _)) | exact RenO.cells (RenVs.plain (cellsZ_plain _)) | exact RenO.cells (RenVs.cons (RenV.slice rfl) RenVs.nil) | exact RenO.iter | exact RenO.cells (RenVs.plain (rowN_plain _)))), RenV.eq ?_ rfl⟩
    all_goals unfold checkR
    all_goals (repeat' split) <;> first | rfl | contradiction | (exfalso; omega) | (exfalso; simp_all; done)
  ·
    repeat' (first
     | refine S0 ?_
     | (refine Sb (at64 o) ?_ ?_) <;> intro hc
     | (refine S2 ?_ ?_) <;> intro hc <;> try (exfalso; first | omega | (simp at hc; done))
     | refine St ?_
     | fail)
    all_goals first | (exfalso; exact hB hc) | skip
    all_goals refine ⟨rfl, _, rfl, [0], by (refine ⟨rfl, rfl, rfl, ?_⟩; repeat' (first | exact True.intro | refine And.intro ?_ ?_ | exact RenO.none | exact RenO.cells (RenVs.plain rfl) | exact RenO.ro (RenVs.plain (cellsN_plain _)) | exact RenO.cells (RenVs.plain (cellsN_plain _)) | exact RenO.cells (RenVs.plain (cellsI_plain _)) | exact RenO.cells (RenVs.plain (cellsZ_plain _)) | exact RenO.cells (RenVs.cons (RenV.slice rfl) RenVs.nil) | exact RenO.iter | exact RenO.cells (RenVs.plain (rowN_plain _)))), RenV.eq ?_ rfl⟩
    all_goals unfold checkR
    all_goals (repeat' split) <;> first | rfl | contradiction | (exfalso; omega) | (exfalso; simp_all; done)
theorem at27 {ns : List Nd} (o : NdOk ns) {h : Heap} {i : Nat} (hi : Nat.blt i h.next = true) (ht : tells (h.objs.get i) (cellsN ns)) : CSem Tryz.prog 27 [.agg [.slice i 0 ns.length 5]] h (.int .i64 (checkR ns)) h :=
  CSem.upN (sem27 ns o) hi ht (RenVs.cons (RenV.agg (RenVs.cons (RenV.slice rfl) RenVs.nil)) RenVs.nil) (RenV.plain rfl)
def twoH (ns ms : List Nd) : Heap := ⟨.node (some (.ro 50 5 (cellsN ns))) (.node (some (.ro 50 5 (cellsN ms))) .leaf .leaf) .leaf, 2⟩
def twoB (ns ms : List Nd) : Heap := ⟨.node (some (.ro 50 5 (cellsN ns))) (.node (some (.ro 50 5 (cellsN ms))) (.node (some (.cells 26 1 [.slice 1 0 ms.length 5] true)) .leaf .leaf) .leaf) (.node (some (.cells 26 1 [.slice 0 0 ns.length 5] true)) .leaf .leaf), 4⟩
def alikeN (x y : Nd) : Bool := decide (x.k = y.k) && (decide (x.n = y.n) && (decide (x.t = y.t) && decide (x.s = y.s)))
def alikeF : List Nd → List Nd → Bool
  | x :: l, y :: m => alikeN x y && alikeF l m
  | _, _ => true
def alikeB (ns ms : List Nd) : Bool := decide (ns.length = ms.length) && alikeF ns ms
def placesF : List Nd → List Nd → Bool
  | x :: l, y :: m => decide (x.a = y.a) && placesF l m
  | _, _ => true
set_option maxHeartbeats 4000000 in
theorem sem39 (ns ms : List Nd) (hn : ns.length ≤ 1400) : CSem Tryz.prog 39 [.agg [.slice 0 0 ns.length 5], .agg [.slice 1 0 ms.length 5]] (twoH ns ms) (.bool (alikeB ns ms)) (twoH ns ms) := by
  refine CSem.into Tryz.func39 rfl (by decide) Tryz.ntmps39 rfl rfl rfl ?_
  dsimp only [twoH]
  repeat' (first
   | refine S0 ?_
   | (refine S2 ?_ ?_) <;> intro hc <;> try (exfalso; first | omega | (simp at hc; done))
   | refine St ?_
   | fail)
  · have e : alikeB ns ms = false := by unfold alikeB; rw [decide_eq_false (by omega)]; rfl
    rw [e]
    exact ⟨rfl, _, rfl, [0, 1], ⟨rfl, rfl, rfl, RenO.ro (RenVs.plain (cellsN_plain _)), RenO.ro (RenVs.plain (cellsN_plain _)), True.intro⟩, RenV.plain rfl⟩
  · have hlen : ns.length = ms.length := by omega
    have e : alikeB ns ms = alikeF ns ms := by unfold alikeB; rw [decide_eq_true hlen]; rfl
    rw [e]
    refine RS.loop (σ := Nat) (fun i => i ≤ ns.length ∧ alikeF (ns.drop i) (ms.drop i) = alikeF ns ms) (fun i => [(2, .ptr 2 0), (3, .ptr 3 0), (5, .int .i64 (i : Int))]) (fun _ => twoB ns ms) (fun i => ns.length - i) 0 ⟨Nat.zero_le _, rfl⟩ ⟨[0, 1, 2, 3], ⟨rfl, rfl, rfl, RenO.ro (RenVs.plain (cellsN_plain _)), RenO.ro (RenVs.plain (cellsN_plain _)), RenO.cells (RenVs.cons (RenV.slice rfl) RenVs.nil), RenO.cells (RenVs.cons (RenV.slice rfl) RenVs.nil), True.intro⟩, by (repeat' (first | exact True.intro | refine And.intro ?_ ?_ | exact ⟨_, rfl, RenV.plain rfl⟩ | exact ⟨_, rfl, RenV.slice rfl⟩ | exact ⟨_, rfl, RenV.ptr rfl⟩ | exact ⟨_, rfl, RenV.nilslice⟩))⟩ ?round
    rintro i ⟨hi, hR⟩
    refine ⟨_, rfl, ?_⟩
    dsimp only [twoB]
    by_cases hlt : i < ns.length
    · obtain ⟨x, hx⟩ : ∃ x, ns[i]? = some x := ⟨ns[i], by simp [hlt]⟩
      obtain ⟨y, hy⟩ : ∃ y, ms[i]? = some y := ⟨ms[i]'(by omega), by rw [List.getElem?_eq_getElem]⟩
      rw [drop_get' hx, drop_get' hy, alikeF] at hR
      repeat' (first
       | refine S0 ?_
       | ((with_reducible refine' RS.drawE mixed [none, none, none, none, none, none, none, none, none, none, some (50, [.int .u8 0, .int .i64 0, .str [], .int .i64 0, .int .i64 0]), some (50, [.int .u8 0, .int .i64 0, .str [], .int .i64 0, .int .i64 0]), none, none] ?hn ?hms ?hord ?hh ?_); (case hn => exact rfl); (case hms => exact rfl); (case hord => exact rfl); (case hh => exact rfl))
       | (refine S2 ?_ ?_) <;> intro hc <;> try (exfalso; first | omega | (simp at hc; done))
       | refine Sf hx ?_
       | refine Sf hy ?_
       | refine St ?_
       | ((with_reducible refine RD.nil ?_); (refine' RDk.intro ?oks ?hl ?_); (case hl => exact rfl); (case oks => (repeat' (first | exact True.intro | refine And.intro ?_ ?_ | exact rfl | exact OSem.load1 exts_ok rfl rfl rfl rfl | exact OSem.loadN exts_ok rfl rfl rfl rfl | exact OSem.load1 exts_ok rfl rfl rfl (cellsN_one hx rfl) | exact OSem.load1 exts_ok rfl rfl rfl (cellsN_row hx) | exact OSem.load1 exts_ok rfl rfl rfl (cellsI_one hx) | exact OSem.load1 exts_ok rfl rfl rfl (cellsZ_one hx) | exact OSem.load1 exts_ok rfl rfl rfl (cellsS_one hx) | exact OSem.load1 exts_ok rfl rfl rfl (cellsN_one hy rfl) | exact OSem.load1 exts_ok rfl rfl rfl (cellsN_row hy) | exact OSem.load1 exts_ok rfl rfl rfl (cellsI_one hy) | exact OSem.load1 exts_ok rfl rfl rfl (cellsZ_one hy) | exact OSem.load1 exts_ok rfl rfl rfl (cellsS_one hy) | exact OSem.loadN exts_ok rfl rfl rfl (cellsN_one hx rfl) | exact OSem.loadN exts_ok rfl rfl rfl (cellsN_row hx) | exact OSem.loadN exts_ok rfl rfl rfl (cellsI_one hx) | exact OSem.loadN exts_ok rfl rfl rfl (cellsZ_one hx) | exact OSem.loadN exts_ok rfl rfl rfl (cellsS_one hx) | exact OSem.loadN exts_ok rfl rfl rfl (cellsN_one hy rfl) | exact OSem.loadN exts_ok rfl rfl rfl (cellsN_row hy) | exact OSem.loadN exts_ok rfl rfl rfl (cellsI_one hy) | exact OSem.loadN exts_ok rfl rfl rfl (cellsZ_one hy) | exact OSem.loadN exts_ok rfl rfl rfl (cellsS_one hy)))))
       | ((with_reducible refine' RD.skip ?hw ?hp ?_); (case hw => exact rfl); (case hp => exact rfl))
       | ((with_reducible refine' RD.mem ?hw ?hk ?hp ?_); (case hw => exact rfl); (case hk => exact rfl); (case hp => exact rfl))
       | ((with_reducible refine' RD.eff ?hw ?ho ?hp ?_); (case hw => exact rfl); (case ho => exact OSem.skip exts_ok rfl); (case hp => exact rfl))
       | ((with_reducible refine' RD.calm ?hw ?ho ?hp ?_); (case hw => exact rfl); (case ho => exact fun H => OSem.val exts_ok rfl); (case hp => exact rfl))
       | ((with_reducible refine' RD.calm ?hw ?ho ?hp ?_); (case hw => exact rfl); (case ho => exact fun H => OSem.idxL exts_ok rfl rfl rfl rfl rfl rfl (by omega)); (case hp => exact rfl))
       | ((with_reducible refine' RD.read ?hw ?ho ?hp (fun _ => ?_)); (case hw => exact rfl); (case ho => (first | exact OSem.load1 exts_ok rfl rfl rfl rfl | exact OSem.loadN exts_ok rfl rfl rfl rfl | exact OSem.load1 exts_ok rfl rfl rfl (cellsN_one hx rfl) | exact OSem.load1 exts_ok rfl rfl rfl (cellsN_row hx) | exact OSem.load1 exts_ok rfl rfl rfl (cellsI_one hx) | exact OSem.load1 exts_ok rfl rfl rfl (cellsZ_one hx) | exact OSem.load1 exts_ok rfl rfl rfl (cellsS_one hx) | exact OSem.load1 exts_ok rfl rfl rfl (cellsN_one hy rfl) | exact OSem.load1 exts_ok rfl rfl rfl (cellsN_row hy) | exact OSem.load1 exts_ok rfl rfl rfl (cellsI_one hy) | exact OSem.load1 exts_ok rfl rfl rfl (cellsZ_one hy) | exact OSem.load1 exts_ok rfl rfl rfl (cellsS_one hy) | exact OSem.loadN exts_ok rfl rfl rfl (cellsN_one hx rfl) | exact OSem.loadN exts_ok rfl rfl rfl (cellsN_row hx) | exact OSem.loadN exts_ok rfl rfl rfl (cellsI_one hx) | exact OSem.loadN exts_ok rfl rfl rfl (cellsZ_one hx) | exact OSem.loadN exts_ok rfl rfl rfl (cellsS_one hx) | exact OSem.loadN exts_ok rfl rfl rfl (cellsN_one hy rfl) | exact OSem.loadN exts_ok rfl rfl rfl (cellsN_row hy) | exact OSem.loadN exts_ok rfl rfl rfl (cellsI_one hy) | exact OSem.loadN exts_ok rfl rfl rfl (cellsZ_one hy) | exact OSem.loadN exts_ok rfl rfl rfl (cellsS_one hy))); (case hp => exact rfl))
       | fail)
      all_goals first
        | (have hf : alikeN x y = false := (by
            cases hq : alikeN x y with
            | false => rfl
            | true =>
              exfalso
              unfold alikeN at hq
              simp only [Bool.and_eq_true, decide_eq_true_eq] at hq
              obtain ⟨q1, q2, q3, q4⟩ := hq
              first | omega | contradiction)
           rw [hf, Bool.false_and] at hR
           rw [← hR]
           exact ⟨rfl, _, rfl, [0, 1], ⟨rfl, rfl, rfl, RenO.ro (RenVs.plain (cellsN_plain _)), RenO.ro (RenVs.plain (cellsN_plain _)), True.intro⟩, RenV.plain rfl⟩)
        | (have hf : alikeN x y = true := (by
            unfold alikeN
            simp only [Bool.and_eq_true, decide_eq_true_eq]
            exact ⟨by omega, by assumption, by assumption, by assumption⟩)
           rw [hf, Bool.true_and] at hR
           refine Rnd.n (i + 1) [0, 1, 2, 3] ⟨by omega, hR⟩ (by omega) ⟨rfl, rfl, rfl, RenO.ro (RenVs.plain (cellsN_plain _)), RenO.ro (RenVs.plain (cellsN_plain _)), RenO.cells (RenVs.cons (RenV.slice rfl) RenVs.nil), RenO.cells (RenVs.cons (RenV.slice rfl) RenVs.nil), True.intro⟩ ?_
           exact ⟨⟨_, rfl, RenV.ptr rfl⟩, ⟨_, rfl, RenV.ptr rfl⟩, ⟨_, rfl, RenV.eq (by simp) rfl⟩, True.intro⟩)
    · have hie : i = ns.length := by omega
      rw [List.drop_of_length_le (by omega)] at hR
      have hR : true = alikeF ns ms := hR
      rw [← hR]
      subst hie
      repeat' (first
       | refine S0 ?_
       | (refine S2 ?_ ?_) <;> intro hc <;> try (exfalso; first | omega | (simp at hc; done))
       | refine St ?_
       | fail)
      exact ⟨rfl, _, rfl, [0, 1], ⟨rfl, rfl, rfl, RenO.ro (RenVs.plain (cellsN_plain _)), RenO.ro (RenVs.plain (cellsN_plain _)), True.intro⟩, RenV.plain rfl⟩
set_option maxHeartbeats 4000000 in
theorem sem61 (ns ms : List Nd) (hn : ns.length ≤ 1400) (hlen : ns.length = ms.length) : CSem Tryz.prog 61 [.agg [.slice 0 0 ns.length 5], .agg [.slice 1 0 ms.length 5]] (twoH ns ms) (.bool (placesF ns ms)) (twoH ns ms) := by
  refine CSem.into Tryz.func61 rfl (by decide) Tryz.ntmps61 rfl rfl rfl ?_
  dsimp only [twoH]
  repeat' (first
   | refine S0 ?_
   | (refine S2 ?_ ?_) <;> intro hc <;> try (exfalso; first | omega | (simp at hc; done))
   | refine St ?_
   | fail)
  refine RS.loop (σ := Nat) (fun i => i ≤ ns.length ∧ placesF (ns.drop i) (ms.drop i) = placesF ns ms) (fun i => [(2, .ptr 2 0), (3, .ptr 3 0), (5, .int .i64 (i : Int))]) (fun _ => twoB ns ms) (fun i => ns.length - i) 0 ⟨Nat.zero_le _, rfl⟩ ⟨[0, 1, 2, 3], ⟨rfl, rfl, rfl, RenO.ro (RenVs.plain (cellsN_plain _)), RenO.ro (RenVs.plain (cellsN_plain _)), RenO.cells (RenVs.cons (RenV.slice rfl) RenVs.nil), RenO.cells (RenVs.cons (RenV.slice rfl) RenVs.nil), True.intro⟩, by (repeat' (first | exact True.intro | refine And.intro ?_ ?_ | exact ⟨_, rfl, RenV.plain rfl⟩ | exact ⟨_, rfl, RenV.slice rfl⟩ | exact ⟨_, rfl, RenV.ptr rfl⟩ | exact ⟨_, rfl, RenV.nilslice⟩))⟩ ?round
  rintro i ⟨hi, hR⟩
  refine ⟨_, rfl, ?_⟩
  dsimp only [twoB]
  by_cases hlt : i < ns.length
  · obtain ⟨x, hx⟩ : ∃ x, ns[i]? = some x := ⟨ns[i], by simp [hlt]⟩
    obtain ⟨y, hy⟩ : ∃ y, ms[i]? = some y := ⟨ms[i]'(by omega), by rw [List.getElem?_eq_getElem]⟩
    rw [drop_get' hx, drop_get' hy, placesF] at hR
    repeat' (first
     | refine S0 ?_
     | (refine S2 ?_ ?_) <;> intro hc <;> try (exfalso; first | omega | (simp at hc; done))
     | refine Sf hx ?_
     | refine Sf hy ?_
     | refine St ?_
     | fail)
    · rw [decide_eq_false hc, Bool.false_and] at hR
      rw [← hR]
      exact ⟨rfl, _, rfl, [0, 1], ⟨rfl, rfl, rfl, RenO.ro (RenVs.plain (cellsN_plain _)), RenO.ro (RenVs.plain (cellsN_plain _)), True.intro⟩, RenV.plain rfl⟩
    · rw [decide_eq_true hc, Bool.true_and] at hR
      refine Rnd.n (i + 1) [0, 1, 2, 3] ⟨by omega, hR⟩ (by omega) ⟨rfl, rfl, rfl, RenO.ro (RenVs.plain (cellsN_plain _)), RenO.ro (RenVs.plain (cellsN_plain _)), RenO.cells (RenVs.cons (RenV.slice rfl) RenVs.nil), RenO.cells (RenVs.cons (RenV.slice rfl) RenVs.nil), True.intro⟩ ?_
      exact ⟨⟨_, rfl, RenV.ptr rfl⟩, ⟨_, rfl, RenV.ptr rfl⟩, ⟨_, rfl, RenV.eq (by simp) rfl⟩, True.intro⟩
  · have hie : i = ns.length := by omega
    rw [List.drop_of_length_le (by omega)] at hR
    have hR : true = placesF ns ms := hR
    rw [← hR]
    subst hie
    repeat' (first
     | refine S0 ?_
     | (refine S2 ?_ ?_) <;> intro hc <;> try (exfalso; first | omega | (simp at hc; done))
     | refine St ?_
     | fail)
    exact ⟨rfl, _, rfl, [0, 1], ⟨rfl, rfl, rfl, RenO.ro (RenVs.plain (cellsN_plain _)), RenO.ro (RenVs.plain (cellsN_plain _)), True.intro⟩, RenV.plain rfl⟩
theorem upTwo {f : FuncId} {ns ms : List Nd} {v : AV} (c : CSem Tryz.prog f [.agg [.slice 0 0 ns.length 5], .agg [.slice 1 0 ms.length 5]] (twoH ns ms) v (twoH ns ms)) (hv : plain1 v = true) {h : Heap} {i j : Nat} (hi : Nat.blt i h.next = true) (ht : tells (h.objs.get i) (cellsN ns)) (hj : Nat.blt j h.next = true) (htj : tells (h.objs.get j) (cellsN ms)) : CSem Tryz.prog f [.agg [.slice i 0 ns.length 5], .agg [.slice j 0 ms.length 5]] h v h :=
  CSem.up c [i, j] [] rfl (by simp only [List.all_cons, hi, hj, List.all_nil, Bool.and_true]) ⟨⟨cellsN_plain ns, ht⟩, ⟨cellsN_plain ms, htj⟩, True.intro⟩ (RenVs.cons (RenV.agg (RenVs.cons (RenV.slice rfl) RenVs.nil)) (RenVs.cons (RenV.agg (RenVs.cons (RenV.slice rfl) RenVs.nil)) RenVs.nil)) True.intro rfl rfl (RenV.plain hv)
def equalB (ns ms : List Nd) : Bool := alikeB ns ms && placesF ns ms
set_option maxHeartbeats 4000000 in
theorem sem23 (ns ms : List Nd) (hn : ns.length ≤ 1400) : CSem Tryz.prog 23 [.agg [.slice 0 0 ns.length 5], .agg [.slice 1 0 ms.length 5]] (twoH ns ms) (.bool (equalB ns ms)) (twoH ns ms) := by
  refine CSem.into Tryz.func23 rfl (by decide) Tryz.ntmps23 rfl rfl rfl ?_
  dsimp only [twoH]
  by_cases hA : alikeB ns ms = true
  · have hlen : ns.length = ms.length := by
      unfold alikeB at hA
      simp only [Bool.and_eq_true, decide_eq_true_eq] at hA
      exact hA.1
    have e : equalB ns ms = placesF ns ms := by unfold equalB; rw [hA]; rfl
    rw [e]
    repeat' (first
     | refine S0 ?_
     | (refine Sb (upTwo (sem39 ns ms hn)) ?_ ?_) <;> intro hc
     | (refine Sb (upTwo (sem61 ns ms hn hlen)) ?_ ?_) <;> intro hc
     | (refine S2 ?_ ?_) <;> intro hc <;> try (exfalso; first | omega | (simp at hc; done))
     | refine St ?_
     | fail)
    all_goals first | (rw [hA] at hc; cases hc; done) | (rw [hc]; exact ⟨rfl, _, rfl, [0, 1], ⟨rfl, rfl, rfl, RenO.ro (RenVs.plain (cellsN_plain _)), RenO.ro (RenVs.plain (cellsN_plain _)), True.intro⟩, RenV.plain rfl⟩)
  · have hA : alikeB ns ms = false := by simpa using hA
    have e : equalB ns ms = false := by unfold equalB; rw [hA]; rfl
    rw [e]
    repeat' (first
     | refine S0 ?_
     | (refine Sb (upTwo (sem39 ns ms hn)) ?_ ?_) <;> intro hc
     | (refine S2 ?_ ?_) <;> intro hc <;> try (exfalso; first | omega | (simp at hc; done))
     | refine St ?_
     | fail)
    all_goals first | (rw [hA] at hc; cases hc; done) | exact ⟨rfl, _, rfl, [0, 1], ⟨rfl, rfl, rfl, RenO.ro (RenVs.plain (cellsN_plain _)), RenO.ro (RenVs.plain (cellsN_plain _)), True.intro⟩, RenV.plain rfl⟩
end Go.Am
