/- Part of the proof: WkI. -/
import Derived.Test.YtijdeggmmpfjeaaGreatDoorA3
import Derived.Test.YtijdeggmmpfjeaaGreatDoorA4
set_option linter.unusedSimpArgs false
set_option linter.unusedVariables false
set_option linter.unusedSectionVars false
namespace Go.Am
open Go Go.Proofs Go.RowKit Go.Pu
set_option maxRecDepth 100000
structure NdOk (ns : List Nd) : Prop where
  len : ns.length ≤ 700
  k : ∀ x ∈ ns, x.k < 256
  s : ∀ x ∈ ns, -9223372036854775808 ≤ x.s ∧ x.s < 9223372036854775808
  t : ∀ x ∈ ns, x.t.length ≤ 1000000
def refAll (ns : List Nd) : Nat → Nat → Bool
  | 0, _ => true
  | f + 1, i => match ns[i]? with
    | some x => refOk isNm ns i x && refAll ns f (i + 1)
    | none => true
def rootOk (ns : List Nd) : Bool := match ns[0]? with
  | some x => decide (x.k = 1) && decide (x.s = (ns.length : Int))
  | none => false
def refFormB (ns : List Nd) : Bool := rootOk ns && (refAll ns ns.length 0 && decide (largeF ns ns.length 0 < 0))
theorem refAll_get {ns : List Nd} : ∀ (f i : Nat), refAll ns f i = true → ∀ j x, i ≤ j → j < i + f → ns[j]? = some x → refOk isNm ns j x = true
  | 0, i, _, j, x, h1, h2, _ => by omega
  | f + 1, i, h, j, x, h1, h2, hj => by
    unfold refAll at h
    by_cases e : j = i
    · subst e
      rw [hj] at h
      simp only [Bool.and_eq_true] at h
      exact h.1
    · cases hi : ns[i]? with
      | none =>
        have := (List.getElem?_eq_some_iff.1 hj).1
        rw [List.getElem?_eq_none_iff] at hi
        omega
      | some y =>
        rw [hi] at h
        simp only [Bool.and_eq_true] at h
        exact refAll_get f (i + 1) h.2 j x (by omega) (by omega) hj
theorem refOk_some {ns : List Nd} {i : Nat} {x : Nd} {l : List Nat} (hl : rkOf (sizes ns) i = some l) : refOk isNm ns i x = (areKids x.k x.n (lettersOf sortK ns l) && refFields x) := by
  unfold refOk
  rw [hl]
  rfl
theorem at79 {ns : List Nd} (o : NdOk ns) (hall : ∀ i, i < ns.length → rkOf (sizes ns) i ≠ none) {h : Heap} {i : Nat} (hi : Nat.blt i h.next = true) (ht : tells (h.objs.get i) (cellsN ns)) : CSem Tryz.prog 79 [.agg [.slice i 0 ns.length 5], .int .i64 0] h (.int .i64 (largeF ns ns.length 0)) h :=
  CSem.upN (sem79 ns o.len o.k o.s hall) hi ht (RenVs.cons (RenV.agg (RenVs.cons (RenV.slice rfl) RenVs.nil)) (RenVs.plain rfl)) (RenV.plain rfl)
structure SD where
  i : Nat
  m : Int
structure SE where
  k : Nat
  n : Nat
def cntUp (S : List Int) (i k : Nat) : Nat := ((List.range k).filter fun k => decide ((i : Int) < endAt S k)).length
theorem cntUp_le (S : List Int) (i k : Nat) : cntUp S i k ≤ k := by
  unfold cntUp
  have := List.length_filter_le (fun k => decide ((i : Int) < endAt S k)) (List.range k)
  simpa using this
theorem cntUp_succ (S : List Int) (i k : Nat) : cntUp S i (k + 1) = cntUp S i k + if (i : Int) < endAt S k then 1 else 0 := by
  unfold cntUp
  rw [List.range_succ, List.filter_append]
  by_cases h : (i : Int) < endAt S k <;> simp [h]
set_option maxHeartbeats 4000000 in
theorem sem64 (ns : List Nd) (o : NdOk ns) : CSem Tryz.prog 64 [.agg [.slice 0 0 ns.length 5]] (nodesH ns) (.bool (refFormB ns)) (nodesH ns) := by
  have hn := o.len
  refine CSem.into Tryz.func64 rfl (by decide) Tryz.ntmps64 rfl rfl rfl ?_
  dsimp only [nodesH]
  cases hns : ns with
  | nil =>
    have e : refFormB [] = false := rfl
    rw [e]
    repeat' (first
     | refine S0 ?_
     | (refine S2 ?_ ?_) <;> intro hc <;> try (exfalso; first | omega | (simp at hc; done))
     | refine St ?_
     | fail)
    exact ⟨rfl, _, rfl, [0], by (refine ⟨rfl, rfl, rfl, ?_⟩; repeat' (first | exact True.intro | refine And.intro ?_ ?_ | exact RenO.none | exact RenO.cells (RenVs.plain rfl) | exact RenO.ro (RenVs.plain (cellsN_plain _)) | exact RenO.cells (RenVs.plain (cellsN_plain _)) | exact RenO.cells (RenVs.plain (cellsI_plain _)) | exact RenO.cells (RenVs.plain (cellsZ_plain _)) | exact RenO.cells (RenVs.cons (RenV.slice rfl) RenVs.nil) | exact RenO.iter | exact RenO.cells (RenVs.plain (rowN_plain _)))), RenV.plain rfl⟩
  | cons y ns' =>
    rw [← hns]
    have h0 : ns[0]? = some y := by rw [hns]; rfl
    have hpos : 0 < ns.length := by rw [hns]; simp
    have er : rootOk ns = (decide (y.k = 1) && decide (y.s = (ns.length : Int))) := by unfold rootOk; rw [h0]
    have h00 : takeN 1 ((cellsN ns).drop (0 * 5 + 0)) = some [.int .u8 (y.k : Int)] := cellsN_one h0 rfl
    have h04 : takeN 1 ((cellsN ns).drop (0 * 5 + 4)) = some [.int .i64 y.s] := cellsN_one h0 rfl
    clear hns
    repeat' (first
     | refine S0 ?_
     | (refine S2 ?_ ?_) <;> intro hc <;> try (exfalso; first | omega | (simp at hc; done))
     | refine Sf h0 ?_
     | refine St ?_
     | fail)
    · have e : refFormB ns = false := by unfold refFormB; rw [er, decide_eq_false (by omega)]; rfl
      rw [e]
      exact ⟨rfl, _, rfl, [0], by (refine ⟨rfl, rfl, rfl, ?_⟩; repeat' (first | exact True.intro | refine And.intro ?_ ?_ | exact RenO.none | exact RenO.cells (RenVs.plain rfl) | exact RenO.ro (RenVs.plain (cellsN_plain _)) | exact RenO.cells (RenVs.plain (cellsN_plain _)) | exact RenO.cells (RenVs.plain (cellsI_plain _)) | exact RenO.cells (RenVs.plain (cellsZ_plain _)) | exact RenO.cells (RenVs.cons (RenV.slice rfl) RenVs.nil) | exact RenO.iter | exact RenO.cells (RenVs.plain (rowN_plain _)))), RenV.plain rfl⟩
    · have e : refFormB ns = false := by unfold refFormB; rw [er, decide_eq_false (p := y.s = (ns.length : Int)) hc, Bool.and_false]; rfl
      rw [e]
      exact ⟨rfl, _, rfl, [0], by (refine ⟨rfl, rfl, rfl, ?_⟩; repeat' (first | exact True.intro | refine And.intro ?_ ?_ | exact RenO.none | exact RenO.cells (RenVs.plain rfl) | exact RenO.ro (RenVs.plain (cellsN_plain _)) | exact RenO.cells (RenVs.plain (cellsN_plain _)) | exact RenO.cells (RenVs.plain (cellsI_plain _)) | exact RenO.cells (RenVs.plain (cellsZ_plain _)) | exact RenO.cells (RenVs.cons (RenV.slice rfl) RenVs.nil) | exact RenO.iter | exact RenO.cells (RenVs.plain (rowN_plain _)))), RenV.plain rfl⟩
    · have hroot : rootOk ns = true := by rw [er, decide_eq_true (by omega : y.k = 1), decide_eq_true hc]; rfl
      have hfalse : refAll ns ns.length 0 = false → refFormB ns = false := fun h => by unfold refFormB; rw [h, Bool.false_and, Bool.and_false]
      refine RS.loop (σ := Nat) (fun i => i ≤ ns.length ∧ refAll ns (ns.length - i) i = refAll ns ns.length 0) (fun i => [(1, .ptr 1 0), (3, .int .i64 (i : Int))]) (fun _ => boxH ns) (fun i => ns.length - i) 0 ⟨Nat.zero_le _, rfl⟩ ⟨[0, 1], by (refine ⟨rfl, rfl, rfl, ?_⟩; repeat' (first | exact True.intro | refine And.intro ?_ ?_ | exact RenO.none | exact RenO.cells (RenVs.plain rfl) | exact RenO.ro (RenVs.plain (cellsN_plain _)) | exact RenO.cells (RenVs.plain (cellsN_plain _)) | exact RenO.cells (RenVs.plain (cellsI_plain _)) | exact RenO.cells (RenVs.plain (cellsZ_plain _)) | exact RenO.cells (RenVs.cons (RenV.slice rfl) RenVs.nil) | exact RenO.iter | exact RenO.cells (RenVs.plain (rowN_plain _)))), by (repeat' (first | exact True.intro | refine And.intro ?_ ?_ | exact ⟨_, rfl, RenV.plain rfl⟩ | exact ⟨_, rfl, RenV.slice rfl⟩ | exact ⟨_, rfl, RenV.ptr rfl⟩ | exact ⟨_, rfl, RenV.nilslice⟩))⟩ ?round
      rintro i ⟨hi, hR⟩
      refine ⟨_, rfl, ?_⟩
      dsimp only [boxH]
      by_cases hlt : i < ns.length
      · obtain ⟨x, hx⟩ : ∃ x, ns[i]? = some x := ⟨ns[i], by simp [hlt]⟩
        have hxk := o.k x (List.mem_of_getElem? hx)
        have hxt := o.t x (List.mem_of_getElem? hx)
        obtain ⟨f, hf⟩ : ∃ f, ns.length - i = f + 1 := ⟨ns.length - i - 1, by omega⟩
        rw [hf, refAll, hx] at hR
        simp only at hR
        cases hl : rkOf (sizes ns) i with
        | none =>
          have e : refOk isNm ns i x = false := by unfold refOk; rw [hl]
          rw [e, Bool.false_and] at hR
          rw [hfalse hR.symm]
          repeat' (first
           | refine S0 ?_
           | refine Sc (at40n o.len o.s hlt hl) ?_
           | (refine S2 ?_ ?_) <;> intro hc <;> try (exfalso; first | omega | (simp at hc; done))
           | refine Sf hx ?_
           | refine St ?_
           | fail)
          exact ⟨rfl, _, rfl, [0], by (refine ⟨rfl, rfl, rfl, ?_⟩; repeat' (first | exact True.intro | refine And.intro ?_ ?_ | exact RenO.none | exact RenO.cells (RenVs.plain rfl) | exact RenO.ro (RenVs.plain (cellsN_plain _)) | exact RenO.cells (RenVs.plain (cellsN_plain _)) | exact RenO.cells (RenVs.plain (cellsI_plain _)) | exact RenO.cells (RenVs.plain (cellsZ_plain _)) | exact RenO.cells (RenVs.cons (RenV.slice rfl) RenVs.nil) | exact RenO.iter | exact RenO.cells (RenVs.plain (rowN_plain _)))), RenV.plain rfl⟩
        | some l =>
          obtain ⟨f1, f2⟩ := rkOf_facts hl
          rw [refOk_some hl] at hR
          have hlen : (lettersOf sortK ns l).length = l.length := by simp [lettersOf]
          have hl0 : lettersOf sortK ns [] = [] := rfl
          cases l with
          | nil =>
            rw [hl0] at hR
            repeat' (first
             | refine S0 ?_
             | refine Sc (at40 o.len o.s hlt hl 2) ?_
             | refine Sc at110n ?_
             | ((with_reducible refine' RO.fnB (f := 109) exts_ok ?hw ?ha ?hf ?hs ?hT ?hF (fun hc => ?_) (fun hc => ?_)); (case hw | ha | hf => exact rfl); (case hs => exact sem109 x hxk _ (by simp) _); (case hT | hF => exact rfl))
             | ((with_reducible refine' RQ.fnB (f := 109) exts_ok ?hw ?ha ?hf ?hs ?hT ?hF (fun hc => ?_) (fun hc => ?_)); (case hw | ha | hf => exact rfl); (case hs => exact sem109 x hxk _ (by simp) _); (case hT | hF => exact rfl))
             | (refine Sb (sem111 x hxk hxt _) ?_ ?_) <;> intro hc
             | (refine S2 ?_ ?_) <;> intro hc <;> try (exfalso; first | omega | (simp at hc; done))
             | refine Sf hx ?_
             | refine St ?_
             | fail)
            · rw [hc, Bool.and_true, (by assumption : areKids x.k x.n [] = true), Bool.true_and] at hR
              refine Rnd.n (i + 1) [0, 1] ⟨by omega, by rw [show ns.length - (i + 1) = f by omega]; exact hR⟩ (by omega) (by (refine ⟨rfl, rfl, rfl, ?_⟩; repeat' (first | exact True.intro | refine And.intro ?_ ?_ | exact RenO.none | exact RenO.cells (RenVs.plain rfl) | exact RenO.ro (RenVs.plain (cellsN_plain _)) | exact RenO.cells (RenVs.plain (cellsN_plain _)) | exact RenO.cells (RenVs.plain (cellsI_plain _)) | exact RenO.cells (RenVs.plain (cellsZ_plain _)) | exact RenO.cells (RenVs.cons (RenV.slice rfl) RenVs.nil) | exact RenO.iter | exact RenO.cells (RenVs.plain (rowN_plain _))))) ?_
              exact ⟨⟨_, rfl, RenV.ptr rfl⟩, ⟨_, rfl, RenV.eq (by simp) rfl⟩, True.intro⟩
            · rw [hc] at hR
              rw [hfalse (by rw [← hR]; simp)]
              exact ⟨rfl, _, rfl, [0], by (refine ⟨rfl, rfl, rfl, ?_⟩; repeat' (first | exact True.intro | refine And.intro ?_ ?_ | exact RenO.none | exact RenO.cells (RenVs.plain rfl) | exact RenO.ro (RenVs.plain (cellsN_plain _)) | exact RenO.cells (RenVs.plain (cellsN_plain _)) | exact RenO.cells (RenVs.plain (cellsI_plain _)) | exact RenO.cells (RenVs.plain (cellsZ_plain _)) | exact RenO.cells (RenVs.cons (RenV.slice rfl) RenVs.nil) | exact RenO.iter | exact RenO.cells (RenVs.plain (rowN_plain _)))), RenV.plain rfl⟩
            · rw [hc] at hR
              rw [hfalse (by rw [← hR]; simp)]
              exact ⟨rfl, _, rfl, [0], by (refine ⟨rfl, rfl, rfl, ?_⟩; repeat' (first | exact True.intro | refine And.intro ?_ ?_ | exact RenO.none | exact RenO.cells (RenVs.plain rfl) | exact RenO.ro (RenVs.plain (cellsN_plain _)) | exact RenO.cells (RenVs.plain (cellsN_plain _)) | exact RenO.cells (RenVs.plain (cellsI_plain _)) | exact RenO.cells (RenVs.plain (cellsZ_plain _)) | exact RenO.cells (RenVs.cons (RenV.slice rfl) RenVs.nil) | exact RenO.iter | exact RenO.cells (RenVs.plain (rowN_plain _)))), RenV.plain rfl⟩
          | cons a l =>
            repeat' (first
             | refine S0 ?_
             | refine Sc (at40 o.len o.s hlt hl 2) ?_
             | ((with_reducible refine' RO.fn (f := 110) exts_ok ?hw ?ha ?hf ?hs ?hp ?_); (case hw | ha | hf => exact rfl); (case hs => exact at110 o.k (by omega) f2 rfl rfl rfl rfl); (case hp => exact rfl))
             | ((with_reducible refine' RQ.fn (f := 110) exts_ok ?hw ?ha ?hf ?hs ?hp ?_); (case hw | ha | hf => exact rfl); (case hs => exact at110 o.k (by omega) f2 rfl rfl rfl rfl); (case hp => exact rfl))
             | ((with_reducible refine' RO.fnB (f := 109) exts_ok ?hw ?ha ?hf ?hs ?hT ?hF (fun hc => ?_) (fun hc => ?_)); (case hw | ha | hf => exact rfl); (case hs => exact sem109 x hxk _ (by rw [hlen]; omega) _); (case hT | hF => exact rfl))
             | ((with_reducible refine' RQ.fnB (f := 109) exts_ok ?hw ?ha ?hf ?hs ?hT ?hF (fun hc => ?_) (fun hc => ?_)); (case hw | ha | hf => exact rfl); (case hs => exact sem109 x hxk _ (by rw [hlen]; omega) _); (case hT | hF => exact rfl))
             | (refine Sb (sem111 x hxk hxt _) ?_ ?_) <;> intro hc
             | (refine S2 ?_ ?_) <;> intro hc <;> try (exfalso; first | omega | (simp at hc; done))
             | refine Sf hx ?_
             | refine St ?_
             | fail)
            · rw [hc, Bool.and_true, (by assumption : areKids x.k x.n (lettersOf sortK ns (a :: l)) = true), Bool.true_and] at hR
              refine Rnd.n (i + 1) [0, 1] ⟨by omega, by rw [show ns.length - (i + 1) = f by omega]; exact hR⟩ (by omega) (by (refine ⟨rfl, rfl, rfl, ?_⟩; repeat' (first | exact True.intro | refine And.intro ?_ ?_ | exact RenO.none | exact RenO.cells (RenVs.plain rfl) | exact RenO.ro (RenVs.plain (cellsN_plain _)) | exact RenO.cells (RenVs.plain (cellsN_plain _)) | exact RenO.cells (RenVs.plain (cellsI_plain _)) | exact RenO.cells (RenVs.plain (cellsZ_plain _)) | exact RenO.cells (RenVs.cons (RenV.slice rfl) RenVs.nil) | exact RenO.iter | exact RenO.cells (RenVs.plain (rowN_plain _))))) ?_
              exact ⟨⟨_, rfl, RenV.ptr rfl⟩, ⟨_, rfl, RenV.eq (by simp) rfl⟩, True.intro⟩
            · rw [hc] at hR
              rw [hfalse (by rw [← hR]; simp)]
              exact ⟨rfl, _, rfl, [0], by (refine ⟨rfl, rfl, rfl, ?_⟩; repeat' (first | exact True.intro | refine And.intro ?_ ?_ | exact RenO.none | exact RenO.cells (RenVs.plain rfl) | exact RenO.ro (RenVs.plain (cellsN_plain _)) | exact RenO.cells (RenVs.plain (cellsN_plain _)) | exact RenO.cells (RenVs.plain (cellsI_plain _)) | exact RenO.cells (RenVs.plain (cellsZ_plain _)) | exact RenO.cells (RenVs.cons (RenV.slice rfl) RenVs.nil) | exact RenO.iter | exact RenO.cells (RenVs.plain (rowN_plain _)))), RenV.plain rfl⟩
            · rw [hc] at hR
              rw [hfalse (by rw [← hR]; simp)]
              exact ⟨rfl, _, rfl, [0], by (refine ⟨rfl, rfl, rfl, ?_⟩; repeat' (first | exact True.intro | refine And.intro ?_ ?_ | exact RenO.none | exact RenO.cells (RenVs.plain rfl) | exact RenO.ro (RenVs.plain (cellsN_plain _)) | exact RenO.cells (RenVs.plain (cellsN_plain _)) | exact RenO.cells (RenVs.plain (cellsI_plain _)) | exact RenO.cells (RenVs.plain (cellsZ_plain _)) | exact RenO.cells (RenVs.cons (RenV.slice rfl) RenVs.nil) | exact RenO.iter | exact RenO.cells (RenVs.plain (rowN_plain _)))), RenV.plain rfl⟩
      · have hie : i = ns.length := by omega
        rw [hie, Nat.sub_self, refAll] at hR
        have hall : ∀ i, i < ns.length → rkOf (sizes ns) i ≠ none := fun j hj hn => by
          obtain ⟨x, hx⟩ : ∃ x, ns[j]? = some x := ⟨ns[j], by simp [hj]⟩
          have := refAll_get ns.length 0 hR.symm j x (Nat.zero_le _) (by omega) hx
          unfold refOk at this
          rw [hn] at this
          cases this
        have e : refFormB ns = decide (largeF ns ns.length 0 < 0) := by unfold refFormB; rw [hroot, ← hR]; rfl
        rw [e]
        subst hie
        repeat' (first
         | refine S0 ?_
         | refine Sc (at79 o hall) ?_
         | (refine S2 ?_ ?_) <;> intro hc <;> try (exfalso; first | omega | (simp at hc; done))
         | refine St ?_
         | fail)
        · rw [decide_eq_true hc]
          exact ⟨rfl, _, rfl, [0], by (refine ⟨rfl, rfl, rfl, ?_⟩; repeat' (first | exact True.intro | refine And.intro ?_ ?_ | exact RenO.none | exact RenO.cells (RenVs.plain rfl) | exact RenO.ro (RenVs.plain (cellsN_plain _)) | exact RenO.cells (RenVs.plain (cellsN_plain _)) | exact RenO.cells (RenVs.plain (cellsI_plain _)) | exact RenO.cells (RenVs.plain (cellsZ_plain _)) | exact RenO.cells (RenVs.cons (RenV.slice rfl) RenVs.nil) | exact RenO.iter | exact RenO.cells (RenVs.plain (rowN_plain _)))), RenV.plain rfl⟩
        · rw [decide_eq_false hc]
          exact ⟨rfl, _, rfl, [0], by (refine ⟨rfl, rfl, rfl, ?_⟩; repeat' (first | exact True.intro | refine And.intro ?_ ?_ | exact RenO.none | exact RenO.cells (RenVs.plain rfl) | exact RenO.ro (RenVs.plain (cellsN_plain _)) | exact RenO.cells (RenVs.plain (cellsN_plain _)) | exact RenO.cells (RenVs.plain (cellsI_plain _)) | exact RenO.cells (RenVs.plain (cellsZ_plain _)) | exact RenO.cells (RenVs.cons (RenV.slice rfl) RenVs.nil) | exact RenO.iter | exact RenO.cells (RenVs.plain (rowN_plain _)))), RenV.plain rfl⟩
set_option maxHeartbeats 4000000 in
theorem sem65 (ns : List Nd) (o : NdOk ns) (hl : Lam (sizes ns)) : CSem Tryz.prog 65 [.agg [.slice 0 0 ns.length 5]] (nodesH ns) (.int .i64 (deepFrom (sizes ns) ns.length 0 0)) (nodesH ns) := by
  have hn := o.len
  have hz : (sizes ns).length = ns.length := by simp [sizes]
  refine CSem.into Tryz.func65 rfl (by decide) Tryz.ntmps65 rfl rfl rfl ?_
  dsimp only [nodesH]
  repeat' (first
   | refine S0 ?_
   | (refine S2 ?_ ?_) <;> intro hc <;> try (exfalso; first | omega | (simp at hc; done))
   | refine St ?_
   | fail)
  refine RS.loop (σ := SD) (fun x => x.i ≤ ns.length ∧ deepFrom (sizes ns) (ns.length - x.i) x.i x.m = deepFrom (sizes ns) ns.length 0 0) (fun x => [(1, .ptr 1 0), (3, .int .i64 x.m), (4, .int .i64 (x.i : Int))]) (fun _ => boxH ns) (fun x => ns.length - x.i) ⟨0, 0⟩ ⟨Nat.zero_le _, rfl⟩ ⟨[0, 1], by (refine ⟨rfl, rfl, rfl, ?_⟩; repeat' (first | exact True.intro | refine And.intro ?_ ?_ | exact RenO.none | exact RenO.cells (RenVs.plain rfl) | exact RenO.ro (RenVs.plain (cellsN_plain _)) | exact RenO.cells (RenVs.plain (cellsN_plain _)) | exact RenO.cells (RenVs.plain (cellsI_plain _)) | exact RenO.cells (RenVs.plain (cellsZ_plain _)) | exact RenO.cells (RenVs.cons (RenV.slice rfl) RenVs.nil) | exact RenO.iter | exact RenO.cells (RenVs.plain (rowN_plain _)))), by (repeat' (first | exact True.intro | refine And.intro ?_ ?_ | exact ⟨_, rfl, RenV.plain rfl⟩ | exact ⟨_, rfl, RenV.slice rfl⟩ | exact ⟨_, rfl, RenV.ptr rfl⟩ | exact ⟨_, rfl, RenV.nilslice⟩))⟩ ?round
  rintro ⟨i, m⟩ ⟨hi, hR⟩
  simp only at hi hR
  refine ⟨_, rfl, ?_⟩
  dsimp only [boxH]
  by_cases hlt : i < ns.length
  · obtain ⟨f, hf⟩ : ∃ f, ns.length - i = f + 1 := ⟨ns.length - i - 1, by omega⟩
    rw [hf, deepFrom] at hR
    repeat' (first
     | refine S0 ?_
     | (refine S2 ?_ ?_) <;> intro hc <;> try (exfalso; first | omega | (simp at hc; done))
     | refine St ?_
     | fail)
    refine RS.loop (σ := SE) (fun x => x.k ≤ i + 1 ∧ x.n = cntUp (sizes ns) i x.k) (fun x => [(1, .ptr 1 0), (3, .int .i64 m), (4, .int .i64 (i : Int)), (5, .int .i64 (x.n : Int)), (6, .int .i64 (x.k : Int))]) (fun _ => boxH ns) (fun x => i + 1 - x.k) ⟨0, 0⟩ ⟨Nat.zero_le _, rfl⟩ ⟨[0, 1], by (refine ⟨rfl, rfl, rfl, ?_⟩; repeat' (first | exact True.intro | refine And.intro ?_ ?_ | exact RenO.none | exact RenO.cells (RenVs.plain rfl) | exact RenO.ro (RenVs.plain (cellsN_plain _)) | exact RenO.cells (RenVs.plain (cellsN_plain _)) | exact RenO.cells (RenVs.plain (cellsI_plain _)) | exact RenO.cells (RenVs.plain (cellsZ_plain _)) | exact RenO.cells (RenVs.cons (RenV.slice rfl) RenVs.nil) | exact RenO.iter | exact RenO.cells (RenVs.plain (rowN_plain _)))), by (repeat' (first | exact True.intro | refine And.intro ?_ ?_ | exact ⟨_, rfl, RenV.plain rfl⟩ | exact ⟨_, rfl, RenV.slice rfl⟩ | exact ⟨_, rfl, RenV.ptr rfl⟩ | exact ⟨_, rfl, RenV.nilslice⟩))⟩ ?round2
    rintro ⟨k, n⟩ ⟨hk, hnn⟩
    simp only at hk hnn
    refine ⟨_, rfl, ?_⟩
    dsimp only [boxH]
    have hnk := cntUp_le (sizes ns) i k
    by_cases hlk : k ≤ i
    · obtain ⟨x, hx⟩ : ∃ x, ns[k]? = some x := ⟨ns[k]'(by omega), by rw [List.getElem?_eq_getElem]⟩
      have hr := hl.rng _ _ (sizes_get hx)
      rw [hz] at hr
      have hs := cntUp_succ (sizes ns) i k
      rw [endAt_get (sizes_get hx)] at hs
      repeat' (first
       | refine S0 ?_
       | (refine S2 ?_ ?_) <;> intro hc <;> try (exfalso; first | omega | (simp at hc; done))
       | refine Sf hx ?_
       | refine St ?_
       | fail)
      · rw [if_pos hc] at hs
        refine Rnd.n ⟨k + 1, n + 1⟩ [0, 1] ⟨by dsimp only; omega, by dsimp only; omega⟩ (by dsimp only; omega) (by (refine ⟨rfl, rfl, rfl, ?_⟩; repeat' (first | exact True.intro | refine And.intro ?_ ?_ | exact RenO.none | exact RenO.cells (RenVs.plain rfl) | exact RenO.ro (RenVs.plain (cellsN_plain _)) | exact RenO.cells (RenVs.plain (cellsN_plain _)) | exact RenO.cells (RenVs.plain (cellsI_plain _)) | exact RenO.cells (RenVs.plain (cellsZ_plain _)) | exact RenO.cells (RenVs.cons (RenV.slice rfl) RenVs.nil) | exact RenO.iter | exact RenO.cells (RenVs.plain (rowN_plain _))))) ?_
        exact ⟨⟨_, rfl, RenV.ptr rfl⟩, ⟨_, rfl, RenV.plain rfl⟩, ⟨_, rfl, RenV.plain rfl⟩, ⟨_, rfl, RenV.eq (by simp) rfl⟩, ⟨_, rfl, RenV.eq (by simp) rfl⟩, True.intro⟩
      · rw [if_neg hc] at hs
        refine Rnd.n ⟨k + 1, n⟩ [0, 1] ⟨by dsimp only; omega, by dsimp only; omega⟩ (by dsimp only; omega) (by (refine ⟨rfl, rfl, rfl, ?_⟩; repeat' (first | exact True.intro | refine And.intro ?_ ?_ | exact RenO.none | exact RenO.cells (RenVs.plain rfl) | exact RenO.ro (RenVs.plain (cellsN_plain _)) | exact RenO.cells (RenVs.plain (cellsN_plain _)) | exact RenO.cells (RenVs.plain (cellsI_plain _)) | exact RenO.cells (RenVs.plain (cellsZ_plain _)) | exact RenO.cells (RenVs.cons (RenV.slice rfl) RenVs.nil) | exact RenO.iter | exact RenO.cells (RenVs.plain (rowN_plain _))))) ?_
        exact ⟨⟨_, rfl, RenV.ptr rfl⟩, ⟨_, rfl, RenV.plain rfl⟩, ⟨_, rfl, RenV.plain rfl⟩, ⟨_, rfl, RenV.plain rfl⟩, ⟨_, rfl, RenV.eq (by simp) rfl⟩, True.intro⟩
    · have hke : k = i + 1 := by omega
      subst hke
      have hd : deepAt (sizes ns) i = n := hnn.symm
      rw [hd] at hR
      repeat' (first
       | refine S0 ?_
       | (refine S2 ?_ ?_) <;> intro hc <;> try (exfalso; first | omega | (simp at hc; done))
       | refine St ?_
       | fail)
      refine Rnd.n ⟨i + 1, max m n⟩ [0, 1] ⟨by dsimp only; omega, by dsimp only; rw [show ns.length - (i + 1) = f by omega]; exact hR⟩ (by dsimp only; omega) (by (refine ⟨rfl, rfl, rfl, ?_⟩; repeat' (first | exact True.intro | refine And.intro ?_ ?_ | exact RenO.none | exact RenO.cells (RenVs.plain rfl) | exact RenO.ro (RenVs.plain (cellsN_plain _)) | exact RenO.cells (RenVs.plain (cellsN_plain _)) | exact RenO.cells (RenVs.plain (cellsI_plain _)) | exact RenO.cells (RenVs.plain (cellsZ_plain _)) | exact RenO.cells (RenVs.cons (RenV.slice rfl) RenVs.nil) | exact RenO.iter | exact RenO.cells (RenVs.plain (rowN_plain _))))) ?_
      exact ⟨⟨_, rfl, RenV.ptr rfl⟩, ⟨_, rfl, RenV.plain rfl⟩, ⟨_, rfl, RenV.eq (by simp) rfl⟩, True.intro⟩
  · have hie : i = ns.length := by omega
    rw [hie, Nat.sub_self, deepFrom] at hR
    rw [← hR]
    subst hie
    repeat' (first
     | refine S0 ?_
     | (refine S2 ?_ ?_) <;> intro hc <;> try (exfalso; first | omega | (simp at hc; done))
     | refine St ?_
     | fail)
    exact ⟨rfl, _, rfl, [0], by (refine ⟨rfl, rfl, rfl, ?_⟩; repeat' (first | exact True.intro | refine And.intro ?_ ?_ | exact RenO.none | exact RenO.cells (RenVs.plain rfl) | exact RenO.ro (RenVs.plain (cellsN_plain _)) | exact RenO.cells (RenVs.plain (cellsN_plain _)) | exact RenO.cells (RenVs.plain (cellsI_plain _)) | exact RenO.cells (RenVs.plain (cellsZ_plain _)) | exact RenO.cells (RenVs.cons (RenV.slice rfl) RenVs.nil) | exact RenO.iter | exact RenO.cells (RenVs.plain (rowN_plain _)))), RenV.plain rfl⟩
end Go.Am
