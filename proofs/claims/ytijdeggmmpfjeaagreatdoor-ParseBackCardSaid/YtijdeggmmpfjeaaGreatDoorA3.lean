/- Part of the proof: WkD, WkE. -/
import Derived.Test.YtijdeggmmpfjeaaGreatDoorA2
set_option linter.unusedSimpArgs false
set_option linter.unusedVariables false
set_option linter.unusedSectionVars false
namespace Go.Am
open Go Go.Proofs Go.RowKit Go.Pu
set_option maxRecDepth 100000
theorem allIn_take_succ {s set : List UInt8} {i : Nat} {c : UInt8} (h : s[i]? = some c) : allIn (s.take (i + 1)) set = (allIn (s.take i) set && set.contains c) := by
  obtain ⟨h1, h2⟩ := List.getElem?_eq_some_iff.1 h
  rw [List.take_succ_eq_append_getElem h1, h2]
  simp [allIn]
theorem contains_take_succ {s : List UInt8} {i : Nat} {c d : UInt8} (h : s[i]? = some c) : (s.take (i + 1)).contains d = ((s.take i).contains d || d == c) := by
  obtain ⟨h1, h2⟩ := List.getElem?_eq_some_iff.1 h
  rw [List.take_succ_eq_append_getElem h1, h2]
  simp [List.contains_eq_mem, List.mem_append, Bool.or_comm]
  rw [Bool.eq_iff_iff]; simp
theorem u8_ne {a b : UInt8} (h : ¬ ((a.toNat : Int) = (b.toNat : Int))) : (a == b) = false := by
  simp only [beq_eq_false_iff_ne, ne_eq]
  rintro rfl; exact h rfl
theorem u8_eq {a b : UInt8} (h : (a.toNat : Int) = (b.toNat : Int)) : (a == b) = true := by
  have : a = b := UInt8.toNat_inj.1 (by omega)
  simp [this]
structure SI where
  k : Nat
  b : Bool
set_option maxHeartbeats 2000000 in
theorem sem171 (s set : List UInt8) (to : Nat) (ht : to ≤ s.length) (hl : s.length ≤ 1000000) (hl2 : set.length ≤ 1000) (h : Heap) : CSem Tryz.prog 171 [.str s, .int .i64 0, .int .i64 (to : Int), .str set] h (.bool (allIn (s.take to) set)) h := by
  refine CSem.pure ?_ (RenVs.plain rfl) (RenV.plain rfl) h
  refine CSem.into Tryz.func171 rfl (by decide) Tryz.ntmps171 rfl rfl rfl ?_
  dsimp only
  repeat' (first
   | refine S0 ?_
   | (refine S2 ?_ ?_) <;> intro hc <;> try (exfalso; first | omega | (simp at hc; done))
   | refine St ?_
   | fail)
  refine RS.loop (σ := Nat) (fun i => i ≤ to ∧ allIn (s.take i) set = true) (fun i => [(0, .str s), (2, .int .i64 (to : Int)), (3, .str set), (9, .int .i64 (i : Int))]) (fun _ => ⟨.leaf, 0⟩) (fun i => to - i) 0 ⟨Nat.zero_le _, rfl⟩ ⟨[], ⟨rfl, rfl, rfl, True.intro⟩, by (repeat' (first | exact True.intro | refine And.intro ?_ ?_ | exact ⟨_, rfl, RenV.plain rfl⟩ | exact ⟨_, rfl, RenV.slice rfl⟩ | exact ⟨_, rfl, RenV.ptr rfl⟩ | exact ⟨_, rfl, RenV.nilslice⟩))⟩ ?round
  rintro i ⟨hi, hR⟩
  refine ⟨_, rfl, ?_⟩
  by_cases hlt : i < to
  · obtain ⟨c, hc0⟩ : ∃ c, s[i]? = some c := ⟨s[i], by rw [List.getElem?_eq_getElem]⟩
    repeat' (first
     | refine S0 ?_
     | (refine S2 ?_ ?_) <;> intro hc <;> try (exfalso; first | omega | (simp at hc; done))
     | refine St ?_
     | fail)
    refine RS.loop (σ := SI) (fun x => x.k ≤ set.length ∧ (set.take x.k).contains c = x.b) (fun x => [(0, .str s), (2, .int .i64 (to : Int)), (3, .str set), (9, .int .i64 (i : Int)), (10, .bool x.b), (11, .int .i64 (x.k : Int))]) (fun _ => ⟨.leaf, 0⟩) (fun x => set.length - x.k) ⟨0, false⟩ ⟨Nat.zero_le _, by simp⟩ ⟨[], ⟨rfl, rfl, rfl, True.intro⟩, by (repeat' (first | exact True.intro | refine And.intro ?_ ?_ | exact ⟨_, rfl, RenV.plain rfl⟩ | exact ⟨_, rfl, RenV.slice rfl⟩ | exact ⟨_, rfl, RenV.ptr rfl⟩ | exact ⟨_, rfl, RenV.nilslice⟩))⟩ ?round2
    rintro ⟨k, b⟩ ⟨hk, hb⟩
    simp only at hk hb
    by_cases hlk : k < set.length
    · obtain ⟨d, hd⟩ : ∃ d, set[k]? = some d := ⟨set[k], by rw [List.getElem?_eq_getElem]⟩
      have hsn := contains_take_succ (d := c) hd
      rw [hb] at hsn
      cases b with
      | true =>
        refine ⟨_, rfl, ?_⟩
        dsimp only
        repeat' (first
         | refine S0 ?_
         | (refine S2 ?_ ?_) <;> intro hc <;> try (exfalso; first | omega | (simp at hc; done))
         | refine Sf hc0 ?_
         | refine Sf hd ?_
         | refine St ?_
         | fail)
        refine Rnd.n ⟨k + 1, true⟩ [] ⟨by dsimp only; omega, by rw [hsn]; rfl⟩ (by dsimp only; omega) ⟨rfl, rfl, rfl, True.intro⟩ ?_
        exact ⟨⟨_, rfl, RenV.plain rfl⟩, ⟨_, rfl, RenV.plain rfl⟩, ⟨_, rfl, RenV.plain rfl⟩, ⟨_, rfl, RenV.plain rfl⟩, ⟨_, rfl, RenV.plain rfl⟩, ⟨_, rfl, RenV.eq (by simp) rfl⟩, True.intro⟩
      | false =>
        refine ⟨_, rfl, ?_⟩
        dsimp only
        repeat' (first
         | refine S0 ?_
         | (refine S2 ?_ ?_) <;> intro hc <;> try (exfalso; first | omega | (simp at hc; done))
         | refine Sf hc0 ?_
         | refine Sf hd ?_
         | refine St ?_
         | fail)
        · refine Rnd.n ⟨k + 1, true⟩ [] ⟨by dsimp only; omega, by rw [hsn, u8_eq hc]; rfl⟩ (by dsimp only; omega) ⟨rfl, rfl, rfl, True.intro⟩ ?_
          exact ⟨⟨_, rfl, RenV.plain rfl⟩, ⟨_, rfl, RenV.plain rfl⟩, ⟨_, rfl, RenV.plain rfl⟩, ⟨_, rfl, RenV.plain rfl⟩, ⟨_, rfl, RenV.plain rfl⟩, ⟨_, rfl, RenV.eq (by simp) rfl⟩, True.intro⟩
        · refine Rnd.n ⟨k + 1, false⟩ [] ⟨by dsimp only; omega, by rw [hsn, u8_ne hc]; rfl⟩ (by dsimp only; omega) ⟨rfl, rfl, rfl, True.intro⟩ ?_
          exact ⟨⟨_, rfl, RenV.plain rfl⟩, ⟨_, rfl, RenV.plain rfl⟩, ⟨_, rfl, RenV.plain rfl⟩, ⟨_, rfl, RenV.plain rfl⟩, ⟨_, rfl, RenV.plain rfl⟩, ⟨_, rfl, RenV.eq (by simp) rfl⟩, True.intro⟩
    · have hke : k = set.length := by omega
      subst hke
      rw [List.take_length] at hb
      have hsi := allIn_take_succ (set := set) hc0
      rw [hR, hb, Bool.true_and] at hsi
      cases b with
      | true =>
        refine ⟨_, rfl, ?_⟩
        dsimp only
        repeat' (first
         | refine S0 ?_
         | (refine S2 ?_ ?_) <;> intro hc <;> try (exfalso; first | omega | (simp at hc; done))
         | refine St ?_
         | fail)
        refine Rnd.n (i + 1) [] ⟨by omega, hsi⟩ (by omega) ⟨rfl, rfl, rfl, True.intro⟩ ?_
        exact ⟨⟨_, rfl, RenV.plain rfl⟩, ⟨_, rfl, RenV.plain rfl⟩, ⟨_, rfl, RenV.plain rfl⟩, ⟨_, rfl, RenV.eq (by simp) rfl⟩, True.intro⟩
      | false =>
        have hf : allIn (s.take to) set = false := by
          cases hx : allIn (s.take to) set with
          | false => rfl
          | true =>
            have : allIn (s.take (i + 1)) set = true := by
              have h1 := List.all_eq_true.1 hx
              refine List.all_eq_true.2 fun y hy => h1 y ?_
              have h2 : (s.take to).take (i + 1) = s.take (i + 1) := by rw [List.take_take]; congr 1; omega
              rw [← h2] at hy
              exact List.mem_of_mem_take hy
            rw [hsi] at this
            cases this
        rw [hf]
        refine ⟨_, rfl, ?_⟩
        dsimp only
        repeat' (first
         | refine S0 ?_
         | (refine S2 ?_ ?_) <;> intro hc <;> try (exfalso; first | omega | (simp at hc; done))
         | refine St ?_
         | fail)
        exact ⟨rfl, _, rfl, [], ⟨rfl, rfl, rfl, True.intro⟩, RenV.plain rfl⟩
  · have hie : i = to := by omega
    subst hie
    rw [hR]
    repeat' (first
     | refine S0 ?_
     | (refine S2 ?_ ?_) <;> intro hc <;> try (exfalso; first | omega | (simp at hc; done))
     | refine St ?_
     | fail)
    exact ⟨rfl, _, rfl, [], ⟨rfl, rfl, rfl, True.intro⟩, RenV.plain rfl⟩
end Go.Am
namespace Go.Am
open Go Go.Proofs Go.RowKit Go.Pu
set_option maxRecDepth 100000
theorem sem171Z (to : Nat) {s set : List UInt8} {z : Int} (hz : z = (to : Int)) (ht : to ≤ s.length) (hl : s.length ≤ 1000000) (hl2 : set.length ≤ 1000) (h : Heap) : CSem Tryz.prog 171 [.str s, .int .i64 0, .int .i64 z, .str set] h (.bool (allIn (s.take to) set)) h := by
  subst hz; exact sem171 s set to ht hl hl2 h
theorem kids_fixed {k : Nat} {n : Int} {s : List UInt8} (h1 : k ≠ 1) (h2 : k ≠ 2) (h5 : k ≠ 5) (h3 : k ≠ 3) (h4 : k ≠ 4) (h7 : k ≠ 7) (h9 : k ≠ 9) (h25 : k ≠ 25) (h26 : k ≠ 26) (h43 : k ≠ 43) (h30 : k ≠ 30) (h46 : k ≠ 46) : areKids k n s = decide (s = fixedK k) := by simp [areKids, *]
theorem last66 {s : List UInt8} (h0 : 0 < s.length) : s.getLast? = some 66 ↔ ((s.getLast?.getD 0).toNat : Int) = 66 := by
  have hne : s ≠ [] := by intro h; subst h; simp at h0
  rw [List.getLast?_eq_some_getLast hne]
  simp only [Option.some.injEq, Option.getD_some]
  constructor
  · intro h; rw [h]; rfl
  · intro h; exact UInt8.toNat_inj.1 (by have : (66 : UInt8).toNat = 66 := rfl
                                         omega)
set_option maxHeartbeats 4000000 in
theorem sem109 (x : Nd) (hk : x.k < 256) (s : List UInt8) (hs : s.length ≤ 1000000) (h : Heap) : CSem Tryz.prog 109 [.agg (rowN x), .str s] h (.bool (areKids x.k x.n s)) h := by
  refine CSem.pure ?_ (RenVs.cons (RenV.agg (RenVs.plain rfl)) (RenVs.plain rfl)) (RenV.plain rfl) h
  refine CSem.into Tryz.func109 rfl (by decide) Tryz.ntmps109 rfl rfl rfl ?_
  dsimp only [rowN]
  have hlast : 0 < s.length → s[s.length - 1]? = some (s.getLast?.getD 0) := fun h0 => by
    rw [List.getLast?_eq_getElem?, List.getElem?_eq_getElem (by omega)]; rfl
  repeat' (first
   | refine S0 ?_
   | ((with_reducible refine' RO.fnB (f := 171) exts_ok ?hw ?ha ?hf ?hs ?hT ?hF (fun hc => ?_) (fun hc => ?_)); (case hw | ha | hf => exact rfl); (case hs => exact sem171Z s.length rfl (Nat.le_refl _) hs (by decide) _); (case hT | hF => exact rfl))
   | ((with_reducible refine' RQ.fnB (f := 171) exts_ok ?hw ?ha ?hf ?hs ?hT ?hF (fun hc => ?_) (fun hc => ?_)); (case hw | ha | hf => exact rfl); (case hs => exact sem171Z s.length rfl (Nat.le_refl _) hs (by decide) _); (case hT | hF => exact rfl))
   | ((with_reducible refine' RO.fnB (f := 171) exts_ok ?hw ?ha ?hf ?hs ?hT ?hF (fun hc => ?_) (fun hc => ?_)); (case hw | ha | hf => exact rfl); (case hs => exact sem171Z (s.length - 1) (by omega) (by omega) hs (by decide) _); (case hT | hF => exact rfl))
   | ((with_reducible refine' RQ.fnB (f := 171) exts_ok ?hw ?ha ?hf ?hs ?hT ?hF (fun hc => ?_) (fun hc => ?_)); (case hw | ha | hf => exact rfl); (case hs => exact sem171Z (s.length - 1) (by omega) (by omega) hs (by decide) _); (case hT | hF => exact rfl))
   | ((with_reducible refine' RO.fnB (f := 171) exts_ok ?hw ?ha ?hf ?hs ?hT ?hF (fun hc => ?_) (fun hc => ?_)); (case hw | ha | hf => exact rfl); (case hs => exact sem171Z 1 rfl (by omega) hs (by decide) _); (case hT | hF => exact rfl))
   | ((with_reducible refine' RQ.fnB (f := 171) exts_ok ?hw ?ha ?hf ?hs ?hT ?hF (fun hc => ?_) (fun hc => ?_)); (case hw | ha | hf => exact rfl); (case hs => exact sem171Z 1 rfl (by omega) hs (by decide) _); (case hT | hF => exact rfl))
   | refine Sc (fn172 hk _) ?_
   | (refine S2 ?_ ?_) <;> intro hc <;> try (exfalso; first | omega | (simp at hc; done))
   | refine Sf (hlast (by omega)) ?_
   | refine St ?_
   | fail)
  all_goals
    refine ⟨rfl, _, rfl, [], by (refine ⟨rfl, rfl, rfl, ?_⟩; repeat' (first | exact True.intro | refine And.intro ?_ ?_ | exact RenO.none | exact RenO.cells (RenVs.plain rfl) | exact RenO.ro (RenVs.plain (cellsN_plain _)) | exact RenO.cells (RenVs.plain (cellsN_plain _)) | exact RenO.cells (RenVs.plain (cellsI_plain _)) | exact RenO.cells (RenVs.plain (cellsZ_plain _)) | exact RenO.cells (RenVs.cons (RenV.slice rfl) RenVs.nil) | exact RenO.iter | exact RenO.cells (RenVs.plain (rowN_plain _)))), RenV.eq ?_ rfl⟩
  all_goals (try simp only [List.take_length] at *)
  all_goals first
    | (have e : x.k = 1 := (by omega); have e2 : areKids x.k x.n s = (allIn s [105]) := (by rw [e]; rfl); rw [e2]; clear e2; simp_all [afinish]; done)
    | (have e : x.k = 2 := (by omega); have e2 : areKids x.k x.n s = (decide (0 < s.length) && allIn s [108]) := (by rw [e]; rfl); rw [e2]; clear e2; simp_all [afinish]; done)
    | (have e : x.k = 5 := (by omega); have e2 : areKids x.k x.n s = (allIn s [97]) := (by rw [e]; rfl); rw [e2]; clear e2; simp_all [afinish]; done)
    | (have e : x.k = 3 := (by omega); have e2 : areKids x.k x.n s = (allIn s [116, 115]) := (by rw [e]; rfl); rw [e2]; clear e2; simp_all [afinish]; done)
    | (have e : x.k = 4 := (by omega); have e2 : areKids x.k x.n s = (decide (0 < s.length) && (decide (s.getLast? = some 66) && allIn s.dropLast [112])) := (by rw [e]; rfl); have hne : 0 < s.length → (s.getLast? = some 66 ↔ ((s.getLast?.getD 0).toNat : Int) = 66) := (fun h0 => last66 h0); have hdl : List.take (s.length - 1) s = s.dropLast := (List.dropLast_eq_take).symm; rw [e2]; clear e2; simp_all [afinish]; done)
    | (have e : x.k = 7 := (by omega); have e2 : areKids x.k x.n s = (decide (s.length = 1) && allIn s [116, 115]) := (by rw [e]; rfl); have hl1 : s.length = 1 → List.take 1 s = s := (fun h0 => List.take_of_length_le (by omega)); have hi : ((s.length : Int) = 1) ↔ s.length = 1 := (by omega); rw [e2]; clear e2; simp_all [afinish]; done)
    | (have e : x.k = 9 := (by omega); have e2 : areKids x.k x.n s = (allIn s [83]) := (by rw [e]; rfl); rw [e2]; clear e2; simp_all [afinish]; done)
    | (have e : x.k = 25 := (by omega); have e2 : areKids x.k x.n s = (allIn s [101]) := (by rw [e]; rfl); rw [e2]; clear e2; simp_all [afinish]; done)
    | (have e : x.k = 26 := (by omega); have e2 : areKids x.k x.n s = (decide (0 < s.length) && allIn s [99]) := (by rw [e]; rfl); rw [e2]; clear e2; simp_all [afinish]; done)
    | (have e : x.k = 43 := (by omega); have e2 : areKids x.k x.n s = (decide (0 < s.length) && allIn s [101]) := (by rw [e]; rfl); rw [e2]; clear e2; simp_all [afinish]; done)
    | (have e : x.k = 30 := (by omega); have e2 : areKids x.k x.n s = (decide (s = [101, 66]) || decide (s = [101, 66, 66])) := (by rw [e]; rfl); rw [e2]; clear e2; simp_all [afinish]; done)
    | (have e : x.k = 46 := (by omega); have e2 : areKids x.k x.n s = (((decide (x.n = 1) || decide (x.n = 2)) && decide (s = [80])) || (decide (x.n = 3) && decide (s = [80, 80]))) := (by rw [e]; rfl); rw [e2]; clear e2; simp_all [afinish]; done)
    | (have e2 : areKids x.k x.n s = decide (s = fixedK x.k) := kids_fixed (by omega) (by omega) (by omega) (by omega) (by omega) (by omega) (by omega) (by omega) (by omega) (by omega) (by omega) (by omega); rw [e2]; clear e2; simp_all [afinish]; done)
end Go.Am
