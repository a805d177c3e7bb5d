/- Part of the proof: WkF, WkG, WkH. -/
import Derived.Test.YtijdeggmmpfjeaaGreatDoorA1
set_option linter.unusedSimpArgs false
set_option linter.unusedVariables false
set_option linter.unusedSectionVars false
namespace Go.Am
open Go Go.Proofs Go.RowKit Go.Pu
set_option maxRecDepth 100000
def isDig (c : UInt8) : Bool := decide (48 ≤ c.toNat ∧ c.toNat ≤ 57)
def isLet (c : UInt8) : Bool := decide (97 ≤ c.toNat ∧ c.toNat ≤ 122)
def runF (b : Bool) : List UInt8 → Nat
  | [] => 0
  | c :: s => if isDig c || (b && isLet c) then runF b s + 1 else 0
theorem runF_le (b : Bool) : ∀ s : List UInt8, runF b s ≤ s.length
  | [] => Nat.le_refl _
  | c :: s => by
    unfold runF
    split
    · have := runF_le b s; simp; omega
    · simp
theorem drop_get {s : List UInt8} {i : Nat} {c : UInt8} (h : s[i]? = some c) : s.drop i = c :: s.drop (i + 1) := by
  obtain ⟨h1, h2⟩ := List.getElem?_eq_some_iff.1 h
  rw [List.drop_eq_getElem_cons h1, h2]
theorem u8lt (c : UInt8) : c.toNat < 256 := c.toNat_lt
set_option maxHeartbeats 2000000 in
theorem sem220 (s : List UInt8) (b : Bool) (at0 : Nat) (ha : at0 ≤ s.length) (hl : s.length ≤ 1000000) (h : Heap) : CSem Tryz.prog 220 [.str s, .int .i64 (at0 : Int), .bool b] h (.int .i64 ((at0 + runF b (s.drop at0) : Nat) : Int)) h := by
  refine CSem.pure ?_ (RenVs.plain rfl) (RenV.plain rfl) h
  refine CSem.into Tryz.func220 rfl (by decide) Tryz.ntmps220 rfl rfl rfl ?_
  dsimp only
  repeat' (first
   | refine S0 ?_
   | (refine S2 ?_ ?_) <;> intro hc <;> try (exfalso; first | omega | (simp at hc; done))
   | refine St ?_
   | fail)
  refine RS.loop (σ := Nat) (fun i => i ≤ s.length ∧ i + runF b (s.drop i) = at0 + runF b (s.drop at0)) (fun i => [(0, .str s), (1, .int .i64 (i : Int)), (2, .bool b)]) (fun _ => ⟨.leaf, 0⟩) (fun i => s.length - i) at0 ⟨ha, rfl⟩ ⟨[], ⟨rfl, rfl, rfl, True.intro⟩, by (repeat' (first | exact True.intro | refine And.intro ?_ ?_ | exact ⟨_, rfl, RenV.plain rfl⟩ | exact ⟨_, rfl, RenV.slice rfl⟩ | exact ⟨_, rfl, RenV.ptr rfl⟩ | exact ⟨_, rfl, RenV.nilslice⟩))⟩ ?round
  rintro i ⟨hi, hR⟩
  refine ⟨_, rfl, ?_⟩
  by_cases hlt : i < s.length
  · obtain ⟨c, hc0⟩ : ∃ c, s[i]? = some c := ⟨s[i], by rw [List.getElem?_eq_getElem]⟩
    rw [drop_get hc0, runF] at hR
    cases b with
    | true =>
      repeat' (first
       | refine S0 ?_
       | (refine Se (fn222 (u8lt _) _) ?_ ?_) <;> intro hc <;> try (exfalso; first | omega | (simp at hc; done))
       | (refine Se (fn219 (u8lt _) _) ?_ ?_) <;> intro hc <;> try (exfalso; first | omega | (simp at hc; done))
       | (refine S2 ?_ ?_) <;> intro hc <;> try (exfalso; first | omega | (simp at hc; done))
       | refine Sf hc0 ?_
       | refine St ?_
       | fail)
      · have e : (isDig c || (true && isLet c)) = true := by simp [isDig, hc]
        rw [if_pos e] at hR
        refine Rnd.n (i + 1) [] ⟨by omega, by omega⟩ (by omega) ⟨rfl, rfl, rfl, True.intro⟩ ?_
        exact ⟨⟨_, rfl, RenV.plain rfl⟩, ⟨_, rfl, RenV.eq (by simp) rfl⟩, ⟨_, rfl, RenV.plain rfl⟩, True.intro⟩
      · have e : (isDig c || (true && isLet c)) = true := by simp [isLet, hc]
        rw [if_pos e] at hR
        refine Rnd.n (i + 1) [] ⟨by omega, by omega⟩ (by omega) ⟨rfl, rfl, rfl, True.intro⟩ ?_
        exact ⟨⟨_, rfl, RenV.plain rfl⟩, ⟨_, rfl, RenV.eq (by simp) rfl⟩, ⟨_, rfl, RenV.plain rfl⟩, True.intro⟩
      · rename_i hc1
        have e : (isDig c || (true && isLet c)) = false := by
          unfold isDig isLet
          rw [decide_eq_false hc1, decide_eq_false hc]; rfl
        rw [if_neg (by rw [e]; simp)] at hR
        rw [← hR]
        exact ⟨rfl, _, rfl, [], ⟨rfl, rfl, rfl, True.intro⟩, RenV.plain rfl⟩
    | false =>
      repeat' (first
       | refine S0 ?_
       | (refine Se (fn222 (u8lt _) _) ?_ ?_) <;> intro hc <;> try (exfalso; first | omega | (simp at hc; done))
       | (refine Se (fn219 (u8lt _) _) ?_ ?_) <;> intro hc <;> try (exfalso; first | omega | (simp at hc; done))
       | (refine S2 ?_ ?_) <;> intro hc <;> try (exfalso; first | omega | (simp at hc; done))
       | refine Sf hc0 ?_
       | refine St ?_
       | fail)
      · have e : (isDig c || (false && isLet c)) = true := by simp [isDig, hc]
        rw [if_pos e] at hR
        refine Rnd.n (i + 1) [] ⟨by omega, by omega⟩ (by omega) ⟨rfl, rfl, rfl, True.intro⟩ ?_
        exact ⟨⟨_, rfl, RenV.plain rfl⟩, ⟨_, rfl, RenV.eq (by simp) rfl⟩, ⟨_, rfl, RenV.plain rfl⟩, True.intro⟩
      · have e : (isDig c || (false && isLet c)) = false := by
          unfold isDig
          rw [decide_eq_false hc]; rfl
        rw [if_neg (by rw [e]; simp)] at hR
        rw [← hR]
        exact ⟨rfl, _, rfl, [], ⟨rfl, rfl, rfl, True.intro⟩, RenV.plain rfl⟩
  · have hie : i = s.length := by omega
    subst hie
    rw [List.drop_length, runF] at hR
    rw [← hR]
    repeat' (first
     | refine S0 ?_
     | (refine S2 ?_ ?_) <;> intro hc <;> try (exfalso; first | omega | (simp at hc; done))
     | refine St ?_
     | fail)
    exact ⟨rfl, _, rfl, [], ⟨rfl, rfl, rfl, True.intro⟩, RenV.plain rfl⟩
theorem u8c (a : UInt8) : ((a.toNat : Int) = 48) = (a = 48) := by
  simp only [eq_iff_iff]
  constructor
  · intro h; exact UInt8.toNat_inj.1 (by have : (48 : UInt8).toNat = 48 := rfl
                                         omega)
  · rintro rfl; rfl
def isNumB (s : List UInt8) : Bool := decide (s = [48]) || (decide (s ≠ []) && (decide (s.head?.getD 0 ≠ 48) && (decide (s.length < 10) || decide (s = [49, 48, 48, 48, 48, 48, 48, 48, 48, 48]))))
set_option maxHeartbeats 2000000 in
theorem sem223 (s : List UInt8) (h : Heap) : CSem Tryz.prog 223 [.str s] h (.bool (isNumB s)) h := by
  refine CSem.pure ?_ (RenVs.plain rfl) (RenV.plain rfl) h
  refine CSem.into Tryz.func223 rfl (by decide) Tryz.ntmps223 rfl rfl rfl ?_
  dsimp only
  have h0 : 0 < s.length → s[0]? = some (s.head?.getD 0) := fun h => by
    cases s with
    | nil => simp at h
    | cons a s => rfl
  have hne : s ≠ [] → 0 < s.length := fun h => by
    cases s with
    | nil => exact absurd rfl h
    | cons a s => simp
  repeat' (first
   | refine S0 ?_
   | (refine S2 ?_ ?_) <;> intro hc <;> try (exfalso; first | omega | (simp at hc; done))
   | refine Sf (h0 (hne hc)) ?_
   | refine St ?_
   | fail)
  all_goals refine ⟨rfl, _, rfl, [], ⟨rfl, rfl, rfl, True.intro⟩, RenV.eq ?_ rfl⟩
  all_goals unfold isNumB
  all_goals (simp only [u8c, List.head?] at *)
  all_goals (have hi : ((s.length : Int) < 10) ↔ s.length < 10 := (by omega))
  all_goals (clear h0 hne; simp_all [afinish]; done)
end Go.Am
namespace Go.Am
open Go Go.Proofs Go.RowKit Go.Pu
set_option maxRecDepth 100000
def kws : List (List UInt8) := [[97, 108, 108], [97, 115], [101, 97, 99, 104], [101, 108, 115, 101], [102, 97, 105, 108], [102, 108, 97, 103], [102, 114, 101, 101, 122, 101], [104, 97, 115], [105, 102], [105, 110, 116], [108, 97, 116, 116, 105, 99, 101], [108, 101, 116], [109, 97, 112], [109, 97, 120], [110, 101, 119], [111, 110], [111, 110, 99, 101], [111, 114], [112, 97, 105, 114], [112, 117, 116], [115, 101, 116], [115, 104, 97, 114, 101], [115, 105, 122, 101], [115, 112, 97, 119, 110], [116, 97, 115, 107], [117, 115, 101], [118, 97, 108, 117, 101], [119, 104, 101, 110]]
def signs : List (List UInt8) := [[61, 61], [33, 61], [60, 61], [62, 61], [60], [62], [61], [43], [45], [42], [47], [33], [35], [40], [41], [91], [93], [123], [125], [44], [59], [58]]
theorem sem203 (h h' : Heap) (j : Nat) (hadd : h.add (.cells 9 1 (cellsS kws) true) = some (j, h')) : CSem Tryz.prog 203 [] h (.slice j 0 28 1) h' := by
  refine CSem.new1 (v0 := .slice 0 0 28 1) ?_ RenVs.nil (cellsS_plain _) hadd (RenV.slice rfl)
  refine CSem.into Tryz.func203 rfl (by decide) Tryz.ntmps203 rfl rfl rfl ?_
  dsimp only
  repeat' (first
   | refine S0 ?_
   | (refine S2 ?_ ?_) <;> intro hc <;> try (exfalso; first | omega | (simp at hc; done))
   | refine St ?_
   | fail)
  exact ⟨rfl, _, rfl, [0], ⟨rfl, rfl, rfl, RenO.cells (RenVs.plain rfl), True.intro⟩, RenV.slice rfl⟩
theorem sem205 (h h' : Heap) (j : Nat) (hadd : h.add (.cells 9 1 (cellsS signs) true) = some (j, h')) : CSem Tryz.prog 205 [] h (.slice j 0 22 1) h' := by
  refine CSem.new1 (v0 := .slice 0 0 22 1) ?_ RenVs.nil (cellsS_plain _) hadd (RenV.slice rfl)
  refine CSem.into Tryz.func205 rfl (by decide) Tryz.ntmps205 rfl rfl rfl ?_
  dsimp only
  repeat' (first
   | refine S0 ?_
   | (refine S2 ?_ ?_) <;> intro hc <;> try (exfalso; first | omega | (simp at hc; done))
   | refine St ?_
   | fail)
  exact ⟨rfl, _, rfl, [0], ⟨rfl, rfl, rfl, RenO.cells (RenVs.plain rfl), True.intro⟩, RenV.slice rfl⟩
theorem kws_len : kws.length = 28 := rfl
theorem signs_len : signs.length = 22 := rfl
def kwH : Heap := ⟨.node (some (.cells 9 1 (cellsS kws) true)) .leaf .leaf, 1⟩
set_option maxHeartbeats 2000000 in
theorem sem221 (s : List UInt8) (h : Heap) : CSem Tryz.prog 221 [.str s] h (.bool (decide (s ∈ kws))) h := by
  refine CSem.pure ?_ (RenVs.plain rfl) (RenV.plain rfl) h
  refine CSem.into Tryz.func221 rfl (by decide) Tryz.ntmps221 rfl rfl rfl ?_
  dsimp only
  repeat' (first
   | refine S0 ?_
   | refine Sc (sem203 _ _ _) ?_
   | (refine S2 ?_ ?_) <;> intro hc <;> try (exfalso; first | omega | (simp at hc; done))
   | refine St ?_
   | fail)
  refine RS.loop (σ := Nat) (fun i => i ≤ 28 ∧ ∀ j, j < i → kws[j]? ≠ some s) (fun i => [(0, .str s), (3, .slice 0 0 28 1), (4, .int .i64 (i : Int))]) (fun _ => kwH) (fun i => 28 - i) 0 ⟨Nat.zero_le _, fun j hj => by omega⟩ ⟨[0], ⟨rfl, rfl, rfl, RenO.cells (RenVs.plain (cellsS_plain _)), True.intro⟩, by (repeat' (first | exact True.intro | refine And.intro ?_ ?_ | exact ⟨_, rfl, RenV.plain rfl⟩ | exact ⟨_, rfl, RenV.slice rfl⟩ | exact ⟨_, rfl, RenV.ptr rfl⟩ | exact ⟨_, rfl, RenV.nilslice⟩))⟩ ?round
  rintro i ⟨hi, hR⟩
  refine ⟨_, rfl, ?_⟩
  dsimp only [kwH]
  by_cases hlt : i < 28
  · obtain ⟨c, hc0⟩ : ∃ c, kws[i]? = some c := ⟨kws[i]'(by rw [kws_len]; exact hlt), by rw [List.getElem?_eq_getElem]⟩
    repeat' (first
     | refine S0 ?_
     | (refine S2 ?_ ?_) <;> intro hc <;> try (exfalso; first | omega | (simp at hc; done))
     | refine Sf hc0 ?_
     | refine St ?_
     | fail)
    · subst hc
      rw [decide_eq_true (List.mem_of_getElem? hc0)]
      exact ⟨rfl, _, rfl, [], ⟨rfl, rfl, rfl, True.intro⟩, RenV.plain rfl⟩
    · have hcx := hc
      refine Rnd.n (i + 1) [0] ⟨by omega, fun j hj => ?_⟩ (by omega) ⟨rfl, rfl, rfl, RenO.cells (RenVs.plain (cellsS_plain _)), True.intro⟩ ?_
      · by_cases e : j = i
        · subst e; rw [hc0]; intro h; exact hcx (by simpa using h)
        · exact hR j (by omega)
      · exact ⟨⟨_, rfl, RenV.plain rfl⟩, ⟨_, rfl, RenV.slice rfl⟩, ⟨_, rfl, RenV.eq (by simp) rfl⟩, True.intro⟩
  · have hie : i = 28 := by omega
    subst hie
    have hnot : s ∉ kws := fun hm => by
      obtain ⟨j, hj⟩ := List.mem_iff_getElem?.1 hm
      have h1 := (List.getElem?_eq_some_iff.1 hj).1
      exact hR j h1 hj
    rw [decide_eq_false hnot]
    repeat' (first
     | refine S0 ?_
     | (refine S2 ?_ ?_) <;> intro hc <;> try (exfalso; first | omega | (simp at hc; done))
     | refine St ?_
     | fail)
    exact ⟨rfl, _, rfl, [], ⟨rfl, rfl, rfl, True.intro⟩, RenV.plain rfl⟩
def bestS (r : List UInt8) : List (List UInt8) → List UInt8 → List UInt8
  | [], b => b
  | x :: l, b => if b.length < x.length ∧ r.take x.length = x then bestS r l x else bestS r l b
def tokR (r : List UInt8) : Nat × List UInt8 :=
  if isLet (r.head?.getD 0) then (if r.take (runF true r) ∈ kws then 3 else if (r.take (runF true r)).length ≤ 12 then 1 else 0, r.take (runF true r))
  else if isDig (r.head?.getD 0) then (if isNumB (r.take (runF false r)) then 2 else 0, r.take (runF false r))
  else (if bestS r signs [] = [] then 0 else 4, bestS r signs [])
def sgH (k : Nat) (t : List UInt8) (at0 : Nat) : Heap := ⟨.node (some (.cells 65 3 [.int .u8 0, .str [], .int .i64 0] true)) (.node (some (.cells 65 3 [.int .u8 (k : Int), .str t, .int .i64 (at0 : Int)] true)) .leaf .leaf) (.node (some (.cells 9 1 (cellsS signs) true)) .leaf .leaf), 3⟩
structure SB where
  i : Nat
  b : List UInt8
theorem drop_get' {α : Type} {s : List α} {i : Nat} {c : α} (h : s[i]? = some c) : s.drop i = c :: s.drop (i + 1) := by
  obtain ⟨h1, h2⟩ := List.getElem?_eq_some_iff.1 h
  rw [List.drop_eq_getElem_cons h1, h2]
theorem signs_ne : ∀ x ∈ signs, x ≠ [] := by decide
set_option maxHeartbeats 4000000 in
theorem sem194 (s : List UInt8) (at0 : Nat) (ha : at0 < s.length) (hl : s.length ≤ 1000000) (h : Heap) : CSem Tryz.prog 194 [.str s, .int .i64 (at0 : Int)] h (.agg [.int .u8 ((tokR (s.drop at0)).1 : Int), .str (tokR (s.drop at0)).2, .int .i64 (at0 : Int)]) h := by
  refine CSem.pure ?_ (RenVs.plain rfl) (RenV.agg (RenVs.plain rfl)) h
  obtain ⟨c, hc0⟩ : ∃ c, s[at0]? = some c := ⟨s[at0], by rw [List.getElem?_eq_getElem]⟩
  have hhd : (s.drop at0).head?.getD 0 = c := by rw [drop_get hc0]; rfl
  have hr1 := runF_le true (s.drop at0)
  have hr2 := runF_le false (s.drop at0)
  rw [List.length_drop] at hr1 hr2
  have ht : ∀ n, (s.take (at0 + n)).drop at0 = (s.drop at0).take n := fun n => by rw [List.drop_take]; congr 1; omega
  by_cases hL : 97 ≤ c.toNat ∧ c.toNat ≤ 122
  · have e : tokR (s.drop at0) = (if (s.drop at0).take (runF true (s.drop at0)) ∈ kws then 3 else if ((s.drop at0).take (runF true (s.drop at0))).length ≤ 12 then 1 else 0, (s.drop at0).take (runF true (s.drop at0))) := by
      unfold tokR; rw [hhd, if_pos (by simpa [isLet] using hL)]
    rw [e]
    simp only
    refine CSem.into Tryz.func194 rfl (by decide) Tryz.ntmps194 rfl rfl rfl ?_
    dsimp only
    repeat' (first
     | refine S0 ?_
     | (refine Se (fn219 (u8lt _) _) ?_ ?_) <;> intro hc <;> try (exfalso; first | omega | (simp at hc; done))
     | ((with_reducible refine' RO.fn (f := 220) exts_ok ?hw ?ha ?hf ?hs ?hp ?_); (case hw | ha | hf => exact rfl); (case hs => exact sem220 s _ at0 (by omega) hl _); (case hp => exact rfl))
     | ((with_reducible refine' RQ.fn (f := 220) exts_ok ?hw ?ha ?hf ?hs ?hp ?_); (case hw | ha | hf => exact rfl); (case hs => exact sem220 s _ at0 (by omega) hl _); (case hp => exact rfl))
     | (refine Se (sem221 _ _) ?_ ?_) <;> intro hc <;> try (exfalso; first | omega | (simp at hc; done))
     | (refine S2 ?_ ?_) <;> intro hc <;> try (exfalso; first | omega | (simp at hc; done))
     | refine Sf hc0 ?_
     | refine St ?_
     | fail)
    all_goals refine ⟨rfl, _, rfl, [], ⟨rfl, rfl, rfl, True.intro⟩, RenV.of_eq ?_ (RenV.agg (RenVs.plain rfl))⟩
    all_goals (try rw [ht] at *)
    all_goals (repeat' split) <;> first | rfl | contradiction | (exfalso; omega)
  by_cases hD : 48 ≤ c.toNat ∧ c.toNat ≤ 57
  · have e : tokR (s.drop at0) = (if isNumB ((s.drop at0).take (runF false (s.drop at0))) then 2 else 0, (s.drop at0).take (runF false (s.drop at0))) := by
      unfold tokR; rw [hhd, if_neg (by simpa [isLet] using hL), if_pos (by simpa [isDig] using hD)]
    rw [e]
    simp only
    refine CSem.into Tryz.func194 rfl (by decide) Tryz.ntmps194 rfl rfl rfl ?_
    dsimp only
    repeat' (first
     | refine S0 ?_
     | (refine Se (fn219 (u8lt _) _) ?_ ?_) <;> intro hc <;> try (exfalso; first | omega | (simp at hc; done))
     | (refine Se (fn222 (u8lt _) _) ?_ ?_) <;> intro hc <;> try (exfalso; first | omega | (simp at hc; done))
     | ((with_reducible refine' RO.fn (f := 220) exts_ok ?hw ?ha ?hf ?hs ?hp ?_); (case hw | ha | hf => exact rfl); (case hs => exact sem220 s _ at0 (by omega) hl _); (case hp => exact rfl))
     | ((with_reducible refine' RQ.fn (f := 220) exts_ok ?hw ?ha ?hf ?hs ?hp ?_); (case hw | ha | hf => exact rfl); (case hs => exact sem220 s _ at0 (by omega) hl _); (case hp => exact rfl))
     | (refine Sb (sem223 _ _) ?_ ?_) <;> intro hc
     | (refine S2 ?_ ?_) <;> intro hc <;> try (exfalso; first | omega | (simp at hc; done))
     | refine Sf hc0 ?_
     | refine St ?_
     | fail)
    all_goals refine ⟨rfl, _, rfl, [], ⟨rfl, rfl, rfl, True.intro⟩, RenV.of_eq ?_ (RenV.agg (RenVs.plain rfl))⟩
    all_goals (rw [ht] at hc; rw [hc])
    all_goals first | rfl | (rw [ht]; rfl)
  · have e : tokR (s.drop at0) = (if bestS (s.drop at0) signs [] = [] then 0 else 4, bestS (s.drop at0) signs []) := by
      unfold tokR; rw [hhd, if_neg (by simpa [isLet] using hL), if_neg (by simpa [isDig] using hD)]
    rw [e]
    simp only
    refine CSem.into Tryz.func194 rfl (by decide) Tryz.ntmps194 rfl rfl rfl ?_
    dsimp only
    repeat' (first
     | refine S0 ?_
     | (refine Se (fn219 (u8lt _) _) ?_ ?_) <;> intro hc <;> try (exfalso; first | omega | (simp at hc; done))
     | (refine Se (fn222 (u8lt _) _) ?_ ?_) <;> intro hc <;> try (exfalso; first | omega | (simp at hc; done))
     | refine Sc (sem205 _ _ _) ?_
     | (refine S2 ?_ ?_) <;> intro hc <;> try (exfalso; first | omega | (simp at hc; done))
     | refine Sf hc0 ?_
     | refine St ?_
     | fail)
    refine RS.loop (σ := SB) (fun x => x.i ≤ 22 ∧ bestS (s.drop at0) (signs.drop x.i) x.b = bestS (s.drop at0) signs [] ∧ x.b.length ≤ 2) (fun x => [(0, .str s), (1, .int .i64 (at0 : Int)), (4, .ptr 0 0), (5, .ptr 1 0), (6, .slice 2 0 22 1), (7, .int .i64 (x.i : Int))]) (fun x => sgH (if x.b = [] then 0 else 4) x.b at0) (fun x => 22 - x.i) ⟨0, []⟩ ⟨by simp, rfl, by simp⟩ ⟨[0, 1, 2], ⟨rfl, rfl, rfl, RenO.cells (RenVs.plain rfl), RenO.cells (RenVs.plain rfl), RenO.cells (RenVs.plain (cellsS_plain _)), True.intro⟩, by (repeat' (first | exact True.intro | refine And.intro ?_ ?_ | exact ⟨_, rfl, RenV.plain rfl⟩ | exact ⟨_, rfl, RenV.slice rfl⟩ | exact ⟨_, rfl, RenV.ptr rfl⟩ | exact ⟨_, rfl, RenV.nilslice⟩))⟩ ?round
    rintro ⟨i, b⟩ ⟨hi, hR, hbl⟩
    simp only at hi hR hbl
    refine ⟨_, rfl, ?_⟩
    dsimp only [sgH]
    by_cases hlt : i < 22
    · obtain ⟨x, hx⟩ : ∃ x, signs[i]? = some x := ⟨signs[i]'(by rw [signs_len]; exact hlt), by rw [List.getElem?_eq_getElem]⟩
      have hxm := List.mem_of_getElem? hx
      have hx2 : x.length ≤ 2 := (by decide : ∀ x ∈ signs, x.length ≤ 2) x hxm
      have hxne := signs_ne x hxm
      rw [drop_get' hx, bestS] at hR
      repeat' (first
       | refine S0 ?_
       | ((with_reducible refine' RS.drawE mixed [none, none, none, none, none, none, none, none] ?hn ?hms ?hord ?hh ?_); (case hn => exact rfl); (case hms => exact rfl); (case hord => exact rfl); (case hh => exact rfl))
       | (refine S2 ?_ ?_) <;> intro hc <;> try (exfalso; first | omega | (simp at hc; done))
       | refine Sf hx ?_
       | refine St ?_
       | ((with_reducible refine RD.nil ?_); (refine' RDk.intro ?oks ?hl ?_); (case hl => exact rfl); (case oks => (repeat' (first | exact True.intro | refine And.intro ?_ ?_ | exact rfl | exact OSem.load1 exts_ok rfl rfl rfl rfl | exact OSem.loadN exts_ok rfl rfl rfl rfl | exact OSem.load1 exts_ok rfl rfl rfl (cellsN_one hx rfl) | exact OSem.load1 exts_ok rfl rfl rfl (cellsN_row hx) | exact OSem.load1 exts_ok rfl rfl rfl (cellsI_one hx) | exact OSem.load1 exts_ok rfl rfl rfl (cellsZ_one hx) | exact OSem.load1 exts_ok rfl rfl rfl (cellsS_one hx) | exact OSem.loadN exts_ok rfl rfl rfl (cellsN_one hx rfl) | exact OSem.loadN exts_ok rfl rfl rfl (cellsN_row hx) | exact OSem.loadN exts_ok rfl rfl rfl (cellsI_one hx) | exact OSem.loadN exts_ok rfl rfl rfl (cellsZ_one hx) | exact OSem.loadN exts_ok rfl rfl rfl (cellsS_one hx)))))
       | ((with_reducible refine' RD.skip ?hw ?hp ?_); (case hw => exact rfl); (case hp => exact rfl))
       | ((with_reducible refine' RD.mem ?hw ?hk ?hp ?_); (case hw => exact rfl); (case hk => exact rfl); (case hp => exact rfl))
       | ((with_reducible refine' RD.eff ?hw ?ho ?hp ?_); (case hw => exact rfl); (case ho => exact OSem.skip exts_ok rfl); (case hp => exact rfl))
       | ((with_reducible refine' RD.calm ?hw ?ho ?hp ?_); (case hw => exact rfl); (case ho => exact fun H => OSem.val exts_ok rfl); (case hp => exact rfl))
       | ((with_reducible refine' RD.calm ?hw ?ho ?hp ?_); (case hw => exact rfl); (case ho => exact fun H => OSem.idxL exts_ok rfl rfl rfl rfl rfl rfl (by omega)); (case hp => exact rfl))
       | ((with_reducible refine' RD.read ?hw ?ho ?hp (fun _ => ?_)); (case hw => exact rfl); (case ho => (first | exact OSem.load1 exts_ok rfl rfl rfl rfl | exact OSem.loadN exts_ok rfl rfl rfl rfl | exact OSem.load1 exts_ok rfl rfl rfl (cellsN_one hx rfl) | exact OSem.load1 exts_ok rfl rfl rfl (cellsN_row hx) | exact OSem.load1 exts_ok rfl rfl rfl (cellsI_one hx) | exact OSem.load1 exts_ok rfl rfl rfl (cellsZ_one hx) | exact OSem.load1 exts_ok rfl rfl rfl (cellsS_one hx) | exact OSem.loadN exts_ok rfl rfl rfl (cellsN_one hx rfl) | exact OSem.loadN exts_ok rfl rfl rfl (cellsN_row hx) | exact OSem.loadN exts_ok rfl rfl rfl (cellsI_one hx) | exact OSem.loadN exts_ok rfl rfl rfl (cellsZ_one hx) | exact OSem.loadN exts_ok rfl rfl rfl (cellsS_one hx))); (case hp => exact rfl))
       | fail)
      · have hax : ((s.drop at0).take x.length) = x := by rw [← ht]; exact hc
        rw [if_pos ⟨by omega, hax⟩] at hR
        refine Rnd.n ⟨i + 1, x⟩ [0, 1, 2] ⟨by dsimp only; omega, hR, hx2⟩ (by dsimp only; omega) ⟨rfl, rfl, rfl, RenO.cells (RenVs.plain rfl), RenO.cells (RenVs.eq (by rw [if_neg hxne]; rfl) rfl), RenO.cells (RenVs.plain (cellsS_plain _)), True.intro⟩ ?_
        exact ⟨⟨_, rfl, RenV.plain rfl⟩, ⟨_, rfl, RenV.plain rfl⟩, ⟨_, rfl, RenV.ptr rfl⟩, ⟨_, rfl, RenV.ptr rfl⟩, ⟨_, rfl, RenV.slice rfl⟩, ⟨_, rfl, RenV.eq (by simp) rfl⟩, True.intro⟩
      all_goals
        have hno : ¬ (b.length < x.length ∧ (s.drop at0).take x.length = x) := by
          rintro ⟨q1, q2⟩
          have q3 := congrArg List.length q2
          rw [List.length_take, List.length_drop] at q3
          first
          | omega
          | (rw [← ht] at q2; contradiction)
        rw [if_neg hno] at hR
        refine Rnd.n ⟨i + 1, b⟩ [0, 1, 2] ⟨by dsimp only; omega, hR, hbl⟩ (by dsimp only; omega) ⟨rfl, rfl, rfl, RenO.cells (RenVs.plain rfl), RenO.cells (RenVs.plain rfl), RenO.cells (RenVs.plain (cellsS_plain _)), True.intro⟩ ?_
        exact ⟨⟨_, rfl, RenV.plain rfl⟩, ⟨_, rfl, RenV.plain rfl⟩, ⟨_, rfl, RenV.ptr rfl⟩, ⟨_, rfl, RenV.ptr rfl⟩, ⟨_, rfl, RenV.slice rfl⟩, ⟨_, rfl, RenV.eq (by simp) rfl⟩, True.intro⟩
    · have hie : i = 22 := by omega
      subst hie
      have hR : b = bestS (s.drop at0) signs [] := hR
      rw [← hR]
      repeat' (first
       | refine S0 ?_
       | (refine S2 ?_ ?_) <;> intro hc <;> try (exfalso; first | omega | (simp at hc; done))
       | refine St ?_
       | fail)
      exact ⟨rfl, _, rfl, [], ⟨rfl, rfl, rfl, True.intro⟩, RenV.of_eq rfl (RenV.agg (RenVs.plain rfl))⟩
end Go.Am
namespace Go.Am
open Go Go.Proofs Go.RowKit Go.Pu
set_option maxRecDepth 100000
def hd8 (s : List UInt8) : Nat := (s.head?.getD 0).toNat
def kindR (s : List UInt8) : Nat × Int := if s = [] then (0, 4) else if hd8 s = 32 then (0, 4) else if hd8 s = 10 then (0, 4) else if hd8 s = 37 then (0, 4) else if (tokR s).1 = 0 then (0, 4) else if (tokR s).2 = s then ((tokR s).1, 0) else (0, 4)
theorem u8l (a : UInt8) (n : Nat) (hn : n < 256) : ((a.toNat : Int) = (n : Int)) ↔ a = UInt8.ofNat n := by
  constructor
  · intro h
    refine UInt8.toNat_inj.1 ?_
    rw [UInt8.toNat_ofNat_of_lt' hn]; omega
  · rintro rfl
    rw [UInt8.toNat_ofNat_of_lt' hn]
set_option maxHeartbeats 4000000 in
theorem sem173 (s : List UInt8) (hl : s.length ≤ 1000000) (h : Heap) : CSem Tryz.prog 173 [.str s] h (.tuple [.int .u8 ((kindR s).1 : Int), .int .i64 (kindR s).2]) h := by
  refine CSem.pure ?_ (RenVs.plain rfl) (RenV.tuple (RenVs.plain rfl)) h
  cases s with
  | nil =>
    refine CSem.into Tryz.func173 rfl (by decide) Tryz.ntmps173 rfl rfl rfl ?_
    dsimp only
    repeat' (first
     | refine S0 ?_
     | (refine S2 ?_ ?_) <;> intro hc <;> try (exfalso; first | omega | (simp at hc; done))
     | refine St ?_
     | fail)
    exact ⟨rfl, _, rfl, [], ⟨rfl, rfl, rfl, True.intro⟩, RenV.of_eq rfl (RenV.tuple (RenVs.plain rfl))⟩
  | cons c s =>
    have hc0 : (c :: s)[0]? = some c := rfl
    have tk := fun h => sem194 (c :: s) 0 (by simp) hl h
    rw [List.drop_zero] at tk
    have hh : hd8 (c :: s) = c.toNat := rfl
    refine CSem.into Tryz.func173 rfl (by decide) Tryz.ntmps173 rfl rfl rfl ?_
    dsimp only
    repeat' (first
     | refine S0 ?_
     | refine Sc (tk _) ?_
     | (refine S2 ?_ ?_) <;> intro hc <;> try (exfalso; first | omega | (simp at hc; done))
     | refine Sf hc0 ?_
     | refine St ?_
     | fail)
    all_goals refine ⟨rfl, _, rfl, [], ⟨rfl, rfl, rfl, True.intro⟩, RenV.of_eq ?_ (RenV.tuple (RenVs.plain rfl))⟩
    all_goals unfold kindR
    all_goals rw [hh]
    all_goals (repeat' split) <;> first | rfl | contradiction | (exfalso; omega)
def isNm (s : List UInt8) : Bool := decide (kindR s = (1, 0))
theorem isNm_iff (s : List UInt8) : isNm s = (decide ((kindR s).2 = 0) && decide ((kindR s).1 = 1)) := by
  unfold isNm
  rcases kindR s with ⟨a, b⟩
  rw [Bool.eq_iff_iff]
  simp [and_comm]
def refFields (x : Nd) : Bool := textOk isNm (namedK x.k) x.t && (numK x.k x.n && (decide (0 ≤ x.a) && decide (x.a ≤ 2500)))
set_option maxHeartbeats 4000000 in
theorem sem111 (x : Nd) (hk : x.k < 256) (hl : x.t.length ≤ 1000000) (h : Heap) : CSem Tryz.prog 111 [.agg (rowN x)] h (.bool (refFields x)) h := by
  refine CSem.pure ?_ (RenVs.cons (RenV.agg (RenVs.plain rfl)) RenVs.nil) (RenV.plain rfl) h
  refine CSem.into Tryz.func111 rfl (by decide) Tryz.ntmps111 rfl rfl rfl ?_
  dsimp only [rowN]
  have hnm := isNm_iff x.t
  repeat' (first
   | refine S0 ?_
   | refine Sc (sem173 _ hl _) ?_
   | (refine Sb (fn174 hk _) ?_ ?_) <;> intro hc
   | (refine Se (sem84 _ _ _ _) ?_ ?_) <;> intro hc <;> try (exfalso; first | omega | (simp at hc; done))
   | (refine S2 ?_ ?_) <;> intro hc <;> try (exfalso; first | omega | (simp at hc; done))
   | refine St ?_
   | fail)
  all_goals refine ⟨rfl, _, rfl, [], by (refine ⟨rfl, rfl, rfl, ?_⟩; repeat' (first | exact True.intro | refine And.intro ?_ ?_ | exact RenO.none | exact RenO.cells (RenVs.plain rfl) | exact RenO.ro (RenVs.plain (cellsN_plain _)) | exact RenO.cells (RenVs.plain (cellsN_plain _)) | exact RenO.cells (RenVs.plain (cellsI_plain _)) | exact RenO.cells (RenVs.plain (cellsZ_plain _)) | exact RenO.cells (RenVs.cons (RenV.slice rfl) RenVs.nil) | exact RenO.iter | exact RenO.cells (RenVs.plain (rowN_plain _)))), RenV.eq ?_ rfl⟩
  all_goals
    have k62 : ((x.k : Int) = 62) ↔ x.k = 62 := (by omega)
    have k5 : ((x.k : Int) = 5) ↔ x.k = 5 := (by omega)
    have k46 : ((x.k : Int) = 46) ↔ x.k = 46 := (by omega)
    have k1 : (((kindR x.t).1 : Int) = 1) ↔ (kindR x.t).1 = 1 := (by omega)
    unfold refFields textOk numK
    rw [hnm]
    clear hnm
    simp_all [afinish]
  all_goals omega
end Go.Am
