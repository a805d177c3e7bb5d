/- Part of the proof: WkO. -/
import Derived.Test.YtijdeggmmpfjeaaGreatDoorA9
set_option linter.unusedSimpArgs false
set_option linter.unusedVariables false
set_option linter.unusedSectionVars false
namespace Go.Am
open Go Go.Proofs Go.RowKit Go.Pu
set_option maxRecDepth 100000
def gapF (s : List UInt8) : Nat → Nat → Nat
  | 0, i => i
  | f + 1, i => match s[i]? with
    | some c => if classK c.toNat ∈ [1, 2, 3] then (if classK c.toNat ∈ [3] then gapF s f (commentF s i) else gapF s f (i + 1)) else i
    | none => i
theorem class3 {k : Nat} (h : classK k ∈ [3]) : k = 37 := by
  simp only [List.mem_singleton] at h
  unfold classK at h
  split at h
  · cases h
  · split at h
    · cases h
    · split at h
      · assumption
      · split at h
        · cases h
        · split at h <;> cases h
theorem commentF_gt {s : List UInt8} {i : Nat} {c : UInt8} (hc : s[i]? = some c) (h : classK c.toNat ∈ [3]) : i < commentF s i := by
  have h37 := class3 h
  have hi := (List.getElem?_eq_some_iff.1 hc).1
  unfold commentF
  split
  · rename_i h0
    have : Lib.indexByte (s.drop i) 10 ≠ 0 := by
      rw [drop_get hc, Lib.indexByte]
      have hb : (c == 10) = false := by
        simp only [beq_eq_false_iff_ne, ne_eq]
        rintro rfl
        exact absurd h37 (by decide)
      rw [hb]
      simp only [Bool.false_eq_true, if_false]
      have := Lib.indexByte_ge (s.drop (i + 1)) 10
      split
      · decide
      · rename_i hne
        have : Lib.indexByte (s.drop (i + 1)) 10 ≠ -1 := by simpa using hne
        omega
    omega
  · exact hi
theorem gapF_ge (s : List UInt8) : ∀ f i, i ≤ gapF s f i
  | 0, i => Nat.le_refl _
  | f + 1, i => by
    unfold gapF
    split
    · rename_i c hc
      split
      · split
        · rename_i h3
          have := commentF_gt hc h3
          have := gapF_ge s f (commentF s i)
          omega
        · have := gapF_ge s f (i + 1)
          omega
      · exact Nat.le_refl _
    · exact Nat.le_refl _
structure GS where
  i : Nat
  f : Nat
set_option maxHeartbeats 2000000 in
theorem sem86 (s : List UInt8) (hs : s.length ≤ 1000000) (h : Heap) : CSem Tryz.prog 86 [.str s, .int .i64 0] h (.int .i64 (gapF s (s.length + 1) 0 : Int)) h := by
  refine CSem.pure ?_ (RenVs.plain rfl) (RenV.plain rfl) h
  refine CSem.into Tryz.func86 rfl (by decide) Tryz.ntmps86 rfl rfl rfl ?_
  dsimp only
  repeat' (first
   | refine S0 ?_
   | (refine S2 ?_ ?_) <;> intro hc <;> try (exfalso; first | omega | (simp at hc; done))
   | refine St ?_
   | fail)
  refine RS.loop (σ := GS) (fun g => g.i ≤ s.length ∧ s.length < g.i + g.f ∧ gapF s g.f g.i = gapF s (s.length + 1) 0) (fun g => [(0, .str s), (1, .int .i64 (g.i : Int))]) (fun _ => ⟨.leaf, 0⟩) (fun g => s.length - g.i) ⟨0, s.length + 1⟩ ⟨Nat.zero_le _, by simp, rfl⟩ ⟨[], ⟨rfl, rfl, rfl, True.intro⟩, by (repeat' (first | exact True.intro | refine And.intro ?_ ?_ | exact ⟨_, rfl, RenV.plain rfl⟩ | exact ⟨_, rfl, RenV.slice rfl⟩ | exact ⟨_, rfl, RenV.ptr rfl⟩ | exact ⟨_, rfl, RenV.nilslice⟩))⟩ ?round
  rintro ⟨i, f⟩ ⟨hi, hf, hR⟩
  simp only at hi hf hR
  refine ⟨_, rfl, ?_⟩
  dsimp only
  obtain ⟨f, rfl⟩ : ∃ g, f = g + 1 := ⟨f - 1, by omega⟩
  by_cases hlt : i < s.length
  · obtain ⟨c, hc0⟩ : ∃ c, s[i]? = some c := ⟨s[i], by rw [List.getElem?_eq_getElem]⟩
    rw [gapF, hc0] at hR
    simp only at hR
    by_cases h123 : classK c.toNat ∈ [1, 2, 3]
    · rw [if_pos h123] at hR
      by_cases h3 : classK c.toNat ∈ [3]
      · rw [if_pos h3] at hR
        have hgt := commentF_gt hc0 h3
        have hle := commentF_le s i hi
        repeat' (first
         | refine S0 ?_
         | (((with_reducible refine' RO.fnD (f := 150) exts_ok ?hw ?ha ?hf ?hs ?hT ?hF (fun hc => ?_) (fun hc => ?_)); (case hw | ha | hf => exact rfl); (case hs => exact at150 [1, 2, 3] _ rfl (by decide) rfl rfl); (case hT | hF => exact rfl)) <;> try (exfalso; first | omega | (simp at hc; done)))
         | (((with_reducible refine' RQ.fnD (f := 150) exts_ok ?hw ?ha ?hf ?hs ?hT ?hF (fun hc => ?_) (fun hc => ?_)); (case hw | ha | hf => exact rfl); (case hs => exact at150 [1, 2, 3] _ rfl (by decide) rfl rfl); (case hT | hF => exact rfl)) <;> try (exfalso; first | omega | (simp at hc; done)))
         | (((with_reducible refine' RO.fnD (f := 150) exts_ok ?hw ?ha ?hf ?hs ?hT ?hF (fun hc => ?_) (fun hc => ?_)); (case hw | ha | hf => exact rfl); (case hs => exact at150 [3] _ rfl (by decide) rfl rfl); (case hT | hF => exact rfl)) <;> try (exfalso; first | omega | (simp at hc; done)))
         | (((with_reducible refine' RQ.fnD (f := 150) exts_ok ?hw ?ha ?hf ?hs ?hT ?hF (fun hc => ?_) (fun hc => ?_)); (case hw | ha | hf => exact rfl); (case hs => exact at150 [3] _ rfl (by decide) rfl rfl); (case hT | hF => exact rfl)) <;> try (exfalso; first | omega | (simp at hc; done)))
         | refine Sc (sem151 s i hi hs _) ?_
         | (refine S2 ?_ ?_) <;> intro hc <;> try (exfalso; first | omega | (simp at hc; done))
         | refine Sf hc0 ?_
         | refine St ?_
         | fail)
        all_goals first
          | (exfalso; exact hc h123)
          | (exfalso; exact hc h3)
          | (refine Rnd.n ⟨commentF s i, f⟩ [] ⟨hle, by dsimp only; omega, hR⟩ (by dsimp only; omega) ⟨rfl, rfl, rfl, True.intro⟩ ?_
             exact ⟨⟨_, rfl, RenV.plain rfl⟩, ⟨_, rfl, RenV.plain rfl⟩, True.intro⟩)
      · rw [if_neg h3] at hR
        repeat' (first
         | refine S0 ?_
         | (((with_reducible refine' RO.fnD (f := 150) exts_ok ?hw ?ha ?hf ?hs ?hT ?hF (fun hc => ?_) (fun hc => ?_)); (case hw | ha | hf => exact rfl); (case hs => exact at150 [1, 2, 3] _ rfl (by decide) rfl rfl); (case hT | hF => exact rfl)) <;> try (exfalso; first | omega | (simp at hc; done)))
         | (((with_reducible refine' RQ.fnD (f := 150) exts_ok ?hw ?ha ?hf ?hs ?hT ?hF (fun hc => ?_) (fun hc => ?_)); (case hw | ha | hf => exact rfl); (case hs => exact at150 [1, 2, 3] _ rfl (by decide) rfl rfl); (case hT | hF => exact rfl)) <;> try (exfalso; first | omega | (simp at hc; done)))
         | (((with_reducible refine' RO.fnD (f := 150) exts_ok ?hw ?ha ?hf ?hs ?hT ?hF (fun hc => ?_) (fun hc => ?_)); (case hw | ha | hf => exact rfl); (case hs => exact at150 [3] _ rfl (by decide) rfl rfl); (case hT | hF => exact rfl)) <;> try (exfalso; first | omega | (simp at hc; done)))
         | (((with_reducible refine' RQ.fnD (f := 150) exts_ok ?hw ?ha ?hf ?hs ?hT ?hF (fun hc => ?_) (fun hc => ?_)); (case hw | ha | hf => exact rfl); (case hs => exact at150 [3] _ rfl (by decide) rfl rfl); (case hT | hF => exact rfl)) <;> try (exfalso; first | omega | (simp at hc; done)))
         | refine Sc (sem151 s i hi hs _) ?_
         | (refine S2 ?_ ?_) <;> intro hc <;> try (exfalso; first | omega | (simp at hc; done))
         | refine Sf hc0 ?_
         | refine St ?_
         | fail)
        all_goals first
          | (exfalso; exact hc h123)
          | (exfalso; exact h3 hc)
          | (refine Rnd.n ⟨i + 1, f⟩ [] ⟨by dsimp only; omega, by dsimp only; omega, hR⟩ (by dsimp only; omega) ⟨rfl, rfl, rfl, True.intro⟩ ?_
             exact ⟨⟨_, rfl, RenV.plain rfl⟩, ⟨_, rfl, RenV.eq (by simp) rfl⟩, True.intro⟩)
    · rw [if_neg h123] at hR
      rw [← hR]
      repeat' (first
       | refine S0 ?_
       | (((with_reducible refine' RO.fnD (f := 150) exts_ok ?hw ?ha ?hf ?hs ?hT ?hF (fun hc => ?_) (fun hc => ?_)); (case hw | ha | hf => exact rfl); (case hs => exact at150 [1, 2, 3] _ rfl (by decide) rfl rfl); (case hT | hF => exact rfl)) <;> try (exfalso; first | omega | (simp at hc; done)))
       | (((with_reducible refine' RQ.fnD (f := 150) exts_ok ?hw ?ha ?hf ?hs ?hT ?hF (fun hc => ?_) (fun hc => ?_)); (case hw | ha | hf => exact rfl); (case hs => exact at150 [1, 2, 3] _ rfl (by decide) rfl rfl); (case hT | hF => exact rfl)) <;> try (exfalso; first | omega | (simp at hc; done)))
       | (refine S2 ?_ ?_) <;> intro hc <;> try (exfalso; first | omega | (simp at hc; done))
       | refine Sf hc0 ?_
       | refine St ?_
       | fail)
      all_goals first
        | (exfalso; exact h123 hc)
        | exact ⟨rfl, _, rfl, [], ⟨rfl, rfl, rfl, True.intro⟩, RenV.plain rfl⟩
  · have hie : i = s.length := by omega
    subst hie
    rw [gapF, List.getElem?_eq_none (Nat.le_refl _)] at hR
    simp only at hR
    rw [← hR]
    repeat' (first
     | refine S0 ?_
     | (refine S2 ?_ ?_) <;> intro hc <;> try (exfalso; first | omega | (simp at hc; done))
     | refine St ?_
     | fail)
    exact ⟨rfl, _, rfl, [], ⟨rfl, rfl, rfl, True.intro⟩, RenV.plain rfl⟩
set_option maxHeartbeats 2000000 in
theorem sem231 (s x : List UInt8) (h : Heap) : CSem Tryz.prog 231 [.str s, .str x] h (.bool (decide (x.length ≤ s.length ∧ s.take x.length = x))) h := by
  refine CSem.pure ?_ (RenVs.plain rfl) (RenV.plain rfl) h
  refine CSem.into Tryz.func231 rfl (by decide) Tryz.ntmps231 rfl rfl rfl ?_
  dsimp only
  repeat' (first
   | refine S0 ?_
   | (refine S2 ?_ ?_) <;> intro hc <;> try (exfalso; first | omega | (simp at hc; done))
   | refine St ?_
   | fail)
  · rw [decide_eq_true ⟨by omega, by simpa using hc⟩]
    exact ⟨rfl, _, rfl, [], ⟨rfl, rfl, rfl, True.intro⟩, RenV.plain rfl⟩
  · rw [decide_eq_false (fun h => hc (by simpa using h.2))]
    exact ⟨rfl, _, rfl, [], ⟨rfl, rfl, rfl, True.intro⟩, RenV.plain rfl⟩
  · rw [decide_eq_false (fun h => hc (by have := h.1; omega))]
    exact ⟨rfl, _, rfl, [], ⟨rfl, rfl, rfl, True.intro⟩, RenV.plain rfl⟩
theorem sem206 (s x : List UInt8) (h : Heap) : CSem Tryz.prog 206 [.str s, .str x] h (.bool (decide (x.length ≤ s.length ∧ s.take x.length = x))) h := by
  refine CSem.pure ?_ (RenVs.plain rfl) (RenV.plain rfl) h
  refine CSem.into Tryz.func206 rfl (by decide) Tryz.ntmps206 rfl rfl rfl ?_
  dsimp only
  repeat' (first
   | refine S0 ?_
   | refine Sc (sem231 _ _ _) ?_
   | (refine S2 ?_ ?_) <;> intro hc <;> try (exfalso; first | omega | (simp at hc; done))
   | refine St ?_
   | fail)
  exact ⟨rfl, _, rfl, [], ⟨rfl, rfl, rfl, True.intro⟩, RenV.plain rfl⟩
def sgnH : Heap := ⟨.node (some (.cells 9 1 (cellsS signs) true)) .leaf .leaf, 1⟩
set_option maxHeartbeats 2000000 in
theorem sem156 (r : List UInt8) (h : Heap) : CSem Tryz.prog 156 [.str r] h (.str (bestS r signs [])) h := by
  refine CSem.pure ?_ (RenVs.plain rfl) (RenV.plain rfl) h
  refine CSem.into Tryz.func156 rfl (by decide) Tryz.ntmps156 rfl rfl rfl ?_
  dsimp only
  repeat' (first
   | refine S0 ?_
   | refine Sc (sem205 _ _ _) ?_
   | (refine S2 ?_ ?_) <;> intro hc <;> try (exfalso; first | omega | (simp at hc; done))
   | refine St ?_
   | fail)
  refine RS.loop (σ := SB) (fun x => x.i ≤ 22 ∧ bestS r (signs.drop x.i) x.b = bestS r signs []) (fun x => [(0, .str r), (2, .str x.b), (5, .slice 0 0 22 1), (6, .int .i64 22), (7, .int .i64 (x.i : Int))]) (fun _ => sgnH) (fun x => 22 - x.i) ⟨0, []⟩ ⟨by simp, rfl⟩ ⟨[0], ⟨rfl, rfl, rfl, RenO.cells (RenVs.plain (cellsS_plain _)), True.intro⟩, by (repeat' (first | exact True.intro | refine And.intro ?_ ?_ | exact ⟨_, rfl, RenV.plain rfl⟩ | exact ⟨_, rfl, RenV.slice rfl⟩ | exact ⟨_, rfl, RenV.ptr rfl⟩ | exact ⟨_, rfl, RenV.nilslice⟩))⟩ ?round
  rintro ⟨i, b⟩ ⟨hi, hR⟩
  simp only at hi hR
  refine ⟨_, rfl, ?_⟩
  dsimp only [sgnH]
  by_cases hlt : i < 22
  · obtain ⟨x, hx⟩ : ∃ x, signs[i]? = some x := ⟨signs[i]'(by rw [signs_len]; exact hlt), by rw [List.getElem?_eq_getElem]⟩
    rw [drop_get' hx, bestS] at hR
    repeat' (first
     | refine S0 ?_
     | (refine Se (sem206 _ _ _) ?_ ?_) <;> intro hc <;> try (exfalso; first | omega | (simp at hc; done))
     | (refine S2 ?_ ?_) <;> intro hc <;> try (exfalso; first | omega | (simp at hc; done))
     | refine Sf hx ?_
     | refine St ?_
     | fail)
    all_goals first
      | (rw [if_pos ⟨by omega, by assumption⟩] at hR
         refine Rnd.n ⟨i + 1, x⟩ [0] ⟨by dsimp only; omega, hR⟩ (by dsimp only; omega) ⟨rfl, rfl, rfl, RenO.cells (RenVs.plain (cellsS_plain _)), True.intro⟩ ?_
         exact ⟨⟨_, rfl, RenV.plain rfl⟩, ⟨_, rfl, RenV.plain rfl⟩, ⟨_, rfl, RenV.slice rfl⟩, ⟨_, rfl, RenV.plain rfl⟩, ⟨_, rfl, RenV.eq (by simp) rfl⟩, True.intro⟩)
      | (obtain ⟨q1, q2⟩ := (by assumption : x.length ≤ r.length ∧ r.take x.length = x)
         rw [if_pos ⟨by omega, q2⟩] at hR
         refine Rnd.n ⟨i + 1, x⟩ [0] ⟨by dsimp only; omega, hR⟩ (by dsimp only; omega) ⟨rfl, rfl, rfl, RenO.cells (RenVs.plain (cellsS_plain _)), True.intro⟩ ?_
         exact ⟨⟨_, rfl, RenV.plain rfl⟩, ⟨_, rfl, RenV.plain rfl⟩, ⟨_, rfl, RenV.slice rfl⟩, ⟨_, rfl, RenV.plain rfl⟩, ⟨_, rfl, RenV.eq (by simp) rfl⟩, True.intro⟩)
      | (rw [if_neg (by
           rintro ⟨q1, q2⟩
           have q3 := congrArg List.length q2
           rw [List.length_take] at q3
           first
           | omega
           | (exact hc ⟨by omega, q2⟩))] at hR
         refine Rnd.n ⟨i + 1, b⟩ [0] ⟨by dsimp only; omega, hR⟩ (by dsimp only; omega) ⟨rfl, rfl, rfl, RenO.cells (RenVs.plain (cellsS_plain _)), True.intro⟩ ?_
         exact ⟨⟨_, rfl, RenV.plain rfl⟩, ⟨_, rfl, RenV.plain rfl⟩, ⟨_, rfl, RenV.slice rfl⟩, ⟨_, rfl, RenV.plain rfl⟩, ⟨_, rfl, RenV.eq (by simp) rfl⟩, True.intro⟩)
  · have hie : i = 22 := by omega
    subst hie
    have hR : b = bestS r signs [] := hR
    rw [← hR]
    repeat' (first
     | refine S0 ?_
     | (refine S2 ?_ ?_) <;> intro hc <;> try (exfalso; first | omega | (simp at hc; done))
     | refine St ?_
     | fail)
    exact ⟨rfl, _, rfl, [], ⟨rfl, rfl, rfl, True.intro⟩, RenV.plain rfl⟩
theorem concE_any {M M' : Map} {es : List (AV × AV)} {l : List MapEntry} (h1 : concs M (es.map Prod.fst) = concs M' (es.map Prod.fst)) (h2 : concs M (es.map Prod.snd) = concs M' (es.map Prod.snd)) (h : concE M es l) : concE M' es l := by
  rw [concE_iff] at h ⊢
  rw [← h1, ← h2]
  exact h
theorem CSem.newMap {P : Program} {K : CallK} (hK : CallOk P K) {f : FuncId} {i0 : Nat} {h1 : Heap} (he : K f [] ⟨.leaf, 0⟩ = some (.map i0, h1)) {es : List (AV × AV)} (ho : h1.objs.get i0 = some (.map es)) (p1 : ∀ M M' : Map, concs M (es.map Prod.fst) = concs M' (es.map Prod.fst)) (p2 : ∀ M M' : Map, concs M (es.map Prod.snd) = concs M' (es.map Prod.snd))
    {h h' : Heap} {j : Nat} (hadd : h.add (.map es) = some (j, h')) : CSem P f [] h (.map j) h' := by
  intro B w0 M w r cargs hc
  rw [concs_nil] at hc
  subst hc
  refine (map_calls hK he ho w r.known).mono ?_
  rintro e w' ⟨bm, ents, clock, M1, rfl, hb, hge, hce, hborn, bel⟩
  have ra := r.after bel
  have hB : B ≤ w.heap.size := Nat.le_trans r.base.1 r.below.size
  have hlt : bm < w'.heap.size := (Array.getElem?_eq_some_iff.1 hb).1
  obtain ⟨g, r'⟩ := ra.adopt hadd (b := bm) (cap := 0) (by omega) hlt (fun k p hk e => by
    have := (r.obj k p hk).2.1
    omega) ⟨ents, clock, by rw [hb], concE_any (p1 M1 M) (p2 M1 M) hce, hborn⟩
  exact ⟨_, _, g, rfl, by simp [conc, Map.put_self], r'⟩
def isMapE (o : Option (AV × Heap)) (es : List (AV × AV)) : Bool :=
  match o with
  | some (.map i, h) => match h.objs.get i with
    | some (.map es') => veqs (es'.map Prod.fst) (es.map Prod.fst) && veqL (es'.map Prod.snd) (es.map Prod.snd)
    | _ => false
  | _ => false
theorem isMapE_eq {o : Option (AV × Heap)} {es : List (AV × AV)} (h : isMapE o es = true) : ∃ i h1, o = some (.map i, h1) ∧ h1.objs.get i = some (.map es) := by
  unfold isMapE at h
  split at h
  · rename_i i h1
    split at h
    · rename_i es' he
      simp only [Bool.and_eq_true] at h
      have e1 := veqs_eq h.1
      have e2 := veqL_eq h.2
      refine ⟨i, h1, rfl, ?_⟩
      rw [he]
      congr 2
      have : ∀ (a b : List (AV × AV)), a.map Prod.fst = b.map Prod.fst → a.map Prod.snd = b.map Prod.snd → a = b := by
        intro a
        induction a with
        | nil => intro b h1 _; cases b with
          | nil => rfl
          | cons x b => simp at h1
        | cons x a ih => intro b h1 h2; cases b with
          | nil => simp at h1
          | cons y b =>
            simp only [List.map_cons, List.cons.injEq] at h1 h2
            rw [ih b h1.2 h2.2]
            congr 1
            exact Prod.ext h1.1 h2.1
      exact this _ _ e1 e2
    · cases h
  · cases h
def kwP (w : List UInt8) : AV × AV := (.str w, .bool true)
def kwE : List (AV × AV) := kws.map kwP
theorem ev_keywords : isMapE (acall Tryz.prog exts noO 100 154 [] ⟨.leaf, 0⟩) kwE = true := by decide +kernel
theorem sem154 {h h' : Heap} {j : Nat} (hadd : h.add (.map kwE) = some (j, h')) : CSem Tryz.prog 154 [] h (.map j) h' := by
  obtain ⟨i, h1, e1, e2⟩ := isMapE_eq ev_keywords
  exact CSem.newMap (acall_ok 100) e1 e2 (fun _ _ => plains_concs (by decide +kernel)) (fun _ _ => plains_concs (by decide +kernel)) hadd
theorem afind_set (s : List UInt8) : ∀ (l : List (List UInt8)) (i : Nat), (s ∈ l → ∃ j, afind .string (.str s) (l.map kwP) i = some (some (j, .bool true))) ∧ (s ∉ l → afind .string (.str s) (l.map kwP) i = some none)
  | [], i => ⟨fun h => (by cases h), fun _ => rfl⟩
  | x :: l, i => by
    have ih := afind_set s l (i + 1)
    by_cases e : s = x
    · subst e
      refine ⟨fun _ => ⟨i, ?_⟩, fun h => absurd (List.mem_cons_self ..) h⟩
      simp [afind, kwP, akey, lbeq_iff]
    · constructor
      · intro h
        have : s ∈ l := by simpa [e] using h
        obtain ⟨j, hj⟩ := ih.1 this
        refine ⟨j, ?_⟩
        rw [← hj]
        simp [afind, kwP, akey, lbeq_iff, e]
      · intro h
        have : s ∉ l := fun h' => h (List.mem_cons_of_mem _ h')
        rw [← ih.2 this]
        simp [afind, kwP, akey, lbeq_iff, e]
theorem OSem.lookupS {P : Program} {ext : FuncId → Bool} (hext : ExtOk P ext) {d : Option Tmp} {ty : TypeId} {pos : String} {af : Array Edge} {gd : Option (Nat × Bool)} {g : Ev} {h : Heap} {t kt et : TypeId} {x y : Operand} {i : Nat} {s : List UInt8} {l : List (List UInt8)} (hx : g x = some (.map i)) (hy : g y = some (.str s)) (ht : P.underlying t = some (.map kt et)) (hk : P.underlying kt = some .string) (hg : h.objs.get i = some (.map (l.map kwP))) (hz : azero P et = some (.bool false)) :
    OSem P ⟨d, .lookup t x y false, ty, pos, af, gd⟩ g h (.bool (decide (s ∈ l))) h := by
  refine OSem.val hext ?_
  have h0 : alookup P h t (.map i) (.str s) false = some (.bool (decide (s ∈ l))) := by
    by_cases hm : s ∈ l
    · obtain ⟨j, hj⟩ := (afind_set s l 0).1 hm
      simp [alookup, ht, hk, hg, hj, keyKind, hm]
    · have hj := (afind_set s l 0).2 hm
      simp [alookup, ht, hk, hg, hj, keyKind, hm, hz]
  simp only [aop, b1, hx, hy, h0, aval]
end Go.Am
