/- Part of the proof: PuSize, PuForm, PuTree. -/
set_option linter.unusedSimpArgs false
set_option linter.unusedVariables false
set_option linter.unusedSectionVars false
namespace Go.Pu
structure Lam (S : List Int) : Prop where
  rng : ∀ (i : Nat) (s : Int), S[i]? = some s → 1 ≤ s ∧ (i : Int) + s ≤ S.length
  lam : ∀ (i j : Nat) (s s' : Int), i < j → S[i]? = some s → S[j]? = some s' → (j : Int) < i + s → (j : Int) + s' ≤ i + s
def pops (i : Int) : List Int → List Int
  | e :: st => if e = i then pops i st else e :: st
  | [] => []
def top? (st : List Int) (x : Int) : Bool :=
  match st with
  | e :: _ => decide (e < x)
  | [] => false
def areSz (n : Int) : List Int → Nat → List Int → Bool
  | [], _, _ => true
  | s :: l, i, st => if s < 1 ∨ n - i < s ∨ top? (pops i st) (i + s) = true then false else areSz n l (i + 1) ((i + s) :: pops i st)
def dep : List Int → Nat → List Int → Int → Int
  | [], _, _, m => m
  | s :: l, i, st, m => dep l (i + 1) ((i + s) :: pops i st) (max m ((pops i st).length + 1))
def endAt (S : List Int) (j : Nat) : Int := (j : Int) + (S[j]?).getD 0
def opened (S : List Int) (i : Nat) (x : Int) : List Int := (((List.range i).filter fun j => decide (x < endAt S j)).reverse).map (endAt S)
theorem pops_sorted {i : Int} : ∀ {st : List Int}, st.Pairwise (· ≤ ·) → (∀ e ∈ st, i ≤ e) → pops i st = st.filter (fun e => decide (i < e))
  | [], _, _ => rfl
  | e :: st, hp, hm => by
    have hp' := List.pairwise_cons.1 hp
    have he := hm e (List.mem_cons_self ..)
    unfold pops
    split
    · rename_i h
      rw [pops_sorted hp'.2 fun x hx => hm x (List.mem_cons_of_mem _ hx), List.filter_cons_of_neg (by simp; omega)]
    · rename_i h
      have : i < e := by omega
      rw [List.filter_cons_of_pos (by simpa using this), List.filter_eq_self.2]
      intro x hx
      have := hp'.1 x hx
      simp
      omega
theorem opened_filter (S : List Int) (i : Nat) (x y : Int) (h : x ≤ y) : (opened S i x).filter (fun e => decide (y < e)) = opened S i y := by
  unfold opened
  rw [List.filter_map, List.filter_reverse, List.filter_filter]
  congr 3
  funext j
  simp only [Function.comp]
  by_cases h1 : y < endAt S j
  · have : x < endAt S j := by omega
    simp [h1, this]
  · simp [h1]
theorem opened_succ (S : List Int) (i : Nat) (x : Int) (h : x < endAt S i) : opened S (i + 1) x = endAt S i :: opened S i x := by
  unfold opened
  rw [List.range_succ, List.filter_append]
  simp [h]
theorem endAt_get {S : List Int} {j : Nat} {s : Int} (h : S[j]? = some s) : endAt S j = j + s := by simp [endAt, h]
structure Good (S : List Int) (i : Nat) : Prop where
  rng : ∀ j s, j < i → S[j]? = some s → 1 ≤ s ∧ (j : Int) + s ≤ S.length
  lam : ∀ k j s s', k < j → j < i → S[k]? = some s → S[j]? = some s' → (j : Int) < k + s → (j : Int) + s' ≤ k + s
theorem opened_sorted {S : List Int} {i : Nat} (hi : i ≤ S.length) (g : Good S i) : ∀ x : Int, (i : Int) - 1 ≤ x → (opened S i x).Pairwise (· ≤ ·) := by
  intro x hx
  unfold opened
  rw [List.pairwise_map, List.pairwise_reverse]
  have : ((List.range i).filter fun j => decide (x < endAt S j)).Pairwise (· < ·) := List.Pairwise.filter _ List.pairwise_lt_range
  refine List.Pairwise.imp_of_mem ?_ this
  intro k j hk hj hkj
  simp only [List.mem_filter, List.mem_range, decide_eq_true_eq] at hk hj
  obtain ⟨s, hs⟩ : ∃ s, S[k]? = some s := ⟨S[k], by rw [List.getElem?_eq_getElem]⟩
  obtain ⟨s', hs'⟩ : ∃ s', S[j]? = some s' := ⟨S[j], by rw [List.getElem?_eq_getElem]⟩
  rw [endAt_get hs, endAt_get hs'] at *
  have := g.lam k j s s' hkj hj.1 hs hs' (by omega)
  omega
theorem opened_mem {S : List Int} {i : Nat} {x e : Int} : e ∈ opened S i x ↔ ∃ j, j < i ∧ x < endAt S j ∧ e = endAt S j := by
  unfold opened
  simp only [List.mem_map, List.mem_reverse, List.mem_filter, List.mem_range, decide_eq_true_eq]
  constructor
  · rintro ⟨j, ⟨h1, h2⟩, rfl⟩; exact ⟨j, h1, h2, rfl⟩
  · rintro ⟨j, h1, h2, rfl⟩; exact ⟨j, ⟨h1, h2⟩, rfl⟩
theorem pops_opened {S : List Int} {i : Nat} (hi : i ≤ S.length) (g : Good S i) : pops i (opened S i (i - 1)) = opened S i i := by
  rw [pops_sorted (opened_sorted hi g _ (Int.le_refl _)), opened_filter _ _ _ _ (by omega)]
  intro e he
  obtain ⟨j, _, h, rfl⟩ := opened_mem.1 he
  omega
theorem Good.step {S : List Int} {i : Nat} {s : Int} (hs : S[i]? = some s) (g : Good S i) (h1 : 1 ≤ s) (h2 : (i : Int) + s ≤ S.length) (h3 : top? (opened S i i) (i + s) = false) : Good S (i + 1) := by
  have hi : i < S.length := (List.getElem?_eq_some_iff.1 hs).1
  refine ⟨fun j t hj ht => ?_, fun k j t t' hkj hj ht ht' hin => ?_⟩
  · by_cases e : j = i
    · subst e; rw [hs] at ht; simp only [Option.some.injEq] at ht; subst ht; exact ⟨h1, h2⟩
    · exact g.rng j t (by omega) ht
  · by_cases e : j = i
    · subst e
      rw [hs] at ht'
      simp only [Option.some.injEq] at ht'
      subst ht'
      have hmem : endAt S k ∈ opened S j j := opened_mem.2 ⟨k, by omega, by rw [endAt_get ht]; omega, rfl⟩
      have hsorted := opened_sorted (by omega) g (j : Int) (by omega)
      rw [endAt_get ht] at hmem
      cases ho : opened S j j with
      | nil => rw [ho] at hmem; cases hmem
      | cons e st =>
        rw [ho] at hmem hsorted h3
        simp only [top?, decide_eq_false_iff_not] at h3
        rcases List.mem_cons.1 hmem with h | h
        · omega
        · have := (List.pairwise_cons.1 hsorted).1 _ h
          omega
    · exact g.lam k j t t' hkj (by omega) ht ht' hin
theorem top_bad {S : List Int} {i : Nat} {s : Int} (hs : S[i]? = some s) (h3 : top? (opened S i i) (i + s) = true) : ¬ Lam S := by
  intro hl
  cases ho : opened S i i with
  | nil => rw [ho] at h3; cases h3
  | cons e st =>
    rw [ho] at h3
    simp only [top?, decide_eq_true_eq] at h3
    obtain ⟨j, h1, h2, rfl⟩ := opened_mem.1 (show e ∈ opened S i i by rw [ho]; exact List.mem_cons_self ..)
    have hi : i < S.length := (List.getElem?_eq_some_iff.1 hs).1
    obtain ⟨t, ht⟩ : ∃ t, S[j]? = some t := ⟨S[j], by rw [List.getElem?_eq_getElem]⟩
    rw [endAt_get ht] at h2 h3
    have := hl.lam j i t s h1 ht hs h2
    omega
theorem areSz_iff {S : List Int} : ∀ (l : List Int) (i : Nat), (∀ j, l[j]? = S[i + j]?) → i + l.length = S.length → Good S i → (areSz S.length l i (opened S i (i - 1)) = true ↔ Lam S)
  | [], i, _, hn, g => by
    simp only [areSz, true_iff]
    simp only [List.length_nil, Nat.add_zero] at hn
    refine ⟨fun j s h => g.rng j s ?_ h, fun k j s s' hkj h h' hin => g.lam k j s s' hkj ?_ h h' hin⟩
    · have := (List.getElem?_eq_some_iff.1 h).1; omega
    · have := (List.getElem?_eq_some_iff.1 h').1; omega
  | s :: l, i, hl, hn, g => by
    have hs : S[i]? = some s := by simpa using (hl 0).symm
    have hi : i < S.length := (List.getElem?_eq_some_iff.1 hs).1
    unfold areSz
    rw [pops_opened (by omega) g]
    split
    · rename_i h
      simp only [Bool.false_eq_true, false_iff]
      rcases h with h | h | h
      · intro hl; have := hl.rng i s hs; omega
      · intro hl; have := hl.rng i s hs; omega
      · exact top_bad hs h
    · rename_i h
      simp only [not_or] at h
      have g' := g.step hs (by omega) (by omega) (by simpa using h.2.2)
      have he : ((i : Int) + s) :: opened S i i = opened S (i + 1) ((i + 1 : Nat) - 1) := by
        rw [show ((i + 1 : Nat) : Int) - 1 = i by omega, opened_succ _ _ _ (by rw [endAt_get hs]; omega), endAt_get hs]
      rw [he]
      refine areSz_iff l (i + 1) (fun j => ?_) (by simp only [List.length_cons] at hn; omega) g'
      have := hl (j + 1)
      rw [show i + 1 + j = i + (j + 1) by omega, ← this]
      simp
theorem Good.zero (S : List Int) : Good S 0 := ⟨fun _ _ h => by omega, fun _ _ _ _ _ h => by omega⟩
theorem areSz_Lam (S : List Int) : areSz S.length S 0 [] = true ↔ Lam S := by
  have := areSz_iff (S := S) S 0 (by simp) (by simp) (Good.zero S)
  exact this
def deepAt (S : List Int) (i : Nat) : Nat := ((List.range (i + 1)).filter fun k => decide ((i : Int) < endAt S k)).length
def deepFrom (S : List Int) : Nat → Nat → Int → Int
  | 0, _, m => m
  | f + 1, i, m => deepFrom S f (i + 1) (max m (deepAt S i))
theorem Lam.good {S : List Int} (h : Lam S) (i : Nat) : Good S i := ⟨fun j s _ => h.rng j s, fun k j s s' hkj _ => h.lam k j s s' hkj⟩
theorem dep_eq {S : List Int} (h : Lam S) : ∀ (l : List Int) (i : Nat) (m : Int), (∀ j, l[j]? = S[i + j]?) → dep l i (opened S i (i - 1)) m = deepFrom S l.length i m
  | [], _, _, _ => rfl
  | s :: l, i, m, hl => by
    have hs : S[i]? = some s := by simpa using (hl 0).symm
    have hi : i < S.length := (List.getElem?_eq_some_iff.1 hs).1
    unfold dep
    rw [pops_opened (by omega) (h.good i)]
    have hr := h.rng i s hs
    have he : ((i : Int) + s) :: opened S i i = opened S (i + 1) ((i + 1 : Nat) - 1) := by
      rw [show ((i + 1 : Nat) : Int) - 1 = i by omega, opened_succ _ _ _ (by rw [endAt_get hs]; omega), endAt_get hs]
    have hd : ((opened S i i).length : Int) + 1 = deepAt S i := by
      have : (opened S (i + 1) i).length = deepAt S i := by simp [opened, deepAt]
      rw [← this, opened_succ _ _ _ (by rw [endAt_get hs]; omega)]
      simp
    rw [he, hd, List.length_cons]
    unfold deepFrom
    refine dep_eq h l (i + 1) _ fun j => ?_
    have := hl (j + 1)
    rw [show i + 1 + j = i + (j + 1) by omega, ← this]
    simp
def kidsF (S : List Int) : Nat → Nat → Int → List Nat
  | 0, _, _ => []
  | f + 1, k, e => if (k : Int) < e then k :: kidsF S f (k + ((S[k]?).getD 0).toNat) e else []
def rkF (S : List Int) : Nat → Nat → Int → Option (List Nat)
  | 0, _, _ => some []
  | f + 1, k, e => if (k : Int) < e then
      if 1 ≤ (S[k]?).getD 0 ∧ (S[k]?).getD 0 ≤ e - k then (rkF S f (k + ((S[k]?).getD 0).toNat) e).map (k :: ·) else none
    else some []
def kidsOf (S : List Int) (i : Nat) : List Nat := kidsF S S.length (i + 1) (i + (S[i]?).getD 0)
def rkOf (S : List Int) (i : Nat) : Option (List Nat) :=
  if 1 ≤ (S[i]?).getD 0 ∧ (S[i]?).getD 0 ≤ (S.length : Int) - i then rkF S S.length (i + 1) (i + (S[i]?).getD 0) else none
theorem rkF_lam {S : List Int} (h : Lam S) {i : Nat} {s : Int} (hs : S[i]? = some s) : ∀ (f k : Nat), i < k → rkF S f k (i + s) = some (kidsF S f k (i + s))
  | 0, _, _ => rfl
  | f + 1, k, hk => by
    unfold rkF kidsF
    split
    · rename_i hlt
      have hr := h.rng i s hs
      obtain ⟨t, ht⟩ : ∃ t, S[k]? = some t := ⟨S[k]'(by omega), by rw [List.getElem?_eq_getElem]⟩
      have h1 := h.rng k t ht
      have h2 := h.lam i k s t hk hs ht hlt
      simp only [ht, Option.getD_some]
      rw [if_pos ⟨h1.1, by omega⟩, rkF_lam h hs f _ (by omega)]
      rfl
    · rfl
theorem rkOf_lam {S : List Int} (h : Lam S) {i : Nat} (hi : i < S.length) : rkOf S i = some (kidsOf S i) := by
  obtain ⟨s, hs⟩ : ∃ s, S[i]? = some s := ⟨S[i], by rw [List.getElem?_eq_getElem]⟩
  have := h.rng i s hs
  unfold rkOf kidsOf
  simp only [hs, Option.getD_some]
  rw [if_pos ⟨this.1, by omega⟩, rkF_lam h hs _ _ (by omega)]
theorem rkF_cover {S : List Int} {e : Int} : ∀ (f k : Nat) (l : List Nat), e - k ≤ f → rkF S f k e = some l → ∀ j : Nat, k ≤ j → (j : Int) < e → ∃ k' t, k' ≤ j ∧ k ≤ k' ∧ S[k']? = some t ∧ (j : Int) < k' + t ∧ (k' : Int) + t ≤ e ∧ 1 ≤ t
  | 0, k, l, hf, _, j, h1, h2 => by omega
  | f + 1, k, l, hf, h, j, h1, h2 => by
    unfold rkF at h
    rw [if_pos (by omega)] at h
    split at h
    · rename_i hc
      simp only [Option.map_eq_some_iff] at h
      obtain ⟨l', h', _⟩ := h
      cases ht : S[k]? with
      | none => simp [ht] at hc
      | some t =>
        simp only [ht, Option.getD_some] at hc h'
        by_cases hj : (j : Int) < k + t
        · exact ⟨k, t, h1, Nat.le_refl _, ht, hj, by omega, hc.1⟩
        · obtain ⟨k', t', a1, a2, a3⟩ := rkF_cover f (k + t.toNat) l' (by omega) h' j (by omega) h2
          exact ⟨k', t', a1, by omega, a3⟩
    · cases h
theorem Lam_of_rk {S : List Int} (h : ∀ i, i < S.length → rkOf S i ≠ none) : Lam S := by
  have rng : ∀ (i : Nat) (s : Int), S[i]? = some s → 1 ≤ s ∧ (i : Int) + s ≤ S.length := by
    intro i s hs
    have hi : i < S.length := (List.getElem?_eq_some_iff.1 hs).1
    have := h i hi
    unfold rkOf at this
    simp only [hs, Option.getD_some] at this
    split at this
    · rename_i hc; omega
    · exact absurd rfl this
  refine ⟨rng, ?_⟩
  have main : ∀ (d : Nat) (i j : Nat) (s s' : Int), s ≤ d → i < j → S[i]? = some s → S[j]? = some s' → (j : Int) < i + s → (j : Int) + s' ≤ i + s := by
    intro d
    induction d with
    | zero => intro i j s s' hd _ hs; have := rng i s hs; omega
    | succ d ih =>
      intro i j s s' hd hij hs hs' hin
      have hi : i < S.length := (List.getElem?_eq_some_iff.1 hs).1
      have hr := rng i s hs
      have := h i hi
      unfold rkOf at this
      simp only [hs, Option.getD_some] at this
      rw [if_pos ⟨hr.1, by omega⟩] at this
      obtain ⟨l, hl⟩ := Option.ne_none_iff_exists'.1 this
      obtain ⟨k', t, a1, a2, a3, a4, a5, a6⟩ := rkF_cover S.length (i + 1) l (by omega) hl j (by omega) hin
      by_cases e : k' = j
      · subst e
        rw [hs'] at a3
        simp only [Option.some.injEq] at a3
        subst a3
        omega
      · have := ih k' j t s' (by omega) (by omega) a3 hs' a4
        omega
  intro i j s s' hij hs hs' hin
  have := rng i s hs
  exact main s.toNat i j s s' (by omega) hij hs hs' hin
theorem kidsF_cover {S : List Int} (h : Lam S) {i : Nat} {s : Int} (hs : S[i]? = some s) : ∀ (f k : Nat), i < k → (i : Int) + s - k ≤ f → ∀ j : Nat, k ≤ j → (j : Int) < i + s → ∃ k' t, k' ∈ kidsF S f k (i + s) ∧ k' ≤ j ∧ S[k']? = some t ∧ (j : Int) < k' + t
  | 0, k, _, hf, j, h1, h2 => by omega
  | f + 1, k, hk, hf, j, h1, h2 => by
    unfold kidsF
    rw [if_pos (by omega)]
    have hr := h.rng i s hs
    obtain ⟨t, ht⟩ : ∃ t, S[k]? = some t := ⟨S[k]'(by omega), by rw [List.getElem?_eq_getElem]⟩
    have h3 := h.rng k t ht
    simp only [ht, Option.getD_some]
    by_cases hj : (j : Int) < k + t
    · exact ⟨k, t, List.mem_cons_self .., h1, ht, hj⟩
    · obtain ⟨k', t', a1, a2, a3⟩ := kidsF_cover h hs f (k + t.toNat) (by omega) (by omega) j (by omega) h2
      exact ⟨k', t', List.mem_cons_of_mem _ a1, a2, a3⟩
theorem has_parent {S : List Int} (h : Lam S) (h0 : S[0]? = some (S.length : Int)) {j : Nat} (hj : j < S.length) (hj0 : 0 < j) : ∃ i, i < S.length ∧ j ∈ kidsOf S i := by
  have main : ∀ (d i : Nat) (s : Int), s ≤ d → S[i]? = some s → i < j → (j : Int) < i + s → ∃ i, i < S.length ∧ j ∈ kidsOf S i := by
    intro d
    induction d with
    | zero => intro i s hd hs; have := h.rng i s hs; omega
    | succ d ih =>
      intro i s hd hs hij hin
      have hi : i < S.length := (List.getElem?_eq_some_iff.1 hs).1
      have hr := h.rng i s hs
      obtain ⟨k', t, a1, a2, a3, a4⟩ := kidsF_cover h hs S.length (i + 1) (by omega) (by omega) j (by omega) hin
      by_cases e : k' = j
      · subst e
        exact ⟨i, hi, by unfold kidsOf; simp only [hs, Option.getD_some]; exact a1⟩
      · have hki : i < k' := by
          have : ∀ (f k : Nat), i < k → k' ∈ kidsF S f k (i + s) → i < k' := by
            intro f
            induction f with
            | zero => intro k _ hm; simp [kidsF] at hm
            | succ f ihf =>
              intro k hk hm
              unfold kidsF at hm
              split at hm
              · rcases List.mem_cons.1 hm with rfl | hm
                · exact hk
                · exact ihf _ (by omega) hm
              · cases hm
          exact this _ _ (by omega) a1
        have h5 := h.rng k' t a3
        have hk5 := h.lam i k' s t hki hs a3 (by omega)
        exact ih k' t (by omega) a3 (by omega) a4
  exact main S.length 0 S.length (by omega) h0 hj0 (by omega)
end Go.Pu
namespace Go.Pu
structure Nd where
  k : Nat
  n : Int
  t : List UInt8
  a : Int
  s : Int
def sortK (k : Nat) : UInt8 :=
  if 2 ≤ k ∧ k ≤ 10 then ([105, 105, 105, 108, 97, 112, 98, 66, 99][k - 2]?).getD 0 else if k = 11 then 116 else if 12 ≤ k ∧ k ≤ 18 then 115 else if 21 ≤ k ∧ k ≤ 31 then 83 else if 41 ≤ k ∧ k ≤ 46 then 80 else if 51 ≤ k ∧ k ≤ 66 then 101 else if k = 1 then 114 else 32
def letK (k : Nat) : UInt8 :=
  if 2 ≤ k ∧ k ≤ 4 then 73 else if k = 11 then 105 else if 12 ≤ k ∧ k ≤ 18 then 115 else if 21 ≤ k ∧ k ≤ 31 then 83 else if 41 ≤ k ∧ k ≤ 46 then 112 else if 51 ≤ k ∧ k ≤ 66 then 101 else if 5 ≤ k ∧ k ≤ 10 then ([69, 65, 80, 66, 98, 99][k - 5]?).getD 0 else if k = 1 then 48 else 32
def phi (c : UInt8) : UInt8 :=
  if c = 105 then 73 else if c = 108 then 69 else if c = 97 then 65 else if c = 112 then 80 else if c = 98 then 66 else if c = 66 then 98 else if c = 99 then 99 else if c = 116 then 105 else if c = 115 then 115 else if c = 83 then 83 else if c = 80 then 112 else if c = 101 then 101 else if c = 114 then 48 else 32
def alpha : List UInt8 := [105, 108, 97, 112, 98, 66, 99, 116, 115, 83, 80, 101, 114, 32]
theorem ball {p : Nat → Bool} (n : Nat) (h : (List.range n).all p = true) (k : Nat) (hk : k < n) : p k = true := List.all_eq_true.1 h k (List.mem_range.2 hk)
theorem letK_phi (k : Nat) (hk : k < 256) : letK k = phi (sortK k) := by
  have := ball (p := fun k => decide (letK k = phi (sortK k))) 256 (by decide +kernel) k hk
  simpa using this
theorem sortK_alpha (k : Nat) (hk : k < 256) : sortK k ∈ alpha := by
  have := ball (p := fun k => decide (sortK k ∈ alpha)) 256 (by decide +kernel) k hk
  simpa using this
theorem phi_inj : ∀ a ∈ alpha, ∀ b ∈ alpha, phi a = phi b → a = b := by decide
structure Rule where
  before : List UInt8
  many : List UInt8
  least : Int
  most : Int
  behind : List UInt8
  named : Bool
  deriving DecidableEq
def cutP : List UInt8 → List UInt8 → Option (List UInt8)
  | [], s => some s
  | a :: p, b :: s => if a = b then cutP p s else none
  | _ :: _, [] => none
theorem cutP_iff : ∀ {p s r : List UInt8}, cutP p s = some r ↔ s = p ++ r
  | [], s, r => by simp [cutP]
  | a :: p, [], r => by simp [cutP]
  | a :: p, b :: s, r => by
    unfold cutP
    split
    · rename_i h; subst h; simp [cutP_iff]
    · rename_i h; simp [Ne.symm h]
def cutE (p s : List UInt8) : Option (List UInt8) := (cutP p.reverse s.reverse).map List.reverse
theorem cutE_iff {p s r : List UInt8} : cutE p s = some r ↔ s = r ++ p := by
  unfold cutE
  simp only [Option.map_eq_some_iff, cutP_iff]
  constructor
  · rintro ⟨a, h, rfl⟩
    have := congrArg List.reverse h
    simpa using this
  · rintro rfl
    exact ⟨r.reverse, by simp, by simp⟩
def lk (r : Rule) (s : List UInt8) : Bool :=
  match cutP r.before s with
  | some x => match cutE r.behind x with
    | some m => m.all (fun c => r.many.contains c) && (decide (r.many ≠ []) || decide (m = [])) && decide (r.least ≤ m.length)
    | none => false
  | none => false
theorem lk_iff {r : Rule} {s : List UInt8} : lk r s = true ↔ ∃ m, s = r.before ++ (m ++ r.behind) ∧ (∀ c ∈ m, c ∈ r.many) ∧ (r.many = [] → m = []) ∧ r.least ≤ m.length := by
  unfold lk
  constructor
  · intro h
    split at h
    · rename_i x hx
      split at h
      · rename_i m hm
        rw [cutP_iff] at hx
        rw [cutE_iff] at hm
        simp only [Bool.and_eq_true, List.all_eq_true, List.contains_iff_mem, Bool.or_eq_true, decide_eq_true_eq] at h
        refine ⟨m, by rw [hx, hm], h.1.1, fun e => ?_, h.2⟩
        rcases h.1.2 with h1 | h1
        · exact absurd e h1
        · exact h1
      · cases h
    · cases h
  · rintro ⟨m, rfl, h1, h2, h3⟩
    have e1 : cutP r.before (r.before ++ (m ++ r.behind)) = some (m ++ r.behind) := cutP_iff.2 rfl
    have e2 : cutE r.behind (m ++ r.behind) = some m := cutE_iff.2 rfl
    simp only [e1, e2]
    simp only [Bool.and_eq_true, List.all_eq_true, List.contains_iff_mem, Bool.or_eq_true, decide_eq_true_eq]
    refine ⟨⟨h1, ?_⟩, h3⟩
    by_cases e : r.many = []
    · exact .inr (h2 e)
    · exact .inl e
def Rule.map (r : Rule) : Rule := { r with before := r.before.map phi, many := r.many.map phi, behind := r.behind.map phi }
theorem map_inj : ∀ {x y : List UInt8}, (∀ c ∈ x, c ∈ alpha) → (∀ c ∈ y, c ∈ alpha) → x.map phi = y.map phi → x = y
  | [], [], _, _, _ => rfl
  | [], _ :: _, _, _, h => by simp at h
  | _ :: _, [], _, _, h => by simp at h
  | a :: x, b :: y, hx, hy, h => by
    simp only [List.map_cons, List.cons.injEq] at h
    rw [phi_inj a (hx a (by simp)) b (hy b (by simp)) h.1, map_inj (fun c hc => hx c (by simp [hc])) (fun c hc => hy c (by simp [hc])) h.2]
theorem map_split {s u v : List UInt8} : s.map phi = u ++ v → ∃ a b, s = a ++ b ∧ a.map phi = u ∧ b.map phi = v := by
  intro h
  exact ⟨s.take u.length, s.drop u.length, by simp, by rw [List.map_take, h]; simp, by rw [List.map_drop, h]; simp⟩
theorem lk_map {r : Rule} {s : List UInt8} (hs : ∀ c ∈ s, c ∈ alpha) (hb : ∀ c ∈ r.before, c ∈ alpha) (hm : ∀ c ∈ r.many, c ∈ alpha) (he : ∀ c ∈ r.behind, c ∈ alpha) : lk r.map (s.map phi) = lk r s := by
  rw [Bool.eq_iff_iff, lk_iff, lk_iff]
  constructor
  · rintro ⟨m, h1, h2, h3, h4⟩
    simp only [Rule.map] at h1 h2 h3 h4
    obtain ⟨a, b, rfl, e1, e2⟩ := map_split h1
    obtain ⟨m', e, rfl, e3, e4⟩ := map_split e2
    have ea := map_inj (fun c hc => hs c (by simp [hc])) hb e1
    have ee := map_inj (fun c hc => hs c (by simp [hc])) he e4
    subst ea ee e3
    refine ⟨m', rfl, fun c hc => ?_, fun h => ?_, by simpa using h4⟩
    · obtain ⟨c', k1, k2⟩ := List.mem_map.1 (h2 (phi c) (List.mem_map.2 ⟨c, hc, rfl⟩))
      rw [← phi_inj c' (hm c' k1) c (hs c (by simp [hc])) k2]
      exact k1
    · have := h3 (by rw [h]; rfl)
      simpa using this
  · rintro ⟨m, rfl, h2, h3, h4⟩
    refine ⟨m.map phi, by simp [Rule.map], fun c hc => ?_, fun h => ?_, by simpa [Rule.map] using h4⟩
    · obtain ⟨c', k1, rfl⟩ := List.mem_map.1 hc
      exact List.mem_map.2 ⟨c', h2 c' k1, rfl⟩
    · simp only [Rule.map, List.map_eq_nil_iff] at h
      rw [h3 h]
      rfl
def allIn (s set : List UInt8) : Bool := s.all fun c => set.contains c
def fixedK (k : Nat) : List UInt8 :=
  if k = 10 then [80, 66] else if k = 17 ∨ k = 21 ∨ k = 22 then [115] else if k = 18 then [115, 115] else if k = 23 ∨ k = 31 ∨ k = 42 ∨ k = 61 ∨ k = 65 ∨ k = 66 then [101] else if k = 24 then [80] else if k = 27 then [98, 66] else if k = 28 then [66] else if k = 29 then [98] else if k = 45 then [101, 80] else if 51 ≤ k ∧ k ≤ 60 then [101, 101] else []
def areKids (k : Nat) (n : Int) (s : List UInt8) : Bool :=
  if k = 1 then allIn s [105]
  else if k = 2 then decide (0 < s.length) && allIn s [108]
  else if k = 5 then allIn s [97]
  else if k = 3 then allIn s [116, 115]
  else if k = 4 then decide (0 < s.length) && (decide (s.getLast? = some 66) && allIn s.dropLast [112])
  else if k = 7 then decide (s.length = 1) && allIn s [116, 115]
  else if k = 9 then allIn s [83]
  else if k = 25 then allIn s [101]
  else if k = 26 then decide (0 < s.length) && allIn s [99]
  else if k = 43 then decide (0 < s.length) && allIn s [101]
  else if k = 30 then decide (s = [101, 66]) || decide (s = [101, 66, 66])
  else if k = 46 then ((decide (n = 1) || decide (n = 2)) && decide (s = [80])) || (decide (n = 3) && decide (s = [80, 80]))
  else decide (s = fixedK k)
def namedK (k : Nat) : Bool :=
  if k = 1 ∨ k = 9 ∨ k = 10 ∨ k = 28 ∨ k = 30 ∨ k = 31 ∨ k = 41 ∨ k = 42 ∨ k = 43 ∨ k = 45 ∨ k = 46 ∨ k = 62 then false
  else decide (sortK k ≠ 116) && (decide (sortK k ≠ 115) || decide (k = 16)) && (decide (k < 51) || decide (61 < k))
def numK (k : Nat) (n : Int) : Bool :=
  if k = 62 then decide (0 ≤ n) && decide (n ≤ 1000000000) else if k = 5 then decide (0 ≤ n) && decide (n ≤ 1) else if k = 46 then true else decide (n = 0)
def mostK (k : Nat) (many : Int) : Int × Int :=
  if k = 1 then (many, 16) else if k = 2 ∨ k = 5 then (many, 12) else if k = 4 then (many - 1, 5) else if k = 3 ∨ k = 25 then (many, 5) else if k = 9 then (many, 12) else if k = 26 then (many, 4) else if k = 43 then (many, 4) else (0, 0)
def textOk (isName : List UInt8 → Bool) (named : Bool) (t : List UInt8) : Bool := named && isName t || !named && decide (t = [])
def refNode (isName : List UInt8 → Bool) (x : Nd) (s : List UInt8) : Bool := areKids x.k x.n s && (textOk isName (namedK x.k) x.t && (numK x.k x.n && (decide (0 ≤ x.a) && decide (x.a ≤ 2500))))
def ruleS (k : Nat) : Rule :=
  if k = 1 then ⟨[], [105], 0, 16, [], false⟩ else if k = 2 then ⟨[], [108], 1, 12, [], true⟩ else if k = 3 then ⟨[], [116, 115], 0, 5, [], true⟩ else if k = 4 then ⟨[], [112], 0, 5, [66], true⟩
  else if k = 5 then ⟨[], [97], 0, 12, [], true⟩ else if k = 9 then ⟨[], [83], 0, 12, [], false⟩ else if k = 7 then ⟨[], [116, 115], 1, 1, [], true⟩
  else if k = 25 then ⟨[], [101], 0, 5, [], true⟩ else if k = 26 then ⟨[], [99], 1, 4, [], true⟩ else if k = 30 then ⟨[101], [66], 1, 2, [], false⟩ else if k = 43 then ⟨[], [101], 1, 4, [], false⟩ else if k = 46 then ⟨[], [80], 1, 2, [], false⟩
  else ⟨fixedK k, [], 0, 0, [], namedK k⟩
def implNum (k : Nat) (n : Int) (many : Int) : Bool :=
  if k = 62 then decide (0 ≤ n) && decide (n ≤ 1000000000) else if k = 5 then decide (n = 0) || decide (n = 1) else if k = 46 then decide (1 ≤ n) && (decide (n ≤ 3) && (decide (n = 3) == decide (many = 2))) else decide (n = 0)
def implSized (r : Rule) (many : Int) : Bool := decide (r.many = []) || decide (many - r.before.length - r.behind.length ≤ r.most)
theorem lk_many {m : List UInt8} {l q : Int} {nm : Bool} {s : List UInt8} (hm : m ≠ []) : lk ⟨[], m, l, q, [], nm⟩ s = (allIn s m && decide (l ≤ s.length)) := by
  rw [Bool.eq_iff_iff, lk_iff]
  simp only [allIn, Bool.and_eq_true, List.all_eq_true, List.contains_iff_mem, decide_eq_true_eq]
  constructor
  · rintro ⟨x, rfl, h1, _, h3⟩; simp only [List.nil_append, List.append_nil]; exact ⟨h1, h3⟩
  · rintro ⟨h1, h2⟩; exact ⟨s, by simp, h1, fun h => absurd h hm, h2⟩
theorem lk_fixed {f : List UInt8} {q : Int} {nm : Bool} {s : List UInt8} : lk ⟨f, [], 0, q, [], nm⟩ s = decide (s = f) := by
  rw [Bool.eq_iff_iff, lk_iff]
  simp only [decide_eq_true_eq]
  constructor
  · rintro ⟨m, rfl, _, h, _⟩; simp [h True.intro]
  · rintro rfl; exact ⟨[], by simp, by simp, fun _ => rfl, by simp⟩
theorem lk_last {m : List UInt8} {c : UInt8} {q : Int} {nm : Bool} {s : List UInt8} (hm : m ≠ [] := by decide) : lk ⟨[], m, 0, q, [c], nm⟩ s = (decide (0 < s.length) && (decide (s.getLast? = some c) && allIn s.dropLast m)) := by
  rw [Bool.eq_iff_iff, lk_iff]
  simp only [allIn, Bool.and_eq_true, List.all_eq_true, List.contains_iff_mem, decide_eq_true_eq]
  constructor
  · rintro ⟨x, rfl, h1, _, _⟩
    refine ⟨by simp, by simp, fun d hd => h1 d ?_⟩
    simpa using hd
  · rintro ⟨h1, h2, h3⟩
    have hne : s ≠ [] := by intro h; subst h; simp at h1
    have hs : s = s.dropLast ++ [c] := by
      have := List.dropLast_concat_getLast hne
      rw [List.getLast?_eq_some_getLast hne] at h2
      simp only [Option.some.injEq] at h2
      rw [h2] at this
      exact this.symm
    exact ⟨s.dropLast, by simpa using hs, h3, fun h => absurd h hm, by simp⟩
theorem node_eq (x : Nd) (s : List UInt8) : (lk (ruleS x.k) s && (implSized (ruleS x.k) s.length && implNum x.k x.n s.length)) = (areKids x.k x.n s && (numK x.k x.n && decide ((mostK x.k s.length).1 ≤ (mostK x.k s.length).2))) := by
  obtain ⟨k, n, t, a, z⟩ := x
  simp only
  have len0 : (0 : Int) ≤ s.length := by omega
  by_cases h1 : k = 1
  · subst h1; simp [ruleS, areKids, implSized, implNum, numK, mostK, lk_many, Bool.and_comm]
  by_cases h2 : k = 2
  · subst h2
    simp [ruleS, areKids, implSized, implNum, numK, mostK, lk_many, Bool.and_comm]
    rw [Bool.eq_iff_iff]; simp; omega
  by_cases h3 : k = 3
  · subst h3; simp [ruleS, areKids, implSized, implNum, numK, mostK, lk_many, Bool.and_comm]
  by_cases h4 : k = 4
  · subst h4
    have e : areKids 4 n s = (decide (0 < s.length) && (decide (s.getLast? = some 66) && allIn s.dropLast [112])) := rfl
    have e1 : implNum 4 n s.length = numK 4 n := rfl
    have e2 : ruleS 4 = ⟨[], [112], 0, 5, [66], true⟩ := rfl
    rw [e, e1, e2, lk_last]
    have e3 : implSized ⟨[], [112], 0, 5, [66], true⟩ s.length = decide ((mostK 4 s.length).1 ≤ (mostK 4 s.length).2) := by
      rw [Bool.eq_iff_iff]; simp [implSized, mostK]
    rw [e3]
    cases decide ((mostK 4 s.length).1 ≤ (mostK 4 s.length).2) <;> simp
  by_cases h5 : k = 5
  · subst h5
    simp [ruleS, areKids, implSized, implNum, numK, mostK, lk_many, Bool.and_comm]
    rw [Bool.eq_iff_iff]; simp
    intro _ _
    omega
  by_cases h7 : k = 7
  · subst h7
    simp [ruleS, areKids, implSized, implNum, numK, mostK, lk_many, Bool.and_comm]
    rw [Bool.eq_iff_iff]; simp
    constructor
    · rintro ⟨⟨e1, e2⟩, e3, e4⟩; exact ⟨e1, by omega, e4⟩
    · rintro ⟨e1, e2, e3⟩; exact ⟨⟨e1, by omega⟩, by omega, e3⟩
  by_cases h9 : k = 9
  · subst h9; simp [ruleS, areKids, implSized, implNum, numK, mostK, lk_many, Bool.and_comm]
  by_cases h25 : k = 25
  · subst h25; simp [ruleS, areKids, implSized, implNum, numK, mostK, lk_many, Bool.and_comm]
  by_cases h26 : k = 26
  · subst h26
    simp [ruleS, areKids, implSized, implNum, numK, mostK, lk_many, Bool.and_comm]
    rw [Bool.eq_iff_iff]; simp; omega
  by_cases h43 : k = 43
  · subst h43
    simp [ruleS, areKids, implSized, implNum, numK, mostK, lk_many, Bool.and_comm]
    rw [Bool.eq_iff_iff]; simp; omega
  by_cases h30 : k = 30
  · subst h30
    have e : areKids 30 n s = (decide (s = [101, 66]) || decide (s = [101, 66, 66])) := rfl
    have e1 : implNum 30 n s.length = numK 30 n := rfl
    have e2 : ruleS 30 = ⟨[101], [66], 1, 2, [], false⟩ := rfl
    have e3 : mostK 30 s.length = (0, 0) := rfl
    rw [e, e1, e2, e3]
    cases numK 30 n with
    | false => simp
    | true =>
      rw [Bool.eq_iff_iff]
      simp only [Bool.and_eq_true, lk_iff, implSized]
      simp
      constructor
      · rintro ⟨⟨m, rfl, h1, h2⟩, h3⟩
        match m, h1, h2, h3 with
        | [], _, h2, _ => simp at h2
        | [a], h1, _, _ => left; simp [h1 a (by simp)]
        | [a, b], h1, _, _ => right; simp [h1 a (by simp), h1 b (by simp)]
        | _ :: _ :: _ :: _, _, _, h3 => simp at h3; omega
      · rintro (rfl | rfl)
        · exact ⟨⟨[66], rfl, by simp, by simp⟩, by simp⟩
        · exact ⟨⟨[66, 66], rfl, by simp, by simp⟩, by simp⟩
  by_cases h46 : k = 46
  · subst h46
    have e : areKids 46 n s = (((decide (n = 1) || decide (n = 2)) && decide (s = [80])) || (decide (n = 3) && decide (s = [80, 80]))) := rfl
    have e1 : implNum 46 n s.length = (decide (1 ≤ n) && (decide (n ≤ 3) && (decide (n = 3) == decide ((s.length : Int) = 2)))) := rfl
    have e2 : ruleS 46 = ⟨[], [80], 1, 2, [], false⟩ := rfl
    have e3 : mostK 46 s.length = (0, 0) := rfl
    have e4 : numK 46 n = true := rfl
    rw [e, e1, e2, e3, e4, lk_many (by decide)]
    match s with
    | [] => simp
    | [a] =>
      by_cases ha : a = 80
      · subst ha
        simp [allIn, implSized]
        rw [Bool.eq_iff_iff]; simp; omega
      · simp [allIn, ha]
    | [a, b] =>
      by_cases ha : a = 80
      · by_cases hb : b = 80
        · subst ha hb
          simp [allIn, implSized]
          rw [Bool.eq_iff_iff]; simp; omega
        · simp [allIn, hb]
      · simp [allIn, ha]
    | a :: b :: c :: l =>
      have : implSized ⟨[], [80], 1, 2, [], false⟩ ((a :: b :: c :: l).length : Nat) = false := by simp [implSized]; omega
      rw [this]
      simp
  · have hr : ruleS k = ⟨fixedK k, [], 0, 0, [], namedK k⟩ := by simp [ruleS, *]
    have hk : areKids k n s = decide (s = fixedK k) := by simp [areKids, *]
    have hm : mostK k s.length = (0, 0) := by simp [mostK, *]
    have hn : implNum k n s.length = numK k n := by simp [implNum, numK, *]
    rw [hr, hk, hm, hn, lk_fixed]
    simp [implSized]
end Go.Pu
namespace Go.Pu
def sizes (ns : List Nd) : List Int := ns.map (·.s)
def kindAt (ns : List Nd) (j : Nat) : Nat := ((ns[j]?).map (·.k)).getD 0
def lettersOf (f : Nat → UInt8) (ns : List Nd) (l : List Nat) : List UInt8 := l.map fun j => f (kindAt ns j)
def implOk (isName : List UInt8 → Bool) (ns : List Nd) (i : Nat) (x : Nd) : Bool :=
  let s := lettersOf letK ns (kidsOf (sizes ns) i)
  decide (letK x.k ≠ 32) && ((decide (x.k = 1) == decide (i = 0)) && (lk (ruleS x.k).map s && (implSized (ruleS x.k) s.length && (textOk isName (ruleS x.k).named x.t && (implNum x.k x.n s.length && (decide (0 ≤ x.a) && decide (x.a ≤ 2500)))))))
def refOk (isName : List UInt8 → Bool) (ns : List Nd) (i : Nat) (x : Nd) : Bool :=
  match rkOf (sizes ns) i with
  | some l => refNode isName x (lettersOf sortK ns l)
  | none => false
def largeOk (ns : List Nd) (i : Nat) (x : Nd) : Bool :=
  match rkOf (sizes ns) i with
  | some l => decide ((mostK x.k (lettersOf sortK ns l).length).1 ≤ (mostK x.k (lettersOf sortK ns l).length).2)
  | none => true
structure ImplForm (isName : List UInt8 → Bool) (ns : List Nd) : Prop where
  lam : Lam (sizes ns)
  root : ∃ x, ns[0]? = some x ∧ x.k = 1 ∧ x.s = (ns.length : Int)
  each : ∀ i x, ns[i]? = some x → implOk isName ns i x = true
structure RefForm (isName : List UInt8 → Bool) (ns : List Nd) : Prop where
  root : ∃ x, ns[0]? = some x ∧ x.k = 1 ∧ x.s = (ns.length : Int)
  each : ∀ i x, ns[i]? = some x → refOk isName ns i x = true
  large : ∀ i x, ns[i]? = some x → largeOk ns i x = true
theorem named_eq (k : Nat) (hk : k < 256) (h : letK k ≠ 32) : (ruleS k).named = namedK k := by
  have := ball (p := fun k => decide (letK k ≠ 32 → (ruleS k).named = namedK k)) 256 (by decide +kernel) k hk
  simp only [decide_eq_true_eq] at this
  exact this h
theorem rule_alpha (k : Nat) (hk : k < 256) : (∀ c ∈ (ruleS k).before, c ∈ alpha) ∧ (∀ c ∈ (ruleS k).many, c ∈ alpha) ∧ (∀ c ∈ (ruleS k).behind, c ∈ alpha) := by
  have := ball (p := fun k => decide ((∀ c ∈ (ruleS k).before, c ∈ alpha) ∧ (∀ c ∈ (ruleS k).many, c ∈ alpha) ∧ (∀ c ∈ (ruleS k).behind, c ∈ alpha))) 256 (by decide +kernel) k hk
  simpa using this
theorem sort_known (k : Nat) (hk : k < 256) (h1 : sortK k ≠ 114) (h2 : sortK k ≠ 32) : letK k ≠ 32 ∧ k ≠ 1 := by
  have := ball (p := fun k => decide (sortK k ≠ 114 → sortK k ≠ 32 → letK k ≠ 32 ∧ k ≠ 1)) 256 (by decide +kernel) k hk
  simp only [decide_eq_true_eq] at this
  exact this h1 h2
theorem allIn_mem {s set : List UInt8} (h : allIn s set = true) {c : UInt8} (hc : c ∈ s) : c ∈ set := by
  have := List.all_eq_true.1 h c hc
  simpa using this
theorem fixed_known (k : Nat) : (114 : UInt8) ∉ fixedK k ∧ (32 : UInt8) ∉ fixedK k := by
  unfold fixedK
  repeat' split
  all_goals decide
theorem areKids_known {k : Nat} {n : Int} {s : List UInt8} (h : areKids k n s = true) {c : UInt8} (hc : c ∈ s) : c ≠ 114 ∧ c ≠ 32 := by
  have key : ∀ set : List UInt8, (114 : UInt8) ∉ set → (32 : UInt8) ∉ set → c ∈ set → c ≠ 114 ∧ c ≠ 32 := fun set h1 h2 h3 => ⟨fun e => h1 (e ▸ h3), fun e => h2 (e ▸ h3)⟩
  unfold areKids at h
  by_cases h4 : k = 4
  · subst h4
    simp only [show (4 : Nat) ≠ 1 from by decide, show (4 : Nat) ≠ 2 from by decide, show (4 : Nat) ≠ 5 from by decide, show (4 : Nat) ≠ 3 from by decide, if_false, if_true, Bool.and_eq_true, decide_eq_true_eq] at h
    obtain ⟨h1, h2, h3⟩ := h
    have hne : s ≠ [] := by intro h; subst h; simp at h1
    have hs : s = s.dropLast ++ [66] := by
      have := List.dropLast_concat_getLast hne
      rw [List.getLast?_eq_some_getLast hne] at h2
      simp only [Option.some.injEq] at h2
      rw [h2] at this
      exact this.symm
    rw [hs] at hc
    rcases List.mem_append.1 hc with hc | hc
    · exact key _ (by decide) (by decide) (allIn_mem h3 hc)
    · exact key [66] (by decide) (by decide) hc
  by_cases h30 : k = 30
  · subst h30
    have e : (decide (s = [101, 66]) || decide (s = [101, 66, 66])) = true := h
    simp only [Bool.or_eq_true, decide_eq_true_eq] at e
    rcases e with rfl | rfl
    · exact key _ (by decide) (by decide) hc
    · exact key _ (by decide) (by decide) hc
  by_cases h46 : k = 46
  · subst h46
    have e : (((decide (n = 1) || decide (n = 2)) && decide (s = [80])) || (decide (n = 3) && decide (s = [80, 80]))) = true := h
    simp only [Bool.or_eq_true, Bool.and_eq_true, decide_eq_true_eq] at e
    rcases e with ⟨_, rfl⟩ | ⟨_, rfl⟩
    · exact key _ (by decide) (by decide) hc
    · exact key _ (by decide) (by decide) hc
  simp only [h4, h30, h46, if_false] at h
  repeat' split at h
  all_goals (try simp only [Bool.and_eq_true, decide_eq_true_eq] at h)
  all_goals first
    | exact key _ (by decide) (by decide) (allIn_mem h hc)
    | exact key _ (by decide) (by decide) (allIn_mem h.2 hc)
    | (subst h; exact key _ (fixed_known k).1 (fixed_known k).2 hc)
theorem letters_map (ns : List Nd) (hk : ∀ x ∈ ns, x.k < 256) (l : List Nat) : lettersOf letK ns l = (lettersOf sortK ns l).map phi := by
  unfold lettersOf
  rw [List.map_map]
  refine List.map_congr_left fun j _ => ?_
  simp only [Function.comp]
  refine letK_phi _ ?_
  unfold kindAt
  cases h : ns[j]? with
  | none => simp
  | some x => simpa using hk x (List.mem_of_getElem? h)
theorem kindAt_lt {ns : List Nd} (hk : ∀ x ∈ ns, x.k < 256) (j : Nat) : kindAt ns j < 256 := by
  unfold kindAt
  cases h : ns[j]? with
  | none => simp
  | some x => simpa using hk x (List.mem_of_getElem? h)
theorem letters_alpha (ns : List Nd) (hk : ∀ x ∈ ns, x.k < 256) (l : List Nat) : ∀ c ∈ lettersOf sortK ns l, c ∈ alpha := by
  intro c hc
  unfold lettersOf at hc
  obtain ⟨j, _, rfl⟩ := List.mem_map.1 hc
  exact sortK_alpha _ (kindAt_lt hk j)
theorem lk_eq {ns : List Nd} (hk : ∀ x ∈ ns, x.k < 256) {k : Nat} (hk' : k < 256) (l : List Nat) : lk (ruleS k).map (lettersOf letK ns l) = lk (ruleS k) (lettersOf sortK ns l) := by
  rw [letters_map ns hk]
  obtain ⟨h1, h2, h3⟩ := rule_alpha k hk'
  exact lk_map (letters_alpha ns hk l) h1 h2 h3
theorem form_eq {isName : List UInt8 → Bool} {ns : List Nd} (hk : ∀ x ∈ ns, x.k < 256) : ImplForm isName ns ↔ RefForm isName ns := by
  have szlen : (sizes ns).length = ns.length := by simp [sizes]
  constructor
  · rintro ⟨hl, hr, he⟩
    have key : ∀ i x, ns[i]? = some x → rkOf (sizes ns) i = some (kidsOf (sizes ns) i) ∧ refNode isName x (lettersOf sortK ns (kidsOf (sizes ns) i)) = true ∧ largeOk ns i x = true := by
      intro i x hx
      have hi : i < ns.length := (List.getElem?_eq_some_iff.1 hx).1
      have hrk := rkOf_lam hl (i := i) (by omega)
      have h := he i x hx
      have hkx := hk x (List.mem_of_getElem? hx)
      unfold implOk at h
      simp only [Bool.and_eq_true, decide_eq_true_eq] at h
      obtain ⟨h1, h2, h3, h4, h5, h6, h7, h8⟩ := h
      rw [lk_eq hk hkx] at h3
      have hlen : (lettersOf letK ns (kidsOf (sizes ns) i)).length = (lettersOf sortK ns (kidsOf (sizes ns) i)).length := by simp [lettersOf]
      rw [hlen] at h4 h6
      have hn := node_eq x (lettersOf sortK ns (kidsOf (sizes ns) i))
      rw [h3, h4, h6] at hn
      simp only [Bool.and_self, Bool.true_eq, Bool.and_eq_true, decide_eq_true_eq] at hn
      obtain ⟨n1, n2, n3⟩ := hn
      rw [named_eq _ hkx h1] at h5
      refine ⟨hrk, ?_, ?_⟩
      · unfold refNode
        rw [n1, n2, h5]
        simp [h7, h8]
      · unfold largeOk
        rw [hrk]
        simpa using n3
    refine ⟨hr, fun i x hx => ?_, fun i x hx => (key i x hx).2.2⟩
    obtain ⟨k1, k2, _⟩ := key i x hx
    unfold refOk
    rw [k1]
    exact k2
  · rintro ⟨hr, he, hg⟩
    have hl : Lam (sizes ns) := by
      refine Lam_of_rk fun i hi => ?_
      have hx : ns[i]? = some (ns[i]'(by omega)) := by rw [List.getElem?_eq_getElem]
      have := he i _ hx
      unfold refOk at this
      intro hn
      rw [hn] at this
      cases this
    refine ⟨hl, hr, fun i x hx => ?_⟩
    have hi : i < ns.length := (List.getElem?_eq_some_iff.1 hx).1
    have hkx := hk x (List.mem_of_getElem? hx)
    have hrk := rkOf_lam hl (i := i) (by omega)
    have h1 := he i x hx
    have h2 := hg i x hx
    unfold refOk at h1
    unfold largeOk at h2
    rw [hrk] at h1 h2
    simp only [decide_eq_true_eq] at h1 h2
    unfold refNode at h1
    simp only [Bool.and_eq_true, decide_eq_true_eq] at h1
    obtain ⟨a1, a2, a3, a4, a5⟩ := h1
    have hn := node_eq x (lettersOf sortK ns (kidsOf (sizes ns) i))
    rw [a1, a3] at hn
    simp only [h2, decide_true, Bool.and_self, Bool.and_eq_true] at hn
    obtain ⟨n1, n2, n3⟩ := hn
    have known : letK x.k ≠ 32 ∧ (x.k = 1 ↔ i = 0) := by
      by_cases h0 : i = 0
      · subst h0
        obtain ⟨y, hy, hy1, _⟩ := hr
        rw [hx] at hy
        simp only [Option.some.injEq] at hy
        subst hy
        rw [hy1]
        exact ⟨by decide, by simp⟩
      · obtain ⟨y, hy, _, hys⟩ := hr
        obtain ⟨p, hp, hm⟩ := has_parent hl (j := i) (by rw [szlen]; simp [sizes, hy, hys]) (by omega) (by omega)
        have hpx : ns[p]? = some (ns[p]'(by omega)) := by rw [List.getElem?_eq_getElem]
        have hp1 := he p _ hpx
        unfold refOk at hp1
        rw [rkOf_lam hl (i := p) (by omega)] at hp1
        unfold refNode at hp1
        simp only [Bool.and_eq_true] at hp1
        have hc : sortK x.k ∈ lettersOf sortK ns (kidsOf (sizes ns) p) := by
          unfold lettersOf
          refine List.mem_map.2 ⟨i, hm, ?_⟩
          simp [kindAt, hx]
        obtain ⟨c1, c2⟩ := areKids_known hp1.1 hc
        obtain ⟨d1, d2⟩ := sort_known x.k hkx c1 c2
        exact ⟨d1, by simp [h0, d2]⟩
    have hlen : (lettersOf letK ns (kidsOf (sizes ns) i)).length = (lettersOf sortK ns (kidsOf (sizes ns) i)).length := by simp [lettersOf]
    unfold implOk
    dsimp only
    rw [hlen, lk_eq hk hkx, n1, n2, n3, named_eq _ hkx known.1, a2]
    simp [known.1, known.2, a4, a5]
end Go.Pu
