/- Part of the proof: PuFnd, PuSpl, WrA, WrC, WrD, WrE. -/
import Derived.Test.YtijdeggmmpfjeaaGreatDoorQ3
import Derived.Test.YtijdeggmmpfjeaaGreatDoorQ4
import Derived.Lib.AppendZeros
set_option linter.unusedSimpArgs false
set_option linter.unusedVariables false
set_option linter.unusedSectionVars false
namespace Go.Am
open Go Go.Pu
end Go.Am
namespace Go.Am
open Go Go.Pu
def raised (f : Nat → Bool) (d : Int) (l : List Nd) : List Nd := l.mapIdx fun i x => if f i then { x with s := x.s + d } else x
theorem raised_len (f : Nat → Bool) (d : Int) (l : List Nd) : (raised f d l).length = l.length := by simp [raised]
theorem raised_get (f : Nat → Bool) (d : Int) (l : List Nd) (i : Nat) : (raised f d l)[i]? = (l[i]?).map fun x => if f i then { x with s := x.s + d } else x := by simp [raised, List.getElem?_mapIdx]
theorem raised_zero (f : Nat → Bool) (l : List Nd) : raised f 0 l = l := by
  refine List.ext_getElem? fun i => ?_
  rw [raised_get]
  cases l[i]? with
  | none => rfl
  | some x => simp
def subF (ns : List Nd) (i : Nat) : List Nd := (ns.drop i).take (sizeAt ns i).toNat
def splA (ns : List Nd) (i : Nat) (by' : List Nd) : List Nd := ns.take i ++ (by' ++ ns.drop (i + (sizeAt ns i).toNat))
def ancB (ns : List Nd) (i : Nat) (j : Nat) : Bool := decide (j < i ∧ (i : Int) < j + sizeAt ns j)
def splN (ns : List Nd) (i : Nat) (by' : List Nd) : List Nd := raised (ancB ns i) ((by'.length : Int) - sizeAt ns i) (splA ns i by')
theorem anc_mem {ns : List Nd} {i : Nat} : ∀ (k j : Nat), j ∈ ancF (sizeAt ns) i k ↔ j < k ∧ (i : Int) < j + sizeAt ns j
  | 0, j => by simp [ancF]
  | k + 1, j => by
    rw [ancF]
    split
    · rename_i h
      rw [List.mem_cons, anc_mem k j]
      constructor
      · rintro (rfl | h1)
        · exact ⟨by omega, h⟩
        · exact ⟨by omega, h1.2⟩
      · rintro ⟨h1, h2⟩
        by_cases e : j = k
        · exact .inl e
        · exact .inr ⟨by omega, h2⟩
    · rename_i h
      rw [anc_mem k j]
      constructor
      · exact fun h1 => ⟨by omega, h1.2⟩
      · rintro ⟨h1, h2⟩
        refine ⟨?_, h2⟩
        by_cases e : j = k
        · subst e; exact absurd h2 h
        · omega
theorem sizeAt_le {ns : List Nd} (hl : Lam (sizes ns)) {i : Nat} (hi : i < ns.length) : 1 ≤ sizeAt ns i ∧ (i : Int) + sizeAt ns i ≤ ns.length := by
  have := hl.rng i _ (sizeAt_of hi)
  have hz : (sizes ns).length = ns.length := by simp [sizes]
  omega
theorem subF_len {ns : List Nd} (hl : Lam (sizes ns)) {i : Nat} (hi : i < ns.length) : ((subF ns i).length : Int) = sizeAt ns i := by
  have := sizeAt_le hl hi
  unfold subF
  rw [List.length_take, List.length_drop]
  omega
theorem splA_self {ns : List Nd} (i : Nat) : splA ns i (subF ns i) = ns := by
  unfold splA subF
  rw [← List.drop_drop, List.take_append_drop, List.take_append_drop]
theorem splN_self {ns : List Nd} (hl : Lam (sizes ns)) {i : Nat} (hi : i < ns.length) : splN ns i (subF ns i) = ns := by
  unfold splN
  rw [subF_len hl hi, Int.sub_self, raised_zero, splA_self]
theorem splA_len {ns : List Nd} (hl : Lam (sizes ns)) {i : Nat} (hi : i < ns.length) (by' : List Nd) : ((splA ns i by').length : Int) = ns.length + by'.length - sizeAt ns i := by
  have := sizeAt_le hl hi
  unfold splA
  rw [List.length_append, List.length_append, List.length_take, List.length_drop]
  omega
theorem splA_lo {ns : List Nd} {i j : Nat} (hi : i ≤ ns.length) (hj : j < i) (by' : List Nd) : (splA ns i by')[j]? = ns[j]? := by
  unfold splA
  rw [List.getElem?_append_left (by rw [List.length_take]; omega), List.getElem?_take, if_pos hj]
theorem splN_lo {ns : List Nd} {i j : Nat} (hi : i ≤ ns.length) (hj : j < i) (by' : List Nd) : (splN ns i by')[j]? = (ns[j]?).map fun x => if ancB ns i j then { x with s := x.s + ((by'.length : Int) - sizeAt ns i) } else x := by
  unfold splN
  rw [raised_get, splA_lo hi hj]
theorem splN_hi {ns : List Nd} {i j : Nat} (hi : i ≤ ns.length) (hj : i ≤ j) (by' : List Nd) : (splN ns i by')[j]? = (by' ++ ns.drop (i + (sizeAt ns i).toNat))[j - i]? := by
  unfold splN
  rw [raised_get]
  have : ancB ns i j = false := by unfold ancB; rw [decide_eq_false]; omega
  unfold splA
  rw [List.getElem?_append_right (by rw [List.length_take]; omega), List.length_take, Nat.min_eq_left hi, this]
  cases (by' ++ ns.drop (i + (sizeAt ns i).toNat))[j - i]? <;> rfl
theorem sizeAt_get {ns : List Nd} {k : Nat} {x : Nd} (h : ns[k]? = some x) : sizeAt ns k = x.s := by
  unfold sizeAt
  simp [sizes, h]
theorem splN_back {ns : List Nd} (hl : Lam (sizes ns)) {i k : Nat} (hi : i < ns.length) (hk : k < ns.length) : splN (splN ns i (subF ns k)) i (subF ns i) = ns := by
  have hsi := sizeAt_le hl hi
  have hsk := sizeAt_le hl hk
  have hlk := subF_len hl hk
  have hli := subF_len hl hi
  have hul : ((splN ns i (subF ns k)).length : Int) = ns.length + (subF ns k).length - sizeAt ns i := by
    unfold splN
    rw [raised_len]
    exact splA_len hl hi _
  have hsu : sizeAt (splN ns i (subF ns k)) i = (subF ns k).length := by
    have h1 := splN_hi (ns := ns) (i := i) (j := i) (by omega) (Nat.le_refl _) (subF ns k)
    rw [Nat.sub_self, List.getElem?_append_left (by omega)] at h1
    have h2 : (subF ns k)[0]? = ns[k]? := by
      unfold subF
      rw [List.getElem?_take, if_pos (by omega), List.getElem?_drop, Nat.add_zero]
    obtain ⟨x, hx⟩ : ∃ x, ns[k]? = some x := ⟨ns[k], by simp [hk]⟩
    rw [h2, hx] at h1
    rw [sizeAt_get h1, ← sizeAt_get hx, hlk]
  have hlo : ∀ j, j < i → ∀ x, ns[j]? = some x → (splN ns i (subF ns k))[j]? = some (if ancB ns i j then { x with s := x.s + (((subF ns k).length : Int) - sizeAt ns i) } else x) := fun j hj x hx => by
    rw [splN_lo (by omega) hj, hx]
    rfl
  have hanc : ∀ j, j < i → ancB (splN ns i (subF ns k)) i j = ancB ns i j := fun j hj => by
    obtain ⟨x, hx⟩ : ∃ x, ns[j]? = some x := ⟨ns[j]'(by omega), by rw [List.getElem?_eq_getElem]⟩
    have h1 := sizeAt_get (hlo j hj x hx)
    have h2 := sizeAt_get hx
    cases hb : ancB ns i j with
    | true =>
      rw [hb] at h1
      have hb' := hb
      unfold ancB at hb'
      simp only [decide_eq_true_eq] at hb'
      have h3 := hl.lam j i _ _ hj (sizeAt_of (by omega)) (sizeAt_of hi) hb'.2
      unfold ancB
      rw [decide_eq_true]
      simp only [if_true] at h1
      omega
    | false =>
      rw [hb] at h1
      unfold ancB at hb ⊢
      simp only [decide_eq_false_iff_not] at hb ⊢
      simp only [Bool.false_eq_true, if_false] at h1
      omega
  refine List.ext_getElem? fun j => ?_
  by_cases hj : j < i
  · obtain ⟨x, hx⟩ : ∃ x, ns[j]? = some x := ⟨ns[j]'(by omega), by rw [List.getElem?_eq_getElem]⟩
    rw [splN_lo (by omega) hj, hlo j hj x hx, hanc j hj, hsu, hx]
    cases hb : ancB ns i j with
    | false => rfl
    | true =>
      simp only [if_true, Option.map_some, Option.some.injEq]
      obtain ⟨a, b, c, d, e⟩ := x
      simp only [Nd.mk.injEq, true_and]
      omega
  · rw [splN_hi (by omega) (by omega), hsu, Int.toNat_natCast]
    have h1 : (splN ns i (subF ns k)).drop (i + (subF ns k).length) = ns.drop (i + (sizeAt ns i).toNat) := by
      refine List.ext_getElem? fun q => ?_
      rw [List.getElem?_drop, splN_hi (by omega) (by omega), show i + (subF ns k).length + q - i = (subF ns k).length + q by omega, List.getElem?_append_right (by omega), show (subF ns k).length + q - (subF ns k).length = q by omega]
    rw [h1]
    have h2 : subF ns i ++ ns.drop (i + (sizeAt ns i).toNat) = ns.drop i := by
      unfold subF
      rw [← List.drop_drop, List.take_append_drop]
    rw [h2, List.getElem?_drop, show i + (j - i) = j by omega]
def bumped (d : Int) (out : List Nd) (pre : List Nat) : List Nd := out.mapIdx fun i x => { x with s := x.s + (pre.count i : Int) * d }
theorem bumped_len (d : Int) (out : List Nd) (pre : List Nat) : (bumped d out pre).length = out.length := by simp [bumped]
theorem bumped_get (d : Int) (out : List Nd) (pre : List Nat) (i : Nat) : (bumped d out pre)[i]? = (out[i]?).map fun x => { x with s := x.s + (pre.count i : Int) * d } := by simp [bumped, List.getElem?_mapIdx]
theorem bumped_nil (d : Int) (out : List Nd) : bumped d out [] = out := by
  refine List.ext_getElem? fun i => ?_
  rw [bumped_get]
  cases out[i]? with
  | none => rfl
  | some x => simp
theorem bumped_snoc {d : Int} {out : List Nd} {pre : List Nat} {n : Nat} {y : Nd} (hy : (bumped d out pre)[n]? = some y) : (bumped d out pre).set n { y with s := y.s + d } = bumped d out (pre ++ [n]) := by
  refine List.ext_getElem? fun i => ?_
  rw [List.getElem?_set, bumped_len]
  have hl := (List.getElem?_eq_some_iff.1 hy).1
  rw [bumped_len] at hl
  by_cases e : n = i
  · subst e
    rw [if_pos rfl, if_pos hl, bumped_get]
    rw [bumped_get] at hy
    obtain ⟨x, hx, rfl⟩ := Option.map_eq_some_iff.1 hy
    rw [hx]
    simp only [Option.map_some, List.count_append, List.count_singleton_self, Option.some.injEq, Nd.mk.injEq, true_and]
    rw [show ((List.count n pre + 1 : Nat) : Int) = (List.count n pre : Int) + 1 by omega, Int.add_mul, Int.one_mul, Int.add_assoc]
  · rw [if_neg e, bumped_get, bumped_get, List.count_append, List.count_singleton]
    have : (n == i) = false := by simpa using e
    simp [this]
theorem bump_bound {d : Int} {pre : List Nat} {i : Nat} (hp : pre.length ≤ 700) (h1 : -1000 ≤ d) (h2 : d ≤ 1000) : -700000 ≤ (pre.count i : Int) * d ∧ (pre.count i : Int) * d ≤ 700000 := by
  have hc : (pre.count i : Int) ≤ 700 := by
    have := List.count_le_length (a := i) (l := pre)
    omega
  have hc0 : (0 : Int) ≤ (pre.count i : Int) := by omega
  generalize (pre.count i : Int) = c at hc hc0
  constructor
  · have h3 : c * (-1000) ≤ c * d := Int.mul_le_mul_of_nonneg_left h1 hc0
    omega
  · have h3 : c * d ≤ c * 1000 := Int.mul_le_mul_of_nonneg_left h2 hc0
    omega
theorem ancF_nodup (s : Nat → Int) (node : Nat) : ∀ k, (ancF s node k).Nodup
  | 0 => List.nodup_nil
  | k + 1 => by
    rw [ancF]
    split
    · refine List.nodup_cons.2 ⟨fun h => ?_, ancF_nodup s node k⟩
      have : ∀ (k j : Nat), j ∈ ancF s node k → j < k := by
        intro k
        induction k with
        | zero => intro j h; simp [ancF] at h
        | succ k ih =>
          intro j h
          rw [ancF] at h
          split at h
          · rcases List.mem_cons.1 h with rfl | h
            · omega
            · have := ih j h; omega
          · have := ih j h; omega
      have := this k k h
      omega
    · exact ancF_nodup s node k
theorem bumped_anc (ns : List Nd) (i : Nat) (by' : List Nd) : bumped ((by'.length : Int) - sizeAt ns i) (splA ns i by') (ancF (sizeAt ns) i i) = splN ns i by' := by
  unfold splN
  refine List.ext_getElem? fun j => ?_
  rw [bumped_get, raised_get]
  have hc : (List.count j (ancF (sizeAt ns) i i) : Int) = if ancB ns i j then 1 else 0 := by
    rw [List.Nodup.count (ancF_nodup _ _ _)]
    have := anc_mem (ns := ns) (i := i) i j
    unfold ancB
    by_cases h : j ∈ ancF (sizeAt ns) i i
    · rw [if_pos h, decide_eq_true (this.1 h)]; rfl
    · rw [if_neg h, decide_eq_false fun x => h (this.2 x)]; rfl
  rw [hc]
  cases (splA ns i by')[j]? with
  | none => rfl
  | some x => cases ancB ns i j <;> simp
end Go.Am
namespace Go.Am
open Go Go.Proofs Go.RowKit Go.Pu
set_option maxRecDepth 1000000
def rightB (ns : List Nd) : Bool := thinB ns && decide (checkR ns = 0)
set_option maxHeartbeats 4000000 in
theorem sem37 (ns : List Nd) (ia : NdIn ns) (u : AV) (tu : TF 0 ns u) : CSem Tryz.prog 37 [.agg [u]] (nodesH ns) (.bool (rightB ns)) (nodesH ns) := by
  have hT : ∀ {b : Bool}, thinB ns = b → ∀ {h : Heap}, Nat.blt 0 h.next = true → tells (h.objs.get 0) (cellsN ns) → CSem Tryz.prog 24 [.agg [u]] h (.bool b) h := fun e _ hi h2 => e ▸ tf24 tu hi h2
  cases ht : thinB ns with
  | false =>
    have : rightB ns = false := by unfold rightB; rw [ht]; rfl
    rw [this]
    rcases tu.form with rfl | rfl
    all_goals
      refine CSem.into Tryz.func37 rfl (by decide) Tryz.ntmps37 rfl rfl rfl ?_
      dsimp only [nodesH]
      repeat' (first
       | refine S0 ?_
       | refine Sc (hT ht) ?_
       | (refine S2 ?_ ?_) <;> intro hc <;> try (exfalso; first | omega | (simp at hc; done))
       | refine St ?_
       | fail)
      all_goals exact ⟨rfl, _, rfl, [0], ⟨rfl, rfl, rfl, RenO.ro (RenVs.plain (cellsN_plain _)), True.intro⟩, RenV.plain rfl⟩
  | true =>
    have ok := thin_ok ia ht
    have : rightB ns = decide (checkR ns = 0) := by unfold rightB; rw [ht]; rfl
    rw [this]
    have ca : ∀ {h : Heap}, Nat.blt 0 h.next = true → tells (h.objs.get 0) (cellsN ns) → CSem Tryz.prog 27 [.agg [u]] h (.int .i64 (checkR ns)) h := fun hi ht => tf27 ok tu hi ht
    generalize checkR ns = q at ca
    rcases tu.form with rfl | rfl
    all_goals
      by_cases hq : q = 0
      · rw [decide_eq_true hq]
        refine CSem.into Tryz.func37 rfl (by decide) Tryz.ntmps37 rfl rfl rfl ?_
        dsimp only [nodesH]
        repeat' (first
         | refine S0 ?_
         | refine Sc (hT ht) ?_
         | refine Sc ca ?_
         | (refine S2 ?_ ?_) <;> intro hc <;> try (exfalso; first | omega | (simp at hc; done))
         | refine St ?_
         | fail)
        all_goals first
          | (exfalso; omega)
          | exact ⟨rfl, _, rfl, [0], ⟨rfl, rfl, rfl, RenO.ro (RenVs.plain (cellsN_plain _)), True.intro⟩, RenV.plain rfl⟩
      · rw [decide_eq_false hq]
        refine CSem.into Tryz.func37 rfl (by decide) Tryz.ntmps37 rfl rfl rfl ?_
        dsimp only [nodesH]
        repeat' (first
         | refine S0 ?_
         | refine Sc (hT ht) ?_
         | refine Sc ca ?_
         | (refine S2 ?_ ?_) <;> intro hc <;> try (exfalso; first | omega | (simp at hc; done))
         | refine St ?_
         | fail)
        all_goals first
          | (exfalso; omega)
          | exact ⟨rfl, _, rfl, [0], ⟨rfl, rfl, rfl, RenO.ro (RenVs.plain (cellsN_plain _)), True.intro⟩, RenV.plain rfl⟩
theorem tf37 {i : Nat} {ns : List Nd} {u : AV} (ia : NdIn ns) (tu : TF i ns u) {h : Heap} (hi : Nat.blt i h.next = true) (ht : tells (h.objs.get i) (cellsN ns)) : CSem Tryz.prog 37 [.agg [u]] h (.bool (rightB ns)) h :=
  up1TF (more := []) (fun u t => sem37 ns ia u t) rfl (RenV.plain rfl) tu hi ht
theorem right_thin {ns : List Nd} (h : rightB ns = true) : thinB ns = true ∧ checkR ns = 0 := by
  unfold rightB at h
  simpa using h
theorem right_len {ns : List Nd} (h : rightB ns = true) : ns.length ≤ 120 ∧ 0 < ns.length := by
  obtain ⟨h1, h2⟩ := right_thin h
  refine ⟨?_, checkR_pos h2⟩
  unfold thinB at h1
  simp only [Bool.and_eq_true, Bool.not_eq_true', Bool.or_eq_false_iff, Bool.and_eq_false_iff, decide_eq_false_iff_not] at h1
  have h3 : ns.length ≤ 600 := by
    unfold checkR at h2
    split at h2
    · cases h2
    · omega
  omega
theorem check_root {ns : List Nd} (h : checkR ns = 0) : (sizes ns)[0]? = some (ns.length : Int) := by
  have h1 : refFormB ns = true := by
    unfold checkR at h
    split at h
    · cases h
    · split at h
      · assumption
      · cases h
  unfold refFormB rootOk at h1
  simp only [Bool.and_eq_true] at h1
  obtain ⟨h1, _⟩ := h1
  cases e : ns[0]? with
  | none => rw [e] at h1; cases h1
  | some x =>
    rw [e] at h1
    simp only [Bool.and_eq_true, decide_eq_true_eq] at h1
    simp [sizes, e, h1.2]
end Go.Am
namespace Go.Am
open Go Go.Proofs Go.RowKit Go.Pu
theorem HRel.alias {P : Program} {B : Nat} {w0 : World} {M : Map} {h : Heap} {w : World} (r : HRel P B w0 M h w) (hn : h.objs.get h.next = Option.none) (q : Loc) (hq : q.b < w.heap.size) :
    Grow h ⟨h.objs, h.next + 1⟩ M (M.put h.next q) ∧ HRel P B w0 (M.put h.next q) ⟨h.objs, h.next + 1⟩ w := by
  have hi : M h.next = Option.none := r.fresh _ (Nat.le_refl _)
  have hle := Map.le_put (p := q) hi
  refine ⟨⟨hle, fun j hj => by simp only [Map.put, Nat.ne_of_lt hj, if_false], Nat.le_succ _⟩, r.belowM, r.base, fun j hj => ?_, fun j p hj => ?_, fun j k p p' hj hk hpq lj lk => ?_⟩
  · simp only at hj
    have : j ≠ h.next := by omega
    simp only [Map.put, this, if_false]
    exact r.fresh j (by omega)
  · unfold Map.put at hj
    split at hj
    · rename_i e
      subst e
      simp only [Option.some.injEq] at hj
      subst hj
      refine ⟨fun o ho => ?_, hq, ?_⟩
      · rw [hn] at ho; cases ho
      · show ORel P _ q (h.objs.get h.next) _
        rw [hn]
        exact True.intro
    · obtain ⟨h1, h2, h3⟩ := r.obj j p hj
      exact ⟨h1, h2, h3.mono hle⟩
  · unfold Map.put at hj hk
    split at hj <;> split at hk
    · rename_i e1 e2; rw [e1, e2]
    · rename_i e1 e2
      subst e1
      obtain ⟨o, ho, _⟩ := lj
      rw [hn] at ho
      cases ho
    · rename_i e1 e2
      subst e2
      rw [hn] at lk
      cases lk
    · exact r.inj j k p p' hj hk hpq lj lk
section
variable {P : Program} {ext : FuncId → Bool} {d : Option Tmp} {ty : TypeId} {pos : String} {af : Array Edge} {gd : Option (Nat × Bool)} {g : Ev} {h : Heap}
theorem OSem.slEnd {t e : TypeId} {x lo : Operand} {i k len es : Nat} {kd : IntKind} {z : Int} (hx : g x = some (.slice i k len es)) (hlo : g lo = some (.int kd z)) (hz : z = (len : Int)) (ht : P.underlying t = some (.slice e)) (hi : (P.info? e).isSome = true) (hes : Nat.beq (P.cellsOf e) es = true) (hn : h.objs.get h.next = none) :
    OSem P ⟨d, .slice t x (some lo) none none, ty, pos, af, gd⟩ g h (.slice h.next 0 0 es) ⟨h.objs, h.next + 1⟩ := by
  intro B w0 M w a r re next Q hk
  subst hz
  have e1 := re _ _ hx
  have e2 := re _ _ hlo
  obtain ⟨p, p1, p2, e1⟩ := conc_slice.1 e1
  simp only [conc, Option.some.injEq] at e2
  have h0 := Nat.eq_of_beq_eq_true hes
  have hpb := (r.obj i p p1).2.1
  have hb : (Instr.sliceBounds true len (p.cap - k) (some (.int kd (len : Int))) none none).run P w = .ok (len, len, p.cap - k) w := by
    simp [Instr.sliceBounds, Instr.sliceBound, asIntOf]
  have hrun : (Instr.sliceAt t (.slice (some ⟨p.b, p.base + k * es, none⟩) len (p.cap - k)) (some (.int kd (len : Int))) none none).run P w =
      .ok (.slice (if p.cap - k = len then some ⟨p.b, p.base + k * es, none⟩ else some ⟨p.b, p.base + k * es + len * es, none⟩) (len - len) (p.cap - k - len)) w := by
    simp only [Instr.sliceAt, Instr.slice, Sem.run_bind, run_underlying ht, Result.andThen_ok, hb, run_sizeOf' hi, h0, Sem.run_pure, Option.map_some, Addr.add_lit]
  have hx' : (execOp a.eval (⟨d, .slice t x (some lo) none none, ty, pos, af, gd⟩ : Oper)).run P w = .ok (.value (.slice (if p.cap - k = len then some ⟨p.b, p.base + k * es, none⟩ else some ⟨p.b, p.base + k * es + len * es, none⟩) (len - len) (p.cap - k - len))) w := by
    simp [execOp, ← e2, e1, hrun]
  unfold Oper.wp
  rw [hx']
  obtain ⟨g1, r1⟩ := r.alias hn (if p.cap - k = len then ⟨p.b, p.base + k * es, 0⟩ else ⟨p.b, p.base + k * es + len * es, p.cap - k - len⟩) (by split <;> exact hpb)
  refine hk _ _ _ g1 (conc_slice.2 ⟨_, Map.put_self _ _ _, by simp, ?_⟩) r1
  split
  · rename_i e; simp [e]
  · simp
theorem OSem.appZ {t u e : TypeId} {x y : Operand} {inf : TypeInfo} {es q k : Nat} {xv : AV} (hx : g x = some xv) (hxs : xv = .nilslice ∨ ∃ j n, xv = .slice j 0 n es) (hy : g y = some (.slice q k 0 es)) (ht : P.underlying t = some (.slice e)) (hu : P.underlying u = some (.slice e)) (hi : P.info? e = some inf) :
    OSem P ⟨d, .call ⟨.builtin .append, #[x, y], #[t, u]⟩, ty, pos, af, gd⟩ g h xv h := by
  intro B w0 M w a r re next Q hk
  have e1 := re _ _ hx
  have e2 := re _ _ hy
  obtain ⟨p, p1, p2, e2⟩ := conc_slice.1 e2
  have key : ∀ (b : Option Addr) (n cap : Nat), n ≤ cap → a.eval x = .slice b n cap → (execOp a.eval (⟨d, .call ⟨.builtin .append, #[x, y], #[t, u]⟩, ty, pos, af, gd⟩ : Oper)).run P w = .ok (.value (.slice b n cap)) w := fun b n cap hnc ex => by
    have := run_app_none (P := P) w t u ty e inf _ ht hu (.inr ⟨e, rfl⟩) hi b n cap (.slice (some ⟨p.b, p.base + k * es, none⟩) 0 (p.cap - k)) (by simp [Builtin.lenOf]) (run_firstCells_some w inf.size 0 _ 0 _ [] (by simp) (fun j v hj => by simp at hj)) hnc
    unfold execOp
    simp only [resolve, invoke, builtin, Sem.run_bind, Sem.run_pure, Result.andThen_ok, List.map_toArray, List.map_cons, List.map_nil, ex, e2, this]
  unfold Oper.wp
  rcases hxs with rfl | ⟨j, n, rfl⟩
  · simp only [conc, Option.some.injEq] at e1
    rw [key none 0 0 (Nat.le_refl _) e1.symm]
    exact hk _ _ _ (Grow.refl _ M) rfl r
  · obtain ⟨pq, q1, q2, q3⟩ := conc_slice.1 e1
    rw [key _ _ _ (by omega) q3]
    exact hk _ _ _ (Grow.refl _ M) (conc_slice.2 ⟨pq, q1, q2, rfl⟩) r
end
end Go.Am
namespace Go.Am
open Go Go.Proofs Go.RowKit Go.Pu
set_option maxRecDepth 1000000
theorem OSem.slR {P : Program} {ext : FuncId → Bool} (hext : ExtOk P ext) {d : Option Tmp} {ty : TypeId} {pos : String} {af : Array Edge} {gd : Option (Nat × Bool)} {g : Ev} {h : Heap} {t e : TypeId} {x : Operand} {lo hi : Option Operand} {i k len es : Nat} {l u : Option AV} {a b : Nat} (hx : g x = some (.slice i k len es)) (hl : aopt g lo = some l) (hu : aopt g hi = some u) (ht : P.underlying t = some (.slice e)) (hi' : (P.info? e).isSome = true) (hes : Nat.beq (P.cellsOf e) es = true) (hb : abound u len len = some b) (ha : abound l 0 b = some a) (hlt : a < len) :
    OSem P ⟨d, .slice t x lo hi none, ty, pos, af, gd⟩ g h (.slice i (k + a) (b - a) es) h := by
  have h1 : aslice P t (.slice i k len es) l u = some (.slice i (k + a) (b - a) es) := by
    cases a with
    | zero => simp [aslice, ht, hb, ha, hi', hes]
    | succ a =>
      have h3 : Nat.blt (a + 1) len = true := by simpa [blt_iff] using hlt
      have h4 : Nat.beq (a + 1) 0 = false := rfl
      simp [aslice, ht, hb, ha, hi', hes, h3, h4]
  exact OSem.val hext (by simp only [aop, b1, hx, hl, hu, h1, aval])
section
variable {P : Program} {ext : FuncId → Bool} {n : Nat} {ops : Array Oper} {l : List Oper} {r0 : Option (Nat × TypeId × List AV)} {rs : List (Option (Nat × TypeId × List AV))} {env env1 : Env} {h h1 h2 : Heap} {K : List Rec → Env → List Heap → Prop} {L : List Tmp} {d : Option Tmp} {ty : TypeId} {pos : String} {af : Array Edge} {gd : Option (Nat × Bool)}
theorem RD.opSl (hext : ExtOk P ext) {t e : TypeId} {x : Operand} {lo hi : Option Operand} {i k len es : Nat} {lv uv : Option AV} {a b : Nat} (hL : (⟨d, .slice t x lo hi none, ty, pos, af, gd⟩ : Oper).looksAt ops = L) (hw : awanted ops (aeval env) (⟨d, .slice t x lo hi none, ty, pos, af, gd⟩ : Oper) = some true) (hx : gfast L env x = some (.slice i k len es)) (hl : aopt (gfast L env) lo = some lv) (hu : aopt (gfast L env) hi = some uv) (ht : P.underlying t = some (.slice e)) (hi' : (P.info? e).isSome = true) (hes : Nat.beq (P.cellsOf e) es = true) (hb : abound uv len len = some b) (ha : abound lv 0 b = some a) (hlt : a < len) (hp : aput env n d (.slice i (k + a) (b - a) es) = some env1)
    (rest : RD P n ops l rs env1 h fun recs e hs => K (⟨(⟨d, .slice t x lo hi none, ty, pos, af, gd⟩ : Oper), env, .calm, .slice i (k + a) (b - a) es⟩ :: recs) e hs) : RD P n ops ((⟨d, .slice t x lo hi none, ty, pos, af, gd⟩ : Oper) :: l) (r0 :: rs) env h K :=
  RD.calmF hL hw (fun _ => OSem.slR hext hx hl hu ht hi' hes hb ha hlt) hp rest
theorem RD.opSl0 (hext : ExtOk P ext) {t e : TypeId} {x : Operand} {hi : Option Operand} {i k len es : Nat} {uv : Option AV} {b : Nat} (hL : (⟨d, .slice t x none hi none, ty, pos, af, gd⟩ : Oper).looksAt ops = L) (hw : awanted ops (aeval env) (⟨d, .slice t x none hi none, ty, pos, af, gd⟩ : Oper) = some true) (hx : gfast L env x = some (.slice i k len es)) (hu : aopt (gfast L env) hi = some uv) (ht : P.underlying t = some (.slice e)) (hi' : (P.info? e).isSome = true) (hes : Nat.beq (P.cellsOf e) es = true) (hb : abound uv len len = some b) (hp : aput env n d (.slice i k b es) = some env1)
    (rest : RD P n ops l rs env1 h fun recs e hs => K (⟨(⟨d, .slice t x none hi none, ty, pos, af, gd⟩ : Oper), env, .calm, .slice i k b es⟩ :: recs) e hs) : RD P n ops ((⟨d, .slice t x none hi none, ty, pos, af, gd⟩ : Oper) :: l) (r0 :: rs) env h K :=
  RD.calmF hL hw (fun _ => OSem.subL hext hx hu ht hi' hes hb) hp rest
theorem RD.opSlE {t e : TypeId} {x lo : Operand} {i k len es : Nat} {kd : IntKind} {z : Int} {ob : T AObj} (nx nx1 : Nat) (hob : h.objs = ob) (hnx : h.next = nx) (hnx1 : nx + 1 = nx1) (hL : (⟨d, .slice t x (some lo) none none, ty, pos, af, gd⟩ : Oper).looksAt ops = L) (hw : awanted ops (aeval env) (⟨d, .slice t x (some lo) none none, ty, pos, af, gd⟩ : Oper) = some true) (hx : gfast L env x = some (.slice i k len es)) (hlo : gfast L env lo = some (.int kd z)) (hz : z = (len : Int)) (ht : P.underlying t = some (.slice e)) (hi' : (P.info? e).isSome = true) (hes : Nat.beq (P.cellsOf e) es = true) (hn : ob.get nx = none) (hp : aput env n d (.slice nx 0 0 es) = some env1)
    (rest : RD P n ops l rs env1 ⟨ob, nx1⟩ fun recs e hs => K (⟨(⟨d, .slice t x (some lo) none none, ty, pos, af, gd⟩ : Oper), env, .eff, .slice nx 0 0 es⟩ :: recs) e (h :: hs)) : RD P n ops ((⟨d, .slice t x (some lo) none none, ty, pos, af, gd⟩ : Oper) :: l) (r0 :: rs) env h K := by
  subst hob hnx hnx1
  exact RD.effF hL hw (OSem.slEnd hx hlo hz ht hi' hes hn) hp rest
theorem RD.opIx (hext : ExtOk P ext) {t e : TypeId} {x y : Operand} {i len es : Nat} {kd : IntKind} {z : Int} (m : Nat) (hL : (⟨d, .indexAddr t x y, ty, pos, af, gd⟩ : Oper).looksAt ops = L) (hw : awanted ops (aeval env) (⟨d, .indexAddr t x y, ty, pos, af, gd⟩ : Oper) = some true) (hx : gfast L env x = some (.slice i 0 len es)) (hy : gfast L env y = some (.int kd z)) (hu : P.underlying t = some (.slice e)) (hi' : (P.info? e).isSome = true) (hes : Nat.beq (P.cellsOf e) es = true) (hz : z = (m : Int)) (hlt : m < len) (hp : aput env n d (.ptr i (m * es)) = some env1)
    (rest : RD P n ops l rs env1 h fun recs e hs => K (⟨(⟨d, .indexAddr t x y, ty, pos, af, gd⟩ : Oper), env, .calm, .ptr i (m * es)⟩ :: recs) e hs) : RD P n ops ((⟨d, .indexAddr t x y, ty, pos, af, gd⟩ : Oper) :: l) (r0 :: rs) env h K :=
  RD.calmF hL hw (fun _ => OSem.idxL hext hx hy hu hi' hes hz hlt) hp rest
end
section
variable {P : Program} {ext : FuncId → Bool} {n : Nat} {ops : Array Oper} {l : List Oper} {r0 : Option (Nat × TypeId × List AV)} {rs : List (Option (Nat × TypeId × List AV))} {env env1 : Env} {h h1 h2 : Heap} {K : List Rec → Env → List Heap → Prop} {L : List Tmp} {d : Option Tmp} {ty : TypeId} {pos : String} {af : Array Edge} {gd : Option (Nat × Bool)}
theorem RD.opAddI (hext : ExtOk P ext) {t t' : TypeId} {x y : Operand} {a b : Int} (hL : (⟨d, .binOp .add t x y t', ty, pos, af, gd⟩ : Oper).looksAt ops = L) (hw : awanted ops (aeval env) (⟨d, .binOp .add t x y t', ty, pos, af, gd⟩ : Oper) = some true) (hx : gfast L env x = some (.int .i64 a)) (hy : gfast L env y = some (.int .i64 b)) (hi : -9223372036854775808 ≤ a + b ∧ a + b < 9223372036854775808) (hp : aput env n d (.int .i64 (a + b)) = some env1)
    (rest : RD P n ops l rs env1 h fun recs e hs => K (⟨(⟨d, .binOp .add t x y t', ty, pos, af, gd⟩ : Oper), env, .calm, .int .i64 (a + b)⟩ :: recs) e hs) : RD P n ops ((⟨d, .binOp .add t x y t', ty, pos, af, gd⟩ : Oper) :: l) (r0 :: rs) env h K :=
  RD.calmF hL hw (fun _ => OSem.addI hext hx hy hi) hp rest
theorem RD.opSubI (hext : ExtOk P ext) {t t' : TypeId} {x y : Operand} {a b : Int} (hL : (⟨d, .binOp .sub t x y t', ty, pos, af, gd⟩ : Oper).looksAt ops = L) (hw : awanted ops (aeval env) (⟨d, .binOp .sub t x y t', ty, pos, af, gd⟩ : Oper) = some true) (hx : gfast L env x = some (.int .i64 a)) (hy : gfast L env y = some (.int .i64 b)) (hi : -9223372036854775808 ≤ a - b ∧ a - b < 9223372036854775808) (hp : aput env n d (.int .i64 (a - b)) = some env1)
    (rest : RD P n ops l rs env1 h fun recs e hs => K (⟨(⟨d, .binOp .sub t x y t', ty, pos, af, gd⟩ : Oper), env, .calm, .int .i64 (a - b)⟩ :: recs) e hs) : RD P n ops ((⟨d, .binOp .sub t x y t', ty, pos, af, gd⟩ : Oper) :: l) (r0 :: rs) env h K :=
  RD.calmF hL hw (fun _ => OSem.subI hext hx hy hi) hp rest
theorem RD.opLenL (hext : ExtOk P ext) {t e : TypeId} {x : Operand} {i k len es : Nat} (hL : (⟨d, .call ⟨.builtin .len, #[x], #[t]⟩, ty, pos, af, gd⟩ : Oper).looksAt ops = L) (hw : awanted ops (aeval env) (⟨d, .call ⟨.builtin .len, #[x], #[t]⟩, ty, pos, af, gd⟩ : Oper) = some true) (hx : gfast L env x = some (.slice i k len es)) (hu : P.underlying t = some (.slice e)) (hp : aput env n d (.int .i64 (len : Int)) = some env1)
    (rest : RD P n ops l rs env1 h fun recs e hs => K (⟨(⟨d, .call ⟨.builtin .len, #[x], #[t]⟩, ty, pos, af, gd⟩ : Oper), env, .calm, .int .i64 (len : Int)⟩ :: recs) e hs) : RD P n ops ((⟨d, .call ⟨.builtin .len, #[x], #[t]⟩, ty, pos, af, gd⟩ : Oper) :: l) (r0 :: rs) env h K :=
  RD.calmF hL hw (fun _ => OSem.lenL hext rfl rfl rfl hx hu) hp rest
end
theorem cellsN_drop : ∀ (k : Nat) (ns : List Nd), (cellsN ns).drop (k * 5) = cellsN (ns.drop k)
  | 0, ns => by simp
  | k + 1, [] => by simp [cellsN]
  | k + 1, x :: ns => by
    have e : cellsN (x :: ns) = rowN x ++ cellsN ns := rfl
    rw [e, List.drop_append, List.drop_of_length_le (by rw [rowN_len]; omega), rowN_len, show (k + 1) * 5 - 5 = k * 5 by omega, cellsN_drop k ns]
    rfl
theorem cellsN_take : ∀ (k : Nat) (ns : List Nd), (cellsN ns).take (k * 5) = cellsN (ns.take k)
  | 0, ns => by simp [cellsN]
  | k + 1, [] => by simp [cellsN]
  | k + 1, x :: ns => by
    have e : cellsN (x :: ns) = rowN x ++ cellsN ns := rfl
    rw [e, List.take_append, List.take_of_length_le (by rw [rowN_len]; omega), rowN_len, show (k + 1) * 5 - 5 = k * 5 by omega, cellsN_take k ns]
    rfl
theorem cellsN_sub {ns : List Nd} {k m : Nat} (h : k + m ≤ ns.length) : takeN (m * 5) ((cellsN ns).drop (k * 5)) = some (cellsN ((ns.drop k).take m)) := by
  rw [cellsN_drop, takeN_of (by rw [cellsN_len, List.length_drop]; omega), cellsN_take]
def cloneH (ns l : List Nd) : Heap := ⟨.node (some (.ro 50 5 (cellsN ns))) (.node (some (.cells 50 5 (cellsN l) false)) .leaf .leaf) .leaf, 2⟩
set_option maxHeartbeats 4000000 in
theorem sem98 (ns : List Nd) (k m : Nat) (hm0 : m ≠ 0) (hkm : k + m ≤ ns.length) (hn : ns.length ≤ 700) : CSem Tryz.prog 98 [.slice 0 k m 5] (nodesH ns) (.slice 1 0 m 5) (cloneH ns ((ns.drop k).take m)) := by
  refine CSem.into Tryz.func98 rfl (by decide) Tryz.ntmps98 rfl rfl rfl ?_
  dsimp only [nodesH]
  repeat' (first
   | refine S0 ?_
   | ((with_reducible refine' RO.appM exts_ok ?hw ?hx ?hy ?ht ?hu ?hi ?hz ?hzl ?hes ?he0 ?hn ?hone ?hm ?hg ?ho ?hb ?hb2 ?hq ?ha ?hp ?_); (case hw | hx | hy | ht | hu | hi | hz | hzl | hes | he0 => exact rfl); (case hn => exact cellsN_sub hkm); (case hone => exact allOne_rows _); (case hm => exact hm0); (case hg | ho => exact rfl); (case hb => omega); (case hb2 => (show _ * 48 ≤ _; omega)); (case hq | ha | hp => exact rfl))
   | (refine S2 ?_ ?_) <;> intro hc <;> try (exfalso; first | omega | (simp at hc; done))
   | refine St ?_
   | fail)
  exact ⟨rfl, _, rfl, [0, 2], ⟨rfl, rfl, rfl, RenO.ro (RenVs.plain (cellsN_plain _)), RenO.cells (RenVs.plain (cellsN_plain _)), True.intro⟩, RenV.sliceL rfl (by omega)⟩
theorem at98 {ns : List Nd} {k m : Nat} (hm0 : m ≠ 0) (hkm : k + m ≤ ns.length) (hn : ns.length ≤ 700) {h h' : Heap} {i j : Nat} (hi : Nat.blt i h.next = true) (ht : tells (h.objs.get i) (cellsN ns)) (hadd : h.add (.cells 50 5 (cellsN ((ns.drop k).take m)) false) = some (j, h')) : CSem Tryz.prog 98 [.slice i k m 5] h (.slice j 0 m 5) h' := by
  have hj := add_next hadd
  subst hj
  refine CSem.up (sem98 ns k m hm0 hkm hn) [i] [⟨50, 5, cellsN ((ns.drop k).take m), false⟩] rfl (by simp only [List.all_cons, hi, List.all_nil, Bool.and_true]) ⟨⟨cellsN_plain ns, ht⟩, True.intro⟩ (RenVs.cons (RenV.slice rfl) RenVs.nil) ⟨⟨(by show (cloneH ns _).objs.get 1 = _; rfl), cellsN_plain _⟩, True.intro⟩ rfl (h' := h') ?_ ?_
  · simp only [addAll, hadd]
  · exact RenV.slice rfl
theorem sub_nat {ns : List Nd} (hl : Lam (sizes ns)) {node : Nat} (hi : node < ns.length) : ∃ (x : Nd) (s : Nat), ns[node]? = some x ∧ x.s = (s : Int) ∧ 1 ≤ s ∧ node + s ≤ ns.length ∧ sizeAt ns node = (s : Int) ∧ subF ns node = (ns.drop node).take s := by
  obtain ⟨x, hx⟩ : ∃ x, ns[node]? = some x := ⟨ns[node], by simp [hi]⟩
  have h1 := sizeAt_le hl hi
  have h2 := sizeAt_get hx
  refine ⟨x, x.s.toNat, hx, by omega, by omega, by omega, by omega, ?_⟩
  unfold subF
  rw [h2]
set_option maxHeartbeats 8000000 in
theorem sem55k (ns : List Nd) (o : NdOk ns) (h0 : checkR ns = 0) (node : Nat) (hi : node < ns.length) : CSem Tryz.prog 55 [.agg [.slice 0 0 ns.length 5], .int .i64 (node : Int)] (nodesH ns) (.tuple [.slice 1 0 (subF ns node).length 5, .int .i64 0]) (cloneH ns (subF ns node)) := by
  have hl := check_lam o h0
  have hn := o.len
  obtain ⟨x, s, hx, hxs, hs1, hs2, hs3, hs4⟩ := sub_nat hl hi
  have hkm : 0 + node + (node + s - node) ≤ ns.length := by omega
  have hs0 : node + s - node ≠ 0 := by omega
  have he : (ns.drop (0 + node)).take (node + s - node) = subF ns node := by rw [hs4, Nat.zero_add, Nat.add_sub_cancel_left]
  have hlen : node + s - node = (subF ns node).length := by have := subF_len hl hi; omega
  have cf : ∀ {h : Heap}, Nat.blt 0 h.next = true → tells (h.objs.get 0) (cellsN ns) → CSem Tryz.prog 66 [.agg [.slice 0 0 ns.length 5], .int .i64 (node : Int)] h (.int .i64 0) h := fun hi' ht => by
    have := tf66 o (node := (node : Int)) (by omega) (TF.sl (i := 0)) hi' ht
    rwa [findR_z h0 (by omega)] at this
  refine CSem.into Tryz.func55 rfl (by decide) Tryz.ntmps55 rfl rfl rfl ?_
  dsimp only [nodesH]
  repeat' (first
   | refine S0 ?_
   | refine Sc cf ?_
   | ((with_reducible refine' RS.drawE mixed [none, none, none, none, none, none, none, none, none, none, none, none, none, none, none] ?hn ?hms ?hord ?hh ?_); (case hn | hms | hord | hh => exact rfl))
   | ((with_reducible refine' RD.opIx exts_ok node ?hLL ?hw ?hx ?hy ?hu ?hi ?hes ?hz ?hlt ?hp ?_); (case hLL | hw | hx | hy | hu | hi | hes | hz => exact rfl); (case hlt => omega); (case hp => exact rfl))
   | ((with_reducible refine' RD.opAddI exts_ok ?hLL ?hw ?hx ?hy ?hi ?hp ?_); (case hLL | hw | hx | hy => exact rfl); (case hi => omega); (case hp => exact rfl))
   | ((with_reducible refine' RD.opSl (a := node) (b := node + s) exts_ok ?hLL ?hw ?hx ?hl ?hu ?ht ?hi ?hes ?hb ?ha ?hlt ?hp ?_); (case hLL | hw | hx | hl | hu | ht | hi | hes => exact rfl); (case hb => exact abound_le (by omega) (by omega)); (case ha => exact abound_le (by omega) (by omega)); (case hlt => omega); (case hp => exact rfl))
   | ((with_reducible refine' RD.opFnE exts_ok 98 ?hLL ?hw ?ha ?hf ?hs ?hp ?_); (case hLL | hw | ha | hf => exact rfl); (case hs => exact at98 hs0 hkm hn rfl rfl rfl); (case hp => exact rfl))
   | (refine S2 ?_ ?_) <;> intro hc <;> try (exfalso; first | omega | (simp at hc; done))
   | refine Sf hx ?_
   | refine St ?_
   | ((with_reducible refine RD.nil ?_); (refine' RDk.intro ?oks ?hl ?_); (case hl => exact rfl); (case oks => (repeat' (first | exact True.intro | refine And.intro ?_ ?_ | exact rfl | exact OSem.load1 exts_ok rfl rfl rfl rfl | exact OSem.loadN exts_ok rfl rfl rfl rfl | exact OSem.load1 exts_ok rfl rfl rfl (cellsN_one hx rfl) | exact OSem.load1 exts_ok rfl rfl rfl (cellsN_row hx) | exact OSem.load1 exts_ok rfl rfl rfl (cellsI_one hx) | exact OSem.load1 exts_ok rfl rfl rfl (cellsZ_one hx) | exact OSem.load1 exts_ok rfl rfl rfl (cellsS_one hx) | exact OSem.loadN exts_ok rfl rfl rfl (cellsN_one hx rfl) | exact OSem.loadN exts_ok rfl rfl rfl (cellsN_row hx) | exact OSem.loadN exts_ok rfl rfl rfl (cellsI_one hx) | exact OSem.loadN exts_ok rfl rfl rfl (cellsZ_one hx) | exact OSem.loadN exts_ok rfl rfl rfl (cellsS_one hx)))))
   | refine Sd ?_
   | refine Sr hx ?_
   | fail)
  all_goals first
    | (exfalso; omega)
    | skip
  rw [he]
  exact ⟨rfl, _, rfl, [0, 2], ⟨rfl, rfl, rfl, RenO.ro (RenVs.plain (cellsN_plain _)), RenO.cells (RenVs.plain (cellsN_plain _)), True.intro⟩, RenV.tuple (RenVs.cons (RenV.sliceL rfl hlen) (RenVs.plain rfl))⟩
end Go.Am
namespace Go.Am
open Go Go.Proofs Go.RowKit Go.Pu
set_option maxRecDepth 1000000
section
variable {P : Program} {ext : FuncId → Bool} {N n' : Nat} {ops : Array Oper} {l : List Oper} {env env1 : Env} {h h1 h2 : Heap} {Post : APost} {d : Option Tmp} {ty : TypeId} {pos : String} {af : Array Edge} {gd : Option (Nat × Bool)} {g : Ev}
theorem OSem.capN {t e : TypeId} {x : Operand} (hx : g x = some .nilslice) (ht : P.underlying t = some (.slice e)) : OSem P ⟨d, .call ⟨.builtin .cap, #[x], #[t]⟩, ty, pos, af, gd⟩ g h (.int .i64 0) h := by
  intro B w0 M w a r re next Q hk
  have e1 := re _ _ hx
  simp only [conc, Option.some.injEq] at e1
  have hx' : (execOp a.eval (⟨d, .call ⟨.builtin .cap, #[x], #[t]⟩, ty, pos, af, gd⟩ : Oper)).run P w = .ok (.value (.int .i64 0)) w := by
    have hr : (Builtin.cap_ #[t] ty #[.slice none 0 0]).run P w = .ok (.int .i64 0) w := by
      simp [Builtin.cap_, run_underlying ht, goInt]
    unfold execOp
    simp only [resolve, invoke, builtin, Sem.run_bind, Sem.run_pure, Result.andThen_ok, List.map_toArray, List.map_cons, List.map_nil, ← e1, hr]
  unfold Oper.wp
  rw [hx']
  exact hk _ _ _ (Grow.refl _ M) rfl r
theorem OSem.appNZ {t u e : TypeId} {x y : Operand} {k kn : IntKind} {n es : Nat} {inf : TypeInfo} {z : AV} {j : Nat} (hx : g x = some .nilslice) (hy : g y = some (.int k (n : Int))) (ht : P.underlying t = some (.slice e)) (hu : P.underlying u = some (.int kn)) (hi : P.info? e = some inf) (hz : azero P e = some z) (hzl : Nat.beq z.cells.length es = true) (hes : P.cellsOf e = es) (he0 : Nat.blt 0 es = true) (h0 : 0 < n) (hn : n ≤ 1000000) (hb : n * inf.bytes ≤ 1000000000) (ha : h.add (.cells e es [] false) = some (j, h1)) :
    OSem P ⟨d, .call ⟨.builtin .append, #[x, y], #[t, u]⟩, ty, pos, af, gd⟩ g h (.slice j 0 n es) h1 := by
  intro B w0 M w a r re next Q hk
  have e1 := re _ _ hx
  have e2 := re _ _ hy
  simp only [conc, Option.some.injEq] at e1 e2
  have hes' : P.cellsOf e = inf.size := by simp [Program.cellsOf, hi]
  have hinfo : (P.info? e).isSome = true := by rw [hi]; rfl
  have hzl' := Nat.eq_of_beq_eq_true hzl
  have hs0 : 0 < es := by simpa [blt_iff] using he0
  obtain ⟨cz, z1, hz2⟩ : ∃ cz, conc M z = some cz ∧ inf.zero = some cz := by
    unfold azero at hz
    rw [hi] at hz
    simp only at hz
    split at hz
    · rename_i cz hcz
      exact ⟨cz, absV_sound M hz, hcz⟩
    · cases hz
  have hczs : cz.cells.size = es := by
    have := concs_length (conc_cells z1)
    have h3 : cz.cells.toList.length = cz.cells.size := by simp
    omega
  have hrun := Go.Lib.run_append_nil_zeros (P := P) w t u ty e inf cz k kn ht hu hi hz2 n h0 (by omega) (by omega) (by omega)
  have hge := grownCap_ge w n 0 e
  have hmax := grownCap_le_maxLen w n 0 e (by simp only [maxLen]; omega)
  have hd : HRel P B w0 M h w.drew := r.drew
  obtain ⟨_, k2, k3⟩ := hd.add ha (co := .cells (Builtin.zeroCells cz.cells n ++ Builtin.zeroCells cz.cells (grownCap w n 0 e - n)) e) (cap := grownCap w n 0 e)
    ⟨rfl, hes, hinfo, hs0, hmax, _, rfl, by
      simp only [Array.size_append, size_zeroCells, hczs, ← Nat.add_mul]
      congr 1; omega, by simp, nofun, fun jj a hj => by simp at hj⟩
  unfold Oper.wp
  have hx' : (execOp a.eval (⟨d, .call ⟨.builtin .append, #[x, y], #[t, u]⟩, ty, pos, af, gd⟩ : Oper)).run P w = .ok (.value (.slice (some ⟨w.heap.size, 0, none⟩) n (grownCap w n 0 e))) (w.drew.alloc (.cells (Builtin.zeroCells cz.cells n ++ Builtin.zeroCells cz.cells (grownCap w n 0 e - n)) e)) := by
    unfold execOp
    simp only [resolve, invoke, builtin, Sem.run_bind, Sem.run_pure, Result.andThen_ok, List.map_toArray, List.map_cons, List.map_nil, ← e1, ← e2, hrun]
  rw [hx']
  exact hk _ _ _ k2 (conc_slice.2 ⟨_, Map.put_self _ _ _, by simp; omega, by simp⟩) k3
theorem RO.capN {t e : TypeId} {x : Operand} (hw : awanted ops (aeval env) (⟨d, .call ⟨.builtin .cap, #[x], #[t]⟩, ty, pos, af, gd⟩ : Oper) = some true) (hx : aeval env x = some .nilslice) (ht : P.underlying t = some (.slice e)) (hp : aput env n' d (.int .i64 0) = some env1) (r : RO P N n' ops l env1 h Post) : RO P N n' ops ((⟨d, .call ⟨.builtin .cap, #[x], #[t]⟩, ty, pos, af, gd⟩ : Oper) :: l) env h Post :=
  RO.step hw (OSem.capN hx ht) hp r
theorem RO.appNZ {t u e : TypeId} {x y : Operand} {k kn : IntKind} (n : Nat) {es : Nat} {inf : TypeInfo} {z : AV} {j : Nat} (hw : awanted ops (aeval env) (⟨d, .call ⟨.builtin .append, #[x, y], #[t, u]⟩, ty, pos, af, gd⟩ : Oper) = some true) {zi : Int} (hx : aeval env x = some .nilslice) (hy : aeval env y = some (.int k zi)) (hzi : zi = (n : Int)) (ht : P.underlying t = some (.slice e)) (hu : P.underlying u = some (.int kn)) (hi : P.info? e = some inf) (hz : azero P e = some z) (hzl : Nat.beq z.cells.length es = true) (hes : P.cellsOf e = es) (he0 : Nat.blt 0 es = true) (h0 : 0 < n) (hn : n ≤ 1000000) (hb : n * inf.bytes ≤ 1000000000) (ha : h.add (.cells e es [] false) = some (j, h1)) (hp : aput env n' d (.slice j 0 n es) = some env1) (r : RO P N n' ops l env1 h1 Post) : RO P N n' ops ((⟨d, .call ⟨.builtin .append, #[x, y], #[t, u]⟩, ty, pos, af, gd⟩ : Oper) :: l) env h Post :=
  RO.step hw (OSem.appNZ hx (hzi ▸ hy) ht hu hi hz hzl hes he0 h0 hn hb ha) hp r
theorem RO.appZ {t u e : TypeId} {x y : Operand} {inf : TypeInfo} {es q k : Nat} {xv : AV}
    (hw : awanted ops (aeval env) (⟨d, .call ⟨.builtin .append, #[x, y], #[t, u]⟩, ty, pos, af, gd⟩ : Oper) = some true) (hx : aeval env x = some xv) (hy : aeval env y = some (.slice q k 0 es)) (hxs : xv = .nilslice ∨ ∃ j n, xv = .slice j 0 n es) (ht : P.underlying t = some (.slice e)) (hu : P.underlying u = some (.slice e)) (hi : P.info? e = some inf) (hp : aput env n' d xv = some env1) (r : RO P N n' ops l env1 h Post) : RO P N n' ops ((⟨d, .call ⟨.builtin .append, #[x, y], #[t, u]⟩, ty, pos, af, gd⟩ : Oper) :: l) env h Post :=
  RO.step hw (OSem.appZ hx hxs hy ht hu hi) hp r
end
set_option maxHeartbeats 4000000 in
theorem sem163z (h : Heap) : CSem Tryz.prog 163 [.nilslice, .int .i64 0] h .nilslice h := by
  refine CSem.pure ?_ (RenVs.plain rfl) (RenV.plain rfl) h
  refine CSem.into Tryz.func163 rfl (by decide) Tryz.ntmps163 rfl rfl rfl ?_
  dsimp only
  repeat' (first
   | refine S0 ?_
   | ((with_reducible refine' RO.capN ?hw ?hx ?ht ?hp ?_); (case hw | hx | ht | hp => exact rfl))
   | (refine S2 ?_ ?_) <;> intro hc <;> try (exfalso; first | omega | (simp at hc; done))
   | refine St ?_
   | fail)
  all_goals first
    | (exfalso; omega)
    | exact ⟨rfl, _, rfl, [], ⟨rfl, rfl, rfl, True.intro⟩, RenV.plain rfl⟩
set_option maxHeartbeats 4000000 in
theorem sem163k (m : Nat) (h0 : 0 < m) (hm : m ≤ 1000) : CSem Tryz.prog 163 [.nilslice, .int .i64 (m : Int)] ⟨.leaf, 0⟩ (.slice 0 0 0 5) ⟨.node (some (.cells 50 5 [] false)) .leaf .leaf, 1⟩ := by
  refine CSem.into Tryz.func163 rfl (by decide) Tryz.ntmps163 rfl rfl rfl ?_
  dsimp only
  repeat' (first
   | refine S0 ?_
   | ((with_reducible refine' RO.capN ?hw ?hx ?ht ?hp ?_); (case hw | hx | ht | hp => exact rfl))
   | ((with_reducible refine' RO.appNZ (es := 5) m ?hw ?hx ?hy ?hzi ?ht ?hu ?hi ?hz ?hzl ?hes ?he0 ?h0 ?hn ?hb ?ha ?hp ?_); (case hw | hx | hy | ht | hu | hi | hz | hzl | hes | he0 => exact rfl); (case hzi => omega); (case h0 | hn => omega); (case hb => (show _ * 48 ≤ _; omega)); (case ha | hp => exact rfl))
   | ((with_reducible refine' RO.subI (b := 0) exts_ok ?hw ?hx ?hy ?hi ?hp ?_); (case hw | hx | hy => exact rfl); (case hi => omega); (case hp => exact rfl))
   | (refine S2 ?_ ?_) <;> intro hc <;> try (exfalso; first | omega | (simp at hc; done))
   | refine St ?_
   | fail)
  all_goals first
    | (exfalso; omega)
    | exact ⟨rfl, _, rfl, [0], ⟨rfl, rfl, rfl, RenO.cells (RenVs.plain rfl), True.intro⟩, RenV.slice rfl⟩
theorem at163 {m : Nat} (h0 : 0 < m) (hm : m ≤ 1000) {h h' : Heap} {j : Nat} (hadd : h.add (.cells 50 5 [] false) = some (j, h')) : CSem Tryz.prog 163 [.nilslice, .int .i64 (m : Int)] h (.slice j 0 0 5) h' :=
  CSem.new1 (sem163k m h0 hm) (RenVs.plain rfl) rfl hadd (RenV.slice rfl)
end Go.Am
