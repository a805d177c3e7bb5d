/- Part of the proof: AmMem, AmAgg, AmIdx. -/
import Derived.Test.YtijdeggmmpfjeaaGreatDoorM1
import Derived.Laws.Tables
set_option linter.unusedSimpArgs false
set_option linter.unusedVariables false
set_option linter.unusedSectionVars false
namespace Go.Am
open Go Go.RowKit
def takeN {α : Type} : Nat → List α → Option (List α)
  | 0, _ => some []
  | _ + 1, [] => none
  | n + 1, x :: xs => match takeN n xs with
    | some l => some (x :: l)
    | none => none
theorem takeN_spec {α : Type} : ∀ {n : Nat} {l r : List α}, takeN n l = some r → r = l.take n ∧ r.length = n
  | 0, l, r, h => by simp [takeN] at h; subst h; simp
  | n + 1, [], r, h => by simp [takeN] at h
  | n + 1, x :: xs, r, h => by
    simp only [takeN] at h
    cases hn : takeN n xs with
    | none => simp [hn] at h
    | some l =>
      simp only [hn, Option.some.injEq] at h
      subst h
      obtain ⟨h1, h2⟩ := takeN_spec hn
      simp [← h1, h2]
def splice {α : Type} : List α → Nat → List α → Option (List α)
  | c, 0, [] => some c
  | [], 0, _ :: _ => none
  | _ :: c, 0, v :: vs => match splice c 0 vs with
    | some l => some (v :: l)
    | none => none
  | [], _ + 1, _ => none
  | x :: c, n + 1, vs => match splice c n vs with
    | some l => some (x :: l)
    | none => none
theorem splice_spec {α : Type} : ∀ {c : List α} {off : Nat} {vs r : List α}, splice c off vs = some r → r = c.take off ++ vs ++ c.drop (off + vs.length) ∧ off + vs.length ≤ c.length
  | c, 0, [], r, h => by simp [splice] at h; subst h; simp
  | [], 0, _ :: _, _, h => by simp [splice] at h
  | x :: c, 0, v :: vs, r, h => by
    simp only [splice] at h
    cases hn : splice c 0 vs with
    | none => simp [hn] at h
    | some l =>
      simp only [hn, Option.some.injEq] at h
      subst h
      obtain ⟨h1, h2⟩ := splice_spec hn
      simp at h1 h2 ⊢
      exact ⟨h1, h2⟩
  | [], _ + 1, _, _, h => by simp [splice] at h
  | x :: c, n + 1, vs, r, h => by
    simp only [splice] at h
    cases hn : splice c n vs with
    | none => simp [hn] at h
    | some l =>
      simp only [hn, Option.some.injEq] at h
      subst h
      obtain ⟨h1, h2⟩ := splice_spec hn
      refine ⟨?_, by simp; omega⟩
      rw [h1]
      simp [show n + 1 + vs.length = n + vs.length + 1 by omega]
theorem splice_length {α : Type} {c : List α} {off : Nat} {vs r : List α} (h : splice c off vs = some r) : r.length = c.length := by
  obtain ⟨h1, h2⟩ := splice_spec h
  subst h1
  simp; omega
def acells (h : Heap) (i off s : Nat) : Option (List AV) :=
  match h.objs.get i with
  | some (.cells _ _ c _) => takeN s (c.drop off)
  | some (.ro _ _ c) => takeN s (c.drop off)
  | _ => none
theorem cells_of {M : Map} {c : List AV} {f : Nat → Option Value} (hf : ∀ (j : Nat) (a : AV), c[j]? = some a → ∃ x, conc M a = some x ∧ f j = some x) {off s : Nat} {l : List AV} (ha : takeN s (c.drop off) = some l) :
    ∃ cl, concs M l = some cl ∧ cl.length = s ∧ ∀ (j : Nat) (v : Value), cl[j]? = some v → f (off + j) = some v := by
  obtain ⟨h1, h2⟩ := takeN_spec ha
  have hl : s ≤ c.length - off := by
    have : l.length = min s (c.length - off) := by rw [h1]; simp
    omega
  have key : ∀ j, j < s → ∃ x a, l[j]? = some a ∧ conc M a = some x ∧ f (off + j) = some x := by
    intro j hj
    have hj' : off + j < c.length := by omega
    obtain ⟨x, hx, hxa⟩ := hf (off + j) c[off + j] (by simp [hj'])
    refine ⟨x, c[off + j], ?_, hx, hxa⟩
    rw [h1, List.getElem?_take, if_pos hj, List.getElem?_drop]
    simp [hj']
  refine ⟨(List.range s).map fun j => (f (off + j)).getD undef, ?_, by simp, ?_⟩
  · refine concs_of_get (by simp [h2]) fun j a haj => ?_
    have hj : j < s := by
      have := (List.getElem?_eq_some_iff.1 haj).1
      omega
    obtain ⟨x, a', h10, h11, h12⟩ := key j hj
    rw [haj] at h10
    simp only [Option.some.injEq] at h10
    subst h10
    refine ⟨x, ?_, h11⟩
    rw [List.getElem?_map, List.getElem?_range hj]
    simp [h12]
  · intro j v hv
    have hj : j < s := by
      have := (List.getElem?_eq_some_iff.1 hv).1
      simpa using this
    obtain ⟨x, a', h10, h11, h12⟩ := key j hj
    rw [List.getElem?_map, List.getElem?_range hj] at hv
    simp only [Option.map_some, Option.some.injEq, h12, Option.getD_some] at hv
    subst hv
    exact h12
theorem cells_sound {P : Program} {B : Nat} {w0 : World} {M : Map} {h : Heap} {w : World} (r : HRel P B w0 M h w) {i off s : Nat} {l : List AV} (ha : acells h i off s = some l)
    {p : Loc} (hM : M i = some p) : ∃ cl, concs M l = some cl ∧ cl.length = s ∧ ∀ (j : Nat) (v : Value), cl[j]? = some v → w.cell? ⟨p.b, p.base + off + j, none⟩ = some v := by
  have ho := (r.obj i p hM).2.2
  unfold acells at ha
  split at ha
  · rename_i e es c ex hg
    rw [hg] at ho
    obtain ⟨h0, _, _, _, _, arr, h5, h6, h7, h8, h9⟩ := ho
    obtain ⟨cl, k1, k2, k3⟩ := cells_of h9 ha
    refine ⟨cl, k1, k2, fun j v hj => ?_⟩
    rw [cell?_eq, h5, h0, Nat.zero_add]
    exact k3 j v hj
  · rename_i e es c hg
    rw [hg] at ho
    obtain ⟨cl, k1, k2, k3⟩ := cells_of ho ha
    refine ⟨cl, k1, k2, fun j v hj => ?_⟩
    rw [cell?_eq, Nat.add_assoc]
    exact k3 j v hj
  · cases ha
theorem info_of_underlying {P : Program} {t : TypeId} {d : TypeDesc} (h : P.underlying t = some d) : (P.info? t).isSome = true := by
  unfold Program.underlying at h
  cases hi : P.info? t with
  | none => simp [hi] at h
  | some i => rfl
theorem run_sizeOf' {P : Program} {t : TypeId} (h : (P.info? t).isSome = true) (w : World) : (sizeOf t).run P w = .ok (P.cellsOf t) w := by
  obtain ⟨i, hi⟩ := Option.isSome_iff_exists.1 h
  simp [sizeOf, typeInfo, hi, Program.cellsOf]
def isAggB : TypeDesc → Bool
  | .struct _ | .array _ _ => true
  | _ => false
theorem run_isAgg {P : Program} {t : TypeId} {d : TypeDesc} (h : P.underlying t = some d) (w : World) : (isAgg t).run P w = .ok (isAggB d) w := by
  unfold isAgg
  simp only [Sem.run_bind, run_underlying h, Result.andThen_ok]
  cases d <;> rfl
def aload (P : Program) (h : Heap) (t : TypeId) (i off : Nat) : Option AV :=
  match P.underlying t with
  | some d => bif isAggB d then
      match acells h i off (P.cellsOf t) with
      | some l => some (.agg l)
      | none => none
    else match acells h i off 1 with
      | some [v] => some v
      | _ => none
  | none => none
theorem aload_sound {P : Program} {B : Nat} {w0 : World} {M : Map} {h : Heap} {w : World} (r : HRel P B w0 M h w) {t : TypeId} {i off : Nat} {v : AV} (ha : aload P h t i off = some v)
    {p : Loc} (hM : M i = some p) : ∃ c, conc M v = some c ∧ (loadVar t ⟨p.b, p.base + off, none⟩).run P w = .ok c w := by
  unfold aload at ha
  split at ha
  · rename_i d hd
    cases hagg : isAggB d with
    | true =>
      simp only [hagg, cond_true] at ha
      split at ha
      · rename_i l hl
        simp only [Option.some.injEq] at ha
        subst ha
        obtain ⟨cl, h1, h2, h3⟩ := cells_sound r hl hM
        refine ⟨.agg cl.toArray, by simp [conc, h1], ?_⟩
        have := run_loadCells_list (P := P) w ⟨p.b, p.base + off, none⟩ cl (fun j v hj => by rw [Addr.add_lit]; exact h3 j v hj)
        rw [h2] at this
        simp [loadVar, run_isAgg hd, hagg, run_sizeOf' (info_of_underlying hd), this]
      · cases ha
    | false =>
      simp only [hagg, cond_false] at ha
      split at ha
      · rename_i v' hl
        simp only [Option.some.injEq] at ha
        subst ha
        obtain ⟨cl, h1, h2, h3⟩ := cells_sound r hl hM
        obtain ⟨x, xs, rfl, h4, h5⟩ := concs_cons.1 h1
        refine ⟨x, h4, ?_⟩
        have := h3 0 x (by simp)
        simp only [Nat.add_zero] at this
        simp [loadVar, run_isAgg hd, hagg, this]
      · cases ha
  · cases ha
theorem HRel.ptr {P : Program} {B : Nat} {w0 : World} {M : Map} {h : Heap} {w : World} (r : HRel P B w0 M h w) {i off : Nat} {c : Value} (hc : conc M (.ptr i off) = some c) :
    ∃ p, M i = some p ∧ c = .pointer (some ⟨p.b, p.base + off, none⟩) ∧ p.b < w.heap.size := by
  simp only [conc, Option.map_eq_some_iff] at hc
  obtain ⟨p, h1, h2⟩ := hc
  exact ⟨p, h1, h2.symm, (r.obj i p h1).2.1⟩
def allOne : List AV → Bool
  | [] => true
  | v :: vs => bif v.one then allOne vs else false
theorem allOne_spec {M : Map} : ∀ {l : List AV} {c : List Value}, concs M l = some c → allOne l = true → ∀ v ∈ c, v.oneCell' = true
  | [], c, h, _ => by rw [concs_nil] at h; subst h; simp
  | v :: vs, c, h, ho => by
    obtain ⟨x, xs, rfl, h1, h2⟩ := concs_cons.1 h
    simp only [allOne] at ho
    cases hv : v.one with
    | false => simp [hv] at ho
    | true =>
      simp only [hv, cond_true] at ho
      intro u hu
      rcases List.mem_cons.1 hu with rfl | hu
      · exact conc_one h1 hv
      · exact allOne_spec h2 ho u hu
def awrite (h : Heap) (i off : Nat) (vs : List AV) : Option Heap :=
  match h.objs.get i with
  | some (.cells e es c ex) => bif allOne vs then
      match splice c off vs with
      | some c' => h.put i (some (.cells e es c' ex))
      | none => none
    else none
  | _ => none
theorem awrite_sound {P : Program} {B : Nat} {w0 : World} {M : Map} {h h' : Heap} {w : World} (r : HRel P B w0 M h w) {i off : Nat} {vs : List AV} (ha : awrite h i off vs = some h')
    {p : Loc} (hM : M i = some p) {cs : List Value} (hc : concs M vs = some cs) :
    ∃ w', (storeCells ⟨p.b, p.base + off, none⟩ cs 0).run P w = .ok () w' ∧ HRel P B w0 M h' w' ∧ h'.next = h.next := by
  unfold awrite at ha
  split at ha
  · rename_i e es c ex hg
    cases hall : allOne vs with
    | false => simp [hall] at ha
    | true =>
      simp only [hall, cond_true] at ha
      split at ha
      · rename_i c' hs
        obtain ⟨hs1, hs2⟩ := splice_spec hs
        have ho := (r.obj i p hM).2.2
        rw [hg] at ho
        obtain ⟨o0, o1, o2, o3, o4, arr, h5, h6, h7, h8, h9⟩ := ho
        have hlen := concs_length hc
        have hst := run_storeCells_at P p.b off e cs 0 arr w h5 (by omega) (allOne_spec hc hall)
        simp only [Nat.add_zero] at hst
        rw [o0, Nat.zero_add]
        refine ⟨_, hst, ?_⟩
        refine ⟨?_, Heap.next_put ha⟩
        refine r.write hM hg rfl ha (setRow_heap w p.b arr _ e _ h5) (fun k hk => setRow_other w p.b k _ hk) (by simp [World.setRow]) rfl rfl rfl ?_
        refine ⟨o0, o1, o2, o3, o4, _, rfl, by simp; omega, by rw [splice_length hs]; simp; omega, fun hex => by rw [splice_length hs, h8 hex]; simp; omega, ?_⟩
        intro j a hj
        rw [hs1] at hj
        simp only [List.getElem?_toArray]
        rw [List.append_assoc, List.getElem?_append, List.getElem?_append] at hj
        rw [List.append_assoc, List.getElem?_append, List.getElem?_append]
        have e1 : (c.take off).length = off := by simp; omega
        have e2 : (arr.toList.take off).length = off := by simp; omega
        rw [e1] at hj
        rw [e2, hlen]
        split at hj
        · rename_i hlt
          rw [if_pos hlt]
          rw [List.getElem?_take, if_pos hlt] at hj
          obtain ⟨x, h10, h11⟩ := h9 j a hj
          exact ⟨x, h10, by rw [List.getElem?_take, if_pos hlt]; simpa using h11⟩
        · rename_i hge
          rw [if_neg hge]
          split at hj
          · rename_i hlt
            rw [if_pos hlt]
            obtain ⟨x, h10, h11⟩ := concs_get hc hj
            exact ⟨x, h11, h10⟩
          · rename_i hge2
            rw [if_neg hge2]
            rw [List.getElem?_drop] at hj
            have : off + vs.length + (j - off - vs.length) = j := by omega
            rw [this] at hj
            obtain ⟨x, h10, h11⟩ := h9 j a hj
            refine ⟨x, h10, ?_⟩
            rw [List.getElem?_drop, this]
            simpa using h11
      · cases ha
  · cases ha
def astore (P : Program) (h : Heap) (t : TypeId) (i off : Nat) (v : AV) : Option Heap :=
  bif (P.info? t).isSome then
    let vs := v.cells
    bif Nat.beq vs.length (P.cellsOf t) then awrite h i off vs else none
  else none
theorem astore_sound {P : Program} {B : Nat} {w0 : World} {M : Map} {h h' : Heap} {w : World} (r : HRel P B w0 M h w) {t : TypeId} {i off : Nat} {v : AV} (ha : astore P h t i off v = some h')
    {p : Loc} (hM : M i = some p) {c : Value} (hc : conc M v = some c) :
    ∃ w', (storeVar t ⟨p.b, p.base + off, none⟩ c).run P w = .ok () w' ∧ HRel P B w0 M h' w' ∧ h'.next = h.next := by
  unfold astore at ha
  cases hi : (P.info? t).isSome with
  | false => simp [hi] at ha
  | true =>
    simp only [hi, cond_true] at ha
    cases hl : Nat.beq v.cells.length (P.cellsOf t) with
    | false => simp [hl] at ha
    | true =>
      simp only [hl, cond_true] at ha
      have hcs := conc_cells hc
      obtain ⟨w', h1, h2⟩ := awrite_sound r ha hM hcs
      refine ⟨w', ?_, h2⟩
      have hlen := concs_length hcs
      have he : c.cells.size = P.cellsOf t := by
        have := Nat.eq_of_beq_eq_true hl
        have h3 : c.cells.toList.length = c.cells.size := by simp
        omega
      unfold storeVar
      simp [run_sizeOf' hi, he, h1]
def anew (P : Program) (h : Heap) (t : TypeId) (vs : List AV) (ex : Bool) : Option (Nat × Heap) :=
  bif (P.info? t).isSome then
    let es := P.cellsOf t
    bif Nat.beq vs.length es then
      bif Nat.blt 0 es then h.add (.cells t es vs ex) else none
    else none
  else none
theorem anew_sound {P : Program} {B : Nat} {w0 : World} {M : Map} {h h' : Heap} {w : World} (r : HRel P B w0 M h w) {t : TypeId} {vs : List AV} {i : Nat} (ha : anew P h t vs true = some (i, h'))
    {cs : List Value} (hc : concs M vs = some cs) :
    ∃ M', Grow h h' M M' ∧ M' i = some ⟨w.heap.size, 0, 1⟩ ∧ (newRow t cs.toArray).run P w = .ok ⟨w.heap.size, 0, none⟩ { w with heap := w.heap.push (.cells cs.toArray t) } ∧
      HRel P B w0 M' h' { w with heap := w.heap.push (.cells cs.toArray t) } := by
  unfold anew at ha
  cases hi : (P.info? t).isSome with
  | false => simp [hi] at ha
  | true =>
    simp only [hi, cond_true] at ha
    cases hl : Nat.beq vs.length (P.cellsOf t) with
    | false => simp [hl] at ha
    | true =>
      simp only [hl, cond_true] at ha
      cases hp : Nat.blt 0 (P.cellsOf t) with
      | false => simp [hp] at ha
      | true =>
        simp only [hp, cond_true] at ha
        have hl' := Nat.eq_of_beq_eq_true hl
        have hp' : 0 < P.cellsOf t := by simpa [blt_iff] using hp
        have hlen := concs_length hc
        obtain ⟨h1, h2, h3⟩ := r.add ha (co := .cells cs.toArray t) (cap := 1) ⟨rfl, rfl, hi, hp', (by decide : 1 ≤ maxLen), cs.toArray, rfl, by simp; omega, by simp; omega, fun _ => by simp; omega, fun j a hj => by
          obtain ⟨x, h4, h5⟩ := concs_get hc hj
          exact ⟨x, h5, by simpa using h4⟩⟩
        refine ⟨_, h2, Map.put_self _ _ _, by simp [newRow], h3⟩
def azero (P : Program) (t : TypeId) : Option AV :=
  match P.info? t with
  | some i => match i.zero with
    | some z => absV z
    | none => none
  | none => none
theorem azero_sound {P : Program} {t : TypeId} {v : AV} (h : azero P t = some v) (M : Map) (w : World) : ∃ z, conc M v = some z ∧ (zeroValue t).run P w = .ok z w := by
  unfold azero at h
  split at h
  · rename_i i hi
    split at h
    · rename_i z hz
      exact ⟨z, absV_sound M h, by simp [zeroValue, typeInfo, hi, hz]⟩
    · cases h
  · cases h
theorem alloc_sound {P : Program} {B : Nat} {w0 : World} {M : Map} {h h' : Heap} {w : World} (r : HRel P B w0 M h w) {t : TypeId} {z : AV} (hz : azero P t = some z) {i : Nat}
    (ha : anew P h t z.cells true = some (i, h')) : ∃ c w' M', (Instr.alloc t true (.tuple #[])).run P w = .ok c w' ∧ Grow h h' M M' ∧ conc M' (.ptr i 0) = some c ∧ HRel P B w0 M' h' w' := by
  obtain ⟨cz, h1, h2⟩ := azero_sound hz M w
  obtain ⟨M', h3, h4, h5, h6⟩ := anew_sound r ha (conc_cells h1)
  refine ⟨.pointer (some ⟨w.heap.size, 0, none⟩), _, M', ?_, h3, by simp [conc, h4], h6⟩
  simp only [Instr.alloc, newVar, Sem.run_bind, h2, Result.andThen_ok]
  have e : cz.cells.toList.toArray = cz.cells := by simp
  rw [e] at h5
  simp [h5]
theorem box_sound {P : Program} {B : Nat} {w0 : World} {M : Map} {h h' : Heap} {w : World} (r : HRel P B w0 M h w) {t : TypeId} {v : AV} {i : Nat}
    (ha : anew P h t v.cells true = some (i, h')) {cv : Value} (hc : conc M v = some cv) : ∃ c w' M', (Instr.box t cv).run P w = .ok c w' ∧ Grow h h' M M' ∧ conc M' (.ptr i 0) = some c ∧ HRel P B w0 M' h' w' := by
  obtain ⟨M', h3, h4, h5, h6⟩ := anew_sound r ha (conc_cells hc)
  refine ⟨.pointer (some ⟨w.heap.size, 0, none⟩), _, M', ?_, h3, by simp [conc, h4], h6⟩
  have e : cv.cells.toList.toArray = cv.cells := by simp
  rw [e] at h5
  simp [Instr.box, newVar, h5]
end Go.Am
namespace Go.Am
open Go Go.RowKit
theorem foldl_set : ∀ (l : List Value) (k off : Nat) (arr : Array Value), off + k + l.length ≤ arr.size →
    ((l.zipIdx k).foldl (fun (cs : Array Value) (p : Value × Nat) => cs.setIfInBounds (off + p.2) p.1) arr).toList = arr.toList.take (off + k) ++ l ++ arr.toList.drop (off + k + l.length)
  | [], k, off, arr, _ => by simp
  | v :: l, k, off, arr, h => by
    simp only [List.zipIdx_cons, List.foldl_cons]
    rw [foldl_set l (k + 1) off _ (by simp at h ⊢; omega)]
    have e := list_seg_step arr.toList (off + k) v l (by simp at h ⊢; omega)
    simp only [Array.toList_setIfInBounds]
    rw [show off + (k + 1) = off + k + 1 by omega, e]
    simp
def afill (place : Nat → Option (Nat × Nat)) : List AV → List (Nat × AV) → Option (List AV)
  | cells, [] => some cells
  | cells, (i, v) :: rest =>
    match place i with
    | some (off, size) =>
      let vs := v.cells
      bif Nat.beq vs.length size then
        match splice cells off vs with
        | some c => afill place c rest
        | none => none
      else none
    | none => none
def PRel (M : Map) : List (Nat × AV) → List (Nat × Value) → Prop
  | [], l => l = []
  | (i, v) :: r, l => ∃ c r', l = (i, c) :: r' ∧ conc M v = some c ∧ PRel M r r'
theorem afill_sound {M : Map} {place : Nat → Option (Nat × Nat)} : ∀ {parts : List (Nat × AV)} {cells out : List AV} {arr : Array Value} {cparts : List (Nat × Value)},
    afill place cells parts = some out → concs M cells = some arr.toList → PRel M parts cparts → ∃ arr', Instr.fill place arr cparts = some arr' ∧ concs M out = some arr'.toList
  | [], cells, out, arr, cparts, h, hc, hp => by
    simp only [afill, Option.some.injEq] at h
    subst h
    subst hp
    exact ⟨arr, rfl, hc⟩
  | (i, v) :: rest, cells, out, arr, cparts, h, hc, ⟨c, r', e, h1, h2⟩ => by
    subst e
    simp only [afill] at h
    split at h
    · rename_i off size hpl
      cases hb : Nat.beq v.cells.length size with
      | false => simp [hb] at h
      | true =>
        simp only [hb, cond_true] at h
        split at h
        · rename_i c' hs
          obtain ⟨hs1, hs2⟩ := splice_spec hs
          have hcs := conc_cells h1
          have hl := concs_length hcs
          have hlc := concs_length hc
          have hsz : c.cells.size = size := by
            have := Nat.eq_of_beq_eq_true hb
            have h3 : c.cells.toList.length = c.cells.size := by simp
            omega
          have hfit : off + c.cells.size ≤ arr.size := by
            have h3 : c.cells.toList.length = c.cells.size := by simp
            have h4 : arr.toList.length = arr.size := by simp
            omega
          have hf : (c.cells.zipIdx.foldl (fun (cs : Array Value) (p : Value × Nat) => cs.setIfInBounds (off + p.2) p.1) arr).toList = arr.toList.take off ++ c.cells.toList ++ arr.toList.drop (off + c.cells.size) := by
            have := foldl_set c.cells.toList 0 off arr (by simpa using hfit)
            rw [← Array.foldl_toList]
            simpa using this
          have hc' : concs M c' = some (c.cells.zipIdx.foldl (fun (cs : Array Value) (p : Value × Nat) => cs.setIfInBounds (off + p.2) p.1) arr).toList := by
            rw [hf, hs1]
            have h3 : v.cells.length = c.cells.size := by rw [← hl]; simp
            rw [h3]
            exact concs_append (concs_append (concs_take hc off) hcs) (concs_drop hc _)
          obtain ⟨arr', h5, h6⟩ := afill_sound h hc' h2
          refine ⟨arr', ?_, h6⟩
          have hno : ¬ (arr.size < off + size) := by omega
          have hsz' : ¬ (c.cells.size ≠ size) := by omega
          simp only [Instr.fill, hpl]
          rw [if_neg (by simp [hsz, hno])]
          exact h5
        · cases h
    · cases h
def aplaces (P : Program) : List Field → Option (List (Nat × Nat))
  | [] => some []
  | f :: fs => bif (P.info? f.type).isSome then
      match aplaces P fs with
      | some l => some ((f.offset, P.cellsOf f.type) :: l)
      | none => none
    else none
theorem aplaces_sound {P : Program} (w : World) : ∀ {fs : List Field} {l : List (Nat × Nat)}, aplaces P fs = some l →
    (fs.mapM fun f => (do pure (f.offset, ← sizeOf f.type) : Sem (Nat × Nat))).run P w = .ok l w
  | [], l, h => by simp [aplaces] at h; subst h; rfl
  | f :: fs, l, h => by
    simp only [aplaces] at h
    cases hi : (P.info? f.type).isSome with
    | false => simp [hi] at h
    | true =>
      simp only [hi, cond_true] at h
      split at h
      · rename_i l' hl
        simp only [Option.some.injEq] at h
        subst h
        have ih := aplaces_sound w hl
        rw [List.mapM_cons]
        simp only [Sem.run_bind, run_sizeOf' hi, Result.andThen_ok, Sem.run_pure, ih]
      · cases h
def lget {α : Type} : List α → Nat → Option α
  | [], _ => none
  | x :: xs, n => bif Nat.beq n 0 then some x else lget xs (n - 1)
theorem lget_eq {α : Type} : ∀ (l : List α) (n : Nat), lget l n = l[n]?
  | [], n => by simp [lget]
  | x :: xs, 0 => by simp [lget]
  | x :: xs, n + 1 => by
    have : Nat.beq (n + 1) 0 = false := rfl
    simp [lget, this, lget_eq xs n]
def abuild (P : Program) (t : TypeId) (parts : List (Nat × AV)) : Option AV :=
  match azero P t with
  | some z => match P.underlying t with
    | some (.struct fs) => match aplaces P fs.toList with
      | some pl => match afill (lget pl) z.cells parts with
        | some c => some (.agg c)
        | none => none
      | none => none
    | _ => none
  | none => none
theorem abuild_sound {P : Program} {M : Map} {w : World} {t : TypeId} {parts : List (Nat × AV)} {v : AV} (h : abuild P t parts = some v) {cparts : List (Nat × Value)} (hp : PRel M parts cparts) :
    ∃ c, conc M v = some c ∧ (Instr.build t cparts.toArray).run P w = .ok c w := by
  unfold abuild at h
  split at h
  · rename_i z hz
    obtain ⟨cz, h1, h2⟩ := azero_sound hz M w
    split at h
    · rename_i fs hu
      split at h
      · rename_i pl hpl
        split at h
        · rename_i c hf
          simp only [Option.some.injEq] at h
          subst h
          obtain ⟨arr', h3, h4⟩ := afill_sound hf (arr := cz.cells) (conc_cells h1) hp
          refine ⟨.agg arr', by simp [conc, h4], ?_⟩
          have hm := aplaces_sound w hpl
          have hm' : (fs.mapM fun f => (do pure (f.offset, ← sizeOf f.type) : Sem (Nat × Nat))).run P w = .ok pl.toArray w := by
            rw [Array.mapM_eq_mapM_toList, Sem.run_map, hm]
            rfl
          have hl : lget pl = fun i => pl.toArray[i]? := by funext i; simp [lget_eq]
          rw [hl] at h3
          simp only [Instr.build, Sem.run_bind, h2, Result.andThen_ok, run_underlying hu, hm']
          simp only [h3, Sem.run_pure]
        · cases h
      · cases h
    · cases h
  · cases h
def reps : Nat → List AV → List AV
  | 0, _ => []
  | n + 1, l => l ++ reps n l
theorem reps_length (l : List AV) : ∀ n, (reps n l).length = n * l.length
  | 0 => by simp [reps]
  | n + 1 => by simp [reps, reps_length l n, Nat.add_mul, Nat.add_comm]
theorem reps_get (l : List AV) : ∀ (n j : Nat), j < n * l.length → (reps n l)[j]? = l[j % l.length]?
  | 0, j, h => by simp at h
  | n + 1, j, h => by
    simp only [reps]
    rw [List.getElem?_append]
    split
    · rename_i hj; rw [Nat.mod_eq_of_lt hj]
    · rename_i hj
      have h' : j - l.length < n * l.length := by
        rw [Nat.add_mul, Nat.one_mul] at h
        omega
      rw [reps_get l n _ h', ← Nat.mod_eq_sub_mod (by omega)]
def abuildCells (P : Program) (t : TypeId) (len : Nat) (parts : List (Nat × AV)) : Option (TypeId × Nat × List AV) :=
  match P.underlying t with
  | some (.slice e) =>
    match azero P e with
    | some z =>
      let es := P.cellsOf e
      let zs := z.cells
      bif Nat.beq zs.length es then
        bif Nat.blt 0 es then
          bif Nat.ble (len * es) 100000 then
            match afill (fun i => some (i * es, es)) (reps len zs) parts with
            | some c => some (e, es, c)
            | none => none
          else none
        else none
      else none
    | none => none
  | _ => none
def abuildSlice (P : Program) (h : Heap) (t : TypeId) (len : Nat) (parts : List (Nat × AV)) : Option (AV × Heap) :=
  match abuildCells P t len parts with
  | some (e, es, c) => match h.add (.cells e es c true) with
    | some (i, h') => some (.slice i 0 len es, h')
    | none => none
  | none => none
theorem abuildCells_sound {P : Program} {M : Map} (w : World) {t : TypeId} {len : Nat} {parts : List (Nat × AV)} {e0 : TypeId} {es0 : Nat} {c0 : List AV}
    (ha : abuildCells P t len parts = some (e0, es0, c0)) {cparts : List (Nat × Value)} (hp : PRel M parts cparts) :
    es0 = P.cellsOf e0 ∧ (P.info? e0).isSome = true ∧ 0 < es0 ∧ len ≤ maxLen ∧ c0.length = len * es0 ∧ ∃ arr' : Array Value, concs M c0 = some arr'.toList ∧ arr'.size = len * es0 ∧
      (Instr.buildSlice t len cparts.toArray).run P w = .ok (.slice (some ⟨w.heap.size, 0, none⟩) len len) { w with heap := w.heap.push (.cells arr' e0) } := by
  unfold abuildCells at ha
  split at ha
  · rename_i e hu
    split at ha
    · rename_i z hz
      cases h1 : Nat.beq z.cells.length (P.cellsOf e) with
      | false => simp [h1] at ha
      | true =>
        cases h2 : Nat.blt 0 (P.cellsOf e) with
        | false => simp [h1, h2] at ha
        | true =>
          cases h3 : Nat.ble (len * P.cellsOf e) 100000 with
          | false => simp [h1, h2, h3] at ha
          | true =>
            simp only [h1, h2, h3, cond_true] at ha
            split at ha
            · rename_i c hf
              simp only [Option.some.injEq, Prod.mk.injEq] at ha
              obtain ⟨rfl, rfl, rfl⟩ := ha
              have k1 := Nat.eq_of_beq_eq_true h1
              have k2 : 0 < P.cellsOf e := by simpa [blt_iff] using h2
              have k3 : len * P.cellsOf e ≤ 100000 := by simpa using h3
              obtain ⟨cz, h4, h5⟩ := azero_sound hz M w
              have hcz := conc_cells h4
              have hl := concs_length hcz
              have hczs : cz.cells.size = P.cellsOf e := by
                have h3 : cz.cells.toList.length = cz.cells.size := by simp
                omega
              have hinfo : (P.info? e).isSome = true := by
                unfold azero at hz
                cases hi : P.info? e with
                | none => simp [hi] at hz
                | some i => rfl
              let zero := if len * P.cellsOf e = 0 then #[] else cz.cells
              let start := (Array.range (len * P.cellsOf e)).map (fun j => zero[j % zero.size]!)
              have hstart : concs M (reps len z.cells) = some start.toList := by
                refine concs_of_get ?_ fun j a hj => ?_
                · simp [start, reps_length, k1]
                · have hjl : j < len * z.cells.length := by
                    have := (List.getElem?_eq_some_iff.1 hj).1
                    rwa [reps_length] at this
                  rw [reps_get _ _ _ hjl] at hj
                  obtain ⟨x, h6, h7⟩ := concs_get hcz hj
                  refine ⟨x, ?_, h7⟩
                  have hjl' : j < len * P.cellsOf e := by rw [← k1]; exact hjl
                  have hz0 : zero = cz.cells := by
                    simp only [zero]
                    rw [if_neg (by omega)]
                  have hsz : zero.size = z.cells.length := by rw [hz0, hczs, k1]
                  simp only [start, Array.toList_map, Array.toList_range, List.getElem?_map, List.getElem?_range hjl', Option.map_some, Option.some.injEq]
                  rw [hsz, hz0]
                  rw [Array.getElem?_toList] at h6
                  simp [getElem!_def, h6]
              obtain ⟨arr', h6, h7⟩ := afill_sound hf (arr := start) hstart hp
              have hlen' := concs_length h7
              have hcl : c.length = len * P.cellsOf e := by
                have : ∀ {parts : List (Nat × AV)} {cells out : List AV}, afill (fun i => some (i * P.cellsOf e, P.cellsOf e)) cells parts = some out → out.length = cells.length := by
                  intro parts
                  induction parts with
                  | nil => intro cells out h; simp [afill] at h; subst h; rfl
                  | cons p ps ih =>
                    intro cells out h
                    obtain ⟨i, v⟩ := p
                    simp only [afill] at h
                    cases hb : Nat.beq v.cells.length (P.cellsOf e) with
                    | false => simp [hb] at h
                    | true =>
                      simp only [hb, cond_true] at h
                      split at h
                      · rename_i c' hs
                        rw [ih h, splice_length hs]
                      · cases h
                rw [this hf, reps_length, k1]
              have hasz : arr'.size = len * P.cellsOf e := by
                have h3 : arr'.toList.length = arr'.size := by simp
                omega
              have hmax : len ≤ maxLen := by
                have := Nat.le_mul_of_pos_right len k2
                simp only [maxLen]
                omega
              refine ⟨rfl, hinfo, k2, hmax, hcl, arr', h7, hasz, ?_⟩
              have hbig : ¬ (16777216 < len * P.cellsOf e) := by omega
              by_cases h0 : len * P.cellsOf e = 0
              · have hs0 : start = (Array.range (len * P.cellsOf e)).map (fun j => (#[] : Array Value)[j % 0]!) := by
                  simp [start, zero, h0]
                simp only [Instr.buildSlice, Sem.run_bind, run_underlying hu, Result.andThen_ok, run_sizeOf' hinfo]
                rw [hs0] at h6
                simp only [h0, Array.range_zero', Array.map_empty] at h6
                simp [h0, newRow, Array.range_zero', h6]
              · have hs0 : start = (Array.range (len * P.cellsOf e)).map (fun j => cz.cells[j % cz.cells.size]!) := by
                  simp [start, zero, h0]
                rw [hs0] at h6
                simp only [Instr.buildSlice, Sem.run_bind, run_underlying hu, Result.andThen_ok, run_sizeOf' hinfo]
                simp [hbig, h0, h5, h6, newRow]
            · cases ha
    · cases ha
  · cases ha
theorem abuildSlice_sound {P : Program} {B : Nat} {w0 : World} {M : Map} {h h' : Heap} {w : World} (r : HRel P B w0 M h w) {t : TypeId} {len : Nat} {parts : List (Nat × AV)} {v : AV}
    (ha : abuildSlice P h t len parts = some (v, h')) {cparts : List (Nat × Value)} (hp : PRel M parts cparts) :
    ∃ c w' M', (Instr.buildSlice t len cparts.toArray).run P w = .ok c w' ∧ Grow h h' M M' ∧ conc M' v = some c ∧ HRel P B w0 M' h' w' := by
  unfold abuildSlice at ha
  split at ha
  · rename_i e es c hb
    split at ha
    · rename_i i h'' hadd
      simp only [Option.some.injEq, Prod.mk.injEq] at ha
      obtain ⟨rfl, rfl⟩ := ha
      obtain ⟨rfl, hinfo, k2, hmax, hcl, arr', h7, hasz, hrun⟩ := abuildCells_sound w hb hp
      have hlen' := concs_length h7
      obtain ⟨_, g2, g3⟩ := r.add hadd (co := .cells arr' e) (cap := len) ⟨rfl, rfl, hinfo, k2, hmax, arr', rfl, hasz, by omega, fun _ => by omega, fun j a hj => by
        obtain ⟨x, h8, h9⟩ := concs_get h7 hj
        exact ⟨x, h9, by simpa using h8⟩⟩
      exact ⟨_, _, _, hrun, g2, conc_slice.2 ⟨_, Map.put_self _ _ _, by simp, by simp⟩, g3⟩
    · cases ha
  · cases ha
end Go.Am
namespace Go.Am
open Go Go.RowKit
def afieldOf (P : Program) (t : TypeId) (f : Nat) : Option Field :=
  match P.underlying t with
  | some (.struct fs) => fs[f]?
  | _ => none
def afieldAddr (P : Program) (t : TypeId) (x : AV) (f : Nat) : Option AV :=
  match x with
  | .ptr i off => match afieldOf P t f with
    | some fd => bif (P.info? fd.type).isSome then
        bif Nat.beq (P.cellsOf fd.type) 0 then none else some (.ptr i (off + fd.offset))
      else none
    | none => none
  | _ => none
theorem afieldAddr_sound {P : Program} {M : Map} {w : World} {t : TypeId} {x : AV} {f : Nat} {v : AV} (h : afieldAddr P t x f = some v) {cx : Value} (hx : conc M x = some cx) :
    ∃ c, conc M v = some c ∧ (Instr.fieldAt t cx f).run P w = .ok c w := by
  unfold afieldAddr at h
  split at h
  · rename_i i off
    split at h
    · rename_i fd hf
      cases hi : (P.info? fd.type).isSome with
      | false => simp [hi] at h
      | true =>
        cases h0 : Nat.beq (P.cellsOf fd.type) 0 with
        | true => simp [hi, h0] at h
        | false =>
          simp only [hi, h0, cond_true, cond_false, Option.some.injEq] at h
          subst h
          unfold afieldOf at hf
          split at hf
          · rename_i fs hu
            simp only [conc, Option.map_eq_some_iff] at hx ⊢
            obtain ⟨p, h1, rfl⟩ := hx
            have h0' : P.cellsOf fd.type ≠ 0 := Nat.ne_of_beq_eq_false h0
            refine ⟨_, ⟨p, h1, rfl⟩, ?_⟩
            simp only [Instr.fieldAt, Sem.run_bind, run_underlying hu, Result.andThen_ok, hf, Instr.sureAddr, Sem.run_pure, fieldPlace, run_sizeOf' hi, if_neg h0', Addr.add_lit, Nat.add_assoc]
          · cases hf
    · cases h
  · cases h
def apart (P : Program) (t : TypeId) (cs : List AV) (off : Nat) : Option AV :=
  match P.underlying t with
  | some d => bif isAggB d then
      match takeN (P.cellsOf t) (cs.drop off) with
      | some l => some (.agg l)
      | none => none
    else lget cs off
  | none => none
theorem apart_sound {P : Program} {M : Map} {w : World} {t : TypeId} {cs : List AV} {off : Nat} {v : AV} (h : apart P t cs off = some v) {ccs : List Value} (hc : concs M cs = some ccs) :
    ∃ c, conc M v = some c ∧ (part t ccs.toArray off).run P w = .ok c w := by
  unfold apart at h
  split at h
  · rename_i d hd
    cases hagg : isAggB d with
    | true =>
      simp only [hagg, cond_true] at h
      split at h
      · rename_i l hl
        simp only [Option.some.injEq] at h
        subst h
        obtain ⟨h1, h2⟩ := takeN_spec hl
        refine ⟨.agg ((ccs.drop off).take (P.cellsOf t)).toArray, ?_, ?_⟩
        · simp only [conc, Option.map_eq_some_iff]
          exact ⟨_, by rw [h1]; exact concs_take (concs_drop hc off) _, rfl⟩
        · simp [part, run_isAgg hd, hagg, run_sizeOf' (info_of_underlying hd), List.extract_eq_take_drop]
      · cases h
    | false =>
      simp only [hagg, cond_false, lget_eq] at h
      obtain ⟨x, h1, h2⟩ := concs_get hc h
      exact ⟨x, h2, by simp [part, run_isAgg hd, hagg, h1]⟩
  · cases h
def afield (P : Program) (t : TypeId) (x : AV) (f : Nat) : Option AV :=
  match x with
  | .agg cs => match afieldOf P t f with
    | some fd => apart P fd.type cs fd.offset
    | none => none
  | _ => none
theorem afield_sound {P : Program} {M : Map} {w : World} {t : TypeId} {x : AV} {f : Nat} {v : AV} (h : afield P t x f = some v) {cx : Value} (hx : conc M x = some cx) :
    ∃ c, conc M v = some c ∧ (Instr.field t cx f).run P w = .ok c w := by
  unfold afield at h
  split at h
  · rename_i cs
    split at h
    · rename_i fd hf
      simp only [conc, Option.map_eq_some_iff] at hx
      obtain ⟨l, h1, rfl⟩ := hx
      obtain ⟨c, h2, h3⟩ := apart_sound (w := w) h h1
      unfold afieldOf at hf
      split at hf
      · rename_i fs hu
        exact ⟨c, h2, by simp [Instr.field, run_underlying hu, hf, asAgg, h3]⟩
      · cases hf
    · cases h
  · cases h
def natOf (n : Int) : Option Nat :=
  match n with
  | .ofNat m => some m
  | .negSucc _ => none
theorem natOf_spec {n : Int} {m : Nat} (h : natOf n = some m) : n = (m : Int) := by
  cases n with
  | ofNat k => simp only [natOf, Option.some.injEq] at h; subst h; rfl
  | negSucc k => simp [natOf] at h
def aindexAddr (P : Program) (t : TypeId) (x ix : AV) : Option AV :=
  match x, ix with
  | .slice i k len es, .int _ n => match natOf n with
    | some m => match P.underlying t with
      | some (.slice e) => bif (P.info? e).isSome then
          bif Nat.beq (P.cellsOf e) es then
            bif Nat.blt m len then some (.ptr i (k * es + m * es)) else none
          else none
        else none
      | _ => none
    | none => none
  | _, _ => none
theorem aindexAddr_sound {P : Program} {M : Map} {w : World} {t : TypeId} {x ix v : AV} (h : aindexAddr P t x ix = some v) {cx cix : Value} (hx : conc M x = some cx) (hix : conc M ix = some cix) :
    ∃ c, conc M v = some c ∧ (Instr.indexAt t cx cix).run P w = .ok c w := by
  unfold aindexAddr at h
  split at h
  · rename_i i k len es kd n
    split at h
    · rename_i m hm
      split at h
      · rename_i e hu
        cases hi : (P.info? e).isSome with
        | false => simp [hi] at h
        | true =>
          cases h0 : Nat.beq (P.cellsOf e) es with
          | false => simp [hi, h0] at h
          | true =>
            cases h1 : Nat.blt m len with
            | false => simp [hi, h0, h1] at h
            | true =>
              simp only [hi, h0, h1, cond_true, Option.some.injEq] at h
              subst h
              have h0' := Nat.eq_of_beq_eq_true h0
              have h1' : m < len := by simpa [blt_iff] using h1
              obtain ⟨p, h2, h3, rfl⟩ := conc_slice.1 hx
              simp only [conc, Option.some.injEq] at hix
              subst hix
              have hn := natOf_spec hm
              subst hn
              refine ⟨.pointer (some ⟨p.b, p.base + (k * es + m * es), none⟩), by simp [conc, h2], ?_⟩
              simp [Instr.indexAt, run_underlying hu, asIntOf, h1', run_sizeOf' hi, h0', Addr.add_lit, Nat.add_assoc]
      · cases h
    · cases h
  · cases h
def aindex (P : Program) (t : TypeId) (x ix : AV) : Option AV :=
  match x, ix with
  | .str s, .int _ n => match natOf n with
    | some m => match P.underlying t with
      | some .string => match lget s m with
        | some b => some (.int .u8 (.ofNat b.toNat))
        | none => none
      | _ => none
    | none => none
  | _, _ => none
theorem aindex_sound {P : Program} {M : Map} {w : World} {t : TypeId} {x ix v : AV} (h : aindex P t x ix = some v) {cx cix : Value} (hx : conc M x = some cx) (hix : conc M ix = some cix) :
    ∃ c, conc M v = some c ∧ (Instr.index t cx cix).run P w = .ok c w := by
  unfold aindex at h
  split at h
  · rename_i s kd n
    split at h
    · rename_i m hm
      split at h
      · rename_i hu
        split at h
        · rename_i b hb
          simp only [Option.some.injEq] at h
          subst h
          simp only [conc, Option.some.injEq] at hx hix
          subst hx
          subst hix
          have hn := natOf_spec hm
          subst hn
          rw [lget_eq] at hb
          refine ⟨_, rfl, ?_⟩
          have hlt : m < s.length := (List.getElem?_eq_some_iff.1 hb).1
          have hs : (⟨s.toArray⟩ : ByteArray)[m]? = some b := by
            have hsz : m < (⟨s.toArray⟩ : ByteArray).size := by
              have e : (⟨s.toArray⟩ : ByteArray).size = s.length := by simp [ByteArray.size]
              omega
            rw [getElem?_pos (⟨s.toArray⟩ : ByteArray) m hsz]
            have := (List.getElem?_eq_some_iff.1 hb).2
            simpa [ByteArray.getElem_eq_getElem_data] using this
          simp [Instr.index, run_underlying hu, asIntOf, hs]
        · cases h
      · cases h
    · cases h
  · cases h
def abound (x : Option AV) (dflt most : Nat) : Option Nat :=
  match x with
  | none => some dflt
  | some (.int _ n) => match natOf n with
    | some m => bif Nat.ble m most then some m else none
    | none => none
  | _ => none
theorem abound_sound {P : Program} {M : Map} {w : World} {x : Option AV} {dflt most n : Nat} (h : abound x dflt most = some n) :
    (x = none ∧ n = dflt) ∨ (n ≤ most ∧ ∃ k, x = some (.int k n) ∧ ∀ c, conc M (.int k n) = some c → ∀ y code, n ≤ y → (Instr.sliceBound c y code).run P w = .ok n w) := by
  unfold abound at h
  split at h
  · simp only [Option.some.injEq] at h; exact .inl ⟨rfl, h.symm⟩
  · rename_i k m
    split at h
    · rename_i m' hm
      cases hb : Nat.ble m' most with
      | false => simp [hb] at h
      | true =>
        simp only [hb, cond_true, Option.some.injEq] at h
        subst h
        have := natOf_spec hm
        subst this
        refine .inr ⟨by simpa using hb, k, rfl, fun c hc y code hy => ?_⟩
        simp only [conc, Option.some.injEq] at hc
        subst hc
        simp [Instr.sliceBound, asIntOf, hy]
    · cases h
  · cases h
theorem bounds_sound {P : Program} {M : Map} {w : World} {lo hi : Option AV} {len l h : Nat} (isSlice : Bool) (cap : Nat) (hcap : len ≤ cap) (hh : abound hi len len = some h) (hl : abound lo 0 h = some l)
    {clo chi : Option Value} (hlo : ∀ x, lo = some x → ∃ c, clo = some c ∧ conc M x = some c) (hlo' : lo = none → clo = none) (hhi : ∀ x, hi = some x → ∃ c, chi = some c ∧ conc M x = some c) (hhi' : hi = none → chi = none) :
    (Instr.sliceBounds isSlice len cap clo chi none).run P w = .ok (l, h, cap) w ∧ l ≤ h ∧ h ≤ len := by
  have key1 : h ≤ len ∧ (chi = none ∧ h = len ∨ ∃ c, chi = some c ∧ ∀ y code, h ≤ y → (Instr.sliceBound c y code).run P w = .ok h w) := by
    rcases abound_sound (P := P) (M := M) (w := w) hh with ⟨h1, h2⟩ | ⟨h1, k, h2, h3⟩
    · exact ⟨by omega, .inl ⟨hhi' h1, h2⟩⟩
    · obtain ⟨c, h4, h5⟩ := hhi _ h2
      exact ⟨h1, .inr ⟨c, h4, h3 c h5⟩⟩
  have key2 : l ≤ h ∧ (clo = none ∧ l = 0 ∨ ∃ c, clo = some c ∧ ∀ y code, l ≤ y → (Instr.sliceBound c y code).run P w = .ok l w) := by
    rcases abound_sound (P := P) (M := M) (w := w) hl with ⟨h1, h2⟩ | ⟨h1, k, h2, h3⟩
    · exact ⟨by omega, .inl ⟨hlo' h1, h2⟩⟩
    · obtain ⟨c, h4, h5⟩ := hlo _ h2
      exact ⟨h1, .inr ⟨c, h4, h3 c h5⟩⟩
  refine ⟨?_, key2.1, key1.1⟩
  rcases key1 with ⟨k1, ⟨rfl, rfl⟩ | ⟨c, rfl, k2⟩⟩ <;> rcases key2 with ⟨k3, ⟨rfl, rfl⟩ | ⟨c', rfl, k4⟩⟩
  · simp [Instr.sliceBounds]
  · simp [Instr.sliceBounds, k4 _ _ k3]
  · simp [Instr.sliceBounds, k2 _ _ (Nat.le_trans k1 hcap)]
  · simp [Instr.sliceBounds, k2 _ _ (Nat.le_trans k1 hcap), k4 _ _ k3]
def aslice (P : Program) (t : TypeId) (x : AV) (lo hi : Option AV) : Option AV :=
  match P.underlying t with
  | some .string => match x with
    | .str s => match abound hi s.length s.length with
      | some h => match abound lo 0 h with
        | some l => some (.str ((s.take h).drop l))
        | none => none
      | none => none
    | _ => none
  | some (.slice e) => match x with
    | .slice i k len es => match abound hi len len with
      | some h => match abound lo 0 h with
        | some l => bif (P.info? e).isSome then
            bif Nat.beq (P.cellsOf e) es then
              bif Nat.beq l 0 then some (.slice i k h es)
              else bif Nat.blt l len then some (.slice i (k + l) (h - l) es) else none
            else none
          else none
        | none => none
      | none => none
    | .nilslice => match abound hi 0 0 with
      | some 0 => match abound lo 0 0 with
        | some 0 => bif (P.info? e).isSome then some .nilslice else none
        | _ => none
      | _ => none
    | _ => none
  | _ => none
theorem aslice_sound {P : Program} {M : Map} {w : World} {t : TypeId} {x v : AV} {lo hi : Option AV} (h : aslice P t x lo hi = some v) {cx : Value} (hx : conc M x = some cx)
    {clo chi : Option Value} (hlo : ∀ x, lo = some x → ∃ c, clo = some c ∧ conc M x = some c) (hlo' : lo = none → clo = none) (hhi : ∀ x, hi = some x → ∃ c, chi = some c ∧ conc M x = some c) (hhi' : hi = none → chi = none) :
    ∃ c, conc M v = some c ∧ (Instr.sliceAt t cx clo chi none).run P w = .ok c w := by
  unfold aslice at h
  split at h
  · rename_i hu
    split at h
    · rename_i s
      split at h
      · rename_i hb hh
        split at h
        · rename_i lb hl
          simp only [Option.some.injEq] at h
          subst h
          simp only [conc, Option.some.injEq] at hx
          subst hx
          have hsz : (⟨s.toArray⟩ : ByteArray).size = s.length := by simp [ByteArray.size]
          obtain ⟨h1, h2, h3⟩ := bounds_sound (P := P) (w := w) false s.length (Nat.le_refl _) hh hl hlo hlo' hhi hhi'
          refine ⟨_, rfl, ?_⟩
          have hext : (⟨s.toArray⟩ : ByteArray).extract lb hb = ⟨((s.take hb).drop lb).toArray⟩ := by
            apply ByteArray.ext
            apply Array.ext'
            simp [List.extract_eq_take_drop, List.drop_take]
          simp [Instr.sliceAt, Instr.slice, run_underlying hu, hsz, h1, hext]
        · cases h
      · cases h
    · cases h
  · rename_i e hu
    split at h
    · rename_i i k len es
      split at h
      · rename_i hb hh
        split at h
        · rename_i lb hl
          cases hi : (P.info? e).isSome with
          | false => simp [hi] at h
          | true =>
            cases h0 : Nat.beq (P.cellsOf e) es with
            | false => simp [hi, h0] at h
            | true =>
              simp only [hi, h0, cond_true] at h
              have h0' := Nat.eq_of_beq_eq_true h0
              obtain ⟨p, h2, h3, rfl⟩ := conc_slice.1 hx
              obtain ⟨g1, g2, g3⟩ := bounds_sound (P := P) (w := w) true (p.cap - k) (len := len) (by omega) hh hl hlo hlo' hhi hhi'
              have hrun : (Instr.sliceAt t (.slice (some ⟨p.b, p.base + k * es, none⟩) len (p.cap - k)) clo chi none).run P w =
                  .ok (.slice (if p.cap - k = lb then some ⟨p.b, p.base + k * es, none⟩ else some ⟨p.b, p.base + k * es + lb * es, none⟩) (hb - lb) (p.cap - k - lb)) w := by
                simp only [Instr.sliceAt, Instr.slice, Sem.run_bind, run_underlying hu, Result.andThen_ok, g1, run_sizeOf' hi, h0', Sem.run_pure, Option.map_some, Addr.add_lit]
              cases hz : Nat.beq lb 0 with
              | true =>
                simp only [hz, cond_true, Option.some.injEq] at h
                subst h
                have := Nat.eq_of_beq_eq_true hz
                subst this
                refine ⟨_, conc_slice.2 ⟨p, h2, by omega, rfl⟩, ?_⟩
                rw [hrun]
                simp
              | false =>
                simp only [hz, cond_false] at h
                cases hlt : Nat.blt lb len with
                | false => simp [hlt] at h
                | true =>
                  simp only [hlt, cond_true, Option.some.injEq] at h
                  subst h
                  have hlt' : lb < len := by simpa [blt_iff] using hlt
                  refine ⟨_, conc_slice.2 ⟨p, h2, by omega, rfl⟩, ?_⟩
                  rw [hrun, if_neg (by omega), Nat.add_mul, Nat.add_assoc, show p.cap - (k + lb) = p.cap - k - lb by omega]
        · cases h
      · cases h
    · split at h
      · rename_i hh
        split at h
        · rename_i hl
          cases hi : (P.info? e).isSome with
          | false => simp [hi] at h
          | true =>
            simp only [hi, cond_true, Option.some.injEq] at h
            subst h
            simp only [conc, Option.some.injEq] at hx
            subst hx
            obtain ⟨g1, g2, g3⟩ := bounds_sound (P := P) (w := w) true 0 (Nat.le_refl _) hh hl hlo hlo' hhi hhi'
            exact ⟨_, rfl, by simp [Instr.sliceAt, Instr.slice, run_underlying hu, g1, run_sizeOf' hi]⟩
        · cases h
      · cases h
    · cases h
  · cases h
def alen (P : Program) (h : Heap) (t : TypeId) (x : AV) : Option AV :=
  match P.underlying t, x with
  | some .string, .str s => some (.int .i64 (.ofNat s.length))
  | some (.slice _), .slice _ _ len _ => some (.int .i64 (.ofNat len))
  | some (.slice _), .nilslice => some (.int .i64 (.ofNat 0))
  | some (.map _ _), .map i => match h.objs.get i with
    | some (.map es) => some (.int .i64 (.ofNat es.length))
    | _ => none
  | some (.map _ _), .nilmap => some (.int .i64 (.ofNat 0))
  | _, _ => none
theorem concE_length {M : Map} : ∀ {l : List (AV × AV)} {es : List MapEntry}, concE M l es → es.length = l.length
  | [], _, h => by simp [concE] at h; subst h; rfl
  | (_, _) :: _, _, ⟨e, rest, h0, _, _, h3⟩ => by subst h0; simp [concE_length h3]
theorem HRel.map {P : Program} {B : Nat} {w0 : World} {M : Map} {h : Heap} {w : World} (r : HRel P B w0 M h w) {i : Nat} {p : Loc} (hM : M i = some p) {es : List (AV × AV)} (hg : h.objs.get i = some (.map es)) :
    ∃ ents clock, w.heap[p.b]? = some (.map ents clock) ∧ concE M es ents.toList ∧ Born ents clock := by
  have := (r.obj i p hM).2.2
  rw [hg] at this
  exact this
theorem run_getObj_map {P : Program} {w : World} {b : Nat} {ents : Array MapEntry} {clock : Nat} (h : w.heap[b]? = some (.map ents clock)) : (getObj b).run P w = .ok (.map ents clock) w := by
  simp [getObj, Sem.run, h]
theorem alen_sound {P : Program} {B : Nat} {w0 : World} {M : Map} {h : Heap} {w : World} (r : HRel P B w0 M h w) {t ty : TypeId} {x v : AV} (ha : alen P h t x = some v) {cx : Value} (hx : conc M x = some cx) :
    ∃ c, conc M v = some c ∧ (Builtin.len_ #[t] ty #[cx]).run P w = .ok c w := by
  unfold alen at ha
  split at ha
  · rename_i s hu
    simp only [Option.some.injEq] at ha; subst ha
    simp only [conc, Option.some.injEq] at hx; subst hx
    have e : (⟨s.toArray⟩ : ByteArray).size = s.length := by simp [ByteArray.size]
    exact ⟨_, rfl, by simp [Builtin.len_, run_underlying hu, goInt, e]⟩
  · rename_i i k len es hu
    simp only [Option.some.injEq] at ha; subst ha
    obtain ⟨p, h2, h3, rfl⟩ := conc_slice.1 hx
    exact ⟨_, rfl, by simp [Builtin.len_, run_underlying hu, goInt]⟩
  · rename_i hu
    simp only [Option.some.injEq] at ha; subst ha
    simp only [conc, Option.some.injEq] at hx; subst hx
    exact ⟨_, rfl, by simp [Builtin.len_, run_underlying hu, goInt]⟩
  · rename_i i hu
    split at ha
    · rename_i es hg
      simp only [Option.some.injEq] at ha; subst ha
      simp only [conc, Option.map_eq_some_iff] at hx
      obtain ⟨p, h1, rfl⟩ := hx
      obtain ⟨ents, clock, h2, h3, _⟩ := r.map h1 hg
      have hl := concE_length h3
      refine ⟨_, rfl, ?_⟩
      have hl' : ents.size = es.length := by simpa using hl
      simp [Builtin.len_, run_underlying hu, run_getObj_map h2, goInt, hl']
    · cases ha
  · rename_i hu
    simp only [Option.some.injEq] at ha; subst ha
    simp only [conc, Option.some.injEq] at hx; subst hx
    exact ⟨_, rfl, by simp [Builtin.len_, run_underlying hu, goInt]⟩
  · cases ha
end Go.Am
