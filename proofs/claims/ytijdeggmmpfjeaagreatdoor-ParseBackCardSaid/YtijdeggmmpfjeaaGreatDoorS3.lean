/- Part of the proof: AmShape, AmOps, AmAwake, AmEnts, AsWk. -/
import Derived.Test.YtijdeggmmpfjeaaGreatDoorM6
import Derived.Test.YtijdeggmmpfjeaaGreatDoorProg
import Derived.WalkKit
import Derived.Laws.IdiomRangeMap
import Derived.Maps.RangeRun
import Derived.Maps.RangeWalk
import Derived.LoopTactic
import Derived.LoopN
import Derived.Laws.Entries
import Derived.Lib.Walk
import Derived.Test.YtijdeggmmpfjeaaGreatDoorM9
set_option linter.unusedSimpArgs false
set_option linter.unusedVariables false
set_option linter.unusedSectionVars false
namespace Go.Am
open Go Go.Proofs Go.RowKit
def exts : FuncId → Bool := fun g => Nat.beq g 208
def noO : CallK := fun _ _ _ => none
theorem noO_ok : CallOk Tryz.prog noO := fun _ _ _ _ _ h => nomatch h
theorem mixed : Tryz.prog.follows .mixedOrders = true := by kernel_rfl
theorem exts_ok : ExtOk Tryz.prog exts := by
  intro g hg x w
  have := Nat.eq_of_beq_eq_true hg
  subst this
  rw [run_callFunc_extern Tryz.func208 (by kernel_rfl) (by kernel_rfl) (by kernel_rfl) (e := Extern.AbiNoEscape.same) (by kernel_rfl)]
  rfl
theorem acall_ok (fuel : Nat) : CallOk Tryz.prog (acall Tryz.prog exts noO fuel) := acallW_ok noO_ok (aexec_ok exts_ok mixed noO_ok fuel fuel (Nat.le_refl _))
def shapesL : List (AV × AV) := [(.str [102, 108, 97, 103], .int .u8 12), (.str [109, 97, 120], .int .u8 13), (.str [115, 101, 116], .int .u8 14), (.str [111, 110, 99, 101], .int .u8 15)]
theorem ev_shapes : ∃ h', acall Tryz.prog exts noO 100 178 [] ⟨.leaf, 0⟩ = some (.map 0, h') ∧ h'.objs.get 0 = some (.map shapesL) := ⟨⟨.node (some (.map shapesL)) .leaf .leaf, 1⟩, by kernel_rfl, rfl⟩
def signsL : List (AV × AV) := [(.str [61, 61], .int .u8 51), (.str [33, 61], .int .u8 52), (.str [60], .int .u8 53), (.str [60, 61], .int .u8 54), (.str [62], .int .u8 55), (.str [62, 61], .int .u8 56)]
theorem ev_signs : ∃ h', acall Tryz.prog exts noO 100 112 [] ⟨.leaf, 0⟩ = some (.map 0, h') ∧ h'.objs.get 0 = some (.map signsL) := ⟨⟨.node (some (.map signsL)) .leaf .leaf, 1⟩, by kernel_rfl, rfl⟩
theorem shapes_ents {M : Map} {l : List MapEntry} (h : concE M shapesL l) : (∀ x ∈ l, ∃ s n, x.key = .string s ∧ x.val = .int .u8 n ∧ (n = 14 → s = ⟨#[115, 101, 116]⟩)) ∧ ∃ x ∈ l, x.val = .int .u8 14 := by
  obtain ⟨e1, l1, rfl, a1, b1, e2, l2, rfl, a2, b2, e3, l3, rfl, a3, b3, e4, l4, rfl, a4, b4, rfl⟩ := h
  simp only [conc, Option.some.injEq] at a1 a2 a3 a4 b1 b2 b3 b4
  refine ⟨fun x hx => ?_, e3, by simp, b3.symm⟩
  simp only [List.mem_cons, List.not_mem_nil, or_false] at hx
  rcases hx with rfl | rfl | rfl | rfl
  · exact ⟨_, _, a1.symm, b1.symm, by decide⟩
  · exact ⟨_, _, a2.symm, b2.symm, by decide⟩
  · exact ⟨_, _, a3.symm, b3.symm, fun _ => rfl⟩
  · exact ⟨_, _, a4.symm, b4.symm, by decide⟩
open Go.ChangeMaps (setBlock) in
theorem set_at {w : World} {r : Nat} {o : Obj} (hr : w.heap[r]? = some o) (o' : Obj) : (setBlock w r o').heap[r]? = some o' ∧ ∀ j, j ≠ r → (setBlock w r o').heap[j]? = w.heap[j]? := by
  have hlt := (Array.getElem?_eq_some_iff.1 hr).1
  refine ⟨by simp [setBlock, hlt], fun j hj => by simp [setBlock, Array.getElem?_setIfInBounds_ne (Ne.symm hj)]⟩
open Go.ChangeMaps (setBlock) in
theorem below_set {B : Nat} {w0 w : World} (b : Below B w0 w) {r : Nat} (hr : B ≤ r) (o : Obj) : Below B w0 (setBlock w r o) :=
  ⟨b.os, b.tape, b.output, by simpa [setBlock] using b.size, fun k hk => by
    have : k ≠ r := by omega
    simp only [setBlock]
    rw [Array.getElem?_setIfInBounds_ne (Ne.symm this)]
    exact b.block k hk⟩
theorem below_drew {B : Nat} {w0 w w1 : World} (b : Below B w0 w) (h : w1 = w ∨ w1 = w.drew) : Below B w0 w1 := by
  rcases h with rfl | rfl
  · exact b
  · exact ⟨b.os, b.tape, b.output, b.size, b.block⟩
open Go.ChangeMaps (setBlock) in
set_option maxRecDepth 1000000 in
set_option maxHeartbeats 4000000 in
theorem shape_calls (p1 p2 p3 n1 n2 n3 n4 ks : Value) (w : World) (gk : Known Tryz.prog w.heap.size w) : Calls Tryz.prog 116 #[.agg #[p1, p2, p3], .agg #[.int .u8 14, n1, n2, n3, n4], ks] w fun e w' => e = .returned (.string ⟨#[115, 101, 116]⟩) ∧ Below w.heap.size w w' := by
  obtain ⟨h', ev, ho⟩ := ev_shapes
  go_enter Tryz.func116, Tryz.ntmps116
  go_wp2_with (go_at_call 178; refine (map_calls (acall_ok 100) ev ho _ (gk.after (((Below.refl _ _).alloc (Nat.le_refl _) _).alloc (by simp) _) (by simp; omega))).mono ?_; rintro e w' ⟨bm, ents, clock, M, rfl, hb, hbm, hc, hbo, bel⟩; have hrg := run_range_map (P := Tryz.prog) w' 153 _ _ bm ents clock Tryz.underlying153 hb)
  obtain ⟨hv, xs, hxs, hx14⟩ := shapes_ents hc
  have hsz : ((w.alloc (Obj.cells #[p1, p2, p3] 97)).alloc (Obj.cells #[Value.int IntKind.u8 14, n1, n2, n3, n4] 50)).heap.size = w.heap.size + 2 := by simp
  have bel0 : Below w.heap.size w ((w.alloc (Obj.cells #[p1, p2, p3] 97)).alloc (Obj.cells #[Value.int IntKind.u8 14, n1, n2, n3, n4] 50)) := ((Below.refl _ _).alloc (Nat.le_refl _) _).alloc (by simp) _
  have hkind : w'.heap[w.heap.size + 1]? = some (.cells #[Value.int IntKind.u8 14, n1, n2, n3, n4] 50) := by
    rw [bel.block _ (by omega)]
    have := heap_alloc_new (w.alloc (Obj.cells #[p1, p2, p3] 97)) (Obj.cells #[Value.int IntKind.u8 14, n1, n2, n3, n4] 50)
    simpa using this
  have bel1 : Below w.heap.size w w' := bel0.trans ⟨bel.os, bel.tape, bel.output, bel.size, fun k hk => bel.block k (by omega)⟩
  have hlt' := bel.size
  rw [hsz] at hbm hlt'
  have hbl : bm < w'.heap.size := (Array.getElem?_eq_some_iff.1 hb).1
  go_wp2
  go_loopw [] (fun wr => ∃ (seen : Array Nat) (c0 : Nat), clock ≤ c0 ∧ wr.heap[bm]? = some (.map ents clock) ∧ wr.heap[w'.heap.size]? = some (.mapIter (some bm) clock seen c0) ∧ wr.heap[w.heap.size + 1]? = some (.cells #[Value.int IntKind.u8 14, n1, n2, n3, n4] 50) ∧ Below w.heap.size w wr ∧
    ∀ x ∈ ents.toList, seen.contains x.born = true → x.val ≠ .int .u8 14) (fun wr => (leftOf ents (wr.iterSeen w'.heap.size)).size)
  case atStart =>
    refine ⟨#[], clock, Nat.le_refl _, ?_, heap_alloc_new _ _, ?_, bel1.alloc (by omega) _, fun x _ h => by simp at h⟩
    · rw [heap_alloc_old _ _ hbl]; exact hb
    · rw [heap_alloc_old _ _ (by omega)]; exact hkind
  case round =>
    obtain ⟨seen, c0, hcc, rb, rit, rk, rbel, hno⟩ := hrel
    have hcell : wr.cell? ⟨w.heap.size + 1, 0, none⟩ = some (.int .u8 14) := by simp [World.cell?, rk]
    rcases run_next_at (P := Tryz.prog) wr 0 w'.heap.size bm clock c0 seen ents clock rit rb hbo.1 hcc with ⟨h0, hrun⟩ | ⟨e, he, w2, hw2, hrun⟩
    · exfalso
      exact hno xs hxs (all_seen ents seen h0 xs hxs) hx14
    · obtain ⟨s, n, hkey, hval, h14⟩ := hv e (mem_left he).1
      rw [hkey, hval] at hrun
      have hnx : ∀ ty, (Instr.next (.pointer (some ⟨w'.heap.size, 0, none⟩)) false ty).run Tryz.prog wr = _ := fun _ => hrun
      have r2 : w2.heap = wr.heap := by rcases hw2 with rfl | rfl <;> rfl
      obtain ⟨s1, s2⟩ := set_at (w := w2) (by rw [r2]; exact rit) (Obj.mapIter (some bm) clock (seen.push e.born) clock)
      have hb3 : (setBlock w2 w'.heap.size (Obj.mapIter (some bm) clock (seen.push e.born) clock)).heap[bm]? = some (.map ents clock) := by rw [s2 bm (by omega), r2]; exact rb
      have hk3 : (setBlock w2 w'.heap.size (Obj.mapIter (some bm) clock (seen.push e.born) clock)).heap[w.heap.size + 1]? = some (.cells #[Value.int IntKind.u8 14, n1, n2, n3, n4] 50) := by rw [s2 _ (by omega), r2]; exact rk
      have hc3 : (setBlock w2 w'.heap.size (Obj.mapIter (some bm) clock (seen.push e.born) clock)).cell? ⟨w.heap.size + 1, 0, none⟩ = some (.int .u8 14) := by simp [World.cell?, hk3]
      have hbel3 : Below w.heap.size w (setBlock w2 w'.heap.size (Obj.mapIter (some bm) clock (seen.push e.born) clock)) := below_set (below_drew rbel hw2) (by omega) _
      have hen := run_entry_at (P := Tryz.prog) _ w'.heap.size bm clock seen ents clock e s1 hb3 (mem_left he).1 hbo.2
      rw [hkey, hval] at hen
      generalize hW : setBlock w2 w'.heap.size (Obj.mapIter (some bm) clock (seen.push e.born) clock) = W3 at *
      go_wp2
      · rename_i heq
        go_ret
        have e14 : n = 14 := by simpa using heq
        rw [h14 e14]
        exact ⟨rfl, hbel3⟩
      · rename_i hne
        have hn14 : n ≠ 14 := by simpa using hne
        refine ⟨⟨seen.push e.born, clock, Nat.le_refl _, hb3, s1, hk3, hbel3, fun x hx hcx => ?_⟩, ?_⟩
        · rw [contains_push] at hcx
          rcases Bool.or_eq_true _ _ ▸ hcx with h1 | h1
          · exact hno x hx h1
          · have : x = e := born_inj hbo.2 hx (mem_left he).1 (beq_iff_eq.1 h1)
            subst this
            rw [hval]
            intro hh
            exact hn14 (by simpa using hh)
        · simp only [World.iterSeen, s1, rit]
          exact left_shrinks ents seen e he
end Go.Am
namespace Go.Am
open Go Go.Proofs Go.RowKit
theorem run_insert_new {P : Program} {w : World} {t kt et : TypeId} {q : IntKind} {b : Nat} {ents : Array MapEntry} {clock : Nat} {n : Int} (v : Value) (hu : P.underlying t = some (.map kt et)) (hd : P.underlying kt = some (.int q)) (hb : w.heap[b]? = some (.map ents clock))
    (hf : ∀ x ∈ ents.toList, ∃ m, x.key = .int q m ∧ m ≠ n) : (Instr.mapUpdate t (.map (some b)) (.int q n) v).run P w = .ok () (Go.ChangeMaps.setBlock w b (.map (ents.push { key := .int q n, val := v, born := clock }) (clock + 1))) := by
  have h0 : ∀ (l : List MapEntry) (i : Nat), (∀ x ∈ l, ∃ m, x.key = .int q m ∧ m ≠ n) → Instr.findNow (.int q) (.int q n) l i = some none := by
    intro l
    induction l with
    | nil => intro i _; rfl
    | cons x l ih =>
      intro i h
      obtain ⟨m, h1, h2⟩ := h x (List.mem_cons_self ..)
      have : (n == m) = false := by
        rw [beq_eq_false_iff_ne]
        exact fun e => h2 e.symm
      simp only [Instr.findNow, Instr.sameNow, h1]
      simp [this, ih (i + 1) fun y hy => h y (List.mem_cons_of_mem _ hy)]
  simp only [Instr.mapUpdate, Sem.run_bind, run_underlying hu, Result.andThen_ok, run_getObj_map hb, checkKey_plain hd rfl, findKey_sound hd (h0 ents.toList 0 hf), run_setObj_map hb]
  rfl
theorem concE_perm {M : Map} : ∀ {l l' : List MapEntry}, l'.Perm l → ∀ {es : List (AV × AV)}, concE M es l → ∃ es', es'.Perm es ∧ concE M es' l' := by
  intro l l' hp
  induction hp with
  | nil => intro es h; exact ⟨es, List.Perm.refl _, h⟩
  | cons x _ ih =>
    intro es h
    cases es with
    | nil => simp [concE] at h
    | cons p es =>
      obtain ⟨k, v⟩ := p
      obtain ⟨e, rest, h0, h1, h2, h3⟩ := h
      simp only [List.cons.injEq] at h0
      obtain ⟨rfl, rfl⟩ := h0
      obtain ⟨es', g1, g2⟩ := ih h3
      exact ⟨(k, v) :: es', g1.cons _, _, _, rfl, h1, h2, g2⟩
  | swap x y l =>
    intro es h
    cases es with
    | nil => simp [concE] at h
    | cons p es =>
      obtain ⟨k, v⟩ := p
      obtain ⟨e, rest, h0, h1, h2, h3⟩ := h
      simp only [List.cons.injEq] at h0
      obtain ⟨rfl, rfl⟩ := h0
      cases es with
      | nil => simp [concE] at h3
      | cons p' es =>
        obtain ⟨k', v'⟩ := p'
        obtain ⟨e', rest', h0, h1', h2', h3'⟩ := h3
        simp only [List.cons.injEq] at h0
        obtain ⟨rfl, rfl⟩ := h0
        exact ⟨(k', v') :: (k, v) :: es, List.Perm.swap _ _ _, _, _, rfl, h1', h2', _, _, rfl, h1, h2, h3'⟩
  | trans _ _ ih1 ih2 =>
    intro es h
    obtain ⟨es1, g1, g2⟩ := ih2 h
    obtain ⟨es2, g3, g4⟩ := ih1 g2
    exact ⟨es2, g3.trans g1, g4⟩
def baseL : List (AV × AV) := [(.int .u8 57, .agg [.str [43], .int .i64 1, .int .i64 1, .int .i64 2]), (.int .u8 58, .agg [.str [45], .int .i64 1, .int .i64 1, .int .i64 2]), (.int .u8 59, .agg [.str [42], .int .i64 2, .int .i64 2, .int .i64 3]), (.int .u8 60, .agg [.str [47], .int .i64 2, .int .i64 2, .int .i64 3])]
def gA (p : AV × AV) : AV × AV := (p.2, .agg [p.1, .int .i64 0, .int .i64 1, .int .i64 1])
def opsL : List (AV × AV) := baseL ++ signsL.map gA
def baseE : Array MapEntry := #[{ key := .int .u8 57, val := .agg #[.string ⟨#[43]⟩, .int .i64 1, .int .i64 1, .int .i64 2], born := 0 }, { key := .int .u8 58, val := .agg #[.string ⟨#[45]⟩, .int .i64 1, .int .i64 1, .int .i64 2], born := 1 }, { key := .int .u8 59, val := .agg #[.string ⟨#[42]⟩, .int .i64 2, .int .i64 2, .int .i64 3], born := 2 }, { key := .int .u8 60, val := .agg #[.string ⟨#[47]⟩, .int .i64 2, .int .i64 2, .int .i64 3], born := 3 }]
theorem base_conc (M : Map) : concE M baseL baseE.toList := by
  refine ⟨_, _, rfl, rfl, rfl, _, _, rfl, rfl, rfl, _, _, rfl, rfl, rfl, _, _, rfl, rfl, rfl, rfl⟩
def kv (e : MapEntry) : Value × Value := (e.key, e.val)
def gE (e : MapEntry) : Value × Value := (e.val, .agg #[e.key, .int .i64 0, .int .i64 1, .int .i64 1])
theorem concE_plain {M M' : Map} : ∀ {es : List (AV × AV)} {l : List MapEntry}, (∀ p ∈ es, (∀ M : Map, conc M p.1 = conc M' p.1) ∧ ∀ M : Map, conc M p.2 = conc M' p.2) → concE M' es l → concE M es l
  | [], _, _, h => h
  | (k, v) :: es, l, hp, ⟨e, rest, h0, h1, h2, h3⟩ => ⟨e, rest, h0, by rw [(hp _ (List.mem_cons_self ..)).1 M]; exact h1, by rw [(hp _ (List.mem_cons_self ..)).2 M]; exact h2, concE_plain (fun p h => hp p (List.mem_cons_of_mem _ h)) h3⟩
theorem concE_gA {M : Map} : ∀ {es : List (AV × AV)} {l l' : List MapEntry}, l'.map kv = l.map gE → concE M es l → concE M (es.map gA) l'
  | [], l, l', h, hc => by
    simp only [concE] at hc
    subst hc
    simpa [concE] using h
  | (k, v) :: es, l, l', h, ⟨e, rest, h0, h1, h2, h3⟩ => by
    subst h0
    cases l' with
    | nil => simp at h
    | cons e' l' =>
      simp only [List.map_cons, List.cons.injEq, kv, gE, Prod.mk.injEq] at h
      exact ⟨e', l', rfl, by rw [h.1.1]; exact h2, by rw [h.1.2]; simp [conc, concs, h1], concE_gA h.2 h3⟩
theorem signs_ents {M : Map} {l : List MapEntry} (h : concE M signsL l) : (∀ x ∈ l, ∃ s n, x.key = .string s ∧ x.val = .int .u8 n ∧ 51 ≤ n ∧ n ≤ 56) ∧ (∀ x ∈ l, ∀ y ∈ l, x.val = y.val → x = y) ∧ l.Nodup := by
  obtain ⟨e1, l1, rfl, a1, b1, e2, l2, rfl, a2, b2, e3, l3, rfl, a3, b3, e4, l4, rfl, a4, b4, e5, l5, rfl, a5, b5, e6, l6, rfl, a6, b6, rfl⟩ := h
  simp only [conc, Option.some.injEq] at a1 a2 a3 a4 a5 a6 b1 b2 b3 b4 b5 b6
  have hp : [e1, e2, e3, e4, e5, e6].Pairwise (fun x y => x.val ≠ y.val) := by
    simp only [List.pairwise_cons, List.mem_cons, List.not_mem_nil, or_false, forall_eq_or_imp, forall_eq, ← b1, ← b2, ← b3, ← b4, ← b5, ← b6]
    simp
  refine ⟨fun x hx => ?_, fun x hx y hy e => ?_, ?_⟩
  · simp only [List.mem_cons, List.not_mem_nil, or_false] at hx
    rcases hx with rfl | rfl | rfl | rfl | rfl | rfl
    · exact ⟨_, _, a1.symm, b1.symm, by decide, by decide⟩
    · exact ⟨_, _, a2.symm, b2.symm, by decide, by decide⟩
    · exact ⟨_, _, a3.symm, b3.symm, by decide, by decide⟩
    · exact ⟨_, _, a4.symm, b4.symm, by decide, by decide⟩
    · exact ⟨_, _, a5.symm, b5.symm, by decide, by decide⟩
    · exact ⟨_, _, a6.symm, b6.symm, by decide, by decide⟩
  · have key : ∀ {l : List MapEntry}, l.Pairwise (fun x y => x.val ≠ y.val) → ∀ x ∈ l, ∀ y ∈ l, x.val = y.val → x = y := by
      intro l hl
      induction l with
      | nil => intro x hx; simp at hx
      | cons a l ih =>
        intro x hx y hy e
        obtain ⟨h1, h2⟩ := List.pairwise_cons.1 hl
        rcases List.mem_cons.1 hx with hx | hx <;> rcases List.mem_cons.1 hy with hy | hy
        · rw [hx, hy]
        · exact (h1 y hy (by rw [← hx]; exact e)).elim
        · exact (h1 x hx (by rw [← hy]; exact e.symm)).elim
        · exact ih h2 x hx y hy e
    exact key hp x hx y hy e
  · exact hp.imp fun h e => h (by rw [e])
open Go.ChangeMaps (setBlock) in
theorem set_alloc (w : World) (o o' : Obj) : setBlock (w.alloc o) w.heap.size o' = w.alloc o' := by
  have : ∀ (a : Array Obj), (a.push o).setIfInBounds a.size o' = a.push o' := by
    intro a
    apply Array.ext'
    simp
  simp only [setBlock, World.alloc, this]
open Go.ChangeMaps (setBlock) in
set_option maxRecDepth 1000000 in
set_option maxHeartbeats 4000000 in
theorem operators_calls (w : World) (gk : Known Tryz.prog w.heap.size w) : Calls Tryz.prog 67 #[] w fun e w' => ∃ b ents clock es' M, e = .returned (.map (some b)) ∧ w'.heap[b]? = some (.map ents clock) ∧ w.heap.size ≤ b ∧ es'.Perm opsL ∧ concE M es' ents.toList ∧ Below w.heap.size w w' := by
  obtain ⟨h', ev, ho⟩ := ev_signs
  have hmm := @run_makeMap Tryz.prog
  have i1 : (Instr.mapUpdate 94 (.map (some w.heap.size)) (.int .u8 57) (.agg #[.string ⟨#[43]⟩, .int .i64 1, .int .i64 1, .int .i64 2])).run Tryz.prog (w.alloc (.map #[] 0)) = .ok () (w.alloc (.map #[{ key := .int .u8 57, val := .agg #[.string ⟨#[43]⟩, .int .i64 1, .int .i64 1, .int .i64 2], born := 0 }] 1)) := by
    have := run_insert_new (P := Tryz.prog) (w := w.alloc (.map #[] 0)) (n := 57) (.agg #[.string ⟨#[43]⟩, .int .i64 1, .int .i64 1, .int .i64 2]) Tryz.underlying94 Tryz.underlying5 (heap_alloc_new w _) (by simp)
    rw [set_alloc] at this
    exact this
  have i2 : (Instr.mapUpdate 94 (.map (some w.heap.size)) (.int .u8 58) (.agg #[.string ⟨#[45]⟩, .int .i64 1, .int .i64 1, .int .i64 2])).run Tryz.prog (w.alloc (.map #[{ key := .int .u8 57, val := .agg #[.string ⟨#[43]⟩, .int .i64 1, .int .i64 1, .int .i64 2], born := 0 }] 1)) = .ok () (w.alloc (.map #[{ key := .int .u8 57, val := .agg #[.string ⟨#[43]⟩, .int .i64 1, .int .i64 1, .int .i64 2], born := 0 }, { key := .int .u8 58, val := .agg #[.string ⟨#[45]⟩, .int .i64 1, .int .i64 1, .int .i64 2], born := 1 }] 2)) := by
    have := run_insert_new (P := Tryz.prog) (w := w.alloc (.map #[{ key := .int .u8 57, val := .agg #[.string ⟨#[43]⟩, .int .i64 1, .int .i64 1, .int .i64 2], born := 0 }] 1)) (n := 58) (.agg #[.string ⟨#[45]⟩, .int .i64 1, .int .i64 1, .int .i64 2]) Tryz.underlying94 Tryz.underlying5 (heap_alloc_new w _) (by simp)
    rw [set_alloc] at this
    exact this
  have i3 : (Instr.mapUpdate 94 (.map (some w.heap.size)) (.int .u8 59) (.agg #[.string ⟨#[42]⟩, .int .i64 2, .int .i64 2, .int .i64 3])).run Tryz.prog (w.alloc (.map #[{ key := .int .u8 57, val := .agg #[.string ⟨#[43]⟩, .int .i64 1, .int .i64 1, .int .i64 2], born := 0 }, { key := .int .u8 58, val := .agg #[.string ⟨#[45]⟩, .int .i64 1, .int .i64 1, .int .i64 2], born := 1 }] 2)) = .ok () (w.alloc (.map #[{ key := .int .u8 57, val := .agg #[.string ⟨#[43]⟩, .int .i64 1, .int .i64 1, .int .i64 2], born := 0 }, { key := .int .u8 58, val := .agg #[.string ⟨#[45]⟩, .int .i64 1, .int .i64 1, .int .i64 2], born := 1 }, { key := .int .u8 59, val := .agg #[.string ⟨#[42]⟩, .int .i64 2, .int .i64 2, .int .i64 3], born := 2 }] 3)) := by
    have := run_insert_new (P := Tryz.prog) (w := w.alloc (.map #[{ key := .int .u8 57, val := .agg #[.string ⟨#[43]⟩, .int .i64 1, .int .i64 1, .int .i64 2], born := 0 }, { key := .int .u8 58, val := .agg #[.string ⟨#[45]⟩, .int .i64 1, .int .i64 1, .int .i64 2], born := 1 }] 2)) (n := 59) (.agg #[.string ⟨#[42]⟩, .int .i64 2, .int .i64 2, .int .i64 3]) Tryz.underlying94 Tryz.underlying5 (heap_alloc_new w _) (by simp)
    rw [set_alloc] at this
    exact this
  have i4 : (Instr.mapUpdate 94 (.map (some w.heap.size)) (.int .u8 60) (.agg #[.string ⟨#[47]⟩, .int .i64 2, .int .i64 2, .int .i64 3])).run Tryz.prog (w.alloc (.map #[{ key := .int .u8 57, val := .agg #[.string ⟨#[43]⟩, .int .i64 1, .int .i64 1, .int .i64 2], born := 0 }, { key := .int .u8 58, val := .agg #[.string ⟨#[45]⟩, .int .i64 1, .int .i64 1, .int .i64 2], born := 1 }, { key := .int .u8 59, val := .agg #[.string ⟨#[42]⟩, .int .i64 2, .int .i64 2, .int .i64 3], born := 2 }] 3)) = .ok () (w.alloc (.map #[{ key := .int .u8 57, val := .agg #[.string ⟨#[43]⟩, .int .i64 1, .int .i64 1, .int .i64 2], born := 0 }, { key := .int .u8 58, val := .agg #[.string ⟨#[45]⟩, .int .i64 1, .int .i64 1, .int .i64 2], born := 1 }, { key := .int .u8 59, val := .agg #[.string ⟨#[42]⟩, .int .i64 2, .int .i64 2, .int .i64 3], born := 2 }, { key := .int .u8 60, val := .agg #[.string ⟨#[47]⟩, .int .i64 2, .int .i64 2, .int .i64 3], born := 3 }] 4)) := by
    have := run_insert_new (P := Tryz.prog) (w := w.alloc (.map #[{ key := .int .u8 57, val := .agg #[.string ⟨#[43]⟩, .int .i64 1, .int .i64 1, .int .i64 2], born := 0 }, { key := .int .u8 58, val := .agg #[.string ⟨#[45]⟩, .int .i64 1, .int .i64 1, .int .i64 2], born := 1 }, { key := .int .u8 59, val := .agg #[.string ⟨#[42]⟩, .int .i64 2, .int .i64 2, .int .i64 3], born := 2 }] 3)) (n := 60) (.agg #[.string ⟨#[47]⟩, .int .i64 2, .int .i64 2, .int .i64 3]) Tryz.underlying94 Tryz.underlying5 (heap_alloc_new w _) (by simp)
    rw [set_alloc] at this
    exact this
  go_enter Tryz.func67, Tryz.ntmps67
  go_wp2_with (go_at_call 112; refine (map_calls (acall_ok 100) ev ho _ (gk.after ((Below.refl _ _).alloc (Nat.le_refl _) _) (by simp))).mono ?_; rintro e w' ⟨bm, ents, clock, M, rfl, hb, hbm, hc, hbo, bel⟩; have hrg := run_range_map (P := Tryz.prog) w' 153 _ _ bm ents clock Tryz.underlying153 hb)
  clear i1 i2 i3 i4
  obtain ⟨hv, hinj, hnd⟩ := signs_ents hc
  obtain ⟨w4, hw4⟩ : ∃ x, x = w.alloc (.map #[{ key := .int .u8 57, val := .agg #[.string ⟨#[43]⟩, .int .i64 1, .int .i64 1, .int .i64 2], born := 0 }, { key := .int .u8 58, val := .agg #[.string ⟨#[45]⟩, .int .i64 1, .int .i64 1, .int .i64 2], born := 1 }, { key := .int .u8 59, val := .agg #[.string ⟨#[42]⟩, .int .i64 2, .int .i64 2, .int .i64 3], born := 2 }, { key := .int .u8 60, val := .agg #[.string ⟨#[47]⟩, .int .i64 2, .int .i64 2, .int .i64 3], born := 3 }] 4) := ⟨_, rfl⟩
  rw [← hw4] at hbm bel
  have hsz : w4.heap.size = w.heap.size + 1 := by rw [hw4]; simp
  have bel0 : Below w.heap.size w w4 := by rw [hw4]; exact (Below.refl _ _).alloc (Nat.le_refl _) _
  have hout : w'.heap[w.heap.size]? = some (.map baseE 4) := by
    rw [bel.block _ (by omega), hw4]
    exact heap_alloc_new _ _
  have bel1 : Below w.heap.size w w' := bel0.trans ⟨bel.os, bel.tape, bel.output, bel.size, fun k hk => bel.block k (by omega)⟩
  have hlt' := bel.size
  rw [hsz] at hbm hlt'
  have hbl : bm < w'.heap.size := (Array.getElem?_eq_some_iff.1 hb).1
  clear hw4
  go_wp2
  go_loopw [] (fun wr => ∃ (L : List MapEntry) (seen : Array Nat) (c0 : Nat) (outs : Array MapEntry) (oc : Nat), clock ≤ c0 ∧ wr.heap[bm]? = some (.map ents clock) ∧ wr.heap[w'.heap.size]? = some (.mapIter (some bm) clock seen c0) ∧ wr.heap[w.heap.size]? = some (.map outs oc) ∧ Below w.heap.size w wr ∧
    L.Nodup ∧ (∀ x ∈ ents.toList, seen.contains x.born = true ↔ x ∈ L) ∧ (∀ x ∈ L, x ∈ ents.toList) ∧ ∃ tail, outs.toList = baseE.toList ++ tail ∧ tail.map kv = L.map gE) (fun wr => (leftOf ents (wr.iterSeen w'.heap.size)).size)
  case atStart =>
    refine ⟨[], #[], clock, baseE, 4, Nat.le_refl _, ?_, heap_alloc_new _ _, ?_, bel1.alloc (by omega) _, List.nodup_nil, fun x _ => by simp, by simp, [], by simp, rfl⟩
    · rw [heap_alloc_old _ _ hbl]; exact hb
    · rw [heap_alloc_old _ _ (by omega)]; exact hout
  case round =>
    obtain ⟨L, seen, c0, outs, oc, hcc, rb, rit, ro, rbel, rnd, rseen, rsub, tail, rt1, rt2⟩ := hrel
    rcases run_next_at (P := Tryz.prog) wr 0 w'.heap.size bm clock c0 seen ents clock rit rb hbo.1 hcc with ⟨h0, hrun⟩ | ⟨e, he, w2, hw2, hrun⟩
    · have hnx : ∀ ty, (Instr.next (.pointer (some ⟨w'.heap.size, 0, none⟩)) false ty).run Tryz.prog wr = _ := fun _ => hrun
      go_wp2
      go_ret
      have hall : L.Perm ents.toList := (List.perm_ext_iff_of_nodup rnd hnd).2 fun x => ⟨rsub x, fun hx => (rseen x hx).1 (all_seen ents seen h0 x hx)⟩
      obtain ⟨es1, p1, p2⟩ := concE_perm hall hc
      refine ⟨_, outs, oc, baseL ++ es1.map gA, M, rfl, ro, Nat.le_refl _, (List.Perm.refl _).append (p1.map gA), ?_, rbel⟩
      rw [rt1]
      exact concE_append (base_conc M) (concE_gA rt2 p2)
    · obtain ⟨s, n, hkey, hval, hn1, hn2⟩ := hv e (mem_left he).1
      rw [hkey, hval] at hrun
      have hnx : ∀ ty, (Instr.next (.pointer (some ⟨w'.heap.size, 0, none⟩)) false ty).run Tryz.prog wr = _ := fun _ => hrun
      have r2 : w2.heap = wr.heap := by rcases hw2 with rfl | rfl <;> rfl
      obtain ⟨s1, s2⟩ := set_at (w := w2) (by rw [r2]; exact rit) (Obj.mapIter (some bm) clock (seen.push e.born) clock)
      have hb3 : (setBlock w2 w'.heap.size (Obj.mapIter (some bm) clock (seen.push e.born) clock)).heap[bm]? = some (.map ents clock) := by rw [s2 bm (by omega), r2]; exact rb
      have ho3 : (setBlock w2 w'.heap.size (Obj.mapIter (some bm) clock (seen.push e.born) clock)).heap[w.heap.size]? = some (.map outs oc) := by rw [s2 _ (by omega), r2]; exact ro
      have hbel3 : Below w.heap.size w (setBlock w2 w'.heap.size (Obj.mapIter (some bm) clock (seen.push e.born) clock)) := below_set (below_drew rbel hw2) (by omega) _
      have hen := run_entry_at (P := Tryz.prog) _ w'.heap.size bm clock seen ents clock e s1 hb3 (mem_left he).1 hbo.2
      rw [hkey, hval] at hen
      have heL : e ∉ L := fun hin => by
        have := (rseen e (mem_left he).1).2 hin
        rw [(mem_left he).2] at this
        cases this
      generalize hW : setBlock w2 w'.heap.size (Obj.mapIter (some bm) clock (seen.push e.born) clock) = W3 at *
      have hins := run_insert_new (P := Tryz.prog) (w := W3) (n := n) (.agg #[.string s, .int .i64 0, .int .i64 1, .int .i64 1]) Tryz.underlying94 Tryz.underlying5 ho3 (by
        intro x hx
        rw [rt1] at hx
        rcases List.mem_append.1 hx with hx | hx
        · simp only [baseE, List.mem_cons, List.not_mem_nil, or_false] at hx
          rcases hx with rfl | rfl | rfl | rfl <;> exact ⟨_, rfl, by omega⟩
        · have h1 : kv x ∈ L.map gE := by rw [← rt2]; exact List.mem_map.2 ⟨x, hx, rfl⟩
          obtain ⟨y, hy, h2⟩ := List.mem_map.1 h1
          obtain ⟨s', n', hk', hv', _, _⟩ := hv y (rsub y hy)
          simp only [gE, kv, Prod.mk.injEq] at h2
          refine ⟨n', by rw [← h2.1, hv'], fun hnn => heL ?_⟩
          have := hinj y (rsub y hy) e (mem_left he).1 (by rw [hv', hval, hnn])
          rw [← this]; exact hy)
      obtain ⟨q1, q2⟩ := set_at ho3 (Obj.map (outs.push { key := .int .u8 n, val := .agg #[.string s, .int .i64 0, .int .i64 1, .int .i64 1], born := oc }) (oc + 1))
      have hbel4 : Below w.heap.size w (setBlock W3 w.heap.size (Obj.map (outs.push { key := .int .u8 n, val := .agg #[.string s, .int .i64 0, .int .i64 1, .int .i64 1], born := oc }) (oc + 1))) := below_set hbel3 (Nat.le_refl _) _
      have hb4 := (q2 bm (by omega)).trans hb3
      have hit4 := (q2 w'.heap.size (by omega)).trans s1
      generalize hW4 : setBlock W3 w.heap.size (Obj.map (outs.push { key := .int .u8 n, val := .agg #[.string s, .int .i64 0, .int .i64 1, .int .i64 1], born := oc }) (oc + 1)) = W4 at *
      go_wp2
      refine ⟨⟨L ++ [e], seen.push e.born, clock, _, _, Nat.le_refl _, hb4, hit4, q1, hbel4, ?_, fun x hx => ?_, fun x hx => ?_, tail ++ [{ key := .int .u8 n, val := .agg #[.string s, .int .i64 0, .int .i64 1, .int .i64 1], born := oc }], by simp [rt1], by simp [rt2, kv, gE, hkey, hval]⟩, ?_⟩
      · exact List.nodup_append.2 ⟨rnd, by simp, fun a ha b hb hab => by
          simp only [List.mem_singleton] at hb
          subst hb
          subst hab
          exact heL ha⟩
      · rw [contains_push, Bool.or_eq_true, rseen x hx, List.mem_append, List.mem_singleton]
        constructor
        · rintro (h | h)
          · exact .inl h
          · exact .inr (born_inj hbo.2 hx (mem_left he).1 (beq_iff_eq.1 h))
        · rintro (h | h)
          · exact .inl h
          · exact .inr (by rw [h]; simp)
      · rcases List.mem_append.1 hx with h | h
        · exact rsub x h
        · rw [List.mem_singleton.1 h]; exact (mem_left he).1
      · simp only [World.iterSeen, hit4, rit]
        exact left_shrinks ents seen e he
end Go.Am
namespace Go.Am
open Go Go.Proofs Go.RowKit
def orac : CallK := fun f args h =>
  bif Nat.beq f 67 then
    match args with
    | [] => match h.add (.umap opsL) with
      | some (i, h') => some (.map i, h')
      | none => none
    | _ => none
  else bif Nat.beq f 116 then
    match args with
    | [.agg [_, _, _], .agg [.int .u8 n, _, _, _, _], _] => bif ieq n 14 then some (.str [115, 101, 116], h) else none
    | _ => none
  else none
theorem opsL_nodup : (opsL.map Prod.fst).Nodup := by
  simp [opsL, baseL, signsL, gA]
theorem orac_ok : CallOk Tryz.prog orac := by
  intro f args h v h' e B w0 M w r cargs hc
  unfold orac at e
  cases h67 : Nat.beq f 67 with
  | true =>
    have := Nat.eq_of_beq_eq_true h67
    subst this
    simp only [h67, cond_true] at e
    split at e
    · split at e
      · rename_i i h'' hadd
        simp only [Option.some.injEq, Prod.mk.injEq] at e
        obtain ⟨rfl, rfl⟩ := e
        rw [concs_nil] at hc
        subst hc
        refine (operators_calls w r.known).mono ?_
        rintro e w' ⟨b, ents, clock, es', M', rfl, hb, hge, hp, hc', bel⟩
        have r' := r.after bel
        have hB : B ≤ w.heap.size := Nat.le_trans r.base.1 r.below.size
        have hc0 : concE M es' ents.toList := by
          refine concE_plain (es := es') ?_ hc'
          intro p hp'
          have := hp.mem_iff.1 hp'
          simp only [opsL, baseL, signsL, gA, List.map_cons, List.map_nil, List.cons_append, List.nil_append, List.mem_cons, List.not_mem_nil, or_false] at this
          rcases this with rfl | rfl | rfl | rfl | rfl | rfl | rfl | rfl | rfl | rfl <;> exact ⟨fun _ => rfl, fun _ => rfl⟩
        obtain ⟨g1, g2⟩ := r'.adopt hadd (b := b) (cap := 0) (by omega) (Array.getElem?_eq_some_iff.1 hb).1 (fun j p hj => by have := (r.obj j p hj).2.1; omega) (by rw [hb]; exact ⟨es', ents, clock, rfl, hp, opsL_nodup, hc0⟩)
        exact ⟨_, _, g1, rfl, by simp [conc, Map.put_self], g2⟩
      · cases e
    · cases e
  | false =>
    cases h116 : Nat.beq f 116 with
    | true =>
      have := Nat.eq_of_beq_eq_true h116
      subst this
      simp only [h67, h116, cond_true, cond_false] at e
      split at e
      · rename_i p1 p2 p3 n n1 n2 n3 n4 ks
        rw [cond_some] at e
        obtain ⟨hn, e⟩ := e
        simp only [Option.some.injEq, Prod.mk.injEq] at e
        obtain ⟨rfl, rfl⟩ := e
        rw [ieq_iff] at hn
        have := of_decide_eq_true hn
        subst this
        obtain ⟨cp, l1, rfl, hp, hc⟩ := concs_cons.1 hc
        obtain ⟨cn, l2, rfl, hnn, hc⟩ := concs_cons.1 hc
        obtain ⟨ck, l3, rfl, hk, hc⟩ := concs_cons.1 hc
        rw [concs_nil] at hc
        subst hc
        have agg : ∀ {l : List AV} {c : Value}, conc M (.agg l) = some c → ∃ cl, concs M l = some cl ∧ c = .agg cl.toArray := by
          intro l c h
          simp only [conc, Option.map_eq_some_iff] at h
          obtain ⟨cl, h1, rfl⟩ := h
          exact ⟨cl, h1, rfl⟩
        obtain ⟨pl, hpl, rfl⟩ := agg hp
        obtain ⟨nl, hnl, rfl⟩ := agg hnn
        obtain ⟨q1, l4, rfl, _, hpl⟩ := concs_cons.1 hpl
        obtain ⟨q2, l5, rfl, _, hpl⟩ := concs_cons.1 hpl
        obtain ⟨q3, l6, rfl, _, hpl⟩ := concs_cons.1 hpl
        rw [concs_nil] at hpl
        subst hpl
        obtain ⟨m0, l7, rfl, hm0, hnl⟩ := concs_cons.1 hnl
        obtain ⟨m1, l8, rfl, _, hnl⟩ := concs_cons.1 hnl
        obtain ⟨m2, l9, rfl, _, hnl⟩ := concs_cons.1 hnl
        obtain ⟨m3, l10, rfl, _, hnl⟩ := concs_cons.1 hnl
        obtain ⟨m4, l11, rfl, _, hnl⟩ := concs_cons.1 hnl
        rw [concs_nil] at hnl
        subst hnl
        simp only [conc, Option.some.injEq] at hm0
        subst hm0
        refine (shape_calls q1 q2 q3 m1 m2 m3 m4 ck w r.known).mono ?_
        rintro e w' ⟨rfl, bel⟩
        exact ⟨M, _, Grow.refl _ M, rfl, rfl, r.after bel⟩
      · cases e
    | false =>
      simp only [h67, h116, cond_false] at e
      cases e
def isTrue : Option (AV × Heap) → Bool
  | some (.bool true, _) => true
  | _ => false
theorem isTrue_eq {o : Option (AV × Heap)} (h : isTrue o = true) : ∃ h', o = some (.bool true, h') := by
  unfold isTrue at h
  split at h
  · exact ⟨_, rfl⟩
  · cases h
theorem ocall_ok (fuel : Nat) : CallOk Tryz.prog (acall Tryz.prog exts orac fuel) := acallW_ok orac_ok (aexec_ok exts_ok mixed orac_ok fuel fuel (Nat.le_refl _))
end Go.Am
namespace Go.Am
open Go
def scan1 : Ent := ⟨41, [.str [116, 97, 115, 107, 32, 109, 97, 105, 110, 40, 41, 32, 123, 32, 110, 101, 119, 32, 120, 58, 32, 115, 101, 116, 59, 32, 112, 117, 116, 32, 120, 32, 123, 49, 125, 59, 32, 125]], [⟨65, 3, [.int .u8 3, .str [116, 97, 115, 107], .int .i64 0, .int .u8 1, .str [109, 97, 105, 110], .int .i64 5, .int .u8 4, .str [40], .int .i64 9, .int .u8 4, .str [41], .int .i64 10, .int .u8 4, .str [123], .int .i64 12, .int .u8 3, .str [110, 101, 119], .int .i64 14, .int .u8 1, .str [120], .int .i64 18, .int .u8 4, .str [58], .int .i64 19, .int .u8 3, .str [115, 101, 116], .int .i64 21, .int .u8 4, .str [59], .int .i64 24, .int .u8 3, .str [112, 117, 116], .int .i64 26, .int .u8 1, .str [120], .int .i64 30, .int .u8 4, .str [123], .int .i64 32, .int .u8 2, .str [49], .int .i64 33, .int .u8 4, .str [125], .int .i64 34, .int .u8 4, .str [59], .int .i64 35, .int .u8 4, .str [125], .int .i64 37], false⟩], .tuple [.slice 0 0 17 3, .int .i64 0, .int .i64 0], [134]⟩
def scan2 : Ent := ⟨41, [.str [116, 97, 115, 107, 32, 102, 40, 41, 32, 123, 32, 108, 101, 116, 32, 97, 32, 61, 32, 49, 32, 125]], [⟨65, 3, [.int .u8 3, .str [116, 97, 115, 107], .int .i64 0, .int .u8 1, .str [102], .int .i64 5, .int .u8 4, .str [40], .int .i64 6, .int .u8 4, .str [41], .int .i64 7, .int .u8 4, .str [123], .int .i64 9, .int .u8 3, .str [108, 101, 116], .int .i64 11, .int .u8 1, .str [97], .int .i64 15, .int .u8 4, .str [61], .int .i64 17, .int .u8 2, .str [49], .int .i64 19, .int .u8 4, .str [125], .int .i64 21], false⟩], .tuple [.slice 0 0 10 3, .int .i64 0, .int .i64 0], [82]⟩
def scan3 : Ent := ⟨41, [.str [116, 97, 115, 107, 32, 102, 40, 41, 32, 123, 32, 108, 101, 116, 32, 97, 32, 61, 32, 49, 32, 50, 59, 32, 102, 97, 105, 108, 32, 97, 59, 32, 125]], [⟨65, 3, [.int .u8 3, .str [116, 97, 115, 107], .int .i64 0, .int .u8 1, .str [102], .int .i64 5, .int .u8 4, .str [40], .int .i64 6, .int .u8 4, .str [41], .int .i64 7, .int .u8 4, .str [123], .int .i64 9, .int .u8 3, .str [108, 101, 116], .int .i64 11, .int .u8 1, .str [97], .int .i64 15, .int .u8 4, .str [61], .int .i64 17, .int .u8 2, .str [49], .int .i64 19, .int .u8 2, .str [50], .int .i64 21, .int .u8 4, .str [59], .int .i64 22, .int .u8 3, .str [102, 97, 105, 108], .int .i64 24, .int .u8 1, .str [97], .int .i64 29, .int .u8 4, .str [59], .int .i64 30, .int .u8 4, .str [125], .int .i64 32], false⟩], .tuple [.slice 0 0 15 3, .int .i64 0, .int .i64 0], [123]⟩
end Go.Am
namespace Go.Am
open Go Go.Proofs Go.RowKit Go.Pu
set_option maxRecDepth 100000
set_option linter.unusedVariables false
theorem S0 {p q : Prop} (k : q) (h : q → p := by
  first
    | with_reducible exact RS.seq
    | with_reducible exact RS.goL
    | with_reducible exact RO.nil
    | with_reducible exact ThenS.n
    | with_reducible exact RS.block
    | with_reducible exact InB.n
    | with_reducible exact InB.r
    | with_reducible exact ThenS.r
    | with_reducible exact ThenS.e
    | with_reducible exact RS.skip
    | with_reducible exact RS.label
    | with_reducible exact RS.ret
    | with_reducible exact RS.exit
    | with_reducible exact Rnd.e
    | with_reducible exact Rnd.r
    | with_reducible exact RQ.nil
    | ((with_reducible refine RS.condT ?hb); (case hb => exact rfl))
    | ((with_reducible refine RS.condF ?hb); (case hb => exact rfl))
    | ((with_reducible refine InB.e ?hb); (case hb => exact rfl))
    | ((with_reducible refine InB.o ?hb); (case hb => exact rfl))
    | fail) : p := h k
theorem St {p q : Prop} (k : q) (h : q → p := by
  first
    | ((with_reducible refine RS.drawL mixed ?hb); (case hb => exact rfl))
    | ((with_reducible refine' RO.skip ?hw ?hp); (case hw => exact rfl); (case hp => exact rfl))
    | ((with_reducible refine' RO.addI exts_ok ?hw ?hx ?hy ?hi ?hp); (case hw | hx | hy => exact rfl); (case hi => omega); (case hp => exact rfl))
    | ((with_reducible refine' RO.subI exts_ok ?hw ?hx ?hy ?hi ?hp); (case hw | hx | hy => exact rfl); (case hi => omega); (case hp => exact rfl))
    | ((with_reducible refine' RO.catS exts_ok ?hw ?hx ?hy ?hi ?hp); (case hw | hx | hy => exact rfl); (case hi => (first | omega | (simp; omega) | (simp [lettersOf]; omega))); (case hp => exact rfl))
    | ((with_reducible refine' RO.lenL exts_ok ?hw ?hx ?hu ?hp); (case hw | hx | hu | hp => exact rfl))
    | ((with_reducible refine' RO.lenS exts_ok ?hw ?hx ?hu ?hp); (case hw | hx | hu | hp => exact rfl))
    | ((with_reducible refine' RO.maxI exts_ok ?hw ?hx ?hy ?hp); (case hw | hx | hy | hp => exact rfl))
    | ((with_reducible refine' RO.subS exts_ok ?hw ?hx ?hl ?hu ?ht ?hb ?ha ?hp); (case hw | hx | hl | hu | ht => exact rfl); (case hb | ha => (first | exact rfl | exact abound_le rfl (by omega))); (case hp => exact rfl))
    | ((with_reducible refine' RO.subL exts_ok ?hw ?hx ?hu ?ht ?hi' ?hes ?hb ?hp); (case hw | hx | hu | ht | hi' | hes => exact rfl); (case hb => (first | exact rfl | exact abound_le rfl (by omega) | exact abound_le (by omega) (by omega))); (case hp => exact rfl))
    | ((with_reducible refine' RO.idxL exts_ok ?hw ?hx ?hy ?hu ?hi ?hes ?hz ?hlt ?hp); (case hw | hx | hy | hu | hi | hes => exact rfl); (case hz => (first | exact rfl | omega)); (case hlt => omega); (case hp => exact rfl))
    | ((with_reducible refine' RO.idxS exts_ok ?hw ?hx ?hy ?hu ?hb ?hz ?hp); (case hw | hx | hy | hu => exact rfl); (case hb => exact rfl); (case hz => (first | exact rfl | omega)); (case hp => exact rfl))
    | ((with_reducible refine' RO.ld1 exts_ok ?hw ?hx ?hu ?hD ?hv ?hp); (case hw | hx | hu | hD => exact rfl); (case hv => exact rfl); (case hp => exact rfl))
    | ((with_reducible refine' RO.ldN exts_ok ?hw ?hx ?hu ?hD ?hv ?hp); (case hw | hx | hu | hD => exact rfl); (case hv => exact rfl); (case hp => exact rfl))
    | ((with_reducible refine' RO.app1 exts_ok ?hw ?hx ?hy ?ht ?hu ?hi ?hz ?hzl ?hes ?he0 ?hn ?hone ?hg ?ho ?hb ?hb2 ?hq ?ha ?hp); (case hw | hx | hy | ht | hu | hi | hz | hzl | hes | he0 | hn | hone | hg => exact rfl); (case ho => (first | exact takeN_all (by simp [cellsI_len, cellsZ_len]) | exact takeN_pre (by simp [cellsI_len, cellsZ_len] <;> omega))); (case hb => (first | omega | (simp; omega))); (case hb2 => (show _ * 8 ≤ _; (first | omega | (simp; omega)))); (case hq | ha | hp => exact rfl))
    | ((with_reducible refine' RO.app0 exts_ok ?hw ?hx ?hy ?ht ?hu ?hi ?hz ?hzl ?hes ?he0 ?hn ?hone ?hm ?hb ?hb2 ?ha ?hp); (case hw | hx | hy | ht | hu | hi | hz | hzl | hes | he0 | hn | hone => exact rfl); (case hm | hb => (first | decide | omega)); (case hb2 => (show _ * 8 ≤ _; (first | decide | omega))); (case ha | hp => exact rfl))
    | ((with_reducible refine' RO.step ?hw ?ho ?hp); (case hw => exact rfl); (case ho => (first | exact OSem.val exts_ok rfl | exact OSem.skip exts_ok rfl | exact OSem.x rfl)); (case hp => exact rfl))
    | ((with_reducible refine' RQ.skip ?hw ?hp); (case hw => exact rfl); (case hp => exact rfl))
    | ((with_reducible refine' RQ.addI exts_ok ?hw ?hx ?hy ?hi ?hp); (case hw | hx | hy => exact rfl); (case hi => omega); (case hp => exact rfl))
    | ((with_reducible refine' RQ.subI exts_ok ?hw ?hx ?hy ?hi ?hp); (case hw | hx | hy => exact rfl); (case hi => omega); (case hp => exact rfl))
    | ((with_reducible refine' RQ.catS exts_ok ?hw ?hx ?hy ?hi ?hp); (case hw | hx | hy => exact rfl); (case hi => (first | omega | (simp; omega) | (simp [lettersOf]; omega))); (case hp => exact rfl))
    | ((with_reducible refine' RQ.lenL exts_ok ?hw ?hx ?hu ?hp); (case hw | hx | hu | hp => exact rfl))
    | ((with_reducible refine' RQ.lenS exts_ok ?hw ?hx ?hu ?hp); (case hw | hx | hu | hp => exact rfl))
    | ((with_reducible refine' RQ.maxI exts_ok ?hw ?hx ?hy ?hp); (case hw | hx | hy | hp => exact rfl))
    | ((with_reducible refine' RQ.subS exts_ok ?hw ?hx ?hl ?hu ?ht ?hb ?ha ?hp); (case hw | hx | hl | hu | ht => exact rfl); (case hb | ha => (first | exact rfl | exact abound_le rfl (by omega))); (case hp => exact rfl))
    | ((with_reducible refine' RQ.subL exts_ok ?hw ?hx ?hu ?ht ?hi' ?hes ?hb ?hp); (case hw | hx | hu | ht | hi' | hes => exact rfl); (case hb => (first | exact rfl | exact abound_le rfl (by omega) | exact abound_le (by omega) (by omega))); (case hp => exact rfl))
    | ((with_reducible refine' RQ.idxL exts_ok ?hw ?hx ?hy ?hu ?hi ?hes ?hz ?hlt ?hp); (case hw | hx | hy | hu | hi | hes => exact rfl); (case hz => (first | exact rfl | omega)); (case hlt => omega); (case hp => exact rfl))
    | ((with_reducible refine' RQ.idxS exts_ok ?hw ?hx ?hy ?hu ?hb ?hz ?hp); (case hw | hx | hy | hu => exact rfl); (case hb => exact rfl); (case hz => (first | exact rfl | omega)); (case hp => exact rfl))
    | ((with_reducible refine' RQ.ld1 exts_ok ?hw ?hx ?hu ?hD ?hv ?hp); (case hw | hx | hu | hD => exact rfl); (case hv => exact rfl); (case hp => exact rfl))
    | ((with_reducible refine' RQ.ldN exts_ok ?hw ?hx ?hu ?hD ?hv ?hp); (case hw | hx | hu | hD => exact rfl); (case hv => exact rfl); (case hp => exact rfl))
    | ((with_reducible refine' RQ.mem ?hw ?hk ?hg ?hp); (case hw => exact rfl); (case hk => exact rfl); (case hg => exact rfl); (case hp => exact rfl))
    | ((with_reducible refine' RQ.step ?hw ?ho ?hp); (case hw => exact rfl); (case ho => exact OSem.val exts_ok rfl); (case hp => exact rfl))
    | fail) : p := h k
theorem S2 {p q r : Prop} (kT : q) (kF : r) (h : q → r → p := by
  first
    | ((with_reducible refine' RO.lss exts_ok ?hw ?hx ?hy ?hk ?hT ?hF); (case hw | hx | hy | hk | hT | hF => exact rfl))
    | ((with_reducible refine' RO.gtr exts_ok ?hw ?hx ?hy ?hk ?hT ?hF); (case hw | hx | hy | hk | hT | hF => exact rfl))
    | ((with_reducible refine' RO.leq exts_ok ?hw ?hx ?hy ?hk ?hT ?hF); (case hw | hx | hy | hk | hT | hF => exact rfl))
    | ((with_reducible refine' RO.geq exts_ok ?hw ?hx ?hy ?hk ?hT ?hF); (case hw | hx | hy | hk | hT | hF => exact rfl))
    | ((with_reducible refine' RO.eqi exts_ok ?hw ?hx ?hy ?hk ?hT ?hF); (case hw | hx | hy | hk | hT | hF => exact rfl))
    | ((with_reducible refine' RO.nei exts_ok ?hw ?hx ?hy ?hk ?hT ?hF); (case hw | hx | hy | hk | hT | hF => exact rfl))
    | ((with_reducible refine' RO.eqs exts_ok ?hw ?hx ?hy ?hT ?hF); (case hw | hx | hy | hT | hF => exact rfl))
    | ((with_reducible refine' RO.nes exts_ok ?hw ?hx ?hy ?hT ?hF); (case hw | hx | hy | hT | hF => exact rfl))
    | ((with_reducible refine' RQ.lss exts_ok ?hw ?hx ?hy ?hk ?hT ?hF); (case hw | hx | hy | hk | hT | hF => exact rfl))
    | ((with_reducible refine' RQ.gtr exts_ok ?hw ?hx ?hy ?hk ?hT ?hF); (case hw | hx | hy | hk | hT | hF => exact rfl))
    | ((with_reducible refine' RQ.leq exts_ok ?hw ?hx ?hy ?hk ?hT ?hF); (case hw | hx | hy | hk | hT | hF => exact rfl))
    | ((with_reducible refine' RQ.geq exts_ok ?hw ?hx ?hy ?hk ?hT ?hF); (case hw | hx | hy | hk | hT | hF => exact rfl))
    | ((with_reducible refine' RQ.eqi exts_ok ?hw ?hx ?hy ?hk ?hT ?hF); (case hw | hx | hy | hk | hT | hF => exact rfl))
    | ((with_reducible refine' RQ.nei exts_ok ?hw ?hx ?hy ?hk ?hT ?hF); (case hw | hx | hy | hk | hT | hF => exact rfl))
    | ((with_reducible refine' RQ.eqs exts_ok ?hw ?hx ?hy ?hT ?hF); (case hw | hx | hy | hT | hF => exact rfl))
    | ((with_reducible refine' RQ.nes exts_ok ?hw ?hx ?hy ?hT ?hF); (case hw | hx | hy | hT | hF => exact rfl))
    | fail) : p := h kT kF
theorem Sf {F p q : Prop} (f : F) (k : q) (h : F → q → p := by
  intro f
  first
    | ((with_reducible refine' RO.ld1 exts_ok ?hw ?hx ?hu ?hD ?hv ?hp); (case hw | hx | hu | hD => exact rfl); (case hv => (first | exact cellsN_one f rfl | exact cellsN_row f | exact cellsI_one f | exact cellsZ_one f | exact cellsS_one f)); (case hp => exact rfl))
    | ((with_reducible refine' RO.ldN exts_ok ?hw ?hx ?hu ?hD ?hv ?hp); (case hw | hx | hu | hD => exact rfl); (case hv => (first | exact cellsN_one f rfl | exact cellsN_row f | exact cellsI_one f | exact cellsZ_one f | exact cellsS_one f)); (case hp => exact rfl))
    | ((with_reducible refine' RO.idxS exts_ok ?hw ?hx ?hy ?hu ?hb ?hz ?hp); (case hw | hx | hy | hu => exact rfl); (case hb => exact f); (case hz => (first | exact rfl | omega)); (case hp => exact rfl))
    | ((with_reducible refine' RQ.ld1 exts_ok ?hw ?hx ?hu ?hD ?hv ?hp); (case hw | hx | hu | hD => exact rfl); (case hv => (first | exact cellsN_one f rfl | exact cellsN_row f | exact cellsI_one f | exact cellsZ_one f | exact cellsS_one f)); (case hp => exact rfl))
    | ((with_reducible refine' RQ.ldN exts_ok ?hw ?hx ?hu ?hD ?hv ?hp); (case hw | hx | hu | hD => exact rfl); (case hv => (first | exact cellsN_one f rfl | exact cellsN_row f | exact cellsI_one f | exact cellsZ_one f | exact cellsS_one f)); (case hp => exact rfl))
    | ((with_reducible refine' RQ.idxS exts_ok ?hw ?hx ?hy ?hu ?hb ?hz ?hp); (case hw | hx | hy | hu => exact rfl); (case hb => exact f); (case hz => (first | exact rfl | omega)); (case hp => exact rfl))
    | fail) : p := h f k
theorem Sc {F p q : Prop} (f : F) (k : q) (h : F → q → p := by
  intro f
  first
    | ((with_reducible refine' RO.fn exts_ok ?hw ?ha ?hf ?hs ?hp); (case hw | ha | hf => exact rfl); (case hs => (first | exact f | exact f rfl | exact f rfl rfl | exact f rfl rfl rfl | exact f rfl rfl rfl rfl | exact f rfl rfl rfl rfl rfl | exact f _)); (case hp => exact rfl))
    | ((with_reducible refine' RQ.fn exts_ok ?hw ?ha ?hf ?hs ?hp); (case hw | ha | hf => exact rfl); (case hs => (first | exact f | exact f rfl | exact f rfl rfl | exact f rfl rfl rfl | exact f rfl rfl rfl rfl | exact f rfl rfl rfl rfl rfl | exact f _)); (case hp => exact rfl))
    | fail) : p := h f k
theorem Sb {F p q r : Prop} (f : F) (kT : q) (kF : r) (h : F → q → r → p := by
  intro f
  first
    | ((with_reducible refine' RO.fnB exts_ok ?hw ?ha ?hf ?hs ?hT ?hF); (case hw | ha | hf => exact rfl); (case hs => (first | exact f | exact f rfl | exact f rfl rfl | exact f rfl rfl rfl | exact f rfl rfl rfl rfl | exact f rfl rfl rfl rfl rfl | exact f _)); (case hT | hF => exact rfl))
    | ((with_reducible refine' RQ.fnB exts_ok ?hw ?ha ?hf ?hs ?hT ?hF); (case hw | ha | hf => exact rfl); (case hs => (first | exact f | exact f rfl | exact f rfl rfl | exact f rfl rfl rfl | exact f rfl rfl rfl rfl | exact f rfl rfl rfl rfl rfl | exact f _)); (case hT | hF => exact rfl))
    | fail) : p := h f kT kF
theorem Se {F p q r : Prop} (f : F) (kT : q) (kF : r) (h : F → q → r → p := by
  intro f
  first
    | ((with_reducible refine' RO.fnD exts_ok ?hw ?ha ?hf ?hs ?hT ?hF); (case hw | ha | hf => exact rfl); (case hs => (first | exact f | exact f rfl | exact f rfl rfl | exact f rfl rfl rfl | exact f rfl rfl rfl rfl | exact f rfl rfl rfl rfl rfl | exact f _)); (case hT | hF => exact rfl))
    | ((with_reducible refine' RQ.fnD exts_ok ?hw ?ha ?hf ?hs ?hT ?hF); (case hw | ha | hf => exact rfl); (case hs => (first | exact f | exact f rfl | exact f rfl rfl | exact f rfl rfl rfl | exact f rfl rfl rfl rfl | exact f rfl rfl rfl rfl rfl | exact f _)); (case hT | hF => exact rfl))
    | fail) : p := h f kT kF
end Go.Am
