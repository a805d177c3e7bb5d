/- Part of the proof: WkL, WkM, WkN. -/
import Derived.Test.YtijdeggmmpfjeaaGreatDoorA8
import Derived.Test.YtijdeggmmpfjeaaGreatDoorA4
import Derived.Test.YtijdeggmmpfjeaaGreatDoorS1
set_option linter.unusedSimpArgs false
set_option linter.unusedVariables false
set_option linter.unusedSectionVars false
namespace Go.Am
open Go Go.Proofs Go.RowKit Go.Pu
set_option maxRecDepth 100000
def dpH (ns : List Nd) (st : List Int) : Heap := ⟨.node (some (.ro 50 5 (cellsN ns))) (.node (some (.cells 26 1 [.slice 0 0 ns.length 5] true)) .leaf .leaf) (.node (some (.cells 3 1 (cellsZ st.reverse) false)) .leaf .leaf), 3⟩
def dpX (ns : List Nd) (x : Nd) (st : List Int) : Heap := ⟨.node (some (.ro 50 5 (cellsN ns))) (.node (some (.cells 26 1 [.slice 0 0 ns.length 5] true)) (.node (some (.cells 50 5 (rowN x) true)) .leaf .leaf) .leaf) (.node (some (.cells 3 1 (cellsZ st.reverse) false)) .leaf .leaf), 4⟩
def dendsV : Bool → List Int → AV
  | true, _ => .nilslice
  | false, st => .slice 2 0 st.length 1
def dendsG (ns : List Nd) : Bool → List Int → Heap
  | true, _ => boxH ns
  | false, st => dpH ns st
structure DS where
  nl : Bool
  i : Nat
  st : List Int
  m : Int
set_option maxHeartbeats 8000000 in
theorem sem63 (ns : List Nd) (o : NdOk ns) (hl : Lam (sizes ns)) : CSem Tryz.prog 63 [.agg [.slice 0 0 ns.length 5]] (nodesH ns) (.int .i64 (dep (sizes ns) 0 [] 0)) (nodesH ns) := by
  have hn := o.len
  have hz : (sizes ns).length = ns.length := by simp [sizes]
  refine CSem.into Tryz.func63 rfl (by decide) Tryz.ntmps63 rfl rfl rfl ?_
  dsimp only [nodesH]
  repeat' (first
   | refine S0 ?_
   | (refine S2 ?_ ?_) <;> intro hc <;> try (exfalso; first | omega | (simp at hc; done))
   | refine St ?_
   | fail)
  refine RS.loop (σ := DS) (fun s => s.i ≤ ns.length ∧ s.st.length ≤ s.i ∧ (s.nl = true → s.st = []) ∧ dep ((sizes ns).drop s.i) s.i s.st s.m = dep (sizes ns) 0 [] 0) (fun s => [(3, dendsV s.nl s.st), (4, .int .i64 s.m), (8, .slice 0 0 ns.length 5), (9, .int .i64 (ns.length : Int)), (10, .int .i64 (s.i : Int))]) (fun s => dendsG ns s.nl s.st) (fun s => ns.length - s.i) ⟨true, 0, [], 0⟩ ⟨Nat.zero_le _, Nat.le_refl _, fun _ => rfl, rfl⟩ ⟨[0, 1], by (refine ⟨rfl, rfl, rfl, ?_⟩; repeat' (first | exact True.intro | refine And.intro ?_ ?_ | exact RenO.none | exact RenO.cells (RenVs.plain rfl) | exact RenO.ro (RenVs.plain (cellsN_plain _)) | exact RenO.cells (RenVs.plain (cellsN_plain _)) | exact RenO.cells (RenVs.plain (cellsI_plain _)) | exact RenO.cells (RenVs.plain (cellsZ_plain _)) | exact RenO.cells (RenVs.cons (RenV.slice rfl) RenVs.nil) | exact RenO.iter | exact RenO.cells (RenVs.plain (rowN_plain _)))), by (repeat' (first | exact True.intro | refine And.intro ?_ ?_ | exact ⟨_, rfl, RenV.plain rfl⟩ | exact ⟨_, rfl, RenV.slice rfl⟩ | exact ⟨_, rfl, RenV.ptr rfl⟩ | exact ⟨_, rfl, RenV.nilslice⟩))⟩ ?round
  rintro ⟨nl, i, st, m⟩ ⟨hi, hsl, hnl, hR⟩
  simp only at hi hsl hnl hR
  by_cases hlt : i < ns.length
  · obtain ⟨x, hx⟩ : ∃ x, ns[i]? = some x := ⟨ns[i], by simp [hlt]⟩
    rw [drop_get' (sizes_get hx), dep] at hR
    have hr := hl.rng _ _ (sizes_get hx)
    rw [hz] at hr
    cases nl with
    | true =>
      have hst := hnl rfl
      subst hst
      refine ⟨_, rfl, ?_⟩
      dsimp only [dendsV, dendsG, boxH]
      repeat' (first
       | refine S0 ?_
       | (refine S2 ?_ ?_) <;> intro hc <;> try (exfalso; first | omega | (simp at hc; done))
       | refine Sf hx ?_
       | refine St ?_
       | fail)
      refine RS.loop (σ := Unit) (fun _ => True) (fun t => [(3, .nilslice), (4, .int .i64 m), (5, .int .i64 (i : Int)), (6, .ptr 2 0), (8, .slice 0 0 ns.length 5), (9, .int .i64 (ns.length : Int)), (10, .int .i64 (i : Int))]) (fun _ => ⟨.node (some (.ro 50 5 (cellsN ns))) (.node (some (.cells 26 1 [.slice 0 0 ns.length 5] true)) .leaf .leaf) (.node (some (.cells 50 5 (rowN x) true)) .leaf .leaf), 3⟩) (fun _ => 0) () True.intro ⟨[0, 1, 2], ⟨rfl, rfl, rfl, RenO.ro (RenVs.plain (cellsN_plain _)), RenO.cells (RenVs.cons (RenV.slice rfl) RenVs.nil), RenO.cells (RenVs.plain rfl), True.intro⟩, by (repeat' (first | exact True.intro | refine And.intro ?_ ?_ | exact ⟨_, rfl, RenV.plain rfl⟩ | exact ⟨_, rfl, RenV.slice rfl⟩ | exact ⟨_, rfl, RenV.ptr rfl⟩ | exact ⟨_, rfl, RenV.nilslice⟩))⟩ ?round2
      rintro _ _
      refine ⟨_, rfl, ?_⟩
      have hp0 : pops i [] = [] := rfl
      rw [hp0] at hR
      repeat' (first
       | refine S0 ?_
       | (refine S2 ?_ ?_) <;> intro hc <;> try (exfalso; first | omega | (simp at hc; done))
       | refine St ?_
       | fail)
      refine Rnd.n ⟨false, i + 1, [(i : Int) + x.s], max m 1⟩ [0, 1, 4] ⟨by dsimp only; omega, by simp, (by intro h; cases h), by rw [← hR]; rfl⟩ (by dsimp only; omega) ⟨rfl, rfl, rfl, RenO.ro (RenVs.plain (cellsN_plain _)), RenO.cells (RenVs.cons (RenV.slice rfl) RenVs.nil), RenO.cells (push_ren _ _ []), True.intro⟩ ?_
      exact ⟨⟨_, rfl, RenV.sliceL rfl (by simp)⟩, ⟨_, rfl, RenV.plain rfl⟩, ⟨_, rfl, RenV.slice rfl⟩, ⟨_, rfl, RenV.plain rfl⟩, ⟨_, rfl, RenV.eq (by simp) rfl⟩, True.intro⟩
    | false =>
      refine ⟨_, rfl, ?_⟩
      dsimp only [dendsV, dendsG, dpH]
      repeat' (first
       | refine S0 ?_
       | (refine S2 ?_ ?_) <;> intro hc <;> try (exfalso; first | omega | (simp at hc; done))
       | refine Sf hx ?_
       | refine St ?_
       | fail)
      refine RS.loop (σ := List Int) (fun t => pops i t = pops i st ∧ t.length ≤ st.length) (fun t => [(3, .slice 2 0 t.length 1), (4, .int .i64 m), (5, .int .i64 (i : Int)), (6, .ptr 3 0), (8, .slice 0 0 ns.length 5), (9, .int .i64 (ns.length : Int)), (10, .int .i64 (i : Int))]) (fun t => dpX ns x t) (fun t => t.length) st ⟨rfl, Nat.le_refl _⟩ ⟨[0, 1, 2, 3], ⟨rfl, rfl, rfl, RenO.ro (RenVs.plain (cellsN_plain _)), RenO.cells (RenVs.cons (RenV.slice rfl) RenVs.nil), RenO.cells (RenVs.plain (cellsZ_plain _)), RenO.cells (RenVs.plain rfl), True.intro⟩, by (repeat' (first | exact True.intro | refine And.intro ?_ ?_ | exact ⟨_, rfl, RenV.plain rfl⟩ | exact ⟨_, rfl, RenV.slice rfl⟩ | exact ⟨_, rfl, RenV.ptr rfl⟩ | exact ⟨_, rfl, RenV.nilslice⟩))⟩ ?round3
      rintro t ⟨hpt, hlt'⟩
      cases t with
      | nil =>
        have hp0 : pops i st = [] := hpt.symm
        rw [hp0] at hR
        refine ⟨_, rfl, ?_⟩
        dsimp only [dpX, List.length_nil]
        repeat' (first
         | refine S0 ?_
         | (refine S2 ?_ ?_) <;> intro hc <;> try (exfalso; first | omega | (simp at hc; done))
         | refine St ?_
         | fail)
        refine Rnd.n ⟨false, i + 1, [(i : Int) + x.s], max m 1⟩ [0, 1, 5] ⟨by dsimp only; omega, by simp, (by intro h; cases h), by rw [← hR]; rfl⟩ (by dsimp only; omega) ⟨rfl, rfl, rfl, RenO.ro (RenVs.plain (cellsN_plain _)), RenO.cells (RenVs.cons (RenV.slice rfl) RenVs.nil), RenO.cells (push_ren _ _ []), True.intro⟩ ?_
        exact ⟨⟨_, rfl, RenV.sliceL rfl (by simp)⟩, ⟨_, rfl, RenV.plain rfl⟩, ⟨_, rfl, RenV.slice rfl⟩, ⟨_, rfl, RenV.plain rfl⟩, ⟨_, rfl, RenV.eq (by simp) rfl⟩, True.intro⟩
      | cons e t =>
        have htop := top_at e t
        have hlc : ((e :: t).length : Nat) = t.length + 1 := rfl
        refine ⟨_, rfl, ?_⟩
        dsimp only [dpX]
        by_cases he : e = (i : Int)
        ·
          repeat' (first
           | refine S0 ?_
           | ((with_reducible refine' RO.idxL (m := t.length) exts_ok ?hw ?hx ?hy ?hu ?hi ?hes ?hz ?hlt ?hp ?_); (case hw | hx | hy | hu | hi | hes => exact rfl); (case hz | hlt => omega); (case hp => exact rfl))
           | ((with_reducible refine' RQ.idxL (m := t.length) exts_ok ?hw ?hx ?hy ?hu ?hi ?hes ?hz ?hlt ?hp ?_); (case hw | hx | hy | hu | hi | hes => exact rfl); (case hz | hlt => omega); (case hp => exact rfl))
           | ((with_reducible refine' RO.subL (b := t.length) exts_ok ?hw ?hx ?hu ?ht ?hi' ?hes ?hb ?hp ?_); (case hw | hx | hu | ht | hi' | hes => exact rfl); (case hb => exact abound_le (by omega) (by omega)); (case hp => exact rfl))
           | ((with_reducible refine' RQ.subL (b := t.length) exts_ok ?hw ?hx ?hu ?ht ?hi' ?hes ?hb ?hp ?_); (case hw | hx | hu | ht | hi' | hes => exact rfl); (case hb => exact abound_le (by omega) (by omega)); (case hp => exact rfl))
           | (refine S2 ?_ ?_) <;> intro hc <;> try (exfalso; first | omega | (simp at hc; done))
           | refine Sf htop ?_
           | refine St ?_
           | fail)
          refine Rnd.n t [0, 1, 2, 3] ⟨by rw [← hpt, pops, if_pos he], by omega⟩ (by omega) ⟨rfl, rfl, rfl, RenO.ro (RenVs.plain (cellsN_plain _)), RenO.cells (RenVs.cons (RenV.slice rfl) RenVs.nil), RenO.less (pop_ren _ _ _), RenO.cells (RenVs.plain rfl), True.intro⟩ ?_
          exact ⟨⟨_, rfl, RenV.slice rfl⟩, ⟨_, rfl, RenV.plain rfl⟩, ⟨_, rfl, RenV.plain rfl⟩, ⟨_, rfl, RenV.ptr rfl⟩, ⟨_, rfl, RenV.slice rfl⟩, ⟨_, rfl, RenV.plain rfl⟩, ⟨_, rfl, RenV.plain rfl⟩, True.intro⟩
        · have hp0 : pops i st = e :: t := by rw [← hpt, pops, if_neg he]
          rw [hp0] at hR
          repeat' (first
           | refine S0 ?_
           | ((with_reducible refine' RO.idxL (m := t.length) exts_ok ?hw ?hx ?hy ?hu ?hi ?hes ?hz ?hlt ?hp ?_); (case hw | hx | hy | hu | hi | hes => exact rfl); (case hz | hlt => omega); (case hp => exact rfl))
           | ((with_reducible refine' RQ.idxL (m := t.length) exts_ok ?hw ?hx ?hy ?hu ?hi ?hes ?hz ?hlt ?hp ?_); (case hw | hx | hy | hu | hi | hes => exact rfl); (case hz | hlt => omega); (case hp => exact rfl))
           | (refine S2 ?_ ?_) <;> intro hc <;> try (exfalso; first | omega | (simp at hc; done))
           | refine Sf htop ?_
           | refine St ?_
           | fail)
          refine Rnd.n ⟨false, i + 1, ((i : Int) + x.s) :: e :: t, max m ((e :: t).length + 1)⟩ [0, 1, 5] ⟨by dsimp only; omega, by dsimp only; simp only [List.length_cons] at *; omega, (by intro h; cases h), by rw [← hR]⟩ (by dsimp only; omega) ⟨rfl, rfl, rfl, RenO.ro (RenVs.plain (cellsN_plain _)), RenO.cells (RenVs.cons (RenV.slice rfl) RenVs.nil), RenO.cells (push_ren _ _ _), True.intro⟩ ?_
          exact ⟨⟨_, rfl, RenV.sliceL rfl (by simp)⟩, ⟨_, rfl, RenV.eq (by simp) rfl⟩, ⟨_, rfl, RenV.slice rfl⟩, ⟨_, rfl, RenV.plain rfl⟩, ⟨_, rfl, RenV.eq (by simp) rfl⟩, True.intro⟩
  · have hie : i = ns.length := by omega
    rw [List.drop_of_length_le (by simp [sizes]; omega), dep] at hR
    rw [← hR]
    subst hie
    cases nl with
    | true =>
      refine ⟨_, rfl, ?_⟩
      dsimp only [dendsV, dendsG, boxH]
      repeat' (first
       | refine S0 ?_
       | (refine S2 ?_ ?_) <;> intro hc <;> try (exfalso; first | omega | (simp at hc; done))
       | refine St ?_
       | fail)
      exact ⟨rfl, _, rfl, [0], ⟨rfl, rfl, rfl, RenO.ro (RenVs.plain (cellsN_plain _)), True.intro⟩, RenV.plain rfl⟩
    | false =>
      refine ⟨_, rfl, ?_⟩
      dsimp only [dendsV, dendsG, dpH]
      repeat' (first
       | refine S0 ?_
       | (refine S2 ?_ ?_) <;> intro hc <;> try (exfalso; first | omega | (simp at hc; done))
       | refine St ?_
       | fail)
      exact ⟨rfl, _, rfl, [0], ⟨rfl, rfl, rfl, RenO.ro (RenVs.plain (cellsN_plain _)), True.intro⟩, RenV.plain rfl⟩
theorem at63 {ns : List Nd} (o : NdOk ns) (hl : Lam (sizes ns)) {h : Heap} {i : Nat} (hi : Nat.blt i h.next = true) (ht : tells (h.objs.get i) (cellsN ns)) : CSem Tryz.prog 63 [.agg [.slice i 0 ns.length 5]] h (.int .i64 (deepFrom (sizes ns) ns.length 0 0)) h := by
  have hz : (sizes ns).length = ns.length := by simp [sizes]
  have e := dep_eq hl (sizes ns) 0 0 (by simp)
  have e2 : opened (sizes ns) 0 ((0 : Nat) - 1) = [] := rfl
  rw [e2, hz] at e
  rw [← e]
  exact CSem.upN (sem63 ns o hl) hi ht (RenVs.cons (RenV.agg (RenVs.cons (RenV.slice rfl) RenVs.nil)) RenVs.nil) (RenV.plain rfl)
end Go.Am
namespace Go.Am
open Go Go.Proofs Go.RowKit Go.Pu
set_option maxRecDepth 100000
theorem CSem.ofPlain {P : Program} {f : FuncId} {args : List AV} {v : AV} (ha : ∀ M : Map, concs M args = concs (fun _ => none) args) (hv : ∀ M : Map, conc M v = conc (fun _ => none) v)
    (hcall : ∀ w cargs, concs (fun _ => none) args = some cargs → Known P w.heap.size w → Calls P f cargs.toArray w fun e w' => (∃ c, e = .returned c ∧ conc (fun _ => none) v = some c) ∧ Below w.heap.size w w') (h : Heap) : CSem P f args h v h := by
  intro B w0 M w r cargs hc
  rw [ha M] at hc
  refine (hcall w cargs hc r.known).mono ?_
  rintro e w' ⟨⟨c, rfl, hcv⟩, bel⟩
  exact ⟨M, c, Grow.refl _ _, rfl, by rw [hv M]; exact hcv, r.after bel⟩
theorem sem202 (s : List UInt8) (c : UInt8) (h : Heap) : CSem Tryz.prog 202 [.str s, .int .u8 (c.toNat : Int)] h (.int .i64 (Lib.indexByte s c)) h := by
  refine CSem.ofPlain (fun _ => rfl) (fun _ => rfl) ?_ h
  intro w cargs hc _
  simp only [concs, conc, Option.some.injEq] at hc
  subst hc
  refine (Tryz.strings_IndexByte ⟨s.toArray⟩ (c.toNat : Int) w).mono ?_
  rintro e w' ⟨rfl, rfl⟩
  refine ⟨⟨_, rfl, ?_⟩, Below.refl _ _⟩
  simp [conc]
theorem bytesWorld_below (w : World) (e : TypeId) (t : ByteArray) : Below w.heap.size w (Go.Lib.bytesWorld w e t) := by
  rw [bytesWorld_eq]
  have := (Below.refl w.heap.size w).alloc (Nat.le_refl _) (.cells (Go.Lib.bytesCells w e t) e ((Go.Lib.bytesCells w e t).size, (Go.Lib.bytesCells w e t).size + 1))
  exact ⟨this.os, this.tape, this.output, by simp, this.block⟩
theorem sem204ok (s : List UInt8) (hs : s.length ≤ 1000000) (v : Int) (hv : Lib.atoiAll s = .ok v) (h : Heap) : CSem Tryz.prog 204 [.str s] h (.tuple [.int .i64 v, .niliface]) h := by
  refine CSem.ofPlain (fun _ => rfl) (fun _ => rfl) ?_ h
  intro w cargs hc _
  simp only [concs, conc, Option.some.injEq] at hc
  subst hc
  refine (Tryz.strconv_Atoi_ok ⟨s.toArray⟩ (by simp [ByteArray.size]; omega) v (by simpa using hv) w).mono ?_
  rintro e w' ⟨rfl, hw⟩
  refine ⟨⟨_, rfl, by simp [conc, concs]⟩, ?_⟩
  rcases hw with rfl | ⟨t, rfl⟩
  · exact Below.refl _ _
  · exact bytesWorld_below _ _ _
def Heap.blank (h : Heap) : Heap := ⟨h.objs, h.next + 1⟩
theorem HRel.blank {P : Program} {B : Nat} {w0 w : World} {M : Map} {h : Heap} (r : HRel P B w0 M h w) (hg : h.objs.get h.next = Option.none) {b : Nat} (hb : b < w.heap.size) :
    Grow h h.blank M (M.put h.next ⟨b, 0, 0⟩) ∧ HRel P B w0 (M.put h.next ⟨b, 0, 0⟩) h.blank w := by
  have hi : M h.next = Option.none := r.fresh _ (Nat.le_refl _)
  have hle := Map.le_put (p := (⟨b, 0, 0⟩ : Loc)) hi
  refine ⟨⟨hle, fun j hj => by simp only [Map.put, Nat.ne_of_lt hj, if_false], Nat.le_succ _⟩, ⟨r.belowM, r.base, fun j hj => ?_, fun j p hj => ?_, fun j k p q hj hk hpq lj lk => ?_⟩⟩
  · simp only [Heap.blank] at hj
    have : j ≠ h.next := by omega
    simp only [Map.put, this, if_false]
    exact r.fresh j (by omega)
  · unfold Map.put at hj
    split at hj
    · rename_i e
      subst e
      simp only [Option.some.injEq] at hj
      subst hj
      simp only [Heap.blank, hg]
      exact ⟨nofun, hb, True.intro⟩
    · obtain ⟨h1, h2, h3⟩ := r.obj j p hj
      exact ⟨h1, h2, h3.mono hle⟩
  · simp only [Heap.blank] at lj lk
    unfold Map.put at hj hk
    split at hj
    · rename_i e; subst e; obtain ⟨o, ho, _⟩ := lj; rw [hg] at ho; cases ho
    · split at hk
      · rename_i e; subst e; rw [hg] at lk; cases lk
      · exact r.inj j k p q hj hk hpq lj lk
theorem sem204err (s : List UInt8) (hs : s.length ≤ 1000000) (hv : ∀ v, Lib.atoiAll s ≠ .ok v) {h : Heap} {j : Nat} (hj : h.next = j) (hg : h.objs.get j = none) : ∃ n, CSem Tryz.prog 204 [.str s] h (.tuple [.int .i64 n, .iface 233 (.ptr j 0)]) h.blank := by
  subst hj
  have hlim : (⟨s.toArray⟩ : ByteArray).size ≤ 281474976710656 := by simp [ByteArray.size]; omega
  cases ha : Lib.atoiAll s with
  | ok v => exact absurd ha (hv v)
  | range =>
    refine ⟨Lib.atoiSat s, ?_⟩
    intro B w0 M w r cargs hc
    simp only [concs, conc, Option.some.injEq] at hc
    subst hc
    obtain ⟨⟨tp, p, hvar⟩, _⟩ := r.base.2 w r.below
    refine (Tryz.strconv_Atoi_range_var ⟨s.toArray⟩ hlim (by simpa using ha) tp p w hvar).mono ?_
    rintro e w' ⟨N, rfl, h1, h2, bel⟩
    have hlt : N < w'.heap.size := (Array.getElem?_eq_some_iff.1 h2).1
    obtain ⟨g, r'⟩ := (r.after bel).blank hg (b := N) hlt
    exact ⟨_, _, g, rfl, by simp [conc, concs, Map.put_self], r'⟩
  | _ =>
    refine ⟨0, ?_⟩
    intro B w0 M w r cargs hc
    simp only [concs, conc, Option.some.injEq] at hc
    subst hc
    obtain ⟨_, ⟨tp, p, hvar⟩, _⟩ := r.base.2 w r.below
    refine (Tryz.strconv_Atoi_syntax_var ⟨s.toArray⟩ hlim (fun v h => by simp [ha] at h) (fun h => by simp [ha] at h) tp p w hvar).mono ?_
    rintro e w' ⟨N, rfl, h1, h2, bel⟩
    have hlt : N < w'.heap.size := (Array.getElem?_eq_some_iff.1 h2).1
    obtain ⟨g, r'⟩ := (r.after bel).blank hg (b := N) hlt
    exact ⟨_, _, g, rfl, by simp [conc, concs, Map.put_self], r'⟩
theorem sem179 (n : Int) (h0 : -9223372036854775808 ≤ n) (h1 : n ≤ 9223372036854775807) (h : Heap) : CSem Tryz.prog 179 [.int .i64 n] h (.str (Lib.itoa n)) h := by
  refine CSem.ofPlain (fun _ => rfl) (fun _ => rfl) ?_ h
  intro w cargs hc g
  simp only [concs, conc, Option.some.injEq] at hc
  subst hc
  refine (Tryz.strconv_Itoa n h0 h1 w (g w (Below.refl _ _)).2.2).mono ?_
  rintro e w' ⟨rfl, k, os, rfl⟩
  refine ⟨⟨_, rfl, by simp [conc]⟩, ⟨rfl, rfl, rfl, by simp [Go.Sort.grow], fun i hi => by simp [Go.Sort.grow, Array.getElem?_append_left hi]⟩⟩
def isNumI (s : List UInt8) : Bool := match Lib.atoiAll s with
  | .ok v => decide (v ≤ 1000000000) && decide (Lib.itoa v = s)
  | _ => false
theorem isNumI_err {s : List UInt8} (hv : ∀ v, Lib.atoiAll s ≠ .ok v) : isNumI s = false := by
  unfold isNumI
  split
  · rename_i v h; exact absurd h (hv v)
  · rfl
set_option maxHeartbeats 2000000 in
theorem sem155 (s : List UInt8) (hs : s.length ≤ 1000000) (hr : ∀ v, Lib.atoiAll s = .ok v → -9223372036854775808 ≤ v ∧ v ≤ 9223372036854775807) (h : Heap) : CSem Tryz.prog 155 [.str s] h (.bool (isNumI s)) h := by
  refine CSem.pure ?_ (RenVs.plain rfl) (RenV.plain rfl) h
  by_cases hv : ∃ v, Lib.atoiAll s = .ok v
  · obtain ⟨v, hv⟩ := hv
    obtain ⟨h0, h1⟩ := hr v hv
    have e : isNumI s = (decide (v ≤ 1000000000) && decide (Lib.itoa v = s)) := by unfold isNumI; rw [hv]
    rw [e]
    refine CSem.into Tryz.func155 rfl (by decide) Tryz.ntmps155 rfl rfl rfl ?_
    dsimp only
    repeat' (first
     | refine S0 ?_
     | refine Sc (sem204ok s hs v hv _) ?_
     | refine Sc (sem179 v h0 h1 _) ?_
     | (refine S2 ?_ ?_) <;> intro hc <;> try (exfalso; first | omega | (simp at hc; done))
     | refine St ?_
     | fail)
    all_goals refine ⟨rfl, _, rfl, [], ⟨rfl, rfl, rfl, True.intro⟩, RenV.eq ?_ rfl⟩
    all_goals (simp_all [afinish] <;> omega)
  · have hv' : ∀ v, Lib.atoiAll s ≠ .ok v := fun v e => hv ⟨v, e⟩
    rw [isNumI_err hv']
    obtain ⟨n, hc⟩ := sem204err s hs hv' (h := ⟨.leaf, 0⟩) (j := 0) rfl rfl
    dsimp only [Heap.blank] at hc
    refine CSem.into Tryz.func155 rfl (by decide) Tryz.ntmps155 rfl rfl rfl ?_
    dsimp only
    repeat' (first
     | refine S0 ?_
     | refine Sc hc ?_
     | (refine S2 ?_ ?_) <;> intro hc <;> try (exfalso; first | omega | (simp at hc; done))
     | refine St ?_
     | fail)
    all_goals refine ⟨rfl, _, rfl, [], ⟨rfl, rfl, rfl, True.intro⟩, RenV.eq ?_ rfl⟩
    all_goals simp [afinish]
end Go.Am
namespace Go.Am
open Go Go.Proofs Go.RowKit Go.Pu
set_option maxRecDepth 100000
def intsH (l : List Int) : Heap := ⟨.node (some (.ro 3 1 (cellsZ l))) .leaf .leaf, 1⟩
def idxZ (v : Int) : List Int → Nat → Int
  | [], _ => -1
  | x :: l, i => if v = x then (i : Int) else idxZ v l (i + 1)
theorem idxZ_mem (v : Int) : ∀ (l : List Int) (i : Nat), (0 ≤ idxZ v l i ↔ v ∈ l)
  | [], i => by simp [idxZ]
  | x :: l, i => by
    unfold idxZ
    split
    · rename_i h; subst h; simp
    · rename_i h; rw [idxZ_mem v l (i + 1)]; simp [h]
set_option maxHeartbeats 2000000 in
theorem sem96 (l : List Int) (hl : l.length ≤ 1000) (v : Int) : CSem Tryz.prog 96 [.slice 0 0 l.length 1, .int .i64 v] (intsH l) (.int .i64 (idxZ v l 0)) (intsH l) := by
  refine CSem.into Tryz.func96 rfl (by decide) Tryz.ntmps96 rfl rfl rfl ?_
  dsimp only [intsH]
  repeat' (first
   | refine S0 ?_
   | (refine S2 ?_ ?_) <;> intro hc <;> try (exfalso; first | omega | (simp at hc; done))
   | refine St ?_
   | fail)
  refine RS.loop (σ := Nat) (fun i => i ≤ l.length ∧ idxZ v (l.drop i) i = idxZ v l 0) (fun i => [(0, .slice 0 0 l.length 1), (1, .int .i64 v), (7, .int .i64 (l.length : Int)), (8, .int .i64 (i : Int))]) (fun _ => intsH l) (fun i => l.length - i) 0 ⟨Nat.zero_le _, rfl⟩ ⟨[0], ⟨rfl, rfl, rfl, RenO.ro (RenVs.plain (cellsZ_plain _)), True.intro⟩, by (repeat' (first | exact True.intro | refine And.intro ?_ ?_ | exact ⟨_, rfl, RenV.plain rfl⟩ | exact ⟨_, rfl, RenV.slice rfl⟩ | exact ⟨_, rfl, RenV.ptr rfl⟩ | exact ⟨_, rfl, RenV.nilslice⟩))⟩ ?round
  rintro i ⟨hi, hR⟩
  refine ⟨_, rfl, ?_⟩
  dsimp only [intsH]
  by_cases hlt : i < l.length
  · obtain ⟨x, hx⟩ : ∃ x, l[i]? = some x := ⟨l[i], by simp [hlt]⟩
    rw [drop_get' hx, idxZ] at hR
    repeat' (first
     | refine S0 ?_
     | (refine S2 ?_ ?_) <;> intro hc <;> try (exfalso; first | omega | (simp at hc; done))
     | refine Sf hx ?_
     | refine St ?_
     | fail)
    · rw [if_pos hc] at hR
      rw [← hR]
      exact ⟨rfl, _, rfl, [0], ⟨rfl, rfl, rfl, RenO.ro (RenVs.plain (cellsZ_plain _)), True.intro⟩, RenV.plain rfl⟩
    · rw [if_neg hc] at hR
      refine Rnd.n (i + 1) [0] ⟨by omega, hR⟩ (by omega) ⟨rfl, rfl, rfl, RenO.ro (RenVs.plain (cellsZ_plain _)), True.intro⟩ ?_
      exact ⟨⟨_, rfl, RenV.slice rfl⟩, ⟨_, rfl, RenV.plain rfl⟩, ⟨_, rfl, RenV.plain rfl⟩, ⟨_, rfl, RenV.eq (by simp) rfl⟩, True.intro⟩
  · have hie : i = l.length := by omega
    rw [List.drop_of_length_le (by omega)] at hR
    have hR : -1 = idxZ v l 0 := hR
    rw [← hR]
    subst hie
    repeat' (first
     | refine S0 ?_
     | (refine S2 ?_ ?_) <;> intro hc <;> try (exfalso; first | omega | (simp at hc; done))
     | refine St ?_
     | fail)
    exact ⟨rfl, _, rfl, [0], ⟨rfl, rfl, rfl, RenO.ro (RenVs.plain (cellsZ_plain _)), True.intro⟩, RenV.plain rfl⟩
theorem upI {f : FuncId} {l : List Int} {n : Nat} (hn : l.length = n) {v a : AV} (c : CSem Tryz.prog f [.slice 0 0 l.length 1, a] (intsH l) v (intsH l)) (ha : plain1 a = true) (hv : plain1 v = true) {h : Heap} {i : Nat} (hi : Nat.blt i h.next = true) (ht : tells (h.objs.get i) (cellsZ l)) : CSem Tryz.prog f [.slice i 0 n 1, a] h v h := by
  subst hn
  exact CSem.up c [i] [] rfl (by simp only [List.all_cons, hi, List.all_nil, Bool.and_true]) ⟨⟨cellsZ_plain l, ht⟩, True.intro⟩ (RenVs.cons (RenV.slice rfl) (RenVs.plain (by simp [plains, ha]))) True.intro rfl rfl (RenV.plain hv)
theorem sem201 (l : List Int) (hl : l.length ≤ 1000) (v : Int) : CSem Tryz.prog 201 [.slice 0 0 l.length 1, .int .i64 v] (intsH l) (.bool (decide (v ∈ l))) (intsH l) := by
  refine CSem.into Tryz.func201 rfl (by decide) Tryz.ntmps201 rfl rfl rfl ?_
  dsimp only [intsH]
  have hm := idxZ_mem v l 0
  repeat' (first
   | refine S0 ?_
   | refine Sc (upI rfl (sem96 l hl v)) ?_
   | (refine S2 ?_ ?_) <;> intro hc <;> try (exfalso; first | omega | (simp at hc; done))
   | refine St ?_
   | fail)
  · rw [decide_eq_true (hm.1 hc)]
    exact ⟨rfl, _, rfl, [0], ⟨rfl, rfl, rfl, RenO.ro (RenVs.plain (cellsZ_plain _)), True.intro⟩, RenV.plain rfl⟩
  · rw [decide_eq_false (fun h => hc (hm.2 h))]
    exact ⟨rfl, _, rfl, [0], ⟨rfl, rfl, rfl, RenO.ro (RenVs.plain (cellsZ_plain _)), True.intro⟩, RenV.plain rfl⟩
theorem sem150 (l : List Int) (hl : l.length ≤ 1000) (b : UInt8) : CSem Tryz.prog 150 [.int .u8 (b.toNat : Int), .slice 0 0 l.length 1] (intsH l) (.bool (decide (classK b.toNat ∈ l))) (intsH l) := by
  refine CSem.into Tryz.func150 rfl (by decide) Tryz.ntmps150 rfl rfl rfl ?_
  dsimp only [intsH]
  repeat' (first
   | refine S0 ?_
   | refine Sc (fn152 (u8lt _) _) ?_
   | (refine Se (upI rfl (sem201 l hl _)) ?_ ?_) <;> intro hc <;> try (exfalso; first | omega | (simp at hc; done))
   | (refine S2 ?_ ?_) <;> intro hc <;> try (exfalso; first | omega | (simp at hc; done))
   | refine St ?_
   | fail)
  · rw [decide_eq_true hc]
    exact ⟨rfl, _, rfl, [0], ⟨rfl, rfl, rfl, RenO.ro (RenVs.plain (cellsZ_plain _)), True.intro⟩, RenV.plain rfl⟩
  · rw [decide_eq_false hc]
    exact ⟨rfl, _, rfl, [0], ⟨rfl, rfl, rfl, RenO.ro (RenVs.plain (cellsZ_plain _)), True.intro⟩, RenV.plain rfl⟩
theorem at150 (l : List Int) (b : UInt8) {n : Nat} (hn : l.length = n) (hl : l.length ≤ 1000) {h : Heap} {i : Nat} (hi : Nat.blt i h.next = true) (ht : tells (h.objs.get i) (cellsZ l)) : CSem Tryz.prog 150 [.int .u8 (b.toNat : Int), .slice i 0 n 1] h (.bool (decide (classK b.toNat ∈ l))) h := by
  subst hn
  exact CSem.up (sem150 l hl b) [i] [] rfl (by simp only [List.all_cons, hi, List.all_nil, Bool.and_true]) ⟨⟨cellsZ_plain l, ht⟩, True.intro⟩ (RenVs.cons (RenV.plain rfl) (RenVs.cons (RenV.slice rfl) RenVs.nil)) True.intro rfl rfl (RenV.plain rfl)
def whileF (l : List Int) : List UInt8 → Nat
  | [] => 0
  | c :: s => if classK c.toNat ∈ l then whileF l s + 1 else 0
theorem whileF_le (l : List Int) : ∀ s : List UInt8, whileF l s ≤ s.length
  | [] => Nat.le_refl _
  | c :: s => by
    unfold whileF
    split
    · have := whileF_le l s; simp; omega
    · simp
set_option maxHeartbeats 2000000 in
theorem sem153 (s : List UInt8) (l : List Int) (hl : l.length ≤ 1000) (hs : s.length ≤ 1000000) : CSem Tryz.prog 153 [.str s, .slice 0 0 l.length 1] (intsH l) (.str (s.take (whileF l s))) (intsH l) := by
  refine CSem.into Tryz.func153 rfl (by decide) Tryz.ntmps153 rfl rfl rfl ?_
  dsimp only [intsH]
  have hwl := whileF_le l s
  repeat' (first
   | refine S0 ?_
   | (refine S2 ?_ ?_) <;> intro hc <;> try (exfalso; first | omega | (simp at hc; done))
   | refine St ?_
   | fail)
  refine RS.loop (σ := Nat) (fun i => i ≤ s.length ∧ i + whileF l (s.drop i) = whileF l s) (fun i => [(0, .str s), (1, .slice 0 0 l.length 1), (5, .int .i64 (i : Int))]) (fun _ => intsH l) (fun i => s.length - i) 0 ⟨Nat.zero_le _, by simp⟩ ⟨[0], ⟨rfl, rfl, rfl, RenO.ro (RenVs.plain (cellsZ_plain _)), True.intro⟩, by (repeat' (first | exact True.intro | refine And.intro ?_ ?_ | exact ⟨_, rfl, RenV.plain rfl⟩ | exact ⟨_, rfl, RenV.slice rfl⟩ | exact ⟨_, rfl, RenV.ptr rfl⟩ | exact ⟨_, rfl, RenV.nilslice⟩))⟩ ?round
  rintro i ⟨hi, hR⟩
  refine ⟨_, rfl, ?_⟩
  dsimp only [intsH]
  by_cases hlt : i < s.length
  · obtain ⟨c, hc0⟩ : ∃ c, s[i]? = some c := ⟨s[i], by rw [List.getElem?_eq_getElem]⟩
    rw [drop_get hc0, whileF] at hR
    repeat' (first
     | refine S0 ?_
     | (refine Se (at150 l _ rfl hl) ?_ ?_) <;> intro hc <;> try (exfalso; first | omega | (simp at hc; done))
     | (refine S2 ?_ ?_) <;> intro hc <;> try (exfalso; first | omega | (simp at hc; done))
     | refine Sf hc0 ?_
     | refine St ?_
     | fail)
    · rw [if_pos hc] at hR
      refine Rnd.n (i + 1) [0] ⟨by omega, by omega⟩ (by omega) ⟨rfl, rfl, rfl, RenO.ro (RenVs.plain (cellsZ_plain _)), True.intro⟩ ?_
      exact ⟨⟨_, rfl, RenV.plain rfl⟩, ⟨_, rfl, RenV.slice rfl⟩, ⟨_, rfl, RenV.eq (by simp) rfl⟩, True.intro⟩
    · rw [if_neg hc] at hR
      have hR : i = whileF l s := hR
      rw [← hR]
      exact ⟨rfl, _, rfl, [0], ⟨rfl, rfl, rfl, RenO.ro (RenVs.plain (cellsZ_plain _)), True.intro⟩, RenV.eq (by simp [afinish]) rfl⟩
  · have hie : i = s.length := by omega
    subst hie
    rw [List.drop_length, whileF] at hR
    have hR : s.length = whileF l s := hR
    rw [← hR]
    repeat' (first
     | refine S0 ?_
     | (refine S2 ?_ ?_) <;> intro hc <;> try (exfalso; first | omega | (simp at hc; done))
     | refine St ?_
     | fail)
    exact ⟨rfl, _, rfl, [0], ⟨rfl, rfl, rfl, RenO.ro (RenVs.plain (cellsZ_plain _)), True.intro⟩, RenV.eq (by simp [afinish]) rfl⟩
theorem at153 (l : List Int) (s : List UInt8) {n : Nat} (hn : l.length = n) (hl : l.length ≤ 1000) (hs : s.length ≤ 1000000) {h : Heap} {i : Nat} (hi : Nat.blt i h.next = true) (ht : tells (h.objs.get i) (cellsZ l)) : CSem Tryz.prog 153 [.str s, .slice i 0 n 1] h (.str (s.take (whileF l s))) h := by
  subst hn
  exact CSem.up (sem153 s l hl hs) [i] [] rfl (by simp only [List.all_cons, hi, List.all_nil, Bool.and_true]) ⟨⟨cellsZ_plain l, ht⟩, True.intro⟩ (RenVs.cons (RenV.plain rfl) (RenVs.cons (RenV.slice rfl) RenVs.nil)) True.intro rfl rfl (RenV.plain rfl)
def commentF (s : List UInt8) (i : Nat) : Nat := if 0 ≤ Lib.indexByte (s.drop i) 10 then i + (Lib.indexByte (s.drop i) 10).toNat else s.length
theorem indexByte_lt (s : List UInt8) (c : UInt8) : Lib.indexByte s c < (s.length : Int) ∨ s = [] := by
  induction s with
  | nil => exact .inr rfl
  | cons b l ih =>
    left
    unfold Lib.indexByte
    split
    · (simp <;> omega)
    · split
      · (simp <;> omega)
      · rcases ih with h | h
        · (simp <;> omega)
        · subst h; rename_i h1 h2; simp [Lib.indexByte] at h2
theorem commentF_le (s : List UInt8) (i : Nat) (hi : i ≤ s.length) : commentF s i ≤ s.length := by
  unfold commentF
  split
  · rename_i h
    rcases indexByte_lt (s.drop i) 10 with h1 | h1
    · rw [List.length_drop] at h1; omega
    · rw [h1] at h; simp [Lib.indexByte] at h
  · exact Nat.le_refl _
set_option maxHeartbeats 2000000 in
theorem sem151 (s : List UInt8) (i : Nat) (hi : i ≤ s.length) (hs : s.length ≤ 1000000) (h : Heap) : CSem Tryz.prog 151 [.str s, .int .i64 (i : Int)] h (.int .i64 (commentF s i : Int)) h := by
  refine CSem.pure ?_ (RenVs.plain rfl) (RenV.plain rfl) h
  refine CSem.into Tryz.func151 rfl (by decide) Tryz.ntmps151 rfl rfl rfl ?_
  dsimp only
  have hx := commentF_le s i hi
  have hd : (s.take s.length).drop i = s.drop i := by rw [List.take_length]
  have hge : -1 ≤ Lib.indexByte ((s.take s.length).drop i) 10 := Lib.indexByte_ge _ _
  have hlt' : Lib.indexByte ((s.take s.length).drop i) 10 ≤ (s.length : Int) := by
    rw [hd]
    rcases indexByte_lt (s.drop i) 10 with h1 | h1
    · rw [List.length_drop] at h1; omega
    · rw [h1]; (simp [Lib.indexByte] <;> omega)
  have hcf : (commentF s i : Int) = if 0 ≤ Lib.indexByte ((s.take s.length).drop i) 10 then (i : Int) + Lib.indexByte ((s.take s.length).drop i) 10 else (s.length : Int) := by
    rw [hd]
    unfold commentF
    split
    · omega
    · rfl
  rw [hcf]
  repeat' (first
   | refine S0 ?_
   | refine Sc (sem202 _ 10 _) ?_
   | (refine S2 ?_ ?_) <;> intro hc <;> try (exfalso; first | omega | (simp at hc; done))
   | refine St ?_
   | fail)
  · rw [if_pos hc]
    exact ⟨rfl, _, rfl, [], ⟨rfl, rfl, rfl, True.intro⟩, RenV.plain rfl⟩
  · rw [if_neg hc]
    exact ⟨rfl, _, rfl, [], ⟨rfl, rfl, rfl, True.intro⟩, RenV.plain rfl⟩
end Go.Am
