/- Part of the proof: WkP, WkQ, WkR. -/
import Derived.Test.YtijdeggmmpfjeaaGreatDoorB1
set_option linter.unusedSimpArgs false
set_option linter.unusedVariables false
set_option linter.unusedSectionVars false
namespace Go.Am
open Go Go.Proofs Go.RowKit Go.Pu
set_option maxRecDepth 100000
theorem OSem.lookupST {P : Program} {ext : FuncId → Bool} (hext : ExtOk P ext) {d : Option Tmp} {ty : TypeId} {pos : String} {af : Array Edge} {gd : Option (Nat × Bool)} {g : Ev} {h : Heap} {t kt et : TypeId} {x y : Operand} {i : Nat} {s : List UInt8} {l : List (List UInt8)} (hx : g x = some (.map i)) (hy : g y = some (.str s)) (ht : P.underlying t = some (.map kt et)) (hk : P.underlying kt = some .string) (hg : h.objs.get i = some (.map (l.map kwP))) (hz : azero P et = some (.bool false)) (hm : s ∈ l) :
    OSem P ⟨d, .lookup t x y false, ty, pos, af, gd⟩ g h (.bool true) h := by
  have := OSem.lookupS (d := d) (ty := ty) (pos := pos) (af := af) (gd := gd) hext hx hy ht hk hg hz
  rwa [decide_eq_true hm] at this
theorem OSem.lookupSF {P : Program} {ext : FuncId → Bool} (hext : ExtOk P ext) {d : Option Tmp} {ty : TypeId} {pos : String} {af : Array Edge} {gd : Option (Nat × Bool)} {g : Ev} {h : Heap} {t kt et : TypeId} {x y : Operand} {i : Nat} {s : List UInt8} {l : List (List UInt8)} (hx : g x = some (.map i)) (hy : g y = some (.str s)) (ht : P.underlying t = some (.map kt et)) (hk : P.underlying kt = some .string) (hg : h.objs.get i = some (.map (l.map kwP))) (hz : azero P et = some (.bool false)) (hm : s ∉ l) :
    OSem P ⟨d, .lookup t x y false, ty, pos, af, gd⟩ g h (.bool false) h := by
  have := OSem.lookupS (d := d) (ty := ty) (pos := pos) (af := af) (gd := gd) hext hx hy ht hk hg hz
  rwa [decide_eq_false hm] at this
theorem atoi_range (s : List UInt8) (v : Int) (h : Lib.atoiAll s = .ok v) : -9223372036854775808 ≤ v ∧ v ≤ 9223372036854775807 := by
  unfold Lib.atoiAll at h
  split at h
  · cases h
  · simp only at h
    split at h
    · cases h
    · cases h
    · rename_i u _
      split at h
      · cases h
      · split at h
        · cases h
        · simp only [Lib.NumEnd.ok.injEq] at h
          subst h
          split <;> omega
theorem at153w (l : List Int) {s w : List UInt8} (hw : s.take (whileF l s) = w) {n : Nat} (hn : l.length = n) (hl : l.length ≤ 1000) (hs : s.length ≤ 1000000) {h : Heap} {i : Nat} (hi : Nat.blt i h.next = true) (ht : tells (h.objs.get i) (cellsZ l)) : CSem Tryz.prog 153 [.str s, .slice i 0 n 1] h (.str w) h := hw ▸ at153 l s hn hl hs hi ht
def tokI (r : List UInt8) : Nat × List UInt8 × Bool :=
  if classK (hd8 r) = 4 then (if r.take (whileF [4, 5] r) ∈ kws then (3, r.take (whileF [4, 5] r), true) else (1, r.take (whileF [4, 5] r), decide ((r.take (whileF [4, 5] r)).length ≤ 12)))
  else if classK (hd8 r) = 5 then (2, r.take (whileF [5] r), isNumI (r.take (whileF [5] r)))
  else (4, bestS r signs [], decide (bestS r signs [] ≠ []))
set_option maxHeartbeats 4000000 in
theorem sem87 (s : List UInt8) (at0 : Nat) (ha : at0 < s.length) (hl : s.length ≤ 1000000) (h : Heap) : CSem Tryz.prog 87 [.str s, .int .i64 (at0 : Int)] h (.tuple [.agg [.int .u8 ((tokI ((s.take s.length).drop at0)).1 : Int), .str (tokI ((s.take s.length).drop at0)).2.1, .int .i64 (at0 : Int)], .bool (tokI ((s.take s.length).drop at0)).2.2]) h := by
  refine CSem.pure ?_ (RenVs.plain rfl) (RenV.tuple (RenVs.cons (RenV.agg (RenVs.plain rfl)) (RenVs.plain rfl))) h
  obtain ⟨c, hc0⟩ : ∃ c, s[at0]? = some c := ⟨s[at0], by rw [List.getElem?_eq_getElem]⟩
  generalize hr : (s.take s.length).drop at0 = r
  have hr0 : r[0]? = some c := by rw [← hr, List.take_length, drop_get hc0]; rfl
  have hrl : r.length ≤ 1000000 := by rw [← hr, List.take_length, List.length_drop]; omega
  have hhd : hd8 r = c.toNat := by
    cases r with
    | nil => cases hr0
    | cons d r => simp only [List.getElem?_cons_zero, Option.some.injEq] at hr0; subst hr0; rfl
  have hsub : abound (some (.int .i64 (at0 : Int))) 0 s.length = some at0 := abound_le rfl (by omega)
  by_cases h4 : classK c.toNat = 4
  · by_cases hk : r.take (whileF [4, 5] r) ∈ kws
    · have e : tokI r = (3, r.take (whileF [4, 5] r), true) := by unfold tokI; rw [hhd, if_pos h4, if_pos hk]
      rw [e]
      refine CSem.into Tryz.func87 rfl (by decide) Tryz.ntmps87 rfl rfl rfl ?_
      dsimp only
      repeat' (first
       | refine S0 ?_
       | ((with_reducible refine' RO.subS exts_ok ?hw ?hx ?hl ?hu ?ht ?hb ?ha ?hp ?_); (case hw => exact rfl); (case hx => exact rfl); (case hl => exact rfl); (case hu => exact rfl); (case ht => exact rfl); (case hb => exact rfl); (case ha => exact hsub); (case hp => rw [hr]; exact rfl))
       | refine Sc (fn152 (u8lt _) _) ?_
       | ((with_reducible refine' RO.fn (f := 153) exts_ok ?hw ?ha ?hf ?hs ?hp ?_); (case hw | ha | hf => exact rfl); (case hs => exact at153 [4, 5] r rfl (by decide) hrl rfl rfl); (case hp => exact rfl))
       | ((with_reducible refine' RQ.fn (f := 153) exts_ok ?hw ?ha ?hf ?hs ?hp ?_); (case hw | ha | hf => exact rfl); (case hs => exact at153 [4, 5] r rfl (by decide) hrl rfl rfl); (case hp => exact rfl))
       | ((with_reducible refine' RD.eff ?hw ?ho ?hp ?_); (case hw => exact rfl); (case ho => exact OSem.fn exts_ok rfl rfl rfl rfl (sem154 rfl)); (case hp => exact rfl))
       | ((with_reducible refine' RS.drawE mixed [none, none, none, none] ?hn ?hms ?hord ?hh ?_); (case hn => exact rfl); (case hms => exact rfl); (case hord => exact rfl); (case hh => exact rfl))
       | ((with_reducible refine' RD.read ?hw ?ho ?hp (fun _ => ?_)); (case hw => exact rfl); (case ho => exact OSem.lookupST exts_ok rfl rfl rfl rfl rfl rfl hk); (case hp => exact rfl))
       | ((with_reducible refine RD.nil ?_); (refine' RDk.intro ?oks ?hl ?_); (case hl => exact rfl); (case oks => (repeat' (first | exact True.intro | refine And.intro ?_ ?_ | exact rfl | exact OSem.load1 exts_ok rfl rfl rfl rfl | exact OSem.loadN exts_ok rfl rfl rfl rfl | exact OSem.lookupST exts_ok rfl rfl rfl rfl rfl rfl hk))))
       | (refine S2 ?_ ?_) <;> intro hc <;> try (exfalso; first | omega | (simp at hc; done))
       | refine Sf hr0 ?_
       | refine St ?_
       | ((with_reducible refine RD.nil ?_); (refine' RDk.intro ?oks ?hl ?_); (case hl => exact rfl); (case oks => (repeat' (first | exact True.intro | refine And.intro ?_ ?_ | exact rfl | exact OSem.load1 exts_ok rfl rfl rfl rfl | exact OSem.loadN exts_ok rfl rfl rfl rfl | exact OSem.load1 exts_ok rfl rfl rfl (cellsN_one hr0 rfl) | exact OSem.load1 exts_ok rfl rfl rfl (cellsN_row hr0) | exact OSem.load1 exts_ok rfl rfl rfl (cellsI_one hr0) | exact OSem.load1 exts_ok rfl rfl rfl (cellsZ_one hr0) | exact OSem.load1 exts_ok rfl rfl rfl (cellsS_one hr0) | exact OSem.loadN exts_ok rfl rfl rfl (cellsN_one hr0 rfl) | exact OSem.loadN exts_ok rfl rfl rfl (cellsN_row hr0) | exact OSem.loadN exts_ok rfl rfl rfl (cellsI_one hr0) | exact OSem.loadN exts_ok rfl rfl rfl (cellsZ_one hr0) | exact OSem.loadN exts_ok rfl rfl rfl (cellsS_one hr0)))))
       | ((with_reducible refine' RD.skip ?hw ?hp ?_); (case hw => exact rfl); (case hp => exact rfl))
       | ((with_reducible refine' RD.mem ?hw ?hk ?hp ?_); (case hw => exact rfl); (case hk => exact rfl); (case hp => exact rfl))
       | ((with_reducible refine' RD.eff ?hw ?ho ?hp ?_); (case hw => exact rfl); (case ho => exact OSem.skip exts_ok rfl); (case hp => exact rfl))
       | ((with_reducible refine' RD.calm ?hw ?ho ?hp ?_); (case hw => exact rfl); (case ho => exact fun H => OSem.val exts_ok rfl); (case hp => exact rfl))
       | ((with_reducible refine' RD.calm ?hw ?ho ?hp ?_); (case hw => exact rfl); (case ho => exact fun H => OSem.idxL exts_ok rfl rfl rfl rfl rfl rfl (by omega)); (case hp => exact rfl))
       | ((with_reducible refine' RD.read ?hw ?ho ?hp (fun _ => ?_)); (case hw => exact rfl); (case ho => (first | exact OSem.load1 exts_ok rfl rfl rfl rfl | exact OSem.loadN exts_ok rfl rfl rfl rfl | exact OSem.load1 exts_ok rfl rfl rfl (cellsN_one hr0 rfl) | exact OSem.load1 exts_ok rfl rfl rfl (cellsN_row hr0) | exact OSem.load1 exts_ok rfl rfl rfl (cellsI_one hr0) | exact OSem.load1 exts_ok rfl rfl rfl (cellsZ_one hr0) | exact OSem.load1 exts_ok rfl rfl rfl (cellsS_one hr0) | exact OSem.loadN exts_ok rfl rfl rfl (cellsN_one hr0 rfl) | exact OSem.loadN exts_ok rfl rfl rfl (cellsN_row hr0) | exact OSem.loadN exts_ok rfl rfl rfl (cellsI_one hr0) | exact OSem.loadN exts_ok rfl rfl rfl (cellsZ_one hr0) | exact OSem.loadN exts_ok rfl rfl rfl (cellsS_one hr0))); (case hp => exact rfl))
       | fail)
      all_goals first
        | (exfalso; omega)
        | exact ⟨rfl, _, rfl, [], ⟨rfl, rfl, rfl, True.intro⟩, RenV.tuple (RenVs.cons (RenV.agg (RenVs.plain rfl)) (RenVs.plain rfl))⟩
    · have e : tokI r = (1, r.take (whileF [4, 5] r), decide ((r.take (whileF [4, 5] r)).length ≤ 12)) := by unfold tokI; rw [hhd, if_pos h4, if_neg hk]
      rw [e]
      refine CSem.into Tryz.func87 rfl (by decide) Tryz.ntmps87 rfl rfl rfl ?_
      dsimp only
      generalize hw : r.take (whileF [4, 5] r) = w at hk ⊢
      repeat' (first
       | refine S0 ?_
       | ((with_reducible refine' RO.subS exts_ok ?hw ?hx ?hl ?hu ?ht ?hb ?ha ?hp ?_); (case hw => exact rfl); (case hx => exact rfl); (case hl => exact rfl); (case hu => exact rfl); (case ht => exact rfl); (case hb => exact rfl); (case ha => exact hsub); (case hp => rw [hr]; exact rfl))
       | refine Sc (fn152 (u8lt _) _) ?_
       | ((with_reducible refine' RO.fn (f := 153) exts_ok ?hw ?ha ?hf ?hs ?hp ?_); (case hw | ha | hf => exact rfl); (case hs => exact at153w [4, 5] hw rfl (by decide) hrl rfl rfl); (case hp => exact rfl))
       | ((with_reducible refine' RQ.fn (f := 153) exts_ok ?hw ?ha ?hf ?hs ?hp ?_); (case hw | ha | hf => exact rfl); (case hs => exact at153w [4, 5] hw rfl (by decide) hrl rfl rfl); (case hp => exact rfl))
       | ((with_reducible refine' RD.eff ?hw ?ho ?hp ?_); (case hw => exact rfl); (case ho => exact OSem.fn exts_ok rfl rfl rfl rfl (sem154 rfl)); (case hp => exact rfl))
       | ((with_reducible refine' RS.drawE mixed [none, none, none, none] ?hn ?hms ?hord ?hh ?_); (case hn => exact rfl); (case hms => exact rfl); (case hord => exact rfl); (case hh => exact rfl))
       | ((with_reducible refine' RD.read ?hw ?ho ?hp (fun _ => ?_)); (case hw => exact rfl); (case ho => exact OSem.lookupSF exts_ok rfl rfl rfl rfl rfl rfl hk); (case hp => exact rfl))
       | ((with_reducible refine RD.nil ?_); (refine' RDk.intro ?oks ?hl ?_); (case hl => exact rfl); (case oks => (repeat' (first | exact True.intro | refine And.intro ?_ ?_ | exact rfl | exact OSem.load1 exts_ok rfl rfl rfl rfl | exact OSem.loadN exts_ok rfl rfl rfl rfl | exact OSem.lookupSF exts_ok rfl rfl rfl rfl rfl rfl hk))))
       | (refine S2 ?_ ?_) <;> intro hc <;> try (exfalso; first | omega | (simp at hc; done))
       | refine Sf hr0 ?_
       | refine St ?_
       | ((with_reducible refine RD.nil ?_); (refine' RDk.intro ?oks ?hl ?_); (case hl => exact rfl); (case oks => (repeat' (first | exact True.intro | refine And.intro ?_ ?_ | exact rfl | exact OSem.load1 exts_ok rfl rfl rfl rfl | exact OSem.loadN exts_ok rfl rfl rfl rfl | exact OSem.load1 exts_ok rfl rfl rfl (cellsN_one hr0 rfl) | exact OSem.load1 exts_ok rfl rfl rfl (cellsN_row hr0) | exact OSem.load1 exts_ok rfl rfl rfl (cellsI_one hr0) | exact OSem.load1 exts_ok rfl rfl rfl (cellsZ_one hr0) | exact OSem.load1 exts_ok rfl rfl rfl (cellsS_one hr0) | exact OSem.loadN exts_ok rfl rfl rfl (cellsN_one hr0 rfl) | exact OSem.loadN exts_ok rfl rfl rfl (cellsN_row hr0) | exact OSem.loadN exts_ok rfl rfl rfl (cellsI_one hr0) | exact OSem.loadN exts_ok rfl rfl rfl (cellsZ_one hr0) | exact OSem.loadN exts_ok rfl rfl rfl (cellsS_one hr0)))))
       | ((with_reducible refine' RD.skip ?hw ?hp ?_); (case hw => exact rfl); (case hp => exact rfl))
       | ((with_reducible refine' RD.mem ?hw ?hk ?hp ?_); (case hw => exact rfl); (case hk => exact rfl); (case hp => exact rfl))
       | ((with_reducible refine' RD.eff ?hw ?ho ?hp ?_); (case hw => exact rfl); (case ho => exact OSem.skip exts_ok rfl); (case hp => exact rfl))
       | ((with_reducible refine' RD.calm ?hw ?ho ?hp ?_); (case hw => exact rfl); (case ho => exact fun H => OSem.val exts_ok rfl); (case hp => exact rfl))
       | ((with_reducible refine' RD.calm ?hw ?ho ?hp ?_); (case hw => exact rfl); (case ho => exact fun H => OSem.idxL exts_ok rfl rfl rfl rfl rfl rfl (by omega)); (case hp => exact rfl))
       | ((with_reducible refine' RD.read ?hw ?ho ?hp (fun _ => ?_)); (case hw => exact rfl); (case ho => (first | exact OSem.load1 exts_ok rfl rfl rfl rfl | exact OSem.loadN exts_ok rfl rfl rfl rfl | exact OSem.load1 exts_ok rfl rfl rfl (cellsN_one hr0 rfl) | exact OSem.load1 exts_ok rfl rfl rfl (cellsN_row hr0) | exact OSem.load1 exts_ok rfl rfl rfl (cellsI_one hr0) | exact OSem.load1 exts_ok rfl rfl rfl (cellsZ_one hr0) | exact OSem.load1 exts_ok rfl rfl rfl (cellsS_one hr0) | exact OSem.loadN exts_ok rfl rfl rfl (cellsN_one hr0 rfl) | exact OSem.loadN exts_ok rfl rfl rfl (cellsN_row hr0) | exact OSem.loadN exts_ok rfl rfl rfl (cellsI_one hr0) | exact OSem.loadN exts_ok rfl rfl rfl (cellsZ_one hr0) | exact OSem.loadN exts_ok rfl rfl rfl (cellsS_one hr0))); (case hp => exact rfl))
       | fail)
      all_goals first
        | (exfalso; omega)
        | (rw [decide_eq_true (by omega)]; exact ⟨rfl, _, rfl, [], ⟨rfl, rfl, rfl, True.intro⟩, RenV.tuple (RenVs.cons (RenV.agg (RenVs.plain rfl)) (RenVs.plain rfl))⟩)
        | (rw [decide_eq_false (by omega)]; exact ⟨rfl, _, rfl, [], ⟨rfl, rfl, rfl, True.intro⟩, RenV.tuple (RenVs.cons (RenV.agg (RenVs.plain rfl)) (RenVs.plain rfl))⟩)
  · by_cases h5 : classK c.toNat = 5
    · have e : tokI r = (2, r.take (whileF [5] r), isNumI (r.take (whileF [5] r))) := by unfold tokI; rw [hhd, if_neg h4, if_pos h5]
      rw [e]
      refine CSem.into Tryz.func87 rfl (by decide) Tryz.ntmps87 rfl rfl rfl ?_
      dsimp only
      have hwl : (r.take (whileF [5] r)).length ≤ 1000000 := by rw [List.length_take]; omega
      repeat' (first
       | refine S0 ?_
       | ((with_reducible refine' RO.subS exts_ok ?hw ?hx ?hl ?hu ?ht ?hb ?ha ?hp ?_); (case hw => exact rfl); (case hx => exact rfl); (case hl => exact rfl); (case hu => exact rfl); (case ht => exact rfl); (case hb => exact rfl); (case ha => exact hsub); (case hp => rw [hr]; exact rfl))
       | refine Sc (fn152 (u8lt _) _) ?_
       | ((with_reducible refine' RO.fn (f := 153) exts_ok ?hw ?ha ?hf ?hs ?hp ?_); (case hw | ha | hf => exact rfl); (case hs => exact at153 [5] r rfl (by decide) hrl rfl rfl); (case hp => exact rfl))
       | ((with_reducible refine' RQ.fn (f := 153) exts_ok ?hw ?ha ?hf ?hs ?hp ?_); (case hw | ha | hf => exact rfl); (case hs => exact at153 [5] r rfl (by decide) hrl rfl rfl); (case hp => exact rfl))
       | ((with_reducible refine' RD.read ?hw ?ho ?hp (fun _ => ?_)); (case hw => exact rfl); (case ho => exact OSem.fn exts_ok rfl rfl rfl rfl (sem155 _ hwl (atoi_range _) _)); (case hp => exact rfl))
       | ((with_reducible refine' RS.drawE mixed [none, none, none, none, none, none] ?hn ?hms ?hord ?hh ?_); (case hn => exact rfl); (case hms => exact rfl); (case hord => exact rfl); (case hh => exact rfl))
       | ((with_reducible refine RD.nil ?_); (refine' RDk.intro ?oks ?hl ?_); (case hl => exact rfl); (case oks => (repeat' (first | exact True.intro | refine And.intro ?_ ?_ | exact rfl | exact OSem.load1 exts_ok rfl rfl rfl rfl | exact OSem.loadN exts_ok rfl rfl rfl rfl | exact OSem.fn exts_ok rfl rfl rfl rfl (sem155 _ hwl (atoi_range _) _)))))
       | (refine S2 ?_ ?_) <;> intro hc <;> try (exfalso; first | omega | (simp at hc; done))
       | refine Sf hr0 ?_
       | refine St ?_
       | ((with_reducible refine RD.nil ?_); (refine' RDk.intro ?oks ?hl ?_); (case hl => exact rfl); (case oks => (repeat' (first | exact True.intro | refine And.intro ?_ ?_ | exact rfl | exact OSem.load1 exts_ok rfl rfl rfl rfl | exact OSem.loadN exts_ok rfl rfl rfl rfl | exact OSem.load1 exts_ok rfl rfl rfl (cellsN_one hr0 rfl) | exact OSem.load1 exts_ok rfl rfl rfl (cellsN_row hr0) | exact OSem.load1 exts_ok rfl rfl rfl (cellsI_one hr0) | exact OSem.load1 exts_ok rfl rfl rfl (cellsZ_one hr0) | exact OSem.load1 exts_ok rfl rfl rfl (cellsS_one hr0) | exact OSem.loadN exts_ok rfl rfl rfl (cellsN_one hr0 rfl) | exact OSem.loadN exts_ok rfl rfl rfl (cellsN_row hr0) | exact OSem.loadN exts_ok rfl rfl rfl (cellsI_one hr0) | exact OSem.loadN exts_ok rfl rfl rfl (cellsZ_one hr0) | exact OSem.loadN exts_ok rfl rfl rfl (cellsS_one hr0)))))
       | ((with_reducible refine' RD.skip ?hw ?hp ?_); (case hw => exact rfl); (case hp => exact rfl))
       | ((with_reducible refine' RD.mem ?hw ?hk ?hp ?_); (case hw => exact rfl); (case hk => exact rfl); (case hp => exact rfl))
       | ((with_reducible refine' RD.eff ?hw ?ho ?hp ?_); (case hw => exact rfl); (case ho => exact OSem.skip exts_ok rfl); (case hp => exact rfl))
       | ((with_reducible refine' RD.calm ?hw ?ho ?hp ?_); (case hw => exact rfl); (case ho => exact fun H => OSem.val exts_ok rfl); (case hp => exact rfl))
       | ((with_reducible refine' RD.calm ?hw ?ho ?hp ?_); (case hw => exact rfl); (case ho => exact fun H => OSem.idxL exts_ok rfl rfl rfl rfl rfl rfl (by omega)); (case hp => exact rfl))
       | ((with_reducible refine' RD.read ?hw ?ho ?hp (fun _ => ?_)); (case hw => exact rfl); (case ho => (first | exact OSem.load1 exts_ok rfl rfl rfl rfl | exact OSem.loadN exts_ok rfl rfl rfl rfl | exact OSem.load1 exts_ok rfl rfl rfl (cellsN_one hr0 rfl) | exact OSem.load1 exts_ok rfl rfl rfl (cellsN_row hr0) | exact OSem.load1 exts_ok rfl rfl rfl (cellsI_one hr0) | exact OSem.load1 exts_ok rfl rfl rfl (cellsZ_one hr0) | exact OSem.load1 exts_ok rfl rfl rfl (cellsS_one hr0) | exact OSem.loadN exts_ok rfl rfl rfl (cellsN_one hr0 rfl) | exact OSem.loadN exts_ok rfl rfl rfl (cellsN_row hr0) | exact OSem.loadN exts_ok rfl rfl rfl (cellsI_one hr0) | exact OSem.loadN exts_ok rfl rfl rfl (cellsZ_one hr0) | exact OSem.loadN exts_ok rfl rfl rfl (cellsS_one hr0))); (case hp => exact rfl))
       | fail)
      all_goals first
        | (exfalso; omega)
        | exact ⟨rfl, _, rfl, [], ⟨rfl, rfl, rfl, True.intro⟩, RenV.tuple (RenVs.cons (RenV.agg (RenVs.plain rfl)) (RenVs.plain rfl))⟩
    · have e : tokI r = (4, bestS r signs [], decide (bestS r signs [] ≠ [])) := by unfold tokI; rw [hhd, if_neg h4, if_neg h5]
      rw [e]
      refine CSem.into Tryz.func87 rfl (by decide) Tryz.ntmps87 rfl rfl rfl ?_
      dsimp only
      repeat' (first
       | refine S0 ?_
       | ((with_reducible refine' RO.subS exts_ok ?hw ?hx ?hl ?hu ?ht ?hb ?ha ?hp ?_); (case hw => exact rfl); (case hx => exact rfl); (case hl => exact rfl); (case hu => exact rfl); (case ht => exact rfl); (case hb => exact rfl); (case ha => exact hsub); (case hp => rw [hr]; exact rfl))
       | refine Sc (fn152 (u8lt _) _) ?_
       | refine Sc (sem156 r _) ?_
       | (refine S2 ?_ ?_) <;> intro hc <;> try (exfalso; first | omega | (simp at hc; done))
       | refine Sf hr0 ?_
       | refine St ?_
       | fail)
      all_goals first
        | (exfalso; omega)
        | (rw [decide_eq_true (by assumption)]; exact ⟨rfl, _, rfl, [], ⟨rfl, rfl, rfl, True.intro⟩, RenV.tuple (RenVs.cons (RenV.agg (RenVs.plain rfl)) (RenVs.plain rfl))⟩)
        | (rw [decide_eq_false (by simpa using hc)]; exact ⟨rfl, _, rfl, [], ⟨rfl, rfl, rfl, True.intro⟩, RenV.tuple (RenVs.cons (RenV.agg (RenVs.plain rfl)) (RenVs.plain rfl))⟩)
end Go.Am
namespace Go.Am
open Go Go.Proofs Go.RowKit Go.Pu
set_option maxRecDepth 100000
theorem at87 (s : List UInt8) (ha : 0 < s.length) (hl : s.length ≤ 1000000) (h : Heap) {k : Nat} {t : List UInt8} {b : Bool} (e : tokI s = (k, t, b)) : CSem Tryz.prog 87 [.str s, .int .i64 0] h (.tuple [.agg [.int .u8 (k : Int), .str t, .int .i64 0], .bool b]) h := by
  have := sem87 s 0 ha hl h
  rw [List.take_length, List.drop_zero, e] at this
  exact this
def kindI (s : List UInt8) : Nat × Int := if s = [] then (0, 4) else if 0 < gapF s (s.length + 1) 0 then (0, 4) else if (tokI s).2.2 = true ∧ (tokI s).2.1 = s then ((tokI s).1, 0) else (0, 4)
set_option maxHeartbeats 4000000 in
theorem sem159 (s : List UInt8) (hl : s.length ≤ 1000000) (h : Heap) : CSem Tryz.prog 159 [.str s] h (.tuple [.int .u8 ((kindI s).1 : Int), .int .i64 (kindI s).2]) h := by
  refine CSem.pure ?_ (RenVs.plain rfl) (RenV.tuple (RenVs.plain rfl)) h
  by_cases hs : s = []
  · subst hs
    refine CSem.into Tryz.func159 rfl (by decide) Tryz.ntmps159 rfl rfl rfl ?_
    dsimp only
    repeat' (first
     | refine S0 ?_
     | (refine S2 ?_ ?_) <;> intro hc <;> try (exfalso; first | omega | (simp at hc; done))
     | refine St ?_
     | fail)
    exact ⟨rfl, _, rfl, [], ⟨rfl, rfl, rfl, True.intro⟩, RenV.tuple (RenVs.plain rfl)⟩
  · have hp : 0 < s.length := by cases s with | nil => exact absurd rfl hs | cons _ _ => simp
    obtain ⟨k, t, b, e⟩ : ∃ k t b, tokI s = (k, t, b) := ⟨_, _, _, rfl⟩
    have e2 : kindI s = if 0 < gapF s (s.length + 1) 0 then (0, 4) else if b = true ∧ t = s then (k, 0) else (0, 4) := by unfold kindI; rw [if_neg hs, e]
    generalize hK : kindI s = K at e2 ⊢
    have e3 : kindI s = K := hK
    clear hK
    refine CSem.into Tryz.func159 rfl (by decide) Tryz.ntmps159 rfl rfl rfl ?_
    dsimp only
    cases b with
    | true =>
      repeat' (first
       | refine S0 ?_
       | refine Sc (sem86 s hl _) ?_
       | refine Sc (at87 s hp hl _ e) ?_
       | (refine S2 ?_ ?_) <;> intro hc <;> try (exfalso; first | omega | (simp at hc; done))
       | refine St ?_
       | fail)
      all_goals first
        | (exfalso; exact hs hc)
        | (rw [if_pos (by omega)] at e2; subst e2; exact ⟨rfl, _, rfl, [], ⟨rfl, rfl, rfl, True.intro⟩, RenV.tuple (RenVs.plain rfl)⟩)
        | (rw [if_neg (by omega), if_neg (fun hx => hc (by simpa using hx.2))] at e2; subst e2; exact ⟨rfl, _, rfl, [], ⟨rfl, rfl, rfl, True.intro⟩, RenV.tuple (RenVs.plain rfl)⟩)
        | (rw [if_neg (by omega), if_pos ⟨rfl, by simpa using hc⟩] at e2; subst e2; exact ⟨rfl, _, rfl, [], ⟨rfl, rfl, rfl, True.intro⟩, RenV.tuple (RenVs.plain rfl)⟩)
    | false =>
      repeat' (first
       | refine S0 ?_
       | refine Sc (sem86 s hl _) ?_
       | refine Sc (at87 s hp hl _ e) ?_
       | (refine S2 ?_ ?_) <;> intro hc <;> try (exfalso; first | omega | (simp at hc; done))
       | refine St ?_
       | fail)
      all_goals first
        | (exfalso; exact hs hc)
        | (rw [if_pos (by omega)] at e2; subst e2; exact ⟨rfl, _, rfl, [], ⟨rfl, rfl, rfl, True.intro⟩, RenV.tuple (RenVs.plain rfl)⟩)
        | (rw [if_neg (by omega), if_neg (fun hx => by cases hx.1)] at e2; subst e2; exact ⟨rfl, _, rfl, [], ⟨rfl, rfl, rfl, True.intro⟩, RenV.tuple (RenVs.plain rfl)⟩)
theorem classK_4 (c : UInt8) : classK c.toNat = 4 ↔ isLet c = true := by
  have := c.toNat_lt
  unfold classK isLet
  simp only [decide_eq_true_eq]
  repeat' split
  all_goals (constructor <;> intro h <;> first | omega | (exfalso; revert h; decide) | rfl)
theorem classK_45 (c : UInt8) : classK c.toNat ∈ [4, 5] ↔ (isDig c || (true && isLet c)) = true := by
  have := c.toNat_lt
  simp only [List.mem_cons, List.not_mem_nil, or_false, Bool.true_and, Bool.or_eq_true]
  unfold classK isLet isDig
  simp only [decide_eq_true_eq]
  repeat' split
  all_goals (constructor <;> intro h <;> omega)
theorem classK_123 (c : UInt8) : classK c.toNat ∈ [1, 2, 3] ↔ c.toNat = 32 ∨ c.toNat = 10 ∨ c.toNat = 37 := by
  have := c.toNat_lt
  simp only [List.mem_cons, List.not_mem_nil, or_false]
  unfold classK
  repeat' split
  all_goals (constructor <;> intro h <;> omega)
theorem whileF_runF : ∀ s : List UInt8, whileF [4, 5] s = runF true s
  | [] => rfl
  | c :: s => by
    unfold whileF runF
    rw [whileF_runF s]
    by_cases h : classK c.toNat ∈ [4, 5]
    · rw [if_pos h, if_pos ((classK_45 c).1 h)]
    · rw [if_neg h, if_neg (fun h' => h ((classK_45 c).2 h'))]
theorem gapF_pos (c : UInt8) (s : List UInt8) : 0 < gapF (c :: s) ((c :: s).length + 1) 0 ↔ classK c.toNat ∈ [1, 2, 3] := by
  rw [gapF]
  simp only [List.getElem?_cons_zero]
  by_cases h : classK c.toNat ∈ [1, 2, 3]
  · rw [if_pos h]
    refine ⟨fun _ => h, fun _ => ?_⟩
    by_cases h3 : classK c.toNat ∈ [3]
    · rw [if_pos h3]
      have := commentF_gt (s := c :: s) (i := 0) (c := c) rfl h3
      have := gapF_ge (c :: s) (c :: s).length (commentF (c :: s) 0)
      omega
    · rw [if_neg h3]
      have := gapF_ge (c :: s) (c :: s).length (0 + 1)
      omega
  · rw [if_neg h]
    exact ⟨fun hx => absurd hx (Nat.lt_irrefl _), fun hx => absurd hx h⟩
theorem kindI_nm (s : List UInt8) : decide ((kindI s).2 = 0 ∧ (kindI s).1 = 1) = isNm s := by
  unfold isNm
  rw [Bool.eq_iff_iff, decide_eq_true_iff, decide_eq_true_iff]
  cases s with
  | nil => simp [kindI, kindR]
  | cons c s =>
    have hne : (c :: s) ≠ [] := by simp
    have hd : hd8 (c :: s) = c.toNat := rfl
    unfold kindI kindR
    have hg := (gapF_pos c s).trans (classK_123 c)
    rw [if_neg hne, if_neg hne, hd]
    by_cases h1 : c.toNat = 32
    · rw [if_pos (hg.2 (.inl h1)), if_pos h1]; simp
    by_cases h2 : c.toNat = 10
    · rw [if_pos (hg.2 (.inr (.inl h2))), if_neg h1, if_pos h2]; simp
    by_cases h3 : c.toNat = 37
    · rw [if_pos (hg.2 (.inr (.inr h3))), if_neg h1, if_neg h2, if_pos h3]; simp
    rw [if_neg (fun h => by have := hg.1 h; omega), if_neg h1, if_neg h2, if_neg h3]
    unfold tokI tokR
    rw [hd, whileF_runF]
    have hh : (c :: s).head?.getD 0 = c := rfl
    rw [hh]
    by_cases h4 : classK c.toNat = 4
    · rw [if_pos h4, if_pos ((classK_4 c).1 h4)]
      generalize (c :: s).take (runF true (c :: s)) = w
      by_cases hk : w ∈ kws
      · rw [if_pos hk, if_pos hk]
        simp only [true_and]
        by_cases hw : w = c :: s
        · simp [hw]
        · simp [hw]
      · rw [if_neg hk, if_neg hk]
        by_cases h12 : w.length ≤ 12
        · rw [if_pos h12]
          by_cases hw : w = c :: s
          · subst hw
            rw [if_pos ⟨decide_eq_true h12, rfl⟩, if_neg (by simp), if_pos rfl]
            exact ⟨fun _ => rfl, fun _ => ⟨rfl, rfl⟩⟩
          · simp [hw]
        · rw [if_neg h12]
          simp [h12]
    · rw [if_neg h4, if_neg (fun h' => h4 ((classK_4 c).2 h'))]
      constructor
      · intro h
        exfalso
        split at h
        · split at h
          · exact absurd h.2 (by simp)
          · exact absurd h.1 (by simp)
        · split at h
          · exact absurd h.2 (by simp)
          · exact absurd h.1 (by simp)
      · intro h
        exfalso
        revert h
        repeat' split
        all_goals simp
set_option maxHeartbeats 4000000 in
theorem sem104 (s : List UInt8) (hl : s.length ≤ 1000000) (h : Heap) : CSem Tryz.prog 104 [.str s] h (.bool (isNm s)) h := by
  refine CSem.pure ?_ (RenVs.plain rfl) (RenV.plain rfl) h
  have e2 := kindI_nm s
  obtain ⟨k, z, e⟩ : ∃ k z, kindI s = (k, z) := ⟨_, _, rfl⟩
  have hc159 := sem159 s hl
  rw [e] at hc159 e2
  dsimp only at hc159 e2
  generalize isNm s = R at e2 ⊢
  refine CSem.into Tryz.func104 rfl (by decide) Tryz.ntmps104 rfl rfl rfl ?_
  dsimp only
  repeat' (first
   | refine S0 ?_
   | refine Sc (hc159 _) ?_
   | (refine S2 ?_ ?_) <;> intro hc <;> try (exfalso; first | omega | (simp at hc; done))
   | refine St ?_
   | fail)
  all_goals first
    | (rw [decide_eq_true ⟨by assumption, by omega⟩] at e2; subst e2; exact ⟨rfl, _, rfl, [], ⟨rfl, rfl, rfl, True.intro⟩, RenV.plain rfl⟩)
    | (rw [decide_eq_false (fun hx => by omega)] at e2; subst e2; exact ⟨rfl, _, rfl, [], ⟨rfl, rfl, rfl, True.intro⟩, RenV.plain rfl⟩)
end Go.Am
namespace Go.Am
open Go Go.Proofs Go.RowKit Go.Pu
set_option maxRecDepth 100000
def ruleV (r : Rule) : AV := .agg [.str r.before, .str r.many, .int .i64 r.least, .int .i64 r.most, .str r.behind, .bool r.named]
def ruleZ : Rule := ⟨[], [], 0, 0, [], false⟩
def ruleR (k : Nat) : Rule := if letK k = 32 then ruleZ else (ruleS k).map
def ruleKeys : List Nat := [1, 2, 3, 4, 5, 6, 8, 9, 10, 7, 16, 17, 18, 21, 22, 23, 24, 25, 26, 27, 28, 29, 30, 31, 42, 43, 44, 45, 46, 61, 63, 64, 65, 66, 51, 52, 53, 54, 55, 56, 57, 58, 59, 60]
def ruleE : List (AV × AV) := ruleKeys.map fun (k : Nat) => (.int .u8 (k : Int), ruleV (ruleR k))
theorem ev_rules : isMapE (acall Tryz.prog exts noO 100 101 [] ⟨.leaf, 0⟩) ruleE = true := by decide +kernel
def plainA : AV → Bool
  | .agg l => plains l
  | v => plain1 v
def plainAs : List AV → Bool
  | [] => true
  | v :: l => plainA v && plainAs l
theorem plainA_conc {M M' : Map} {v : AV} (h : plainA v = true) : conc M v = conc M' v := by
  cases v with
  | agg l => unfold plainA at h; simp only [conc, plains_concs (M := M) (M' := M') h]
  | _ => exact plain1_conc (by simpa [plainA] using h) M M'
theorem plainAs_concs {M M' : Map} : ∀ {l : List AV}, plainAs l = true → concs M l = concs M' l
  | [], _ => rfl
  | v :: l, hp => by
    simp only [plainAs, Bool.and_eq_true] at hp
    simp only [concs, plainA_conc (M := M) (M' := M') hp.1, plainAs_concs (M' := M') hp.2]
theorem sem101 {h h' : Heap} {j : Nat} (hadd : h.add (.map ruleE) = some (j, h')) : CSem Tryz.prog 101 [] h (.map j) h' := by
  obtain ⟨i, h1, e1, e2⟩ := isMapE_eq ev_rules
  exact CSem.newMap (acall_ok 100) e1 e2 (fun _ _ => plains_concs (by decide +kernel)) (fun _ _ => plainAs_concs (by decide +kernel)) hadd
def ruleFind (k : Nat) : Bool := match afind (.int .u8) (.int .u8 (k : Int)) ruleE 0 with
  | some (some (_, v)) => veq v (ruleV (ruleR k))
  | some none => veq (ruleV ruleZ) (ruleV (ruleR k))
  | none => false
theorem ruleFind_all : (List.range 256).all ruleFind = true := by decide +kernel
theorem OSem.lookupR {P : Program} {ext : FuncId → Bool} (hext : ExtOk P ext) {d : Option Tmp} {ty : TypeId} {pos : String} {af : Array Edge} {gd : Option (Nat × Bool)} {g : Ev} {h : Heap} {t kt et : TypeId} {x y : Operand} {i k : Nat} (hx : g x = some (.map i)) (hy : g y = some (.int .u8 (k : Int))) (ht : P.underlying t = some (.map kt et)) (hk : P.underlying kt = some (.int .u8)) (hg : h.objs.get i = some (.map ruleE)) (hz : azero P et = some (ruleV ruleZ)) (hlt : k < 256) :
    OSem P ⟨d, .lookup t x y false, ty, pos, af, gd⟩ g h (ruleV (ruleR k)) h := by
  refine OSem.val hext ?_
  have hf := ball 256 ruleFind_all k hlt
  unfold ruleFind at hf
  have h0 : alookup P h t (.map i) (.int .u8 (k : Int)) false = some (ruleV (ruleR k)) := by
    split at hf
    · rename_i j v he
      have := veq_eq hf
      subst this
      simp [alookup, ht, hk, hg, he, keyKind]
    · rename_i he
      have := veq_eq hf
      simp [alookup, ht, hk, hg, he, keyKind, hz, this]
    · cases hf
  simp only [aop, b1, hx, hy, h0, aval]
end Go.Am
