/- Part of the proof: WnE, WnF. -/
import Derived.Test.YtijdeggmmpfjeaaGreatDoorD3
set_option linter.unusedSimpArgs false
set_option linter.unusedVariables false
set_option linter.unusedSectionVars false
namespace Go.Am
open Go Go.Proofs Go.RowKit Go.Pu
set_option maxRecDepth 1000000
set_option maxHeartbeats 8000000 in
theorem sem12en (ns ms : List Nd) (ia : NdIn ns) (ib : NdIn ms) (u v : AV) (tu : TF 0 ns u) (tv : TF 1 ms v) (ea : ns = []) (hnb : ms.length ≠ 0) (ha : thinB ns = true) (hb : thinB ms = true) : CSem Tryz.prog 12 [.agg [u], .agg [v]] (twoH ns ms) (.bool true) (twoH ns ms) := by
  have hA : ∀ {h : Heap}, Nat.blt 0 h.next = true → tells (h.objs.get 0) (cellsN ns) → CSem Tryz.prog 24 [.agg [u]] h (.bool true) h := fun hi ht => ha ▸ tf24 tu hi ht
  have hB : ∀ {h : Heap}, Nat.blt 1 h.next = true → tells (h.objs.get 1) (cellsN ms) → CSem Tryz.prog 24 [.agg [v]] h (.bool true) h := fun hi ht => hb ▸ tf24 tv hi ht
  have oa := thin_ok ia ha
  have ob := thin_ok ib hb
  have hla := oa.len
  have hlb := ob.len
  have ka : ∀ {h : Heap}, tells (h.objs.get 0) (cellsN ns) → CSem Tryz.prog 25 [.agg [u]] h (.agg [.nilslice]) h := by subst ea; exact fun ht => tf25 tu ht
  have kb : ∀ {h h2 : Heap} {j : Nat}, Nat.blt 1 h.next = true → tells (h.objs.get 1) (cellsN ms) → h.add (.cells 50 5 (cellsN ms) false) = some (j, h2) → CSem Tryz.prog 25 [.agg [v]] h (.agg [.slice j 0 ms.length 5]) h2 := by
    cases tv with
    | nil e => exact absurd (by rw [e]; rfl) hnb
    | sl => exact fun hi ht hadd => at25 hnb hlb hi ht hadd
  have c1 := fun u v => sem43 ns ms oa ob u v
  have c2 : ∀ {h : Heap}, Nat.blt 0 h.next = true → tells (h.objs.get 0) (cellsN ns) → Nat.blt 1 h.next = true → tells (h.objs.get 1) (cellsN ms) → CSem Tryz.prog 44 [.agg [u], .agg [v]] h (.tuple [.bool (sameB ns ms), .int .i64 (sameE ns ms)]) h := fun hi ht hj htj => upTF (fun u v => sem44 ns ms oa ob u v) (RenV.tuple (RenVs.plain rfl)) tu tv hi ht hj htj
  have c4 : ∀ {h : Heap}, Nat.blt 0 h.next = true → tells (h.objs.get 0) (cellsN ns) → CSem Tryz.prog 27 [.agg [u]] h (.int .i64 (checkR ns)) h := fun hi ht => tf27 oa tu hi ht
  by_cases h0 : checkR ns = 0
  · have c3 : ∀ u v, TF 0 ns u → TF 1 ns v → CSem Tryz.prog 43 [.agg [u], .agg [v]] (twoH ns ns) (.tuple [.bool true, .int .i64 (checkR ns)]) (twoH ns ns) := fun u v t s => by
      have := sem43 ns ns oa oa u v t s
      rw [(sameB_self h0).1, (sameB_self h0).2] at this
      rw [h0]; exact this
    refine CSem.into Tryz.func12 rfl (by decide) Tryz.ntmps12 rfl rfl rfl ?_
    dsimp only [twoH]
    repeat' (first
     | with_reducible refine RS.seq ?_
     | with_reducible refine RS.goL ?_
     | with_reducible refine RO.nil ?_
     | with_reducible refine ThenS.n ?_
     | with_reducible refine RS.skip ?_
     | with_reducible refine RS.ret ?_
     | ((with_reducible refine RS.condF ?hb ?_); (case hb => exact rfl))
     | ((with_reducible refine' RO.fn (f := 24) exts_ok ?hw ?ha ?hf ?hs ?hp ?_); (case hw | ha | hf => exact rfl); (case hs => exact hA rfl rfl); (case hp => exact rfl))
     | ((with_reducible refine' RO.fn (f := 24) exts_ok ?hw ?ha ?hf ?hs ?hp ?_); (case hw | ha | hf => exact rfl); (case hs => exact hB rfl rfl); (case hp => exact rfl))
     | ((with_reducible refine' RS.drawE mixed [none, none, none, none, none, none, none, none, none, none] ?hn ?hms ?hord ?hh ?_); (case hn | hms | hord | hh => exact rfl))
     | ((with_reducible refine' RD.opFnE exts_ok 25 ?hLL ?hw ?ha ?hf ?hs ?hp ?_); (case hLL | hw | ha | hf => exact rfl); (case hs => first | exact ka rfl | exact kb rfl rfl rfl); (case hp => exact rfl))
     | ((with_reducible refine' RD.opFnE exts_ok 43 ?hLL ?hw ?ha ?hf ?hs ?hp ?_); (case hLL | hw | ha | hf => exact rfl); (case hs => first | exact upTF (i := 0) (c1) (RenV.tuple (RenVs.plain rfl)) (TF.nil ea) (TF.sl) rfl rfl rfl rfl | exact upTF (i := 0) (j := 0) (c3) (RenV.tuple (RenVs.plain rfl)) (TF.nil ea) (TF.nil ea) rfl rfl rfl rfl); (case hp => exact rfl))
     | ((with_reducible refine' RO.fn (f := 44) exts_ok ?hw ?ha ?hf ?hs ?hp ?_); (case hw | ha | hf => exact rfl); (case hs => exact c2 rfl rfl rfl rfl); (case hp => exact rfl))
     | ((with_reducible refine' RO.fn (f := 27) exts_ok ?hw ?ha ?hf ?hs ?hp ?_); (case hw | ha | hf => exact rfl); (case hs => exact c4 rfl rfl); (case hp => exact rfl))
     | ((with_reducible refine' RO.step ?hw ?ho ?hp ?_); (case hw => exact rfl); (case ho => exact OSem.eqbb exts_ok rfl rfl); (case hp => exact rfl))
     | ((with_reducible refine' RO.fn (f := 20) exts_ok ?hw ?ha ?hf ?hs ?hp ?_); (case hw | ha | hf => exact rfl); (case hs => exact sem20 _); (case hp => exact rfl))
     | (((with_reducible refine' RO.eqi exts_ok ?hw ?hx ?hy ?hk ?hT ?hF (fun hc => ?_) (fun hc => ?_)); (case hw | hx | hy | hk | hT | hF => exact rfl)) <;> try (exfalso; first | omega | (simp at hc; done)))
     | ((with_reducible refine' RO.ldN exts_ok ?hw ?hx ?hu ?hD ?hv ?hp ?_); (case hw | hx | hu | hD => exact rfl); (case hv => exact rfl); (case hp => exact rfl))
     | ((with_reducible refine' RO.step ?hw ?ho ?hp ?_); (case hw => exact rfl); (case ho => exact OSem.val exts_ok rfl); (case hp => exact rfl))
     | ((with_reducible refine RD.nil ?_); (refine' RDk.intro ?oks ?hl ?_); (case hl => exact rfl); (case oks => (repeat' (first | exact True.intro | refine And.intro ?_ ?_ | exact rfl | exact OSem.loadN exts_ok rfl rfl rfl rfl))))
     | ((with_reducible refine' RD.calm ?hw ?ho ?hp ?_); (case hw => exact rfl); (case ho => exact fun H => OSem.val exts_ok rfl); (case hp => exact rfl))
     | ((with_reducible refine' RD.read ?hw ?ho ?hp (fun _ => ?_)); (case hw => exact rfl); (case ho => exact OSem.loadN exts_ok rfl rfl rfl rfl); (case hp => exact rfl))
     | fail)
    all_goals first
      | (exfalso; omega)
      | exact ⟨rfl, _, rfl, [0, 1], ⟨rfl, rfl, rfl, RenO.ro (RenVs.plain (cellsN_plain _)), RenO.ro (RenVs.plain (cellsN_plain _)), True.intro⟩, RenV.plain rfl⟩
  · have c3 : ∀ u v, TF 0 ns u → TF 1 ns v → CSem Tryz.prog 43 [.agg [u], .agg [v]] (twoH ns ns) (.tuple [.bool false, .int .i64 (checkR ns)]) (twoH ns ns) := fun u v t s => by
      have := sem43 ns ns oa oa u v t s
      rw [(sameB_l h0).1, (sameB_l h0).2] at this
      exact this
    refine CSem.into Tryz.func12 rfl (by decide) Tryz.ntmps12 rfl rfl rfl ?_
    dsimp only [twoH]
    repeat' (first
     | with_reducible refine RS.seq ?_
     | with_reducible refine RS.goL ?_
     | with_reducible refine RO.nil ?_
     | with_reducible refine ThenS.n ?_
     | with_reducible refine RS.skip ?_
     | with_reducible refine RS.ret ?_
     | ((with_reducible refine RS.condF ?hb ?_); (case hb => exact rfl))
     | ((with_reducible refine' RO.fn (f := 24) exts_ok ?hw ?ha ?hf ?hs ?hp ?_); (case hw | ha | hf => exact rfl); (case hs => exact hA rfl rfl); (case hp => exact rfl))
     | ((with_reducible refine' RO.fn (f := 24) exts_ok ?hw ?ha ?hf ?hs ?hp ?_); (case hw | ha | hf => exact rfl); (case hs => exact hB rfl rfl); (case hp => exact rfl))
     | ((with_reducible refine' RS.drawE mixed [none, none, none, none, none, none, none, none, none, none] ?hn ?hms ?hord ?hh ?_); (case hn | hms | hord | hh => exact rfl))
     | ((with_reducible refine' RD.opFnE exts_ok 25 ?hLL ?hw ?ha ?hf ?hs ?hp ?_); (case hLL | hw | ha | hf => exact rfl); (case hs => first | exact ka rfl | exact kb rfl rfl rfl); (case hp => exact rfl))
     | ((with_reducible refine' RD.opFnE exts_ok 43 ?hLL ?hw ?ha ?hf ?hs ?hp ?_); (case hLL | hw | ha | hf => exact rfl); (case hs => first | exact upTF (i := 0) (c1) (RenV.tuple (RenVs.plain rfl)) (TF.nil ea) (TF.sl) rfl rfl rfl rfl | exact upTF (i := 0) (j := 0) (c3) (RenV.tuple (RenVs.plain rfl)) (TF.nil ea) (TF.nil ea) rfl rfl rfl rfl); (case hp => exact rfl))
     | ((with_reducible refine' RO.fn (f := 44) exts_ok ?hw ?ha ?hf ?hs ?hp ?_); (case hw | ha | hf => exact rfl); (case hs => exact c2 rfl rfl rfl rfl); (case hp => exact rfl))
     | ((with_reducible refine' RO.fn (f := 27) exts_ok ?hw ?ha ?hf ?hs ?hp ?_); (case hw | ha | hf => exact rfl); (case hs => exact c4 rfl rfl); (case hp => exact rfl))
     | ((with_reducible refine' RO.step ?hw ?ho ?hp ?_); (case hw => exact rfl); (case ho => exact OSem.eqbb exts_ok rfl rfl); (case hp => exact rfl))
     | ((with_reducible refine' RO.fn (f := 20) exts_ok ?hw ?ha ?hf ?hs ?hp ?_); (case hw | ha | hf => exact rfl); (case hs => exact sem20 _); (case hp => exact rfl))
     | (((with_reducible refine' RO.eqi exts_ok ?hw ?hx ?hy ?hk ?hT ?hF (fun hc => ?_) (fun hc => ?_)); (case hw | hx | hy | hk | hT | hF => exact rfl)) <;> try (exfalso; first | omega | (simp at hc; done)))
     | ((with_reducible refine' RO.ldN exts_ok ?hw ?hx ?hu ?hD ?hv ?hp ?_); (case hw | hx | hu | hD => exact rfl); (case hv => exact rfl); (case hp => exact rfl))
     | ((with_reducible refine' RO.step ?hw ?ho ?hp ?_); (case hw => exact rfl); (case ho => exact OSem.val exts_ok rfl); (case hp => exact rfl))
     | ((with_reducible refine RD.nil ?_); (refine' RDk.intro ?oks ?hl ?_); (case hl => exact rfl); (case oks => (repeat' (first | exact True.intro | refine And.intro ?_ ?_ | exact rfl | exact OSem.loadN exts_ok rfl rfl rfl rfl))))
     | ((with_reducible refine' RD.calm ?hw ?ho ?hp ?_); (case hw => exact rfl); (case ho => exact fun H => OSem.val exts_ok rfl); (case hp => exact rfl))
     | ((with_reducible refine' RD.read ?hw ?ho ?hp (fun _ => ?_)); (case hw => exact rfl); (case ho => exact OSem.loadN exts_ok rfl rfl rfl rfl); (case hp => exact rfl))
     | fail)
    all_goals first
      | (exfalso; omega)
      | exact ⟨rfl, _, rfl, [0, 1], ⟨rfl, rfl, rfl, RenO.ro (RenVs.plain (cellsN_plain _)), RenO.ro (RenVs.plain (cellsN_plain _)), True.intro⟩, RenV.plain rfl⟩
set_option maxHeartbeats 8000000 in
theorem sem12ne (ns ms : List Nd) (ia : NdIn ns) (ib : NdIn ms) (u v : AV) (tu : TF 0 ns u) (tv : TF 1 ms v) (hna : ns.length ≠ 0) (eb : ms = []) (ha : thinB ns = true) (hb : thinB ms = true) : CSem Tryz.prog 12 [.agg [u], .agg [v]] (twoH ns ms) (.bool true) (twoH ns ms) := by
  have hA : ∀ {h : Heap}, Nat.blt 0 h.next = true → tells (h.objs.get 0) (cellsN ns) → CSem Tryz.prog 24 [.agg [u]] h (.bool true) h := fun hi ht => ha ▸ tf24 tu hi ht
  have hB : ∀ {h : Heap}, Nat.blt 1 h.next = true → tells (h.objs.get 1) (cellsN ms) → CSem Tryz.prog 24 [.agg [v]] h (.bool true) h := fun hi ht => hb ▸ tf24 tv hi ht
  have oa := thin_ok ia ha
  have ob := thin_ok ib hb
  have hla := oa.len
  have hlb := ob.len
  have ka : ∀ {h h2 : Heap} {j : Nat}, Nat.blt 0 h.next = true → tells (h.objs.get 0) (cellsN ns) → h.add (.cells 50 5 (cellsN ns) false) = some (j, h2) → CSem Tryz.prog 25 [.agg [u]] h (.agg [.slice j 0 ns.length 5]) h2 := by
    cases tu with
    | nil e => exact absurd (by rw [e]; rfl) hna
    | sl => exact fun hi ht hadd => at25 hna hla hi ht hadd
  have kb : ∀ {h : Heap}, tells (h.objs.get 1) (cellsN ms) → CSem Tryz.prog 25 [.agg [v]] h (.agg [.nilslice]) h := by subst eb; exact fun ht => tf25 tv ht
  have c1 := fun u v => sem43 ns ms oa ob u v
  have c2 : ∀ {h : Heap}, Nat.blt 0 h.next = true → tells (h.objs.get 0) (cellsN ns) → Nat.blt 1 h.next = true → tells (h.objs.get 1) (cellsN ms) → CSem Tryz.prog 44 [.agg [u], .agg [v]] h (.tuple [.bool (sameB ns ms), .int .i64 (sameE ns ms)]) h := fun hi ht hj htj => upTF (fun u v => sem44 ns ms oa ob u v) (RenV.tuple (RenVs.plain rfl)) tu tv hi ht hj htj
  have c4 : ∀ {h : Heap}, Nat.blt 0 h.next = true → tells (h.objs.get 0) (cellsN ns) → CSem Tryz.prog 27 [.agg [u]] h (.int .i64 (checkR ns)) h := fun hi ht => tf27 oa tu hi ht
  by_cases h0 : checkR ns = 0
  · have c3 : ∀ u v, TF 0 ns u → TF 1 ns v → CSem Tryz.prog 43 [.agg [u], .agg [v]] (twoH ns ns) (.tuple [.bool true, .int .i64 (checkR ns)]) (twoH ns ns) := fun u v t s => by
      have := sem43 ns ns oa oa u v t s
      rw [(sameB_self h0).1, (sameB_self h0).2] at this
      rw [h0]; exact this
    refine CSem.into Tryz.func12 rfl (by decide) Tryz.ntmps12 rfl rfl rfl ?_
    dsimp only [twoH]
    repeat' (first
     | with_reducible refine RS.seq ?_
     | with_reducible refine RS.goL ?_
     | with_reducible refine RO.nil ?_
     | with_reducible refine ThenS.n ?_
     | with_reducible refine RS.skip ?_
     | with_reducible refine RS.ret ?_
     | ((with_reducible refine RS.condF ?hb ?_); (case hb => exact rfl))
     | ((with_reducible refine' RO.fn (f := 24) exts_ok ?hw ?ha ?hf ?hs ?hp ?_); (case hw | ha | hf => exact rfl); (case hs => exact hA rfl rfl); (case hp => exact rfl))
     | ((with_reducible refine' RO.fn (f := 24) exts_ok ?hw ?ha ?hf ?hs ?hp ?_); (case hw | ha | hf => exact rfl); (case hs => exact hB rfl rfl); (case hp => exact rfl))
     | ((with_reducible refine' RS.drawE mixed [none, none, none, none, none, none, none, none, none, none] ?hn ?hms ?hord ?hh ?_); (case hn | hms | hord | hh => exact rfl))
     | ((with_reducible refine' RD.opFnE exts_ok 25 ?hLL ?hw ?ha ?hf ?hs ?hp ?_); (case hLL | hw | ha | hf => exact rfl); (case hs => first | exact ka rfl rfl rfl | exact kb rfl); (case hp => exact rfl))
     | ((with_reducible refine' RD.opFnE exts_ok 43 ?hLL ?hw ?ha ?hf ?hs ?hp ?_); (case hLL | hw | ha | hf => exact rfl); (case hs => first | exact upTF (j := 1) (c1) (RenV.tuple (RenVs.plain rfl)) (TF.sl) (TF.nil eb) rfl rfl rfl rfl | exact upTF (c3) (RenV.tuple (RenVs.plain rfl)) (TF.sl) (TF.sl) rfl rfl rfl rfl); (case hp => exact rfl))
     | ((with_reducible refine' RO.fn (f := 44) exts_ok ?hw ?ha ?hf ?hs ?hp ?_); (case hw | ha | hf => exact rfl); (case hs => exact c2 rfl rfl rfl rfl); (case hp => exact rfl))
     | ((with_reducible refine' RO.fn (f := 27) exts_ok ?hw ?ha ?hf ?hs ?hp ?_); (case hw | ha | hf => exact rfl); (case hs => exact c4 rfl rfl); (case hp => exact rfl))
     | ((with_reducible refine' RO.step ?hw ?ho ?hp ?_); (case hw => exact rfl); (case ho => exact OSem.eqbb exts_ok rfl rfl); (case hp => exact rfl))
     | ((with_reducible refine' RO.fn (f := 20) exts_ok ?hw ?ha ?hf ?hs ?hp ?_); (case hw | ha | hf => exact rfl); (case hs => exact sem20 _); (case hp => exact rfl))
     | (((with_reducible refine' RO.eqi exts_ok ?hw ?hx ?hy ?hk ?hT ?hF (fun hc => ?_) (fun hc => ?_)); (case hw | hx | hy | hk | hT | hF => exact rfl)) <;> try (exfalso; first | omega | (simp at hc; done)))
     | ((with_reducible refine' RO.ldN exts_ok ?hw ?hx ?hu ?hD ?hv ?hp ?_); (case hw | hx | hu | hD => exact rfl); (case hv => exact rfl); (case hp => exact rfl))
     | ((with_reducible refine' RO.step ?hw ?ho ?hp ?_); (case hw => exact rfl); (case ho => exact OSem.val exts_ok rfl); (case hp => exact rfl))
     | ((with_reducible refine RD.nil ?_); (refine' RDk.intro ?oks ?hl ?_); (case hl => exact rfl); (case oks => (repeat' (first | exact True.intro | refine And.intro ?_ ?_ | exact rfl | exact OSem.loadN exts_ok rfl rfl rfl rfl))))
     | ((with_reducible refine' RD.calm ?hw ?ho ?hp ?_); (case hw => exact rfl); (case ho => exact fun H => OSem.val exts_ok rfl); (case hp => exact rfl))
     | ((with_reducible refine' RD.read ?hw ?ho ?hp (fun _ => ?_)); (case hw => exact rfl); (case ho => exact OSem.loadN exts_ok rfl rfl rfl rfl); (case hp => exact rfl))
     | fail)
    all_goals first
      | (exfalso; omega)
      | exact ⟨rfl, _, rfl, [0, 1], ⟨rfl, rfl, rfl, RenO.ro (RenVs.plain (cellsN_plain _)), RenO.ro (RenVs.plain (cellsN_plain _)), True.intro⟩, RenV.plain rfl⟩
  · have c3 : ∀ u v, TF 0 ns u → TF 1 ns v → CSem Tryz.prog 43 [.agg [u], .agg [v]] (twoH ns ns) (.tuple [.bool false, .int .i64 (checkR ns)]) (twoH ns ns) := fun u v t s => by
      have := sem43 ns ns oa oa u v t s
      rw [(sameB_l h0).1, (sameB_l h0).2] at this
      exact this
    refine CSem.into Tryz.func12 rfl (by decide) Tryz.ntmps12 rfl rfl rfl ?_
    dsimp only [twoH]
    repeat' (first
     | with_reducible refine RS.seq ?_
     | with_reducible refine RS.goL ?_
     | with_reducible refine RO.nil ?_
     | with_reducible refine ThenS.n ?_
     | with_reducible refine RS.skip ?_
     | with_reducible refine RS.ret ?_
     | ((with_reducible refine RS.condF ?hb ?_); (case hb => exact rfl))
     | ((with_reducible refine' RO.fn (f := 24) exts_ok ?hw ?ha ?hf ?hs ?hp ?_); (case hw | ha | hf => exact rfl); (case hs => exact hA rfl rfl); (case hp => exact rfl))
     | ((with_reducible refine' RO.fn (f := 24) exts_ok ?hw ?ha ?hf ?hs ?hp ?_); (case hw | ha | hf => exact rfl); (case hs => exact hB rfl rfl); (case hp => exact rfl))
     | ((with_reducible refine' RS.drawE mixed [none, none, none, none, none, none, none, none, none, none] ?hn ?hms ?hord ?hh ?_); (case hn | hms | hord | hh => exact rfl))
     | ((with_reducible refine' RD.opFnE exts_ok 25 ?hLL ?hw ?ha ?hf ?hs ?hp ?_); (case hLL | hw | ha | hf => exact rfl); (case hs => first | exact ka rfl rfl rfl | exact kb rfl); (case hp => exact rfl))
     | ((with_reducible refine' RD.opFnE exts_ok 43 ?hLL ?hw ?ha ?hf ?hs ?hp ?_); (case hLL | hw | ha | hf => exact rfl); (case hs => first | exact upTF (j := 1) (c1) (RenV.tuple (RenVs.plain rfl)) (TF.sl) (TF.nil eb) rfl rfl rfl rfl | exact upTF (c3) (RenV.tuple (RenVs.plain rfl)) (TF.sl) (TF.sl) rfl rfl rfl rfl); (case hp => exact rfl))
     | ((with_reducible refine' RO.fn (f := 44) exts_ok ?hw ?ha ?hf ?hs ?hp ?_); (case hw | ha | hf => exact rfl); (case hs => exact c2 rfl rfl rfl rfl); (case hp => exact rfl))
     | ((with_reducible refine' RO.fn (f := 27) exts_ok ?hw ?ha ?hf ?hs ?hp ?_); (case hw | ha | hf => exact rfl); (case hs => exact c4 rfl rfl); (case hp => exact rfl))
     | ((with_reducible refine' RO.step ?hw ?ho ?hp ?_); (case hw => exact rfl); (case ho => exact OSem.eqbb exts_ok rfl rfl); (case hp => exact rfl))
     | ((with_reducible refine' RO.fn (f := 20) exts_ok ?hw ?ha ?hf ?hs ?hp ?_); (case hw | ha | hf => exact rfl); (case hs => exact sem20 _); (case hp => exact rfl))
     | (((with_reducible refine' RO.eqi exts_ok ?hw ?hx ?hy ?hk ?hT ?hF (fun hc => ?_) (fun hc => ?_)); (case hw | hx | hy | hk | hT | hF => exact rfl)) <;> try (exfalso; first | omega | (simp at hc; done)))
     | ((with_reducible refine' RO.ldN exts_ok ?hw ?hx ?hu ?hD ?hv ?hp ?_); (case hw | hx | hu | hD => exact rfl); (case hv => exact rfl); (case hp => exact rfl))
     | ((with_reducible refine' RO.step ?hw ?ho ?hp ?_); (case hw => exact rfl); (case ho => exact OSem.val exts_ok rfl); (case hp => exact rfl))
     | ((with_reducible refine RD.nil ?_); (refine' RDk.intro ?oks ?hl ?_); (case hl => exact rfl); (case oks => (repeat' (first | exact True.intro | refine And.intro ?_ ?_ | exact rfl | exact OSem.loadN exts_ok rfl rfl rfl rfl))))
     | ((with_reducible refine' RD.calm ?hw ?ho ?hp ?_); (case hw => exact rfl); (case ho => exact fun H => OSem.val exts_ok rfl); (case hp => exact rfl))
     | ((with_reducible refine' RD.read ?hw ?ho ?hp (fun _ => ?_)); (case hw => exact rfl); (case ho => exact OSem.loadN exts_ok rfl rfl rfl rfl); (case hp => exact rfl))
     | fail)
    all_goals first
      | (exfalso; omega)
      | exact ⟨rfl, _, rfl, [0, 1], ⟨rfl, rfl, rfl, RenO.ro (RenVs.plain (cellsN_plain _)), RenO.ro (RenVs.plain (cellsN_plain _)), True.intro⟩, RenV.plain rfl⟩
set_option maxHeartbeats 8000000 in
theorem sem12ee (ns ms : List Nd) (ia : NdIn ns) (ib : NdIn ms) (u v : AV) (tu : TF 0 ns u) (tv : TF 1 ms v) (ea : ns = []) (eb : ms = []) (ha : thinB ns = true) (hb : thinB ms = true) : CSem Tryz.prog 12 [.agg [u], .agg [v]] (twoH ns ms) (.bool true) (twoH ns ms) := by
  have hA : ∀ {h : Heap}, Nat.blt 0 h.next = true → tells (h.objs.get 0) (cellsN ns) → CSem Tryz.prog 24 [.agg [u]] h (.bool true) h := fun hi ht => ha ▸ tf24 tu hi ht
  have hB : ∀ {h : Heap}, Nat.blt 1 h.next = true → tells (h.objs.get 1) (cellsN ms) → CSem Tryz.prog 24 [.agg [v]] h (.bool true) h := fun hi ht => hb ▸ tf24 tv hi ht
  subst ea
  subst eb
  have oa := thin_ok ia ha
  have ob := thin_ok ib hb
  have hla := oa.len
  have hlb := ob.len
  have ka : ∀ {h : Heap}, tells (h.objs.get 0) (cellsN []) → CSem Tryz.prog 25 [.agg [u]] h (.agg [.nilslice]) h := fun ht => tf25 tu ht
  have kb : ∀ {h : Heap}, tells (h.objs.get 1) (cellsN []) → CSem Tryz.prog 25 [.agg [v]] h (.agg [.nilslice]) h := fun ht => tf25 tv ht
  have c1 := fun u v => sem43 [] [] oa ob u v
  have c2 : ∀ {h : Heap}, Nat.blt 0 h.next = true → tells (h.objs.get 0) (cellsN []) → Nat.blt 1 h.next = true → tells (h.objs.get 1) (cellsN []) → CSem Tryz.prog 44 [.agg [u], .agg [v]] h (.tuple [.bool (sameB [] []), .int .i64 (sameE [] [])]) h := fun hi ht hj htj => upTF (fun u v => sem44 [] [] oa ob u v) (RenV.tuple (RenVs.plain rfl)) tu tv hi ht hj htj
  have c4 : ∀ {h : Heap}, Nat.blt 0 h.next = true → tells (h.objs.get 0) (cellsN []) → CSem Tryz.prog 27 [.agg [u]] h (.int .i64 (checkR [])) h := fun hi ht => tf27 oa tu hi ht
  by_cases h0 : checkR [] = 0
  · have c3 : ∀ u v, TF 0 [] u → TF 1 [] v → CSem Tryz.prog 43 [.agg [u], .agg [v]] (twoH [] []) (.tuple [.bool true, .int .i64 (checkR [])]) (twoH [] []) := fun u v t s => by
      have := sem43 [] [] oa oa u v t s
      rw [(sameB_self h0).1, (sameB_self h0).2] at this
      rw [h0]; exact this
    have c2e : ∀ {h : Heap}, Nat.blt 0 h.next = true → tells (h.objs.get 0) (cellsN []) → Nat.blt 1 h.next = true → tells (h.objs.get 1) (cellsN []) → CSem Tryz.prog 44 [.agg [u], .agg [v]] h (.tuple [.bool true, .int .i64 (checkR [])]) h := fun hi ht hj htj => by
      have := c2 hi ht hj htj
      rw [(sameB_self h0).1, (sameB_self h0).2] at this
      rw [h0]; exact this
    refine CSem.into Tryz.func12 rfl (by decide) Tryz.ntmps12 rfl rfl rfl ?_
    dsimp only [twoH]
    repeat' (first
     | with_reducible refine RS.seq ?_
     | with_reducible refine RS.goL ?_
     | with_reducible refine RO.nil ?_
     | with_reducible refine ThenS.n ?_
     | with_reducible refine RS.skip ?_
     | with_reducible refine RS.ret ?_
     | ((with_reducible refine RS.condF ?hb ?_); (case hb => exact rfl))
     | ((with_reducible refine' RO.fn (f := 24) exts_ok ?hw ?ha ?hf ?hs ?hp ?_); (case hw | ha | hf => exact rfl); (case hs => exact hA rfl rfl); (case hp => exact rfl))
     | ((with_reducible refine' RO.fn (f := 24) exts_ok ?hw ?ha ?hf ?hs ?hp ?_); (case hw | ha | hf => exact rfl); (case hs => exact hB rfl rfl); (case hp => exact rfl))
     | ((with_reducible refine' RS.drawE mixed [none, none, none, none, none, none, none, none, none, none] ?hn ?hms ?hord ?hh ?_); (case hn | hms | hord | hh => exact rfl))
     | ((with_reducible refine' RD.opFnE exts_ok 25 ?hLL ?hw ?ha ?hf ?hs ?hp ?_); (case hLL | hw | ha | hf => exact rfl); (case hs => first | exact ka rfl | exact kb rfl); (case hp => exact rfl))
     | ((with_reducible refine' RD.opFnE exts_ok 43 ?hLL ?hw ?ha ?hf ?hs ?hp ?_); (case hLL | hw | ha | hf => exact rfl); (case hs => exact upTF (i := 0) (j := 0) (c3) (RenV.tuple (RenVs.plain rfl)) (TF.nil rfl) (TF.nil rfl) rfl rfl rfl rfl); (case hp => exact rfl))
     | ((with_reducible refine' RO.fn (f := 44) exts_ok ?hw ?ha ?hf ?hs ?hp ?_); (case hw | ha | hf => exact rfl); (case hs => exact c2e rfl rfl rfl rfl); (case hp => exact rfl))
     | ((with_reducible refine' RO.fn (f := 27) exts_ok ?hw ?ha ?hf ?hs ?hp ?_); (case hw | ha | hf => exact rfl); (case hs => exact c4 rfl rfl); (case hp => exact rfl))
     | ((with_reducible refine' RO.step ?hw ?ho ?hp ?_); (case hw => exact rfl); (case ho => exact OSem.eqbb exts_ok rfl rfl); (case hp => exact rfl))
     | ((with_reducible refine' RO.fn (f := 20) exts_ok ?hw ?ha ?hf ?hs ?hp ?_); (case hw | ha | hf => exact rfl); (case hs => exact sem20 _); (case hp => exact rfl))
     | (((with_reducible refine' RO.eqi exts_ok ?hw ?hx ?hy ?hk ?hT ?hF (fun hc => ?_) (fun hc => ?_)); (case hw | hx | hy | hk | hT | hF => exact rfl)) <;> try (exfalso; first | omega | (simp at hc; done)))
     | ((with_reducible refine' RO.ldN exts_ok ?hw ?hx ?hu ?hD ?hv ?hp ?_); (case hw | hx | hu | hD => exact rfl); (case hv => exact rfl); (case hp => exact rfl))
     | ((with_reducible refine' RO.step ?hw ?ho ?hp ?_); (case hw => exact rfl); (case ho => exact OSem.val exts_ok rfl); (case hp => exact rfl))
     | ((with_reducible refine RD.nil ?_); (refine' RDk.intro ?oks ?hl ?_); (case hl => exact rfl); (case oks => (repeat' (first | exact True.intro | refine And.intro ?_ ?_ | exact rfl | exact OSem.loadN exts_ok rfl rfl rfl rfl))))
     | ((with_reducible refine' RD.calm ?hw ?ho ?hp ?_); (case hw => exact rfl); (case ho => exact fun H => OSem.val exts_ok rfl); (case hp => exact rfl))
     | ((with_reducible refine' RD.read ?hw ?ho ?hp (fun _ => ?_)); (case hw => exact rfl); (case ho => exact OSem.loadN exts_ok rfl rfl rfl rfl); (case hp => exact rfl))
     | fail)
    all_goals first
      | (exfalso; omega)
      | exact ⟨rfl, _, rfl, [0, 1], ⟨rfl, rfl, rfl, RenO.ro (RenVs.plain (cellsN_plain _)), RenO.ro (RenVs.plain (cellsN_plain _)), True.intro⟩, RenV.plain rfl⟩
  · have c3 : ∀ u v, TF 0 [] u → TF 1 [] v → CSem Tryz.prog 43 [.agg [u], .agg [v]] (twoH [] []) (.tuple [.bool false, .int .i64 (checkR [])]) (twoH [] []) := fun u v t s => by
      have := sem43 [] [] oa oa u v t s
      rw [(sameB_l h0).1, (sameB_l h0).2] at this
      exact this
    have c2e : ∀ {h : Heap}, Nat.blt 0 h.next = true → tells (h.objs.get 0) (cellsN []) → Nat.blt 1 h.next = true → tells (h.objs.get 1) (cellsN []) → CSem Tryz.prog 44 [.agg [u], .agg [v]] h (.tuple [.bool false, .int .i64 (checkR [])]) h := fun hi ht hj htj => by
      have := c2 hi ht hj htj
      rw [(sameB_l h0).1, (sameB_l h0).2] at this
      exact this
    refine CSem.into Tryz.func12 rfl (by decide) Tryz.ntmps12 rfl rfl rfl ?_
    dsimp only [twoH]
    repeat' (first
     | with_reducible refine RS.seq ?_
     | with_reducible refine RS.goL ?_
     | with_reducible refine RO.nil ?_
     | with_reducible refine ThenS.n ?_
     | with_reducible refine RS.skip ?_
     | with_reducible refine RS.ret ?_
     | ((with_reducible refine RS.condF ?hb ?_); (case hb => exact rfl))
     | ((with_reducible refine' RO.fn (f := 24) exts_ok ?hw ?ha ?hf ?hs ?hp ?_); (case hw | ha | hf => exact rfl); (case hs => exact hA rfl rfl); (case hp => exact rfl))
     | ((with_reducible refine' RO.fn (f := 24) exts_ok ?hw ?ha ?hf ?hs ?hp ?_); (case hw | ha | hf => exact rfl); (case hs => exact hB rfl rfl); (case hp => exact rfl))
     | ((with_reducible refine' RS.drawE mixed [none, none, none, none, none, none, none, none, none, none] ?hn ?hms ?hord ?hh ?_); (case hn | hms | hord | hh => exact rfl))
     | ((with_reducible refine' RD.opFnE exts_ok 25 ?hLL ?hw ?ha ?hf ?hs ?hp ?_); (case hLL | hw | ha | hf => exact rfl); (case hs => first | exact ka rfl | exact kb rfl); (case hp => exact rfl))
     | ((with_reducible refine' RD.opFnE exts_ok 43 ?hLL ?hw ?ha ?hf ?hs ?hp ?_); (case hLL | hw | ha | hf => exact rfl); (case hs => exact upTF (i := 0) (j := 0) (c3) (RenV.tuple (RenVs.plain rfl)) (TF.nil rfl) (TF.nil rfl) rfl rfl rfl rfl); (case hp => exact rfl))
     | ((with_reducible refine' RO.fn (f := 44) exts_ok ?hw ?ha ?hf ?hs ?hp ?_); (case hw | ha | hf => exact rfl); (case hs => exact c2e rfl rfl rfl rfl); (case hp => exact rfl))
     | ((with_reducible refine' RO.fn (f := 27) exts_ok ?hw ?ha ?hf ?hs ?hp ?_); (case hw | ha | hf => exact rfl); (case hs => exact c4 rfl rfl); (case hp => exact rfl))
     | ((with_reducible refine' RO.step ?hw ?ho ?hp ?_); (case hw => exact rfl); (case ho => exact OSem.eqbb exts_ok rfl rfl); (case hp => exact rfl))
     | ((with_reducible refine' RO.fn (f := 20) exts_ok ?hw ?ha ?hf ?hs ?hp ?_); (case hw | ha | hf => exact rfl); (case hs => exact sem20 _); (case hp => exact rfl))
     | (((with_reducible refine' RO.eqi exts_ok ?hw ?hx ?hy ?hk ?hT ?hF (fun hc => ?_) (fun hc => ?_)); (case hw | hx | hy | hk | hT | hF => exact rfl)) <;> try (exfalso; first | omega | (simp at hc; done)))
     | ((with_reducible refine' RO.ldN exts_ok ?hw ?hx ?hu ?hD ?hv ?hp ?_); (case hw | hx | hu | hD => exact rfl); (case hv => exact rfl); (case hp => exact rfl))
     | ((with_reducible refine' RO.step ?hw ?ho ?hp ?_); (case hw => exact rfl); (case ho => exact OSem.val exts_ok rfl); (case hp => exact rfl))
     | ((with_reducible refine RD.nil ?_); (refine' RDk.intro ?oks ?hl ?_); (case hl => exact rfl); (case oks => (repeat' (first | exact True.intro | refine And.intro ?_ ?_ | exact rfl | exact OSem.loadN exts_ok rfl rfl rfl rfl))))
     | ((with_reducible refine' RD.calm ?hw ?ho ?hp ?_); (case hw => exact rfl); (case ho => exact fun H => OSem.val exts_ok rfl); (case hp => exact rfl))
     | ((with_reducible refine' RD.read ?hw ?ho ?hp (fun _ => ?_)); (case hw => exact rfl); (case ho => exact OSem.loadN exts_ok rfl rfl rfl rfl); (case hp => exact rfl))
     | fail)
    all_goals first
      | (exfalso; omega)
      | exact ⟨rfl, _, rfl, [0, 1], ⟨rfl, rfl, rfl, RenO.ro (RenVs.plain (cellsN_plain _)), RenO.ro (RenVs.plain (cellsN_plain _)), True.intro⟩, RenV.plain rfl⟩
theorem sem12 (ns ms : List Nd) (ia : NdIn ns) (ib : NdIn ms) (u v : AV) (tu : TF 0 ns u) (tv : TF 1 ms v) : CSem Tryz.prog 12 [.agg [u], .agg [v]] (twoH ns ms) (.bool true) (twoH ns ms) := by
  cases ha : thinB ns with
  | false => exact sem12n ns ms ia ib u v tu tv (.inl ha)
  | true =>
    cases hb : thinB ms with
    | false => exact sem12n ns ms ia ib u v tu tv (.inr hb)
    | true =>
      by_cases ea : ns.length = 0
      · by_cases eb : ms.length = 0
        · exact sem12ee ns ms ia ib u v tu tv (List.length_eq_zero_iff.1 ea) (List.length_eq_zero_iff.1 eb) ha hb
        · exact sem12en ns ms ia ib u v tu tv (List.length_eq_zero_iff.1 ea) eb ha hb
      · by_cases eb : ms.length = 0
        · exact sem12ne ns ms ia ib u v tu tv ea (List.length_eq_zero_iff.1 eb) ha hb
        · exact sem12nn ns ms ia ib u v tu tv ea eb ha hb
end Go.Am
namespace Go.Am
open Go Go.Proofs Go.RowKit Go.Pu
set_option maxRecDepth 100000
def map2 (l0 l1 : Option Loc) : Map := fun i => if i = 0 then l0 else if i = 1 then l1 else none
def TellsAt (W : World) (ns : List Nd) (p : Loc) : Prop := p.b < W.heap.size ∧ ∀ i x, ns[i]? = some x → NdAt W (fun j => ⟨p.b, p.base + (i * 5 + j), none⟩) x
theorem treeIn_TF {W : World} {c : Value} (h : TreeIn W c) (i : Nat) : ∃ (l : Option Loc) (ns : List Nd) (u : AV), TF i ns u ∧ NdIn ns ∧ (∀ p, l = some p → TellsAt W ns p) ∧ ∀ M : Map, M i = l → conc M u = some c := by
  rcases h with rfl | ⟨b, off, cap, ns, rfl, hl, hb, hn⟩
  · exact ⟨none, [], .nilslice, TF.nil rfl, ⟨fun x hx => (by cases hx), fun x hx => (by cases hx)⟩, fun p hp => (by cases hp), fun M _ => rfl⟩
  · refine ⟨some ⟨b, off, cap⟩, ns, .slice i 0 ns.length 5, TF.sl, ndIn_of hn, fun p hp => ?_, fun M hM => ?_⟩
    · cases hp
      exact ⟨hb, hn⟩
    · simp [conc, hM, hl]
theorem ro_ok {P : Program} {W : World} {ns : List Nd} {p : Loc} (M : Map) (h : TellsAt W ns p) : ORel P M p (some (.ro 50 5 (cellsN ns))) W.heap[p.b]? := by
  intro j a ha
  obtain ⟨k, f, x, rfl, hf, hx, hr⟩ := cellsN_get ns j a ha
  obtain ⟨c, h1, h2⟩ := nodes_conc h.2 M k x hx f a hr
  exact ⟨c, h1, by rw [← cell?_eq]; exact h2⟩
theorem heap2 {W : World} (g : Known Tryz.prog W.heap.size W) {l0 l1 : Option Loc} {ns ms : List Nd} (h0 : ∀ p, l0 = some p → TellsAt W ns p) (h1 : ∀ p, l1 = some p → TellsAt W ms p) : HRel Tryz.prog W.heap.size W (map2 l0 l1) (twoH ns ms) W := by
  refine ⟨Below.refl _ _, ⟨Nat.le_refl _, g⟩, fun i hi => ?_, fun i p hp => ?_, fun i j p q hi hj hpq ho hs => ?_⟩
  · have : 2 ≤ i := hi
    simp only [map2]
    rw [if_neg (by omega), if_neg (by omega)]
  · simp only [map2] at hp
    split at hp
    · rename_i e
      subst e
      refine ⟨fun o h1' h2 => ?_, (h0 p hp).1, ro_ok _ (h0 p hp)⟩
      have : o = .ro 50 5 (cellsN ns) := (Option.some.inj h1').symm
      subst this
      cases h2
    · split at hp
      · rename_i e
        subst e
        refine ⟨fun o h1' h2 => ?_, (h1 p hp).1, ro_ok _ (h1 p hp)⟩
        have : o = .ro 50 5 (cellsN ms) := (Option.some.inj h1').symm
        subst this
        cases h2
      · cases hp
  · exfalso
    obtain ⟨o, ho, hr⟩ := ho
    simp only [map2] at hi
    split at hi
    · rename_i e
      subst e
      have : o = .ro 50 5 (cellsN ns) := (Option.some.inj ho).symm
      subst this
      cases hr
    · split at hi
      · rename_i e
        subst e
        have : o = .ro 50 5 (cellsN ms) := (Option.some.inj ho).symm
        subst this
        cases hr
      · cases hi
theorem calls12 (W : World) (g : Known Tryz.prog W.heap.size W) (a b : Value) (ha : TreeIn W a) (hb : TreeIn W b) :
    Calls Tryz.prog 12 #[.agg #[a], .agg #[b]] W fun e w' => e = .returned (.bool true) ∧ Below W.heap.size W w' := by
  obtain ⟨l0, ns, u, tu, iu, t0, c0⟩ := treeIn_TF ha 0
  obtain ⟨l1, ms, v, tv, iv, t1, c1⟩ := treeIn_TF hb 1
  refine (sem12 ns ms iu iv u v tu tv W.heap.size W (map2 l0 l1) W (heap2 g t0 t1) [.agg #[a], .agg #[b]] (by simp [concs, conc, c0 (map2 l0 l1) rfl, c1 (map2 l0 l1) rfl])).mono ?_
  rintro e w' ⟨M', c, _, rfl, hc, r⟩
  simp only [conc, Option.some.injEq] at hc
  exact ⟨by rw [← hc], r.below⟩
end Go.Am
