/- Part of the proof: WnD. -/
import Derived.Test.YtijdeggmmpfjeaaGreatDoorD2
set_option linter.unusedSimpArgs false
set_option linter.unusedVariables false
set_option linter.unusedSectionVars false
namespace Go.Am
open Go Go.Proofs Go.RowKit Go.Pu
set_option maxRecDepth 1000000
theorem OSem.eqbb {ext : FuncId → Bool} (hext : ExtOk Tryz.prog ext) {d : Option Tmp} {ty : TypeId} {pos : String} {af : Array Edge} {gd : Option (Nat × Bool)} {g : Ev} {h : Heap} {t' : TypeId} {x y : Operand} {a : Bool} (hx : g x = some (.bool a)) (hy : g y = some (.bool a)) :
    OSem Tryz.prog ⟨d, .binOp .eql 4 x y t', ty, pos, af, gd⟩ g h (.bool true) h := OSem.bin hext hx hy (by cases a <;> rfl)
theorem alikeB_refl (ns : List Nd) : alikeB ns ns = true := by unfold alikeB; rw [alikeF_refl]; simp
theorem sameB_self {ns : List Nd} (h : checkR ns = 0) : sameB ns ns = true ∧ sameE ns ns = 0 := by unfold sameB sameE; simp [h, alikeB_refl]
set_option maxHeartbeats 8000000 in
theorem sem12n (ns ms : List Nd) (ia : NdIn ns) (ib : NdIn ms) (u v : AV) (tu : TF 0 ns u) (tv : TF 1 ms v) (hno : thinB ns = false ∨ thinB ms = false) : CSem Tryz.prog 12 [.agg [u], .agg [v]] (twoH ns ms) (.bool true) (twoH ns ms) := by
  have hA : ∀ {b : Bool}, thinB ns = b → ∀ {h : Heap}, Nat.blt 0 h.next = true → tells (h.objs.get 0) (cellsN ns) → CSem Tryz.prog 24 [.agg [u]] h (.bool b) h := fun e _ hi ht => e ▸ tf24 tu hi ht
  have hB : ∀ {b : Bool}, thinB ms = b → ∀ {h : Heap}, Nat.blt 1 h.next = true → tells (h.objs.get 1) (cellsN ms) → CSem Tryz.prog 24 [.agg [v]] h (.bool b) h := fun e _ hi ht => e ▸ tf24 tv hi ht
  cases ha : thinB ns with
  | false =>
    refine CSem.into Tryz.func12 rfl (by decide) Tryz.ntmps12 rfl rfl rfl ?_
    dsimp only [twoH]
    repeat' (first
     | with_reducible refine RS.seq ?_
     | with_reducible refine RS.goL ?_
     | with_reducible refine RO.nil ?_
     | with_reducible refine ThenS.n ?_
     | with_reducible refine ThenS.r ?_
     | with_reducible refine RS.ret ?_
     | ((with_reducible refine RS.condT ?hb ?_); (case hb => exact rfl))
     | ((with_reducible refine' RO.fn (f := 24) exts_ok ?hw ?ha ?hf ?hs ?hp ?_); (case hw | ha | hf => exact rfl); (case hs => exact hA ha rfl rfl); (case hp => exact rfl))
     | ((with_reducible refine' RO.fn (f := 20) exts_ok ?hw ?ha ?hf ?hs ?hp ?_); (case hw | ha | hf => exact rfl); (case hs => exact sem20 _); (case hp => exact rfl))
     | ((with_reducible refine' RO.skip ?hw ?hp ?_); (case hw => exact rfl); (case hp => exact rfl))
     | ((with_reducible refine' RO.ldN exts_ok ?hw ?hx ?hu ?hD ?hv ?hp ?_); (case hw | hx | hu | hD => exact rfl); (case hv => exact rfl); (case hp => exact rfl))
     | ((with_reducible refine' RO.step ?hw ?ho ?hp ?_); (case hw => exact rfl); (case ho => exact OSem.val exts_ok rfl); (case hp => exact rfl))
     | fail)
    exact ⟨rfl, _, rfl, [0, 1], ⟨rfl, rfl, rfl, RenO.ro (RenVs.plain (cellsN_plain _)), RenO.ro (RenVs.plain (cellsN_plain _)), True.intro⟩, RenV.plain rfl⟩
  | true =>
    have hb : thinB ms = false := by rcases hno with h | h; · rw [ha] at h; cases h
                                     · exact h
    refine CSem.into Tryz.func12 rfl (by decide) Tryz.ntmps12 rfl rfl rfl ?_
    dsimp only [twoH]
    repeat' (first
     | with_reducible refine RS.seq ?_
     | with_reducible refine RS.goL ?_
     | with_reducible refine RO.nil ?_
     | with_reducible refine ThenS.n ?_
     | with_reducible refine ThenS.r ?_
     | with_reducible refine RS.ret ?_
     | ((with_reducible refine RS.condT ?hb ?_); (case hb => exact rfl))
     | ((with_reducible refine' RO.fn (f := 24) exts_ok ?hw ?ha ?hf ?hs ?hp ?_); (case hw | ha | hf => exact rfl); (case hs => exact hA ha rfl rfl); (case hp => exact rfl))
     | ((with_reducible refine' RO.fn (f := 24) exts_ok ?hw ?ha ?hf ?hs ?hp ?_); (case hw | ha | hf => exact rfl); (case hs => exact hB hb rfl rfl); (case hp => exact rfl))
     | ((with_reducible refine' RO.fn (f := 20) exts_ok ?hw ?ha ?hf ?hs ?hp ?_); (case hw | ha | hf => exact rfl); (case hs => exact sem20 _); (case hp => exact rfl))
     | ((with_reducible refine' RO.ldN exts_ok ?hw ?hx ?hu ?hD ?hv ?hp ?_); (case hw | hx | hu | hD => exact rfl); (case hv => exact rfl); (case hp => exact rfl))
     | ((with_reducible refine' RO.step ?hw ?ho ?hp ?_); (case hw => exact rfl); (case ho => exact OSem.val exts_ok rfl); (case hp => exact rfl))
     | fail)
    exact ⟨rfl, _, rfl, [0, 1], ⟨rfl, rfl, rfl, RenO.ro (RenVs.plain (cellsN_plain _)), RenO.ro (RenVs.plain (cellsN_plain _)), True.intro⟩, RenV.plain rfl⟩
set_option maxHeartbeats 8000000 in
theorem sem12nn (ns ms : List Nd) (ia : NdIn ns) (ib : NdIn ms) (u v : AV) (tu : TF 0 ns u) (tv : TF 1 ms v) (hna : ns.length ≠ 0) (hnb : ms.length ≠ 0) (ha : thinB ns = true) (hb : thinB ms = true) : CSem Tryz.prog 12 [.agg [u], .agg [v]] (twoH ns ms) (.bool true) (twoH ns ms) := by
  have hA : ∀ {h : Heap}, Nat.blt 0 h.next = true → tells (h.objs.get 0) (cellsN ns) → CSem Tryz.prog 24 [.agg [u]] h (.bool true) h := fun hi ht => ha ▸ tf24 tu hi ht
  have hB : ∀ {h : Heap}, Nat.blt 1 h.next = true → tells (h.objs.get 1) (cellsN ms) → CSem Tryz.prog 24 [.agg [v]] h (.bool true) h := fun hi ht => hb ▸ tf24 tv hi ht
  have oa := thin_ok ia ha
  have ob := thin_ok ib hb
  have hla := oa.len
  have hlb := ob.len
  have ka : ∀ {h h2 : Heap} {j : Nat}, Nat.blt 0 h.next = true → tells (h.objs.get 0) (cellsN ns) → h.add (.cells 50 5 (cellsN ns) false) = some (j, h2) → CSem Tryz.prog 25 [.agg [u]] h (.agg [.slice j 0 ns.length 5]) h2 := by
    cases tu with
    | nil e => exact absurd (by rw [e]; rfl) hna
    | sl => exact fun hi ht hadd => at25 hna hla hi ht hadd
  have kb : ∀ {h h2 : Heap} {j : Nat}, Nat.blt 1 h.next = true → tells (h.objs.get 1) (cellsN ms) → h.add (.cells 50 5 (cellsN ms) false) = some (j, h2) → CSem Tryz.prog 25 [.agg [v]] h (.agg [.slice j 0 ms.length 5]) h2 := by
    cases tv with
    | nil e => exact absurd (by rw [e]; rfl) hnb
    | sl => exact fun hi ht hadd => at25 hnb hlb hi ht hadd
  have c1 := fun u v => sem43 ns ms oa ob u v
  have c2 : ∀ {h : Heap}, Nat.blt 0 h.next = true → tells (h.objs.get 0) (cellsN ns) → Nat.blt 1 h.next = true → tells (h.objs.get 1) (cellsN ms) → CSem Tryz.prog 44 [.agg [u], .agg [v]] h (.tuple [.bool (sameB ns ms), .int .i64 (sameE ns ms)]) h := fun hi ht hj htj => upTF (fun u v => sem44 ns ms oa ob u v) (RenV.tuple (RenVs.plain rfl)) tu tv hi ht hj htj
  have c4 : ∀ {h : Heap}, Nat.blt 0 h.next = true → tells (h.objs.get 0) (cellsN ns) → CSem Tryz.prog 27 [.agg [u]] h (.int .i64 (checkR ns)) h := fun hi ht => tf27 oa tu hi ht
  by_cases h0 : checkR ns = 0
  · have c3 : ∀ u v, TF 0 ns u → TF 1 ns v → CSem Tryz.prog 43 [.agg [u], .agg [v]] (twoH ns ns) (.tuple [.bool true, .int .i64 (checkR ns)]) (twoH ns ns) := fun u v t s => by
      have := sem43 ns ns oa oa u v t s
      rw [(sameB_self h0).1, (sameB_self h0).2] at this
      rw [h0]; exact this
    refine CSem.into Tryz.func12 rfl (by decide) Tryz.ntmps12 rfl rfl rfl ?_
    dsimp only [twoH]
    repeat' (first
     | with_reducible refine RS.seq ?_
     | with_reducible refine RS.goL ?_
     | with_reducible refine RO.nil ?_
     | with_reducible refine ThenS.n ?_
     | with_reducible refine RS.skip ?_
     | with_reducible refine RS.ret ?_
     | ((with_reducible refine RS.condF ?hb ?_); (case hb => exact rfl))
     | ((with_reducible refine' RO.fn (f := 24) exts_ok ?hw ?ha ?hf ?hs ?hp ?_); (case hw | ha | hf => exact rfl); (case hs => exact hA rfl rfl); (case hp => exact rfl))
     | ((with_reducible refine' RO.fn (f := 24) exts_ok ?hw ?ha ?hf ?hs ?hp ?_); (case hw | ha | hf => exact rfl); (case hs => exact hB rfl rfl); (case hp => exact rfl))
     | ((with_reducible refine' RS.drawE mixed [none, none, none, none, none, none, none, none, none, none] ?hn ?hms ?hord ?hh ?_); (case hn | hms | hord | hh => exact rfl))
     | ((with_reducible refine' RD.opFnE exts_ok 25 ?hLL ?hw ?ha ?hf ?hs ?hp ?_); (case hLL | hw | ha | hf => exact rfl); (case hs => first | exact ka rfl rfl rfl | exact kb rfl rfl rfl); (case hp => exact rfl))
     | ((with_reducible refine' RD.opFnE exts_ok 43 ?hLL ?hw ?ha ?hf ?hs ?hp ?_); (case hLL | hw | ha | hf => exact rfl); (case hs => first | exact upTF (c1) (RenV.tuple (RenVs.plain rfl)) (TF.sl) (TF.sl) rfl rfl rfl rfl | exact upTF (c3) (RenV.tuple (RenVs.plain rfl)) (TF.sl) (TF.sl) rfl rfl rfl rfl); (case hp => exact rfl))
     | ((with_reducible refine' RO.fn (f := 44) exts_ok ?hw ?ha ?hf ?hs ?hp ?_); (case hw | ha | hf => exact rfl); (case hs => exact c2 rfl rfl rfl rfl); (case hp => exact rfl))
     | ((with_reducible refine' RO.fn (f := 27) exts_ok ?hw ?ha ?hf ?hs ?hp ?_); (case hw | ha | hf => exact rfl); (case hs => exact c4 rfl rfl); (case hp => exact rfl))
     | ((with_reducible refine' RO.step ?hw ?ho ?hp ?_); (case hw => exact rfl); (case ho => exact OSem.eqbb exts_ok rfl rfl); (case hp => exact rfl))
     | ((with_reducible refine' RO.fn (f := 20) exts_ok ?hw ?ha ?hf ?hs ?hp ?_); (case hw | ha | hf => exact rfl); (case hs => exact sem20 _); (case hp => exact rfl))
     | (((with_reducible refine' RO.eqi exts_ok ?hw ?hx ?hy ?hk ?hT ?hF (fun hc => ?_) (fun hc => ?_)); (case hw | hx | hy | hk | hT | hF => exact rfl)) <;> try (exfalso; first | omega | (simp at hc; done)))
     | ((with_reducible refine' RO.ldN exts_ok ?hw ?hx ?hu ?hD ?hv ?hp ?_); (case hw | hx | hu | hD => exact rfl); (case hv => exact rfl); (case hp => exact rfl))
     | ((with_reducible refine' RO.step ?hw ?ho ?hp ?_); (case hw => exact rfl); (case ho => exact OSem.val exts_ok rfl); (case hp => exact rfl))
     | ((with_reducible refine RD.nil ?_); (refine' RDk.intro ?oks ?hl ?_); (case hl => exact rfl); (case oks => (repeat' (first | exact True.intro | refine And.intro ?_ ?_ | exact rfl | exact OSem.loadN exts_ok rfl rfl rfl rfl))))
     | ((with_reducible refine' RD.calm ?hw ?ho ?hp ?_); (case hw => exact rfl); (case ho => exact fun H => OSem.val exts_ok rfl); (case hp => exact rfl))
     | ((with_reducible refine' RD.read ?hw ?ho ?hp (fun _ => ?_)); (case hw => exact rfl); (case ho => exact OSem.loadN exts_ok rfl rfl rfl rfl); (case hp => exact rfl))
     | fail)
    all_goals first
      | (exfalso; omega)
      | exact ⟨rfl, _, rfl, [0, 1], ⟨rfl, rfl, rfl, RenO.ro (RenVs.plain (cellsN_plain _)), RenO.ro (RenVs.plain (cellsN_plain _)), True.intro⟩, RenV.plain rfl⟩
  · have c3 : ∀ u v, TF 0 ns u → TF 1 ns v → CSem Tryz.prog 43 [.agg [u], .agg [v]] (twoH ns ns) (.tuple [.bool false, .int .i64 (checkR ns)]) (twoH ns ns) := fun u v t s => by
      have := sem43 ns ns oa oa u v t s
      rw [(sameB_l h0).1, (sameB_l h0).2] at this
      exact this
    refine CSem.into Tryz.func12 rfl (by decide) Tryz.ntmps12 rfl rfl rfl ?_
    dsimp only [twoH]
    repeat' (first
     | with_reducible refine RS.seq ?_
     | with_reducible refine RS.goL ?_
     | with_reducible refine RO.nil ?_
     | with_reducible refine ThenS.n ?_
     | with_reducible refine RS.skip ?_
     | with_reducible refine RS.ret ?_
     | ((with_reducible refine RS.condF ?hb ?_); (case hb => exact rfl))
     | ((with_reducible refine' RO.fn (f := 24) exts_ok ?hw ?ha ?hf ?hs ?hp ?_); (case hw | ha | hf => exact rfl); (case hs => exact hA rfl rfl); (case hp => exact rfl))
     | ((with_reducible refine' RO.fn (f := 24) exts_ok ?hw ?ha ?hf ?hs ?hp ?_); (case hw | ha | hf => exact rfl); (case hs => exact hB rfl rfl); (case hp => exact rfl))
     | ((with_reducible refine' RS.drawE mixed [none, none, none, none, none, none, none, none, none, none] ?hn ?hms ?hord ?hh ?_); (case hn | hms | hord | hh => exact rfl))
     | ((with_reducible refine' RD.opFnE exts_ok 25 ?hLL ?hw ?ha ?hf ?hs ?hp ?_); (case hLL | hw | ha | hf => exact rfl); (case hs => first | exact ka rfl rfl rfl | exact kb rfl rfl rfl); (case hp => exact rfl))
     | ((with_reducible refine' RD.opFnE exts_ok 43 ?hLL ?hw ?ha ?hf ?hs ?hp ?_); (case hLL | hw | ha | hf => exact rfl); (case hs => first | exact upTF (c1) (RenV.tuple (RenVs.plain rfl)) (TF.sl) (TF.sl) rfl rfl rfl rfl | exact upTF (c3) (RenV.tuple (RenVs.plain rfl)) (TF.sl) (TF.sl) rfl rfl rfl rfl); (case hp => exact rfl))
     | ((with_reducible refine' RO.fn (f := 44) exts_ok ?hw ?ha ?hf ?hs ?hp ?_); (case hw | ha | hf => exact rfl); (case hs => exact c2 rfl rfl rfl rfl); (case hp => exact rfl))
     | ((with_reducible refine' RO.fn (f := 27) exts_ok ?hw ?ha ?hf ?hs ?hp ?_); (case hw | ha | hf => exact rfl); (case hs => exact c4 rfl rfl); (case hp => exact rfl))
     | ((with_reducible refine' RO.step ?hw ?ho ?hp ?_); (case hw => exact rfl); (case ho => exact OSem.eqbb exts_ok rfl rfl); (case hp => exact rfl))
     | ((with_reducible refine' RO.fn (f := 20) exts_ok ?hw ?ha ?hf ?hs ?hp ?_); (case hw | ha | hf => exact rfl); (case hs => exact sem20 _); (case hp => exact rfl))
     | (((with_reducible refine' RO.eqi exts_ok ?hw ?hx ?hy ?hk ?hT ?hF (fun hc => ?_) (fun hc => ?_)); (case hw | hx | hy | hk | hT | hF => exact rfl)) <;> try (exfalso; first | omega | (simp at hc; done)))
     | ((with_reducible refine' RO.ldN exts_ok ?hw ?hx ?hu ?hD ?hv ?hp ?_); (case hw | hx | hu | hD => exact rfl); (case hv => exact rfl); (case hp => exact rfl))
     | ((with_reducible refine' RO.step ?hw ?ho ?hp ?_); (case hw => exact rfl); (case ho => exact OSem.val exts_ok rfl); (case hp => exact rfl))
     | ((with_reducible refine RD.nil ?_); (refine' RDk.intro ?oks ?hl ?_); (case hl => exact rfl); (case oks => (repeat' (first | exact True.intro | refine And.intro ?_ ?_ | exact rfl | exact OSem.loadN exts_ok rfl rfl rfl rfl))))
     | ((with_reducible refine' RD.calm ?hw ?ho ?hp ?_); (case hw => exact rfl); (case ho => exact fun H => OSem.val exts_ok rfl); (case hp => exact rfl))
     | ((with_reducible refine' RD.read ?hw ?ho ?hp (fun _ => ?_)); (case hw => exact rfl); (case ho => exact OSem.loadN exts_ok rfl rfl rfl rfl); (case hp => exact rfl))
     | fail)
    all_goals first
      | (exfalso; omega)
      | exact ⟨rfl, _, rfl, [0, 1], ⟨rfl, rfl, rfl, RenO.ro (RenVs.plain (cellsN_plain _)), RenO.ro (RenVs.plain (cellsN_plain _)), True.intro⟩, RenV.plain rfl⟩
end Go.Am
