/- Part of the proof: WnC. -/
import Derived.Test.YtijdeggmmpfjeaaGreatDoorD1
set_option linter.unusedSimpArgs false
set_option linter.unusedVariables false
set_option linter.unusedSectionVars false
namespace Go.Am
open Go Go.Proofs Go.RowKit Go.Pu
set_option maxRecDepth 1000000
def sameB (ns ms : List Nd) : Bool := decide (checkR ns = 0) && (decide (checkR ms = 0) && alikeB ns ms)
def sameE (ns ms : List Nd) : Int := if checkR ns = 0 then checkR ms else checkR ns
theorem sameB_l {ns ms : List Nd} (h : ¬ checkR ns = 0) : sameB ns ms = false ∧ sameE ns ms = checkR ns := by unfold sameB sameE; simp [h]
theorem sameB_r {ns ms : List Nd} (h : checkR ns = 0) (k : ¬ checkR ms = 0) : sameB ns ms = false ∧ sameE ns ms = checkR ms := by unfold sameB sameE; simp [h, k]
theorem sameB_o {ns ms : List Nd} (h : checkR ns = 0) (k : checkR ms = 0) : sameB ns ms = alikeB ns ms ∧ sameE ns ms = 0 := by unfold sameB sameE; simp [h, k]
def sameH (ns ms : List Nd) (u v : AV) : Heap := ⟨.node (some (.ro 50 5 (cellsN ns))) (.node (some (.ro 50 5 (cellsN ms))) (.node (some (.cells 26 1 [v] true)) .leaf .leaf) .leaf) (.node (some (.cells 26 1 [u] true)) (.node (some (.cells 26 1 [u, v] true)) .leaf .leaf) .leaf), 5⟩
theorem TF.ren {i : Nat} {ns : List Nd} {u : AV} (t : TF i ns u) {s : List Nat} (h : s[i]? = some i) : RenV s u u := by
  cases t with
  | nil _ => exact RenV.nilslice
  | sl => exact RenV.slice h
theorem TF.form {i : Nat} {ns : List Nd} {u : AV} (t : TF i ns u) : u = .nilslice ∨ u = .slice i 0 ns.length 5 := by
  cases t with
  | nil _ => exact .inl rfl
  | sl => exact .inr rfl
set_option maxHeartbeats 8000000 in
theorem sem43 (ns ms : List Nd) (oa : NdOk ns) (ob : NdOk ms) (u v : AV) (tu : TF 0 ns u) (tv : TF 1 ms v) : CSem Tryz.prog 43 [.agg [u], .agg [v]] (twoH ns ms) (.tuple [.bool (sameB ns ms), .int .i64 (sameE ns ms)]) (twoH ns ms) := by
  have ru : RenV [0, 1, 2, 3, 4] u u := tu.ren rfl
  have rv : RenV [0, 1, 2, 3, 4] v v := tv.ren rfl
  have hl := oa.len
  have ca : ∀ {h : Heap}, Nat.blt 0 h.next = true → tells (h.objs.get 0) (cellsN ns) → CSem Tryz.prog 26 [.agg [u]] h (.int .i64 (checkR ns)) h := fun hi ht => tf26 oa tu hi ht
  have cb : ∀ {h : Heap}, Nat.blt 1 h.next = true → tells (h.objs.get 1) (cellsN ms) → CSem Tryz.prog 26 [.agg [v]] h (.int .i64 (checkR ms)) h := fun hi ht => tf26 ob tv hi ht
  have cc : ∀ {h : Heap}, Nat.blt 0 h.next = true → tells (h.objs.get 0) (cellsN ns) → Nat.blt 1 h.next = true → tells (h.objs.get 1) (cellsN ms) → CSem Tryz.prog 89 [u, v, .func (.func 88) [] []] h (.bool (alikeB ns ms)) h := fun hi ht hj htj => tf89 (by omega) tu tv hi ht hj htj
  rcases tu.form with rfl | rfl <;> rcases tv.form with rfl | rfl
  all_goals
    clear tu tv
    refine CSem.into Tryz.func43 rfl (by decide) Tryz.ntmps43 rfl rfl rfl ?_
    dsimp only [twoH]
    repeat' (first
     | with_reducible refine RS.seq ?_
     | with_reducible refine RS.goL ?_
     | with_reducible refine RO.nil ?_
     | with_reducible refine ThenS.n ?_
     | with_reducible refine RS.block ?_
     | ((with_reducible refine' RO.lenL exts_ok ?hw ?hx ?hu ?hp ?_); (case hw | hx | hu | hp => exact rfl))
     | ((with_reducible refine' RO.ldN exts_ok ?hw ?hx ?hu ?hD ?hv ?hp ?_); (case hw | hx | hu | hD => exact rfl); (case hv => exact rfl); (case hp => exact rfl))
     | ((with_reducible refine' RO.step ?hw ?ho ?hp ?_); (case hw => exact rfl); (case ho => exact OSem.val exts_ok rfl); (case hp => exact rfl))
     | fail)
    refine RS.loop (σ := Nat) (fun k => k ≤ 2 ∧ (1 ≤ k → checkR ns = 0) ∧ (2 ≤ k → checkR ms = 0)) (fun k => [(2, .ptr 2 0), (3, .ptr 3 0), (12, .slice 4 0 2 1), (13, .int .i64 2), (14, .int .i64 (k : Int))]) (fun _ => sameH ns ms _ _) (fun k => 2 - k) 0 ⟨by omega, by omega, by omega⟩ ⟨[0, 1, 2, 3, 4], ⟨rfl, rfl, rfl, RenO.ro (RenVs.plain (cellsN_plain _)), RenO.ro (RenVs.plain (cellsN_plain _)), RenO.cells (RenVs.cons ru RenVs.nil), RenO.cells (RenVs.cons rv RenVs.nil), RenO.cells (RenVs.two ru rv), True.intro⟩, by (repeat' (first | exact True.intro | refine And.intro ?_ ?_ | exact ⟨_, rfl, RenV.plain rfl⟩ | exact ⟨_, rfl, RenV.slice rfl⟩ | exact ⟨_, rfl, RenV.ptr rfl⟩ | exact ⟨_, rfl, RenV.nilslice⟩))⟩ ?_
    rintro k ⟨h2, i1, i2⟩
    refine ⟨_, rfl, ?_⟩
    dsimp only [sameH]
    match k, h2, i1, i2 with
    | 0, _, _, _ =>
      repeat' (first
       | with_reducible refine RS.seq ?_
       | with_reducible refine RS.goL ?_
       | with_reducible refine RO.nil ?_
       | with_reducible refine ThenS.n ?_
       | with_reducible refine RS.block ?_
       | with_reducible refine InB.n ?_
       | with_reducible refine InB.r ?_
       | with_reducible refine ThenS.r ?_
       | with_reducible refine RS.skip ?_
       | with_reducible refine RS.ret ?_
       | with_reducible refine Rnd.r ?_
       | ((with_reducible refine RS.condT ?hb ?_); (case hb => exact rfl))
       | ((with_reducible refine RS.condF ?hb ?_); (case hb => exact rfl))
       | ((with_reducible refine' RO.fn (f := 26) exts_ok ?hw ?ha ?hf ?hs ?hp ?_); (case hw | ha | hf => exact rfl); (case hs => exact ca rfl rfl); (case hp => exact rfl))
       | (((with_reducible refine' RO.lss exts_ok ?hw ?hx ?hy ?hk ?hT ?hF (fun hc => ?_) (fun hc => ?_)); (case hw | hx | hy | hk | hT | hF => exact rfl)) <;> try (exfalso; first | omega | (simp at hc; done)))
       | (((with_reducible refine' RO.nei exts_ok ?hw ?hx ?hy ?hk ?hT ?hF (fun hc => ?_) (fun hc => ?_)); (case hw | hx | hy | hk | hT | hF => exact rfl)) <;> try (exfalso; first | omega | (simp at hc; done)))
       | ((with_reducible refine' RO.addI exts_ok ?hw ?hx ?hy ?hi ?hp ?_); (case hw | hx | hy => exact rfl); (case hi => omega); (case hp => exact rfl))
       | ((with_reducible refine' RO.idxL exts_ok ?hw ?hx ?hy ?hu ?hi ?hes ?hz ?hlt ?hp ?_); (case hw | hx | hy | hu | hi | hes => exact rfl); (case hz => exact rfl); (case hlt => omega); (case hp => exact rfl))
       | ((with_reducible refine' RO.ldN exts_ok ?hw ?hx ?hu ?hD ?hv ?hp ?_); (case hw | hx | hu | hD => exact rfl); (case hv => exact rfl); (case hp => exact rfl))
       | ((with_reducible refine' RO.step ?hw ?ho ?hp ?_); (case hw => exact rfl); (case ho => (first | exact OSem.val exts_ok rfl | exact OSem.skip exts_ok rfl)); (case hp => exact rfl))
       | fail)
      all_goals first
        | (obtain ⟨e1, e2⟩ := sameB_l (ms := ms) hc
           rw [e1, e2]
           exact ⟨rfl, _, rfl, [0, 1], ⟨rfl, rfl, rfl, RenO.ro (RenVs.plain (cellsN_plain _)), RenO.ro (RenVs.plain (cellsN_plain _)), True.intro⟩, RenV.tuple (RenVs.plain rfl)⟩)
        | (refine Rnd.n 1 [0, 1, 2, 3, 4] ⟨by omega, fun _ => by omega, by omega⟩ (by omega) ⟨rfl, rfl, rfl, RenO.ro (RenVs.plain (cellsN_plain _)), RenO.ro (RenVs.plain (cellsN_plain _)), RenO.cells (RenVs.cons ru RenVs.nil), RenO.cells (RenVs.cons rv RenVs.nil), RenO.cells (RenVs.two ru rv), True.intro⟩ ?_
           exact ⟨⟨_, rfl, RenV.ptr rfl⟩, ⟨_, rfl, RenV.ptr rfl⟩, ⟨_, rfl, RenV.slice rfl⟩, ⟨_, rfl, RenV.plain rfl⟩, ⟨_, rfl, RenV.eq (by simp) rfl⟩, True.intro⟩)
    | 1, _, i1, _ =>
      have h0 := i1 (by omega)
      repeat' (first
       | with_reducible refine RS.seq ?_
       | with_reducible refine RS.goL ?_
       | with_reducible refine RO.nil ?_
       | with_reducible refine ThenS.n ?_
       | with_reducible refine RS.block ?_
       | with_reducible refine InB.n ?_
       | with_reducible refine InB.r ?_
       | with_reducible refine ThenS.r ?_
       | with_reducible refine RS.skip ?_
       | with_reducible refine RS.ret ?_
       | with_reducible refine Rnd.r ?_
       | ((with_reducible refine RS.condT ?hb ?_); (case hb => exact rfl))
       | ((with_reducible refine RS.condF ?hb ?_); (case hb => exact rfl))
       | ((with_reducible refine' RO.fn (f := 26) exts_ok ?hw ?ha ?hf ?hs ?hp ?_); (case hw | ha | hf => exact rfl); (case hs => exact cb rfl rfl); (case hp => exact rfl))
       | (((with_reducible refine' RO.lss exts_ok ?hw ?hx ?hy ?hk ?hT ?hF (fun hc => ?_) (fun hc => ?_)); (case hw | hx | hy | hk | hT | hF => exact rfl)) <;> try (exfalso; first | omega | (simp at hc; done)))
       | (((with_reducible refine' RO.nei exts_ok ?hw ?hx ?hy ?hk ?hT ?hF (fun hc => ?_) (fun hc => ?_)); (case hw | hx | hy | hk | hT | hF => exact rfl)) <;> try (exfalso; first | omega | (simp at hc; done)))
       | ((with_reducible refine' RO.addI exts_ok ?hw ?hx ?hy ?hi ?hp ?_); (case hw | hx | hy => exact rfl); (case hi => omega); (case hp => exact rfl))
       | ((with_reducible refine' RO.idxL exts_ok ?hw ?hx ?hy ?hu ?hi ?hes ?hz ?hlt ?hp ?_); (case hw | hx | hy | hu | hi | hes => exact rfl); (case hz => exact rfl); (case hlt => omega); (case hp => exact rfl))
       | ((with_reducible refine' RO.ldN exts_ok ?hw ?hx ?hu ?hD ?hv ?hp ?_); (case hw | hx | hu | hD => exact rfl); (case hv => exact rfl); (case hp => exact rfl))
       | ((with_reducible refine' RO.step ?hw ?ho ?hp ?_); (case hw => exact rfl); (case ho => (first | exact OSem.val exts_ok rfl | exact OSem.skip exts_ok rfl)); (case hp => exact rfl))
       | fail)
      all_goals first
        | (obtain ⟨e1, e2⟩ := sameB_r h0 hc
           rw [e1, e2]
           exact ⟨rfl, _, rfl, [0, 1], ⟨rfl, rfl, rfl, RenO.ro (RenVs.plain (cellsN_plain _)), RenO.ro (RenVs.plain (cellsN_plain _)), True.intro⟩, RenV.tuple (RenVs.plain rfl)⟩)
        | (refine Rnd.n 2 [0, 1, 2, 3, 4] ⟨by omega, fun _ => h0, fun _ => by omega⟩ (by omega) ⟨rfl, rfl, rfl, RenO.ro (RenVs.plain (cellsN_plain _)), RenO.ro (RenVs.plain (cellsN_plain _)), RenO.cells (RenVs.cons ru RenVs.nil), RenO.cells (RenVs.cons rv RenVs.nil), RenO.cells (RenVs.two ru rv), True.intro⟩ ?_
           exact ⟨⟨_, rfl, RenV.ptr rfl⟩, ⟨_, rfl, RenV.ptr rfl⟩, ⟨_, rfl, RenV.slice rfl⟩, ⟨_, rfl, RenV.plain rfl⟩, ⟨_, rfl, RenV.eq (by simp) rfl⟩, True.intro⟩)
    | 2, _, i1, i2 =>
      have h0 := i1 (by omega)
      have h1 := i2 (by omega)
      obtain ⟨e1, e2⟩ := sameB_o h0 h1
      rw [e1, e2]
      repeat' (first
       | with_reducible refine RS.seq ?_
       | with_reducible refine RS.goL ?_
       | with_reducible refine RO.nil ?_
       | with_reducible refine ThenS.n ?_
       | with_reducible refine ThenS.e ?_
       | with_reducible refine RS.ret ?_
       | with_reducible refine RS.exit ?_
       | with_reducible refine Rnd.e ?_
       | ((with_reducible refine RS.condF ?hb ?_); (case hb => exact rfl))
       | ((with_reducible refine InB.e ?hb ?_); (case hb => exact rfl))
       | ((with_reducible refine' RO.fn (f := 89) exts_ok ?hw ?ha ?hf ?hs ?hp ?_); (case hw | ha | hf => exact rfl); (case hs => exact cc rfl rfl rfl rfl); (case hp => exact rfl))
       | (((with_reducible refine' RO.lss exts_ok ?hw ?hx ?hy ?hk ?hT ?hF (fun hc => ?_) (fun hc => ?_)); (case hw | hx | hy | hk | hT | hF => exact rfl)) <;> try (exfalso; first | omega | (simp at hc; done)))
       | ((with_reducible refine' RO.ld1 exts_ok ?hw ?hx ?hu ?hD ?hv ?hp ?_); (case hw | hx | hu | hD => exact rfl); (case hv => exact rfl); (case hp => exact rfl))
       | ((with_reducible refine' RO.step ?hw ?ho ?hp ?_); (case hw => exact rfl); (case ho => exact OSem.val exts_ok rfl); (case hp => exact rfl))
       | fail)
      exact ⟨rfl, _, rfl, [0, 1], ⟨rfl, rfl, rfl, RenO.ro (RenVs.plain (cellsN_plain _)), RenO.ro (RenVs.plain (cellsN_plain _)), True.intro⟩, RenV.tuple (RenVs.plain rfl)⟩
    | k + 3, h2, _, _ => exact absurd h2 (by omega)
set_option maxHeartbeats 4000000 in
theorem sem44 (ns ms : List Nd) (oa : NdOk ns) (ob : NdOk ms) (u v : AV) (tu : TF 0 ns u) (tv : TF 1 ms v) : CSem Tryz.prog 44 [.agg [u], .agg [v]] (twoH ns ms) (.tuple [.bool (sameB ns ms), .int .i64 (sameE ns ms)]) (twoH ns ms) := by
  have hl := oa.len
  refine CSem.into Tryz.func44 rfl (by decide) Tryz.ntmps44 rfl rfl rfl ?_
  dsimp only [twoH]
  by_cases h0 : checkR ns = 0
  · by_cases h1 : checkR ms = 0
    · obtain ⟨e1, e2⟩ := sameB_o h0 h1
      rw [e1, e2]
      repeat' (first
       | with_reducible refine RS.seq ?_
       | with_reducible refine RS.goL ?_
       | with_reducible refine RO.nil ?_
       | with_reducible refine ThenS.n ?_
       | with_reducible refine RS.skip ?_
       | with_reducible refine RS.ret ?_
       | ((with_reducible refine RS.condF ?hb ?_); (case hb => exact rfl))
       | ((with_reducible refine' RO.fn (f := 27) exts_ok ?hw ?ha ?hf ?hs ?hp ?_); (case hw | ha | hf => exact rfl); (case hs => exact tf27 oa tu rfl rfl); (case hp => exact rfl))
       | ((with_reducible refine' RO.fn (f := 27) exts_ok ?hw ?ha ?hf ?hs ?hp ?_); (case hw | ha | hf => exact rfl); (case hs => exact tf27 ob tv rfl rfl); (case hp => exact rfl))
       | ((with_reducible refine' RO.fn (f := 39) exts_ok ?hw ?ha ?hf ?hs ?hp ?_); (case hw | ha | hf => exact rfl); (case hs => exact tf39 (by omega) tu tv rfl rfl rfl rfl); (case hp => exact rfl))
       | (((with_reducible refine' RO.nei exts_ok ?hw ?hx ?hy ?hk ?hT ?hF (fun hc => ?_) (fun hc => ?_)); (case hw | hx | hy | hk | hT | hF => exact rfl)) <;> try (exfalso; first | omega | (simp at hc; done)))
       | ((with_reducible refine' RO.ldN exts_ok ?hw ?hx ?hu ?hD ?hv ?hp ?_); (case hw | hx | hu | hD => exact rfl); (case hv => exact rfl); (case hp => exact rfl))
       | ((with_reducible refine' RO.step ?hw ?ho ?hp ?_); (case hw => exact rfl); (case ho => exact OSem.val exts_ok rfl); (case hp => exact rfl))
       | fail)
      all_goals first
        | (exfalso; omega)
        | exact ⟨rfl, _, rfl, [0, 1], ⟨rfl, rfl, rfl, RenO.ro (RenVs.plain (cellsN_plain _)), RenO.ro (RenVs.plain (cellsN_plain _)), True.intro⟩, RenV.tuple (RenVs.plain rfl)⟩
    · obtain ⟨e1, e2⟩ := sameB_r h0 h1
      rw [e1, e2]
      repeat' (first
       | with_reducible refine RS.seq ?_
       | with_reducible refine RS.goL ?_
       | with_reducible refine RO.nil ?_
       | with_reducible refine ThenS.n ?_
       | with_reducible refine ThenS.r ?_
       | with_reducible refine RS.skip ?_
       | with_reducible refine RS.ret ?_
       | ((with_reducible refine RS.condT ?hb ?_); (case hb => exact rfl))
       | ((with_reducible refine RS.condF ?hb ?_); (case hb => exact rfl))
       | ((with_reducible refine' RO.fn (f := 27) exts_ok ?hw ?ha ?hf ?hs ?hp ?_); (case hw | ha | hf => exact rfl); (case hs => exact tf27 oa tu rfl rfl); (case hp => exact rfl))
       | ((with_reducible refine' RO.fn (f := 27) exts_ok ?hw ?ha ?hf ?hs ?hp ?_); (case hw | ha | hf => exact rfl); (case hs => exact tf27 ob tv rfl rfl); (case hp => exact rfl))
       | (((with_reducible refine' RO.nei exts_ok ?hw ?hx ?hy ?hk ?hT ?hF (fun hc => ?_) (fun hc => ?_)); (case hw | hx | hy | hk | hT | hF => exact rfl)) <;> try (exfalso; first | omega | (simp at hc; done)))
       | ((with_reducible refine' RO.ldN exts_ok ?hw ?hx ?hu ?hD ?hv ?hp ?_); (case hw | hx | hu | hD => exact rfl); (case hv => exact rfl); (case hp => exact rfl))
       | ((with_reducible refine' RO.step ?hw ?ho ?hp ?_); (case hw => exact rfl); (case ho => exact OSem.val exts_ok rfl); (case hp => exact rfl))
       | fail)
      all_goals first
        | (exfalso; omega)
        | exact ⟨rfl, _, rfl, [0, 1], ⟨rfl, rfl, rfl, RenO.ro (RenVs.plain (cellsN_plain _)), RenO.ro (RenVs.plain (cellsN_plain _)), True.intro⟩, RenV.tuple (RenVs.plain rfl)⟩
  · obtain ⟨e1, e2⟩ := sameB_l (ms := ms) h0
    rw [e1, e2]
    repeat' (first
     | with_reducible refine RS.seq ?_
     | with_reducible refine RS.goL ?_
     | with_reducible refine RO.nil ?_
     | with_reducible refine ThenS.n ?_
     | with_reducible refine ThenS.r ?_
     | with_reducible refine RS.ret ?_
     | ((with_reducible refine RS.condT ?hb ?_); (case hb => exact rfl))
     | ((with_reducible refine' RO.fn (f := 27) exts_ok ?hw ?ha ?hf ?hs ?hp ?_); (case hw | ha | hf => exact rfl); (case hs => exact tf27 oa tu rfl rfl); (case hp => exact rfl))
     | (((with_reducible refine' RO.nei exts_ok ?hw ?hx ?hy ?hk ?hT ?hF (fun hc => ?_) (fun hc => ?_)); (case hw | hx | hy | hk | hT | hF => exact rfl)) <;> try (exfalso; first | omega | (simp at hc; done)))
     | ((with_reducible refine' RO.ldN exts_ok ?hw ?hx ?hu ?hD ?hv ?hp ?_); (case hw | hx | hu | hD => exact rfl); (case hv => exact rfl); (case hp => exact rfl))
     | ((with_reducible refine' RO.step ?hw ?ho ?hp ?_); (case hw => exact rfl); (case ho => exact OSem.val exts_ok rfl); (case hp => exact rfl))
     | fail)
    all_goals first
      | (exfalso; omega)
      | exact ⟨rfl, _, rfl, [0, 1], ⟨rfl, rfl, rfl, RenO.ro (RenVs.plain (cellsN_plain _)), RenO.ro (RenVs.plain (cellsN_plain _)), True.intro⟩, RenV.tuple (RenVs.plain rfl)⟩
theorem upTF {f i j : Nat} {ns ms : List Nd} {u v w : AV} (c : ∀ u v, TF 0 ns u → TF 1 ms v → CSem Tryz.prog f [.agg [u], .agg [v]] (twoH ns ms) w (twoH ns ms)) (hw : RenV [i, j] w w) (tu : TF i ns u) (tv : TF j ms v) {h : Heap} (hi : Nat.blt i h.next = true) (ht : tells (h.objs.get i) (cellsN ns)) (hj : Nat.blt j h.next = true) (htj : tells (h.objs.get j) (cellsN ms)) :
    CSem Tryz.prog f [.agg [u], .agg [v]] h w h := by
  have key : ∀ u0 v0, TF 0 ns u0 → TF 1 ms v0 → RenV [i, j] u u0 → RenV [i, j] v v0 → CSem Tryz.prog f [.agg [u], .agg [v]] h w h := fun u0 v0 t0 t1 r0 r1 =>
    CSem.up (c u0 v0 t0 t1) [i, j] [] rfl (by simp only [List.all_cons, hi, hj, List.all_nil, Bool.and_true]) ⟨⟨cellsN_plain ns, ht⟩, ⟨cellsN_plain ms, htj⟩, True.intro⟩ (RenVs.two (RenV.agg1 r0) (RenV.agg1 r1)) True.intro rfl rfl hw
  cases tu with
  | nil e =>
    cases tv with
    | nil e' => exact key _ _ (TF.nil e) (TF.nil e') RenV.nilslice RenV.nilslice
    | sl => exact key _ _ (TF.nil e) TF.sl RenV.nilslice (RenV.slice rfl)
  | sl =>
    cases tv with
    | nil e' => exact key _ _ TF.sl (TF.nil e') (RenV.slice rfl) RenV.nilslice
    | sl => exact key _ _ TF.sl TF.sl (RenV.slice rfl) (RenV.slice rfl)
end Go.Am
