/- Part of the proof: WqI. -/
import Derived.Test.YtijdeggmmpfjeaaGreatDoorQ4
set_option linter.unusedSimpArgs false
set_option linter.unusedVariables false
set_option linter.unusedSectionVars false
namespace Go.Am
open Go Go.Proofs Go.RowKit Go.Pu
set_option maxRecDepth 1000000
theorem PF.form {i : Nat} {l : List Int} {v : AV} (p : PF i l v) : v = .nilslice ∧ l = [] ∨ v = .slice i 0 l.length 1 := by
  cases p with
  | nil e => exact .inl ⟨rfl, e⟩
  | sl => exact .inr rfl
section
variable {P : Program} {N n : Nat} {ops : Array Oper} {l : List Oper} {env env1 : Env} {h h1 : Heap} {Post : APost} {ext : FuncId → Bool} {d : Option Tmp} {ty : TypeId} {pos : String} {af : Array Edge} {gd : Option (Nat × Bool)}
theorem RO.appN0 (hext : ExtOk P ext) {t u e : TypeId} {x y : Operand} {inf : TypeInfo} {z : AV} {es q k : Nat} (hw : awanted ops (aeval env) (⟨d, .call ⟨.builtin .append, #[x, y], #[t, u]⟩, ty, pos, af, gd⟩ : Oper) = some true) (hx : aeval env x = some .nilslice) (hy : aeval env y = some (.slice q k 0 es)) (ht : P.underlying t = some (.slice e)) (hu : P.underlying u = some (.slice e)) (hi : P.info? e = some inf) (hz : azero P e = some z) (hzl : Nat.beq z.cells.length es = true) (hes : P.cellsOf e = es) (he0 : Nat.blt 0 es = true) (hn : acells h q (k * es) 0 = some []) (hp : aput env n d .nilslice = some env1) (r : RO P N n ops l env1 h Post) : RO P N n ops ((⟨d, .call ⟨.builtin .append, #[x, y], #[t, u]⟩, ty, pos, af, gd⟩ : Oper) :: l) env h Post :=
  RO.step hw (OSem.app hext rfl rfl rfl hx hy (aappend_none ht hu hi hz hzl hes he0 hn)) hp r
end
set_option maxHeartbeats 16000000 in
theorem sem15a (ns : List Nd) (ia : NdIn ns) (node : Int) (hr : -9223372036854775808 ≤ node ∧ node < 9223372036854775808) (l : List Int) (u v : AV) (tu : TF 0 ns u) (pv : PF 1 l v) (h : thinB ns = false ∨ 40 < l.length) : CSem Tryz.prog 15 [.agg [u], .int .i64 node, v] (pzH ns l) (.bool true) (pzH ns l) := by
  have hT : ∀ {b : Bool}, thinB ns = b → ∀ {h : Heap}, Nat.blt 0 h.next = true → tells (h.objs.get 0) (cellsN ns) → CSem Tryz.prog 24 [.agg [u]] h (.bool b) h := fun e _ hi h2 => e ▸ tf24 tu hi h2
  have hl : thinB ns = true → 40 < l.length := fun ht => h.resolve_left (by rw [ht]; intro e; cases e)
  cases ht : thinB ns
  all_goals
    rcases pv.form with ⟨rfl, rfl⟩ | rfl
    all_goals
      rcases tu.form with rfl | rfl
      all_goals
        refine CSem.into Tryz.func15 rfl (by decide) Tryz.ntmps15 rfl rfl rfl ?_
        dsimp only [pzH]
        repeat' (first
         | with_reducible refine RS.seq ?_
         | with_reducible refine RS.goL ?_
         | with_reducible refine RO.nil ?_
         | with_reducible refine ThenS.n ?_
         | with_reducible refine ThenS.r ?_
         | with_reducible refine RS.skip ?_
         | with_reducible refine RS.ret ?_
         | ((with_reducible refine RS.condT ?hb ?_); (case hb => exact rfl))
         | ((with_reducible refine RS.condF ?hb ?_); (case hb => exact rfl))
         | ((with_reducible refine' RO.fn (f := 24) exts_ok ?hw ?ha ?hf ?hs ?hp ?_); (case hw | ha | hf => exact rfl); (case hs => exact hT ht rfl rfl); (case hp => exact rfl))
         | ((with_reducible refine' RO.fn (f := 20) exts_ok ?hw ?ha ?hf ?hs ?hp ?_); (case hw | ha | hf => exact rfl); (case hs => exact sem20 _); (case hp => exact rfl))
         | ((with_reducible refine' RO.skip ?hw ?hp ?_); (case hw => exact rfl); (case hp => exact rfl))
         | (((with_reducible refine' RO.gtr exts_ok ?hw ?hx ?hy ?hk ?hT ?hF (fun hc => ?_) (fun hc => ?_)); (case hw | hx | hy | hk | hT | hF => exact rfl)) <;> try (exfalso; first | omega | (simp at hc; done)))
         | ((with_reducible refine' RO.lenL exts_ok ?hw ?hx ?hu ?hp ?_); (case hw | hx | hu | hp => exact rfl))
         | ((with_reducible refine' RO.ldN exts_ok ?hw ?hx ?hu ?hD ?hv ?hp ?_); (case hw | hx | hu | hD => exact rfl); (case hv => exact rfl); (case hp => exact rfl))
         | ((with_reducible refine' RO.step ?hw ?ho ?hp ?_); (case hw => exact rfl); (case ho => exact OSem.val exts_ok rfl); (case hp => exact rfl))
         | fail)
        all_goals first
          | (exfalso; have := hl ht; simp at this; done)
          | (exfalso; have := hl ht; omega)
          | (exfalso; omega)
          | exact ⟨rfl, _, rfl, [0, 1], ⟨rfl, rfl, rfl, RenO.ro (RenVs.plain (cellsN_plain _)), RenO.ro (RenVs.plain (cellsZ_plain _)), True.intro⟩, RenV.plain rfl⟩
          | exact ⟨rfl, _, rfl, [0, 1], ⟨rfl, rfl, rfl, RenO.ro (RenVs.plain (cellsN_plain _)), RenO.ro (RenVs.plain rfl), True.intro⟩, RenV.plain rfl⟩
set_option maxHeartbeats 16000000 in
theorem sem15e0 (ns : List Nd) (ia : NdIn ns) (node : Int) (hr : -9223372036854775808 ≤ node ∧ node < 9223372036854775808) (l : List Int) (u v : AV) (tu : TF 0 ns u) (pv : PF 1 l v) (ht : thinB ns = true) (hl : l.length ≤ 40) (he : findR ns node ≠ 0) (e : ns = []) : CSem Tryz.prog 15 [.agg [u], .int .i64 node, v] (pzH ns l) (.bool true) (pzH ns l) := by
  have hT : ∀ {h : Heap}, Nat.blt 0 h.next = true → tells (h.objs.get 0) (cellsN ns) → CSem Tryz.prog 24 [.agg [u]] h (.bool true) h := fun hi h2 => ht ▸ tf24 tu hi h2
  have ok := thin_ok ia ht
  have hla := ok.len
  have hl1 : l.length ≤ 1000 := by omega
  subst e
  have kc : ∀ {h : Heap}, tells (h.objs.get 0) (cellsN []) → CSem Tryz.prog 25 [.agg [u]] h (.agg [.nilslice]) h := fun h2 => tf25 tu h2
  have hv : v = .nilslice ∧ l = [] ∨ v = .slice 1 0 0 1 ∧ l = [] ∨ ∃ z0 zs0, v = .slice 1 0 (z0 :: zs0).length 1 ∧ l = z0 :: zs0 := by
    cases pv with
    | nil e => exact .inl ⟨rfl, e⟩
    | sl => cases l with
      | nil => exact .inr (.inl ⟨rfl, rfl⟩)
      | cons z zs => exact .inr (.inr ⟨z, zs, rfl, rfl⟩)
  rcases hv with ⟨rfl, rfl⟩ | ⟨rfl, rfl⟩ | ⟨z0, zs0, rfl, rfl⟩
  all_goals
    try simp only [List.length_cons] at hl
    rcases tu.form with rfl | rfl
    all_goals
      refine CSem.into Tryz.func15 rfl (by decide) Tryz.ntmps15 rfl rfl rfl ?_
      dsimp only [pzH]
      repeat' (first
       | with_reducible refine RS.seq ?_
       | with_reducible refine RS.goL ?_
       | with_reducible refine RO.nil ?_
       | with_reducible refine ThenS.n ?_
       | with_reducible refine ThenS.r ?_
       | with_reducible refine RS.skip ?_
       | with_reducible refine RS.ret ?_
       | ((with_reducible refine RS.condT ?hb ?_); (case hb => exact rfl))
       | ((with_reducible refine RS.condF ?hb ?_); (case hb => exact rfl))
       | ((with_reducible refine' RO.fn (f := 24) exts_ok ?hw ?ha ?hf ?hs ?hp ?_); (case hw | ha | hf => exact rfl); (case hs => exact hT rfl rfl); (case hp => exact rfl))
       | ((with_reducible refine' RO.fn (f := 25) exts_ok ?hw ?ha ?hf ?hs ?hp ?_); (case hw | ha | hf => exact rfl); (case hs => exact kc rfl); (case hp => exact rfl))
       | ((with_reducible refine' RO.fn (f := 46) exts_ok ?hw ?ha ?hf ?hs ?hp ?_); (case hw | ha | hf => exact rfl); (case hs => exact t46e ok hr he (TF.nil rfl) (i := 0) rfl rfl); (case hp => exact rfl))
       | ((with_reducible refine' RO.fn (f := 47) exts_ok ?hw ?ha ?hf ?hs ?hp ?_); (case hw | ha | hf => exact rfl); (case hs => exact t47e ok hr he (TF.nil rfl) (i := 0) rfl rfl); (case hp => exact rfl))
       | ((with_reducible refine' RO.fn (f := 48) exts_ok ?hw ?ha ?hf ?hs ?hp ?_); (case hw | ha | hf => exact rfl); (case hs => exact t48e ok hr he (TF.nil rfl) (i := 0) rfl rfl); (case hp => exact rfl))
       | ((with_reducible refine' RO.appN0 exts_ok ?hw ?hx ?hy ?ht ?hu ?hi ?hz ?hzl ?hes ?he0 ?hn ?hp ?_); (case hw | hx | hy | ht | hu | hi | hz | hzl | hes | he0 | hn | hp => exact rfl))
       | ((with_reducible refine' RO.app0 exts_ok ?hw ?hx ?hy ?ht ?hu ?hi ?hz ?hzl ?hes ?he0 ?hn ?hone ?hm ?hb ?hb2 ?ha ?hp ?_); (case hw | hx | hy | ht | hu | hi | hz | hzl | hes | he0 => exact rfl); (case hn => exact takeN_all (by (show _ * 1 = _; simp [cellsZ_len]))); (case hone => exact cellsZ_ones _); (case hm => simp); (case hb => (simp only [List.length_cons]; omega)); (case hb2 => (show _ * 8 ≤ _; (simp only [List.length_cons]; omega))); (case ha | hp => exact rfl))
       | ((with_reducible refine' RO.fn (f := 49) exts_ok ?hw ?ha ?hf ?hs ?hp ?_); (case hw | ha | hf => exact rfl); (case hs => exact tf49 ok hl1 (TF.nil rfl) PF.sl (i := 0) rfl rfl rfl rfl); (case hp => exact rfl))
       | ((with_reducible refine' RO.fn (f := 49) exts_ok ?hw ?ha ?hf ?hs ?hp ?_); (case hw | ha | hf => exact rfl); (case hs => exact tf49 ok hl1 (TF.nil rfl) (PF.nil rfl) (i := 0) (j := 1) rfl rfl rfl rfl); (case hp => exact rfl))
       | ((with_reducible refine' RO.fn (f := 50) exts_ok ?hw ?ha ?hf ?hs ?hp ?_); (case hw | ha | hf => exact rfl); (case hs => exact tf50 ok hl1 tu pv rfl rfl rfl rfl); (case hp => exact rfl))
       | ((with_reducible refine' RO.fn (f := 51) exts_ok ?hw ?ha ?hf ?hs ?hp ?_); (case hw | ha | hf => exact rfl); (case hs => exact tf51 ok hr tu rfl rfl); (case hp => exact rfl))
       | ((with_reducible refine' RO.fn (f := 20) exts_ok ?hw ?ha ?hf ?hs ?hp ?_); (case hw | ha | hf => exact rfl); (case hs => exact sem20 _); (case hp => exact rfl))
       | (((with_reducible refine' RO.gtr exts_ok ?hw ?hx ?hy ?hk ?hT ?hF (fun hc => ?_) (fun hc => ?_)); (case hw | hx | hy | hk | hT | hF => exact rfl)) <;> try (exfalso; first | omega | (simp at hc; done)))
       | (((with_reducible refine' RO.eqi exts_ok ?hw ?hx ?hy ?hk ?hT ?hF (fun hc => ?_) (fun hc => ?_)); (case hw | hx | hy | hk | hT | hF => exact rfl)) <;> try (exfalso; first | omega | (simp at hc; done)))
       | (((with_reducible refine' RO.nei exts_ok ?hw ?hx ?hy ?hk ?hT ?hF (fun hc => ?_) (fun hc => ?_)); (case hw | hx | hy | hk | hT | hF => exact rfl)) <;> try (exfalso; first | omega | (simp at hc; done)))
       | ((with_reducible refine' RO.lenL exts_ok ?hw ?hx ?hu ?hp ?_); (case hw | hx | hu | hp => exact rfl))
       | ((with_reducible refine' RO.ldN exts_ok ?hw ?hx ?hu ?hD ?hv ?hp ?_); (case hw | hx | hu | hD => exact rfl); (case hv => exact rfl); (case hp => exact rfl))
       | ((with_reducible refine' RO.step ?hw ?ho ?hp ?_); (case hw => exact rfl); (case ho => exact OSem.val exts_ok rfl); (case hp => exact rfl))
       | fail)
      all_goals first
        | (exfalso; omega)
        | exact ⟨rfl, _, rfl, [0, 1], ⟨rfl, rfl, rfl, RenO.ro (RenVs.plain (cellsN_plain _)), RenO.ro (RenVs.plain rfl), True.intro⟩, RenV.plain rfl⟩
        | exact ⟨rfl, _, rfl, [0, 1], ⟨rfl, rfl, rfl, RenO.ro (RenVs.plain (cellsN_plain _)), RenO.ro (RenVs.plain (cellsZ_plain (_ :: _))), True.intro⟩, RenV.plain rfl⟩
set_option maxHeartbeats 16000000 in
theorem sem15e1 (ns : List Nd) (ia : NdIn ns) (node : Int) (hr : -9223372036854775808 ≤ node ∧ node < 9223372036854775808) (l : List Int) (v : AV) (pv : PF 1 l v) (ht : thinB ns = true) (hl : l.length ≤ 40) (he : findR ns node ≠ 0) (hne : ns.length ≠ 0) : CSem Tryz.prog 15 [.agg [.slice 0 0 ns.length 5], .int .i64 node, v] (pzH ns l) (.bool true) (pzH ns l) := by
  have hT : ∀ {h : Heap}, Nat.blt 0 h.next = true → tells (h.objs.get 0) (cellsN ns) → CSem Tryz.prog 24 [.agg [.slice 0 0 ns.length 5]] h (.bool true) h := fun hi h2 => ht ▸ tf24 TF.sl hi h2
  have ok := thin_ok ia ht
  have hla := ok.len
  have hl1 : l.length ≤ 1000 := by omega
  have hv : v = .nilslice ∧ l = [] ∨ v = .slice 1 0 0 1 ∧ l = [] ∨ ∃ z0 zs0, v = .slice 1 0 (z0 :: zs0).length 1 ∧ l = z0 :: zs0 := by
    cases pv with
    | nil e => exact .inl ⟨rfl, e⟩
    | sl => cases l with
      | nil => exact .inr (.inl ⟨rfl, rfl⟩)
      | cons z zs => exact .inr (.inr ⟨z, zs, rfl, rfl⟩)
  rcases hv with ⟨rfl, rfl⟩ | ⟨rfl, rfl⟩ | ⟨z0, zs0, rfl, rfl⟩
  all_goals
    try simp only [List.length_cons] at hl
    all_goals
      refine CSem.into Tryz.func15 rfl (by decide) Tryz.ntmps15 rfl rfl rfl ?_
      dsimp only [pzH]
      repeat' (first
       | with_reducible refine RS.seq ?_
       | with_reducible refine RS.goL ?_
       | with_reducible refine RO.nil ?_
       | with_reducible refine ThenS.n ?_
       | with_reducible refine ThenS.r ?_
       | with_reducible refine RS.skip ?_
       | with_reducible refine RS.ret ?_
       | ((with_reducible refine RS.condT ?hb ?_); (case hb => exact rfl))
       | ((with_reducible refine RS.condF ?hb ?_); (case hb => exact rfl))
       | ((with_reducible refine' RO.fn (f := 24) exts_ok ?hw ?ha ?hf ?hs ?hp ?_); (case hw | ha | hf => exact rfl); (case hs => exact hT rfl rfl); (case hp => exact rfl))
       | ((with_reducible refine' RO.fn (f := 25) exts_ok ?hw ?ha ?hf ?hs ?hp ?_); (case hw | ha | hf => exact rfl); (case hs => exact at25 hne hla rfl rfl rfl); (case hp => exact rfl))
       | ((with_reducible refine' RO.fn (f := 46) exts_ok ?hw ?ha ?hf ?hs ?hp ?_); (case hw | ha | hf => exact rfl); (case hs => exact t46e ok hr he TF.sl rfl rfl); (case hp => exact rfl))
       | ((with_reducible refine' RO.fn (f := 47) exts_ok ?hw ?ha ?hf ?hs ?hp ?_); (case hw | ha | hf => exact rfl); (case hs => exact t47e ok hr he TF.sl rfl rfl); (case hp => exact rfl))
       | ((with_reducible refine' RO.fn (f := 48) exts_ok ?hw ?ha ?hf ?hs ?hp ?_); (case hw | ha | hf => exact rfl); (case hs => exact t48e ok hr he TF.sl rfl rfl); (case hp => exact rfl))
       | ((with_reducible refine' RO.appN0 exts_ok ?hw ?hx ?hy ?ht ?hu ?hi ?hz ?hzl ?hes ?he0 ?hn ?hp ?_); (case hw | hx | hy | ht | hu | hi | hz | hzl | hes | he0 | hn | hp => exact rfl))
       | ((with_reducible refine' RO.app0 exts_ok ?hw ?hx ?hy ?ht ?hu ?hi ?hz ?hzl ?hes ?he0 ?hn ?hone ?hm ?hb ?hb2 ?ha ?hp ?_); (case hw | hx | hy | ht | hu | hi | hz | hzl | hes | he0 => exact rfl); (case hn => exact takeN_all (by (show _ * 1 = _; simp [cellsZ_len]))); (case hone => exact cellsZ_ones _); (case hm => simp); (case hb => (simp only [List.length_cons]; omega)); (case hb2 => (show _ * 8 ≤ _; (simp only [List.length_cons]; omega))); (case ha | hp => exact rfl))
       | ((with_reducible refine' RO.fn (f := 49) exts_ok ?hw ?ha ?hf ?hs ?hp ?_); (case hw | ha | hf => exact rfl); (case hs => exact tf49 ok hl1 TF.sl PF.sl rfl rfl rfl rfl); (case hp => exact rfl))
       | ((with_reducible refine' RO.fn (f := 49) exts_ok ?hw ?ha ?hf ?hs ?hp ?_); (case hw | ha | hf => exact rfl); (case hs => exact tf49 ok hl1 TF.sl (PF.nil rfl) (j := 1) rfl rfl rfl rfl); (case hp => exact rfl))
       | ((with_reducible refine' RO.fn (f := 50) exts_ok ?hw ?ha ?hf ?hs ?hp ?_); (case hw | ha | hf => exact rfl); (case hs => exact tf50 ok hl1 TF.sl pv rfl rfl rfl rfl); (case hp => exact rfl))
       | ((with_reducible refine' RO.fn (f := 51) exts_ok ?hw ?ha ?hf ?hs ?hp ?_); (case hw | ha | hf => exact rfl); (case hs => exact tf51 ok hr TF.sl rfl rfl); (case hp => exact rfl))
       | ((with_reducible refine' RO.fn (f := 20) exts_ok ?hw ?ha ?hf ?hs ?hp ?_); (case hw | ha | hf => exact rfl); (case hs => exact sem20 _); (case hp => exact rfl))
       | (((with_reducible refine' RO.gtr exts_ok ?hw ?hx ?hy ?hk ?hT ?hF (fun hc => ?_) (fun hc => ?_)); (case hw | hx | hy | hk | hT | hF => exact rfl)) <;> try (exfalso; first | omega | (simp at hc; done)))
       | (((with_reducible refine' RO.eqi exts_ok ?hw ?hx ?hy ?hk ?hT ?hF (fun hc => ?_) (fun hc => ?_)); (case hw | hx | hy | hk | hT | hF => exact rfl)) <;> try (exfalso; first | omega | (simp at hc; done)))
       | (((with_reducible refine' RO.nei exts_ok ?hw ?hx ?hy ?hk ?hT ?hF (fun hc => ?_) (fun hc => ?_)); (case hw | hx | hy | hk | hT | hF => exact rfl)) <;> try (exfalso; first | omega | (simp at hc; done)))
       | ((with_reducible refine' RO.lenL exts_ok ?hw ?hx ?hu ?hp ?_); (case hw | hx | hu | hp => exact rfl))
       | ((with_reducible refine' RO.ldN exts_ok ?hw ?hx ?hu ?hD ?hv ?hp ?_); (case hw | hx | hu | hD => exact rfl); (case hv => exact rfl); (case hp => exact rfl))
       | ((with_reducible refine' RO.step ?hw ?ho ?hp ?_); (case hw => exact rfl); (case ho => exact OSem.val exts_ok rfl); (case hp => exact rfl))
       | fail)
      all_goals first
        | (exfalso; omega)
        | exact ⟨rfl, _, rfl, [0, 1], ⟨rfl, rfl, rfl, RenO.ro (RenVs.plain (cellsN_plain _)), RenO.ro (RenVs.plain rfl), True.intro⟩, RenV.plain rfl⟩
        | exact ⟨rfl, _, rfl, [0, 1], ⟨rfl, rfl, rfl, RenO.ro (RenVs.plain (cellsN_plain _)), RenO.ro (RenVs.plain (cellsZ_plain (_ :: _))), True.intro⟩, RenV.plain rfl⟩
set_option maxHeartbeats 32000000 in
theorem sem15k (ns : List Nd) (ia : NdIn ns) (node : Nat) (l : List Int) (v : AV) (pv : PF 1 l v) (ht : thinB ns = true) (hl : l.length ≤ 40) (h0 : checkR ns = 0) (hn : node < ns.length) : CSem Tryz.prog 15 [.agg [.slice 0 0 ns.length 5], .int .i64 (node : Int), v] (pzH ns l) (.bool true) (pzH ns l) := by
  have hT : ∀ {h : Heap}, Nat.blt 0 h.next = true → tells (h.objs.get 0) (cellsN ns) → CSem Tryz.prog 24 [.agg [.slice 0 0 ns.length 5]] h (.bool true) h := fun hi h2 => ht ▸ tf24 TF.sl hi h2
  have ok := thin_ok ia ht
  have hla := ok.len
  have hl1 : l.length ≤ 1000 := by omega
  have hne : ns.length ≠ 0 := by omega
  have cf : ∀ {h : Heap}, Nat.blt 0 h.next = true → tells (h.objs.get 0) (cellsN ns) → CSem Tryz.prog 51 [.agg [.slice 0 0 ns.length 5], .int .i64 (node : Int)] h (.int .i64 0) h := fun hi ht => by
    have := tf51 ok (node := (node : Int)) (by omega) (TF.sl (i := 0)) hi ht
    rwa [findR_z h0 (by omega)] at this
  have hkl : (kidsOf (sizes ns) node).length ≤ 1000 := by
    have := kidsOf_len (sizes ns) node
    have hz : (sizes ns).length = ns.length := by simp [sizes]
    omega
  have hpl : (pathOf ns node).length ≤ 1000 := by
    unfold pathOf
    rw [List.length_reverse, stepsF_len]
    have := ancF_len (sizeAt ns) node node
    omega
  generalize hk : kidsOf (sizes ns) node = ks at hkl
  generalize hp : pathOf ns node = ps at hpl
  have hv : v = .nilslice ∧ l = [] ∨ v = .slice 1 0 0 1 ∧ l = [] ∨ ∃ z0 zs0, v = .slice 1 0 (z0 :: zs0).length 1 ∧ l = z0 :: zs0 := by
    cases pv with
    | nil e => exact .inl ⟨rfl, e⟩
    | sl => cases l with
      | nil => exact .inr (.inl ⟨rfl, rfl⟩)
      | cons z zs => exact .inr (.inr ⟨z, zs, rfl, rfl⟩)
  rcases hv with ⟨rfl, rfl⟩ | ⟨rfl, rfl⟩ | ⟨z0, zs0, rfl, rfl⟩
  all_goals
    try simp only [List.length_cons] at hl
    cases ks
    all_goals
      cases ps
      all_goals
        refine CSem.into Tryz.func15 rfl (by decide) Tryz.ntmps15 rfl rfl rfl ?_
        dsimp only [pzH]
        repeat' (first
         | with_reducible refine RS.seq ?_
         | with_reducible refine RS.goL ?_
         | with_reducible refine RO.nil ?_
         | with_reducible refine ThenS.n ?_
         | with_reducible refine ThenS.r ?_
         | with_reducible refine RS.skip ?_
         | with_reducible refine RS.ret ?_
         | ((with_reducible refine RS.condT ?hb ?_); (case hb => exact rfl))
         | ((with_reducible refine RS.condF ?hb ?_); (case hb => exact rfl))
         | ((with_reducible refine' RO.fn (f := 24) exts_ok ?hw ?ha ?hf ?hs ?hp ?_); (case hw | ha | hf => exact rfl); (case hs => exact hT rfl rfl); (case hp => exact rfl))
         | ((with_reducible refine' RO.fn (f := 25) exts_ok ?hw ?ha ?hf ?hs ?hp ?_); (case hw | ha | hf => exact rfl); (case hs => exact at25 hne hla rfl rfl rfl); (case hp => exact rfl))
         | ((with_reducible refine' RO.fn (f := 46) exts_ok ?hw ?ha ?hf ?hs ?hp ?_); (case hw | ha | hf => exact rfl); (case hs => exact t46n ok h0 hn hk rfl rfl); (case hp => exact rfl))
         | ((with_reducible refine' RO.fn (f := 46) exts_ok ?hw ?ha ?hf ?hs ?hp ?_); (case hw | ha | hf => exact rfl); (case hs => exact t46c ok h0 hn hk rfl rfl rfl); (case hp => exact rfl))
         | ((with_reducible refine' RO.fn (f := 47) exts_ok ?hw ?ha ?hf ?hs ?hp ?_); (case hw | ha | hf => exact rfl); (case hs => exact t47 ok h0 hn rfl rfl); (case hp => exact rfl))
         | ((with_reducible refine' RO.fn (f := 48) exts_ok ?hw ?ha ?hf ?hs ?hp ?_); (case hw | ha | hf => exact rfl); (case hs => exact t48n ok h0 hn hp rfl rfl); (case hp => exact rfl))
         | ((with_reducible refine' RO.fn (f := 48) exts_ok ?hw ?ha ?hf ?hs ?hp ?_); (case hw | ha | hf => exact rfl); (case hs => exact t48c ok h0 hn hp rfl rfl rfl); (case hp => exact rfl))
         | ((with_reducible refine' RO.appN0 exts_ok ?hw ?hx ?hy ?ht ?hu ?hi ?hz ?hzl ?hes ?he0 ?hn ?hp ?_); (case hw | hx | hy | ht | hu | hi | hz | hzl | hes | he0 | hn | hp => exact rfl))
         | ((with_reducible refine' RO.app0 exts_ok ?hw ?hx ?hy ?ht ?hu ?hi ?hz ?hzl ?hes ?he0 ?hn ?hone ?hm ?hb ?hb2 ?ha ?hp ?_); (case hw | hx | hy | ht | hu | hi | hz | hzl | hes | he0 => exact rfl); (case hn => exact takeN_all (by (show _ * 1 = _; simp [cellsZ_len]))); (case hone => exact cellsZ_ones _); (case hm => simp); (case hb => (simp only [List.length_cons]; omega)); (case hb2 => (show _ * 8 ≤ _; (simp only [List.length_cons]; omega))); (case ha | hp => exact rfl))
         | ((with_reducible refine' RO.fn (f := 49) exts_ok ?hw ?ha ?hf ?hs ?hp ?_); (case hw | ha | hf => exact rfl); (case hs => exact tf49 ok hl1 TF.sl PF.sl rfl rfl rfl rfl); (case hp => exact rfl))
         | ((with_reducible refine' RO.fn (f := 49) exts_ok ?hw ?ha ?hf ?hs ?hp ?_); (case hw | ha | hf => exact rfl); (case hs => exact tf49 ok hl1 TF.sl (PF.nil rfl) (j := 1) rfl rfl rfl rfl); (case hp => exact rfl))
         | ((with_reducible refine' RO.fn (f := 50) exts_ok ?hw ?ha ?hf ?hs ?hp ?_); (case hw | ha | hf => exact rfl); (case hs => exact tf50 ok hl1 TF.sl pv rfl rfl rfl rfl); (case hp => exact rfl))
         | ((with_reducible refine' RO.fn (f := 51) exts_ok ?hw ?ha ?hf ?hs ?hp ?_); (case hw | ha | hf => exact rfl); (case hs => exact cf rfl rfl); (case hp => exact rfl))
         | ((with_reducible refine' RO.fn (f := 40) exts_ok ?hw ?ha ?hf ?hs ?hp ?_); (case hw | ha | hf => exact rfl); (case hs => exact t40n ok h0 hn hk rfl rfl); (case hp => exact rfl))
         | ((with_reducible refine' RO.fn (f := 40) exts_ok ?hw ?ha ?hf ?hs ?hp ?_); (case hw | ha | hf => exact rfl); (case hs => exact t40c ok h0 hn hk rfl rfl rfl); (case hp => exact rfl))
         | ((with_reducible refine' RO.fn (f := 53) exts_ok ?hw ?ha ?hf ?hs ?hp ?_); (case hw | ha | hf => exact rfl); (case hs => exact t53 ok h0 hn rfl rfl); (case hp => exact rfl))
         | ((with_reducible refine' RO.fn (f := 54) exts_ok ?hw ?ha ?hf ?hs ?hp ?_); (case hw | ha | hf => exact rfl); (case hs => exact t54n ok h0 hn hp rfl rfl); (case hp => exact rfl))
         | ((with_reducible refine' RO.fn (f := 54) exts_ok ?hw ?ha ?hf ?hs ?hp ?_); (case hw | ha | hf => exact rfl); (case hs => exact t54c ok h0 hn hp rfl rfl rfl); (case hp => exact rfl))
         | ((with_reducible refine' RO.fn (f := 52) exts_ok ?hw ?ha ?hf ?hs ?hp ?_); (case hw | ha | hf => exact rfl); (case hs => exact i52I hkl rfl rfl rfl rfl); (case hp => exact rfl))
         | ((with_reducible refine' RO.fn (f := 52) exts_ok ?hw ?ha ?hf ?hs ?hp ?_); (case hw | ha | hf => exact rfl); (case hs => exact i52Z hpl rfl rfl rfl rfl); (case hp => exact rfl))
         | ((with_reducible refine' RO.fn (f := 52) exts_ok ?hw ?ha ?hf ?hs ?hp ?_); (case hw | ha | hf => exact rfl); (case hs => exact sem52n _); (case hp => exact rfl))
         | ((with_reducible refine' RO.fn (f := 20) exts_ok ?hw ?ha ?hf ?hs ?hp ?_); (case hw | ha | hf => exact rfl); (case hs => exact sem20 _); (case hp => exact rfl))
         | (((with_reducible refine' RO.gtr exts_ok ?hw ?hx ?hy ?hk ?hT ?hF (fun hc => ?_) (fun hc => ?_)); (case hw | hx | hy | hk | hT | hF => exact rfl)) <;> try (exfalso; first | omega | (simp at hc; done)))
         | (((with_reducible refine' RO.eqi exts_ok ?hw ?hx ?hy ?hk ?hT ?hF (fun hc => ?_) (fun hc => ?_)); (case hw | hx | hy | hk | hT | hF => exact rfl)) <;> try (exfalso; first | omega | (simp at hc; done)))
         | (((with_reducible refine' RO.nei exts_ok ?hw ?hx ?hy ?hk ?hT ?hF (fun hc => ?_) (fun hc => ?_)); (case hw | hx | hy | hk | hT | hF => exact rfl)) <;> try (exfalso; first | omega | (simp at hc; done)))
         | ((with_reducible refine' RO.lenL exts_ok ?hw ?hx ?hu ?hp ?_); (case hw | hx | hu | hp => exact rfl))
         | ((with_reducible refine' RO.ldN exts_ok ?hw ?hx ?hu ?hD ?hv ?hp ?_); (case hw | hx | hu | hD => exact rfl); (case hv => exact rfl); (case hp => exact rfl))
         | ((with_reducible refine' RO.step ?hw ?ho ?hp ?_); (case hw => exact rfl); (case ho => exact OSem.val exts_ok rfl); (case hp => exact rfl))
         | fail)
        all_goals first
          | (exfalso; omega)
          | exact ⟨rfl, _, rfl, [0, 1], ⟨rfl, rfl, rfl, RenO.ro (RenVs.plain (cellsN_plain _)), RenO.ro (RenVs.plain rfl), True.intro⟩, RenV.plain rfl⟩
          | exact ⟨rfl, _, rfl, [0, 1], ⟨rfl, rfl, rfl, RenO.ro (RenVs.plain (cellsN_plain _)), RenO.ro (RenVs.plain (cellsZ_plain (_ :: _))), True.intro⟩, RenV.plain rfl⟩
end Go.Am
