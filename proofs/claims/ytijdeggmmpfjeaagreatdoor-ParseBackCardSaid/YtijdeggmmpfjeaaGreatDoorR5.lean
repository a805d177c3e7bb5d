/- Part of the proof: WrH, WrI. -/
import Derived.Test.YtijdeggmmpfjeaaGreatDoorR4
import Derived.Test.YtijdeggmmpfjeaaGreatDoorP3
set_option linter.unusedSimpArgs false
set_option linter.unusedVariables false
set_option linter.unusedSectionVars false
namespace Go.Am
open Go Go.Proofs Go.RowKit Go.Pu
set_option maxRecDepth 1000000
theorem aappend_nn2 {P : Program} {h : Heap} {t u : TypeId} {e : TypeId} {inf : TypeInfo} {z : AV} {es : Nat} (ht : P.underlying t = some (.slice e)) (hu : P.underlying u = some (.slice e)) (hi : P.info? e = some inf) (hz : azero P e = some z) (hzl : Nat.beq z.cells.length es = true) (hes : P.cellsOf e = es) (he0 : Nat.blt 0 es = true) :
    aappend P h t u .nilslice .nilslice = some (.nilslice, h) := by
  subst hes
  have h4 : asource P h u (P.cellsOf e) .nilslice = some (0, []) := by simp only [asource, hu]
  simp only [aappend, ht, hi, hz, hzl, he0, cond_true, h4, allOne]
  rfl
section
variable {P : Program} {ext : FuncId → Bool} {n : Nat} {ops : Array Oper} {l : List Oper} {r0 : Option (Nat × TypeId × List AV)} {rs : List (Option (Nat × TypeId × List AV))} {env env1 : Env} {h h1 h2 : Heap} {K : List Rec → Env → List Heap → Prop} {L : List Tmp} {d : Option Tmp} {ty : TypeId} {pos : String} {af : Array Edge} {gd : Option (Nat × Bool)}
end
end Go.Am
namespace Go.Am
open Go Go.Proofs Go.RowKit Go.Pu
set_option maxRecDepth 1000000
theorem RO.appNN2 {P : Program} {ext : FuncId → Bool} (hext : ExtOk P ext) {N n : Nat} {ops : Array Oper} {l : List Oper} {env env1 : Env} {h : Heap} {Post : APost} {d : Option Tmp} {ty : TypeId} {pos : String} {af : Array Edge} {gd : Option (Nat × Bool)} {t u e : TypeId} {x y : Operand} {inf : TypeInfo} {z : AV} {es : Nat} (hw : awanted ops (aeval env) (⟨d, .call ⟨.builtin .append, #[x, y], #[t, u]⟩, ty, pos, af, gd⟩ : Oper) = some true) (hx : aeval env x = some .nilslice) (hy : aeval env y = some .nilslice) (ht : P.underlying t = some (.slice e)) (hu : P.underlying u = some (.slice e)) (hi : P.info? e = some inf) (hz : azero P e = some z) (hes : P.cellsOf e = es) (hzl : Nat.beq z.cells.length es = true) (he0 : Nat.blt 0 es = true) (hp : aput env n d .nilslice = some env1) (r : RO P N n ops l env1 h Post) : RO P N n ops ((⟨d, .call ⟨.builtin .append, #[x, y], #[t, u]⟩, ty, pos, af, gd⟩ : Oper) :: l) env h Post :=
  RO.step hw (OSem.app hext rfl rfl rfl hx hy (aappend_nn2 ht hu hi hz hzl hes he0)) hp r
def spZ2 (ns : List Nd) (v : AV) (s : Int) : Heap := ⟨.node (some (.ro 50 5 (cellsN ns))) (.node (some (.ro 50 5 (cellsN ([] : List Nd)))) (.node (some (.cells 24 1 [v] true)) .leaf .leaf) (.node (some (.cells 3 1 [.int .i64 s] true)) (.node (some (.cells 24 1 [.slice 0 0 ns.length 5] true)) .leaf .leaf) .leaf)) (.node (some (.cells 26 1 [.slice 0 0 ns.length 5] true)) (.node (some (.cells 26 1 [.nilslice] true)) (.node (some (.cells 24 1 [.slice 0 0 0 5, v, .slice 7 0 0 5] true)) .leaf .leaf) .leaf) (.node (some (.cells 26 1 [.nilslice] true)) (.node (some (.cells 3 1 [.int .i64 ((0 : Nat) : Int)] true)) .leaf .leaf) .leaf)), 11⟩
set_option maxHeartbeats 8000000 in
theorem sem99zn (ns : List Nd) (s : Int) : CSem Tryz.prog 99 [.slice 8 0 3 1] (catB ns ([] : List Nd) 0 .nilslice s) .nilslice (catB ns ([] : List Nd) 0 .nilslice s) := by
  refine CSem.into Tryz.func99 rfl (by decide) Tryz.ntmps99 rfl rfl rfl ?_
  dsimp only [catB]
  repeat' (first
   | refine S0 ?_
   | refine Sm ?_
   | (refine S2 ?_ ?_) <;> intro hc <;> try (exfalso; first | omega | (simp at hc; done))
   | refine St ?_
   | fail)
  refine RS.loop (σ := Nat) (fun i => i ≤ 3) (fun i => [(0, .slice 8 0 3 1), (3, .int .i64 0), (9, .slice 8 0 3 1), (10, .int .i64 3), (11, .int .i64 (i : Int))]) (fun _ => catB ns ([] : List Nd) 0 .nilslice s) (fun i => 3 - i) 0 (Nat.zero_le _) ⟨[0, 1, 2, 3, 4, 5, 6, 7, 8], by exact layX, by (repeat' (first | exact True.intro | refine And.intro ?_ ?_ | exact ⟨_, rfl, RenV.plain rfl⟩ | exact ⟨_, rfl, RenV.slice rfl⟩ | exact ⟨_, rfl, RenV.ptr rfl⟩ | exact ⟨_, rfl, RenV.nilslice⟩))⟩ ?round
  rintro i hi
  refine ⟨_, rfl, ?_⟩
  dsimp only [catB]
  rcases (show i = 0 ∨ i = 1 ∨ i = 2 ∨ i = 3 by omega) with rfl | rfl | rfl | rfl
  · skip
    repeat' (first
     | refine S0 ?_
     | refine Sm ?_
     | (refine S2 ?_ ?_) <;> intro hc <;> try (exfalso; first | omega | (simp at hc; done))
     | refine St ?_
     | fail)
    all_goals first
      | (exfalso; omega)
      | (refine Rnd.n 1 [0, 1, 2, 3, 4, 5, 6, 7, 8] (by omega) (by omega) (by exact layX) ?_
         exact ⟨⟨_, rfl, RenV.slice rfl⟩, ⟨_, rfl, RenV.eq (by first | rfl | (congr 1; done) | (congr 1; simp; done)) rfl⟩, ⟨_, rfl, RenV.slice rfl⟩, ⟨_, rfl, RenV.plain rfl⟩, ⟨_, rfl, RenV.eq (by first | rfl | (congr 1; done)) rfl⟩, True.intro⟩)
  · skip
    repeat' (first
     | refine S0 ?_
     | refine Sm ?_
     | (refine S2 ?_ ?_) <;> intro hc <;> try (exfalso; first | omega | (simp at hc; done))
     | refine St ?_
     | fail)
    all_goals first
      | (exfalso; omega)
      | (refine Rnd.n 2 [0, 1, 2, 3, 4, 5, 6, 7, 8] (by omega) (by omega) (by exact layX) ?_
         exact ⟨⟨_, rfl, RenV.slice rfl⟩, ⟨_, rfl, RenV.eq (by first | rfl | (congr 1; done) | (congr 1; simp; done)) rfl⟩, ⟨_, rfl, RenV.slice rfl⟩, ⟨_, rfl, RenV.plain rfl⟩, ⟨_, rfl, RenV.eq (by first | rfl | (congr 1; done)) rfl⟩, True.intro⟩)
  · skip
    repeat' (first
     | refine S0 ?_
     | refine Sm ?_
     | (refine S2 ?_ ?_) <;> intro hc <;> try (exfalso; first | omega | (simp at hc; done))
     | refine St ?_
     | fail)
    all_goals first
      | (exfalso; omega)
      | (refine Rnd.n 3 [0, 1, 2, 3, 4, 5, 6, 7, 8] (by omega) (by omega) (by exact layX) ?_
         exact ⟨⟨_, rfl, RenV.slice rfl⟩, ⟨_, rfl, RenV.eq (by first | rfl | (congr 1; done) | (congr 1; simp; done)) rfl⟩, ⟨_, rfl, RenV.slice rfl⟩, ⟨_, rfl, RenV.plain rfl⟩, ⟨_, rfl, RenV.eq (by first | rfl | (congr 1; done)) rfl⟩, True.intro⟩)
  · skip
    repeat' (first
     | refine S0 ?_
     | refine Sm ?_
     | refine Sc (sem163z _) ?_
     | (refine S2 ?_ ?_) <;> intro hc <;> try (exfalso; first | omega | (simp at hc; done))
     | refine St ?_
     | fail)
    all_goals first
      | (exfalso; omega)
      | skip
    refine RS.loop (σ := Nat) (fun i => i ≤ 3) (fun i => [(6, .nilslice), (25, .slice 8 0 3 1), (26, .int .i64 3), (27, .int .i64 (i : Int))]) (fun _ => catB ns ([] : List Nd) 0 .nilslice s) (fun i => 3 - i) 0 (Nat.zero_le _) ⟨[0, 1, 2, 3, 4, 5, 6, 7, 8], by exact layX, by (repeat' (first | exact True.intro | refine And.intro ?_ ?_ | exact ⟨_, rfl, RenV.plain rfl⟩ | exact ⟨_, rfl, RenV.slice rfl⟩ | exact ⟨_, rfl, RenV.ptr rfl⟩ | exact ⟨_, rfl, RenV.nilslice⟩))⟩ ?round2
    rintro i hi
    refine ⟨_, rfl, ?_⟩
    dsimp only [catB]
    rcases (show i = 0 ∨ i = 1 ∨ i = 2 ∨ i = 3 by omega) with rfl | rfl | rfl | rfl
    · skip
      repeat' (first
       | refine S0 ?_
       | refine Sm ?_
       | ((with_reducible refine' RO.appZ (es := 5) ?hw ?hx ?hy ?hxs ?ht ?hu ?hi ?hp ?_); (case hw | hx | hy => exact rfl); (case hxs => exact .inl rfl); (case ht | hu | hi | hp => exact rfl))
       | ((with_reducible refine' RO.appNN2 exts_ok ?hw ?hx ?hy ?ht ?hu ?hi ?hz ?hes ?hzl ?he0 ?hp ?_); (case hw | hx | hy | ht | hu | hi | hz | hes | hzl | he0 | hp => exact rfl))
       | (refine S2 ?_ ?_) <;> intro hc <;> try (exfalso; first | omega | (simp at hc; done))
       | refine St ?_
       | fail)
      all_goals first
        | (exfalso; omega)
        | (refine Rnd.n 1 [0, 1, 2, 3, 4, 5, 6, 7, 8] (by omega) (by omega) (by exact layX) ?_
           exact ⟨⟨_, rfl, RenV.nilslice⟩, ⟨_, rfl, RenV.slice rfl⟩, ⟨_, rfl, RenV.plain rfl⟩, ⟨_, rfl, RenV.eq (by first | rfl | (congr 1; done)) rfl⟩, True.intro⟩)
    · skip
      repeat' (first
       | refine S0 ?_
       | refine Sm ?_
       | ((with_reducible refine' RO.appZ (es := 5) ?hw ?hx ?hy ?hxs ?ht ?hu ?hi ?hp ?_); (case hw | hx | hy => exact rfl); (case hxs => exact .inl rfl); (case ht | hu | hi | hp => exact rfl))
       | ((with_reducible refine' RO.appNN2 exts_ok ?hw ?hx ?hy ?ht ?hu ?hi ?hz ?hes ?hzl ?he0 ?hp ?_); (case hw | hx | hy | ht | hu | hi | hz | hes | hzl | he0 | hp => exact rfl))
       | (refine S2 ?_ ?_) <;> intro hc <;> try (exfalso; first | omega | (simp at hc; done))
       | refine St ?_
       | fail)
      all_goals first
        | (exfalso; omega)
        | (refine Rnd.n 2 [0, 1, 2, 3, 4, 5, 6, 7, 8] (by omega) (by omega) (by exact layX) ?_
           exact ⟨⟨_, rfl, RenV.nilslice⟩, ⟨_, rfl, RenV.slice rfl⟩, ⟨_, rfl, RenV.plain rfl⟩, ⟨_, rfl, RenV.eq (by first | rfl | (congr 1; done)) rfl⟩, True.intro⟩)
    · skip
      repeat' (first
       | refine S0 ?_
       | refine Sm ?_
       | ((with_reducible refine' RO.appZ (es := 5) ?hw ?hx ?hy ?hxs ?ht ?hu ?hi ?hp ?_); (case hw | hx | hy => exact rfl); (case hxs => exact .inl rfl); (case ht | hu | hi | hp => exact rfl))
       | ((with_reducible refine' RO.appNN2 exts_ok ?hw ?hx ?hy ?ht ?hu ?hi ?hz ?hes ?hzl ?he0 ?hp ?_); (case hw | hx | hy | ht | hu | hi | hz | hes | hzl | he0 | hp => exact rfl))
       | (refine S2 ?_ ?_) <;> intro hc <;> try (exfalso; first | omega | (simp at hc; done))
       | refine St ?_
       | fail)
      all_goals first
        | (exfalso; omega)
        | (refine Rnd.n 3 [0, 1, 2, 3, 4, 5, 6, 7, 8] (by omega) (by omega) (by exact layX) ?_
           exact ⟨⟨_, rfl, RenV.nilslice⟩, ⟨_, rfl, RenV.slice rfl⟩, ⟨_, rfl, RenV.plain rfl⟩, ⟨_, rfl, RenV.eq (by first | rfl | (congr 1; done)) rfl⟩, True.intro⟩)
    · skip
      repeat' (first
       | refine S0 ?_
       | refine Sm ?_
       | (refine S2 ?_ ?_) <;> intro hc <;> try (exfalso; first | omega | (simp at hc; done))
       | refine St ?_
       | fail)
      all_goals first
        | (exfalso; omega)
        | exact ⟨rfl, _, rfl, [0, 1, 2, 3, 4, 5, 6, 7, 8], by exact layX, RenV.nilslice⟩
set_option maxHeartbeats 16000000 in
theorem sem56zn (ns : List Nd) (o : NdOk ns) (h0 : checkR ns = 0) : CSem Tryz.prog 56 [.agg [.slice 0 0 ns.length 5], .int .i64 ((0 : Nat) : Int), .nilslice] (twoH ns ([] : List Nd)) (.tuple [.agg [.nilslice], .int .i64 (checkR [])]) (twoH ns ([] : List Nd)) := by
  have hl := check_lam o h0
  have hn := o.len
  have hi := checkR_pos h0
  have he : ((0 : Nat) : Int) + sizeAt ns 0 = ns.length := by
    have := check_root h0
    unfold sizeAt
    rw [this]
    simp
  obtain ⟨x, s, hx, hxs, hs1, hs2, hs3, _⟩ := sub_nat hl hi
  rw [hs3, ← hxs] at he
  have oz : NdOk [] := ⟨by simp, fun x hx => (by cases hx), fun x hx => (by cases hx), fun x hx => (by cases hx)⟩
  have hc : checkR [] ≠ 0 := by decide +kernel
  have cc : ∀ {h : Heap}, Nat.blt 1 h.next = true → tells (h.objs.get 1) (cellsN []) → CSem Tryz.prog 26 [.agg [.nilslice]] h (.int .i64 (checkR [])) h := fun hi ht => tf26 oz (TF.nil rfl) hi ht
  generalize checkR [] = q at hc cc
  have cf : ∀ {h : Heap}, Nat.blt 0 h.next = true → tells (h.objs.get 0) (cellsN ns) → CSem Tryz.prog 66 [.agg [.slice 0 0 ns.length 5], .int .i64 ((0 : Nat) : Int)] h (.int .i64 0) h := fun hi' ht => by
    have := tf66 o (node := ((0 : Nat) : Int)) (by omega) (TF.sl (i := 0)) hi' ht
    rwa [findR_z h0 (by omega)] at this
  have c99 := sem99zn ns x.s
  refine CSem.intoM Tryz.func56 rfl Tryz.ntmps56 rfl rfl rfl ?_
  dsimp only [twoH]
  refine RM.seqS ?_
  repeat' (first
   | refine S0 ?_
   | refine Sm ?_
   | (refine S2 ?_ ?_) <;> intro hc <;> try (exfalso; first | omega | (simp at hc; done))
   | refine St ?_
   | fail)
  refine ThenM.n ?_
  refine RM.seqS ?_
  repeat' (first
   | refine S0 ?_
   | refine Sm ?_
   | refine Sc cf ?_
   | (refine S2 ?_ ?_) <;> intro hc <;> try (exfalso; first | omega | (simp at hc; done))
   | refine St ?_
   | fail)
  refine ThenM.n ?_
  refine RM.seqS ?_
  repeat' (first
   | refine S0 ?_
   | refine Sm ?_
   | (refine S2 ?_ ?_) <;> intro hc <;> try (exfalso; first | omega | (simp at hc; done))
   | refine St ?_
   | fail)
  all_goals first
    | (exfalso; omega)
    | refine ThenM.n ?_
  refine RM.seqS ?_
  repeat' (first
   | refine S0 ?_
   | refine Sm ?_
   | ((with_reducible refine' RO.idxL (m := 0) exts_ok ?hw ?hx ?hy ?hu ?hi ?hes ?hz ?hlt ?hp ?_); (case hw | hx | hy | hu | hi | hes => exact rfl); (case hz | hlt => omega); (case hp => exact rfl))
   | ((with_reducible refine' RQ.idxL (m := 0) exts_ok ?hw ?hx ?hy ?hu ?hi ?hes ?hz ?hlt ?hp ?_); (case hw | hx | hy | hu | hi | hes => exact rfl); (case hz | hlt => omega); (case hp => exact rfl))
   | (refine S2 ?_ ?_) <;> intro hc <;> try (exfalso; first | omega | (simp at hc; done))
   | refine Sf hx ?_
   | refine St ?_
   | fail)
  refine ThenM.n ?_
  refine RM.seqS ?_
  repeat' (first
   | refine S0 ?_
   | refine Sm ?_
   | ((with_reducible refine' RS.drawE mixed [none, none, none, none, none, none, none, none, none, none, none, none, none, none, some (26, [.nilslice]), none] ?hn ?hms ?hord ?hh ?_); (case hn | hms | hord | hh => exact rfl))
   | ((with_reducible refine' RD.opSl0 (b := node) exts_ok ?hLL ?hw ?hx ?hu ?ht ?hi ?hes ?hb ?hp ?_); (case hLL | hw | hx | hu | ht | hi | hes => exact rfl); (case hb => exact abound_le rfl (by omega)); (case hp => exact rfl))
   | ((with_reducible refine' RD.opSlE 7 8 ?hob ?hnx ?hnx1 ?hLL ?hw ?hx ?hlo ?hz ?ht ?hi ?hes ?hn ?hp ?_); (case hob | hnx | hnx1 | hLL | hw | hx | hlo => exact rfl); (case hz => omega); (case ht | hi | hes | hn | hp => exact rfl))
   | ((with_reducible refine' RD.opAddI exts_ok ?hLL ?hw ?hx ?hy ?hi ?hp ?_); (case hLL | hw | hx | hy => exact rfl); (case hi => omega); (case hp => exact rfl))
   | ((with_reducible refine' RD.opBS ?hLL ?hw ?ho ?hp ?_); (case hLL | hw => exact rfl); (case ho => exact OSem.val exts_ok rfl); (case hp => exact rfl))
   | ((with_reducible refine' RD.opFnE exts_ok 99 ?hLL ?hw ?ha ?hf ?hs ?hp ?_); (case hLL | hw | ha | hf => exact rfl); (case hs => exact c99); (case hp => exact rfl))
   | (refine S2 ?_ ?_) <;> intro hc <;> try (exfalso; first | omega | (simp at hc; done))
   | refine St ?_
   | ((with_reducible refine RD.nil ?_); (refine' RDk.intro ?oks ?hl ?_); (case hl => exact rfl); (case oks => (repeat' (first | exact True.intro | refine And.intro ?_ ?_ | exact rfl | exact OSem.load1 exts_ok rfl rfl rfl rfl | exact OSem.loadN exts_ok rfl rfl rfl rfl))))
   | refine Sd ?_
   | fail)
  refine ThenM.n ?_
  refine RM.seq (RM.seqS ?_)
  repeat' (first
   | refine S0 ?_
   | refine Sm ?_
   | refine Sc sem95 ?_
   | (refine S2 ?_ ?_) <;> intro hc <;> try (exfalso; first | omega | (simp at hc; done))
   | refine St ?_
   | fail)
  refine ThenM.n (RM.block ?_)
  refine RM.aboveE (K := 11) (node := 0) (ns := ns) (ib := 10) (is := 9) (i0 := 0) rfl (by decide) hi hl hn ?box rfl (by decide) (fun pre => spZ2 ns .nilslice x.s) rfl (fun pre _ i => flatT_get _ rfl i) (fun pre => Nat.le_refl _) (fun pre => ⟨⟨true, rfl⟩, ⟨true, rfl⟩, rfl⟩) ?round ?post
  case box => exact ⟨⟨true, rfl⟩, ⟨true, rfl⟩, rfl⟩
  case round =>
    intro pre z hlt hpl hx
    exact (Nat.not_lt_zero _ hx).elim
  case post =>
    dsimp only [spZ2]
    repeat' (first
     | refine S0 ?_
     | refine Sm ?_
     | refine Sc cc ?_
     | (refine S2 ?_ ?_) <;> intro hc <;> try (exfalso; first | omega | (simp at hc; done))
     | refine St ?_
     | fail)
    all_goals first
      | (exfalso; omega)
      | exact ⟨rfl, _, rfl, [0, 1], ⟨rfl, rfl, rfl, RenO.ro (RenVs.plain (cellsN_plain _)), RenO.ro (RenVs.plain (cellsN_plain _)), True.intro⟩, RenV.tuple (RenVs.cons (RenV.agg1 RenV.nilslice) (RenVs.plain rfl))⟩
set_option maxHeartbeats 8000000 in
theorem sem99ze (ns : List Nd) (s : Int) : CSem Tryz.prog 99 [.slice 8 0 3 1] (catB ns ([] : List Nd) 0 (.slice 1 0 0 5) s) .nilslice (catB ns ([] : List Nd) 0 (.slice 1 0 0 5) s) := by
  refine CSem.into Tryz.func99 rfl (by decide) Tryz.ntmps99 rfl rfl rfl ?_
  dsimp only [catB]
  repeat' (first
   | refine S0 ?_
   | refine Sm ?_
   | (refine S2 ?_ ?_) <;> intro hc <;> try (exfalso; first | omega | (simp at hc; done))
   | refine St ?_
   | fail)
  refine RS.loop (σ := Nat) (fun i => i ≤ 3) (fun i => [(0, .slice 8 0 3 1), (3, .int .i64 0), (9, .slice 8 0 3 1), (10, .int .i64 3), (11, .int .i64 (i : Int))]) (fun _ => catB ns ([] : List Nd) 0 (.slice 1 0 0 5) s) (fun i => 3 - i) 0 (Nat.zero_le _) ⟨[0, 1, 2, 3, 4, 5, 6, 7, 8], by exact layX, by (repeat' (first | exact True.intro | refine And.intro ?_ ?_ | exact ⟨_, rfl, RenV.plain rfl⟩ | exact ⟨_, rfl, RenV.slice rfl⟩ | exact ⟨_, rfl, RenV.ptr rfl⟩ | exact ⟨_, rfl, RenV.nilslice⟩))⟩ ?round
  rintro i hi
  refine ⟨_, rfl, ?_⟩
  dsimp only [catB]
  rcases (show i = 0 ∨ i = 1 ∨ i = 2 ∨ i = 3 by omega) with rfl | rfl | rfl | rfl
  · skip
    repeat' (first
     | refine S0 ?_
     | refine Sm ?_
     | (refine S2 ?_ ?_) <;> intro hc <;> try (exfalso; first | omega | (simp at hc; done))
     | refine St ?_
     | fail)
    all_goals first
      | (exfalso; omega)
      | (refine Rnd.n 1 [0, 1, 2, 3, 4, 5, 6, 7, 8] (by omega) (by omega) (by exact layX) ?_
         exact ⟨⟨_, rfl, RenV.slice rfl⟩, ⟨_, rfl, RenV.eq (by first | rfl | (congr 1; done) | (congr 1; simp; done)) rfl⟩, ⟨_, rfl, RenV.slice rfl⟩, ⟨_, rfl, RenV.plain rfl⟩, ⟨_, rfl, RenV.eq (by first | rfl | (congr 1; done)) rfl⟩, True.intro⟩)
  · skip
    repeat' (first
     | refine S0 ?_
     | refine Sm ?_
     | (refine S2 ?_ ?_) <;> intro hc <;> try (exfalso; first | omega | (simp at hc; done))
     | refine St ?_
     | fail)
    all_goals first
      | (exfalso; omega)
      | (refine Rnd.n 2 [0, 1, 2, 3, 4, 5, 6, 7, 8] (by omega) (by omega) (by exact layX) ?_
         exact ⟨⟨_, rfl, RenV.slice rfl⟩, ⟨_, rfl, RenV.eq (by first | rfl | (congr 1; done) | (congr 1; simp; done)) rfl⟩, ⟨_, rfl, RenV.slice rfl⟩, ⟨_, rfl, RenV.plain rfl⟩, ⟨_, rfl, RenV.eq (by first | rfl | (congr 1; done)) rfl⟩, True.intro⟩)
  · skip
    repeat' (first
     | refine S0 ?_
     | refine Sm ?_
     | (refine S2 ?_ ?_) <;> intro hc <;> try (exfalso; first | omega | (simp at hc; done))
     | refine St ?_
     | fail)
    all_goals first
      | (exfalso; omega)
      | (refine Rnd.n 3 [0, 1, 2, 3, 4, 5, 6, 7, 8] (by omega) (by omega) (by exact layX) ?_
         exact ⟨⟨_, rfl, RenV.slice rfl⟩, ⟨_, rfl, RenV.eq (by first | rfl | (congr 1; done) | (congr 1; simp; done)) rfl⟩, ⟨_, rfl, RenV.slice rfl⟩, ⟨_, rfl, RenV.plain rfl⟩, ⟨_, rfl, RenV.eq (by first | rfl | (congr 1; done)) rfl⟩, True.intro⟩)
  · skip
    repeat' (first
     | refine S0 ?_
     | refine Sm ?_
     | refine Sc (sem163z _) ?_
     | (refine S2 ?_ ?_) <;> intro hc <;> try (exfalso; first | omega | (simp at hc; done))
     | refine St ?_
     | fail)
    all_goals first
      | (exfalso; omega)
      | skip
    refine RS.loop (σ := Nat) (fun i => i ≤ 3) (fun i => [(6, .nilslice), (25, .slice 8 0 3 1), (26, .int .i64 3), (27, .int .i64 (i : Int))]) (fun _ => catB ns ([] : List Nd) 0 (.slice 1 0 0 5) s) (fun i => 3 - i) 0 (Nat.zero_le _) ⟨[0, 1, 2, 3, 4, 5, 6, 7, 8], by exact layX, by (repeat' (first | exact True.intro | refine And.intro ?_ ?_ | exact ⟨_, rfl, RenV.plain rfl⟩ | exact ⟨_, rfl, RenV.slice rfl⟩ | exact ⟨_, rfl, RenV.ptr rfl⟩ | exact ⟨_, rfl, RenV.nilslice⟩))⟩ ?round2
    rintro i hi
    refine ⟨_, rfl, ?_⟩
    dsimp only [catB]
    rcases (show i = 0 ∨ i = 1 ∨ i = 2 ∨ i = 3 by omega) with rfl | rfl | rfl | rfl
    · skip
      repeat' (first
       | refine S0 ?_
       | refine Sm ?_
       | ((with_reducible refine' RO.appZ (es := 5) ?hw ?hx ?hy ?hxs ?ht ?hu ?hi ?hp ?_); (case hw | hx | hy => exact rfl); (case hxs => exact .inl rfl); (case ht | hu | hi | hp => exact rfl))
       | ((with_reducible refine' RO.appNN2 exts_ok ?hw ?hx ?hy ?ht ?hu ?hi ?hz ?hes ?hzl ?he0 ?hp ?_); (case hw | hx | hy | ht | hu | hi | hz | hes | hzl | he0 | hp => exact rfl))
       | (refine S2 ?_ ?_) <;> intro hc <;> try (exfalso; first | omega | (simp at hc; done))
       | refine St ?_
       | fail)
      all_goals first
        | (exfalso; omega)
        | (refine Rnd.n 1 [0, 1, 2, 3, 4, 5, 6, 7, 8] (by omega) (by omega) (by exact layX) ?_
           exact ⟨⟨_, rfl, RenV.nilslice⟩, ⟨_, rfl, RenV.slice rfl⟩, ⟨_, rfl, RenV.plain rfl⟩, ⟨_, rfl, RenV.eq (by first | rfl | (congr 1; done)) rfl⟩, True.intro⟩)
    · skip
      repeat' (first
       | refine S0 ?_
       | refine Sm ?_
       | ((with_reducible refine' RO.appZ (es := 5) ?hw ?hx ?hy ?hxs ?ht ?hu ?hi ?hp ?_); (case hw | hx | hy => exact rfl); (case hxs => exact .inl rfl); (case ht | hu | hi | hp => exact rfl))
       | ((with_reducible refine' RO.appNN2 exts_ok ?hw ?hx ?hy ?ht ?hu ?hi ?hz ?hes ?hzl ?he0 ?hp ?_); (case hw | hx | hy | ht | hu | hi | hz | hes | hzl | he0 | hp => exact rfl))
       | (refine S2 ?_ ?_) <;> intro hc <;> try (exfalso; first | omega | (simp at hc; done))
       | refine St ?_
       | fail)
      all_goals first
        | (exfalso; omega)
        | (refine Rnd.n 2 [0, 1, 2, 3, 4, 5, 6, 7, 8] (by omega) (by omega) (by exact layX) ?_
           exact ⟨⟨_, rfl, RenV.nilslice⟩, ⟨_, rfl, RenV.slice rfl⟩, ⟨_, rfl, RenV.plain rfl⟩, ⟨_, rfl, RenV.eq (by first | rfl | (congr 1; done)) rfl⟩, True.intro⟩)
    · skip
      repeat' (first
       | refine S0 ?_
       | refine Sm ?_
       | ((with_reducible refine' RO.appZ (es := 5) ?hw ?hx ?hy ?hxs ?ht ?hu ?hi ?hp ?_); (case hw | hx | hy => exact rfl); (case hxs => exact .inl rfl); (case ht | hu | hi | hp => exact rfl))
       | ((with_reducible refine' RO.appNN2 exts_ok ?hw ?hx ?hy ?ht ?hu ?hi ?hz ?hes ?hzl ?he0 ?hp ?_); (case hw | hx | hy | ht | hu | hi | hz | hes | hzl | he0 | hp => exact rfl))
       | (refine S2 ?_ ?_) <;> intro hc <;> try (exfalso; first | omega | (simp at hc; done))
       | refine St ?_
       | fail)
      all_goals first
        | (exfalso; omega)
        | (refine Rnd.n 3 [0, 1, 2, 3, 4, 5, 6, 7, 8] (by omega) (by omega) (by exact layX) ?_
           exact ⟨⟨_, rfl, RenV.nilslice⟩, ⟨_, rfl, RenV.slice rfl⟩, ⟨_, rfl, RenV.plain rfl⟩, ⟨_, rfl, RenV.eq (by first | rfl | (congr 1; done)) rfl⟩, True.intro⟩)
    · skip
      repeat' (first
       | refine S0 ?_
       | refine Sm ?_
       | (refine S2 ?_ ?_) <;> intro hc <;> try (exfalso; first | omega | (simp at hc; done))
       | refine St ?_
       | fail)
      all_goals first
        | (exfalso; omega)
        | exact ⟨rfl, _, rfl, [0, 1, 2, 3, 4, 5, 6, 7, 8], by exact layX, RenV.nilslice⟩
set_option maxHeartbeats 16000000 in
theorem sem56ze (ns : List Nd) (o : NdOk ns) (h0 : checkR ns = 0) : CSem Tryz.prog 56 [.agg [.slice 0 0 ns.length 5], .int .i64 ((0 : Nat) : Int), .slice 1 0 0 5] (twoH ns ([] : List Nd)) (.tuple [.agg [.nilslice], .int .i64 (checkR [])]) (twoH ns ([] : List Nd)) := by
  have hl := check_lam o h0
  have hn := o.len
  have hi := checkR_pos h0
  have he : ((0 : Nat) : Int) + sizeAt ns 0 = ns.length := by
    have := check_root h0
    unfold sizeAt
    rw [this]
    simp
  obtain ⟨x, s, hx, hxs, hs1, hs2, hs3, _⟩ := sub_nat hl hi
  rw [hs3, ← hxs] at he
  have oz : NdOk [] := ⟨by simp, fun x hx => (by cases hx), fun x hx => (by cases hx), fun x hx => (by cases hx)⟩
  have hc : checkR [] ≠ 0 := by decide +kernel
  have cc : ∀ {h : Heap}, Nat.blt 1 h.next = true → tells (h.objs.get 1) (cellsN []) → CSem Tryz.prog 26 [.agg [.nilslice]] h (.int .i64 (checkR [])) h := fun hi ht => tf26 oz (TF.nil rfl) hi ht
  generalize checkR [] = q at hc cc
  have cf : ∀ {h : Heap}, Nat.blt 0 h.next = true → tells (h.objs.get 0) (cellsN ns) → CSem Tryz.prog 66 [.agg [.slice 0 0 ns.length 5], .int .i64 ((0 : Nat) : Int)] h (.int .i64 0) h := fun hi' ht => by
    have := tf66 o (node := ((0 : Nat) : Int)) (by omega) (TF.sl (i := 0)) hi' ht
    rwa [findR_z h0 (by omega)] at this
  have c99 := sem99ze ns x.s
  refine CSem.intoM Tryz.func56 rfl Tryz.ntmps56 rfl rfl rfl ?_
  dsimp only [twoH]
  refine RM.seqS ?_
  repeat' (first
   | refine S0 ?_
   | refine Sm ?_
   | (refine S2 ?_ ?_) <;> intro hc <;> try (exfalso; first | omega | (simp at hc; done))
   | refine St ?_
   | fail)
  refine ThenM.n ?_
  refine RM.seqS ?_
  repeat' (first
   | refine S0 ?_
   | refine Sm ?_
   | refine Sc cf ?_
   | (refine S2 ?_ ?_) <;> intro hc <;> try (exfalso; first | omega | (simp at hc; done))
   | refine St ?_
   | fail)
  refine ThenM.n ?_
  refine RM.seqS ?_
  repeat' (first
   | refine S0 ?_
   | refine Sm ?_
   | (refine S2 ?_ ?_) <;> intro hc <;> try (exfalso; first | omega | (simp at hc; done))
   | refine St ?_
   | fail)
  all_goals first
    | (exfalso; omega)
    | refine ThenM.n ?_
  refine RM.seqS ?_
  repeat' (first
   | refine S0 ?_
   | refine Sm ?_
   | ((with_reducible refine' RO.idxL (m := 0) exts_ok ?hw ?hx ?hy ?hu ?hi ?hes ?hz ?hlt ?hp ?_); (case hw | hx | hy | hu | hi | hes => exact rfl); (case hz | hlt => omega); (case hp => exact rfl))
   | ((with_reducible refine' RQ.idxL (m := 0) exts_ok ?hw ?hx ?hy ?hu ?hi ?hes ?hz ?hlt ?hp ?_); (case hw | hx | hy | hu | hi | hes => exact rfl); (case hz | hlt => omega); (case hp => exact rfl))
   | (refine S2 ?_ ?_) <;> intro hc <;> try (exfalso; first | omega | (simp at hc; done))
   | refine Sf hx ?_
   | refine St ?_
   | fail)
  refine ThenM.n ?_
  refine RM.seqS ?_
  repeat' (first
   | refine S0 ?_
   | refine Sm ?_
   | ((with_reducible refine' RS.drawE mixed [none, none, none, none, none, none, none, none, none, none, none, none, none, none, some (26, [.nilslice]), none] ?hn ?hms ?hord ?hh ?_); (case hn | hms | hord | hh => exact rfl))
   | ((with_reducible refine' RD.opSl0 (b := node) exts_ok ?hLL ?hw ?hx ?hu ?ht ?hi ?hes ?hb ?hp ?_); (case hLL | hw | hx | hu | ht | hi | hes => exact rfl); (case hb => exact abound_le rfl (by omega)); (case hp => exact rfl))
   | ((with_reducible refine' RD.opSlE 7 8 ?hob ?hnx ?hnx1 ?hLL ?hw ?hx ?hlo ?hz ?ht ?hi ?hes ?hn ?hp ?_); (case hob | hnx | hnx1 | hLL | hw | hx | hlo => exact rfl); (case hz => omega); (case ht | hi | hes | hn | hp => exact rfl))
   | ((with_reducible refine' RD.opAddI exts_ok ?hLL ?hw ?hx ?hy ?hi ?hp ?_); (case hLL | hw | hx | hy => exact rfl); (case hi => omega); (case hp => exact rfl))
   | ((with_reducible refine' RD.opBS ?hLL ?hw ?ho ?hp ?_); (case hLL | hw => exact rfl); (case ho => exact OSem.val exts_ok rfl); (case hp => exact rfl))
   | ((with_reducible refine' RD.opFnE exts_ok 99 ?hLL ?hw ?ha ?hf ?hs ?hp ?_); (case hLL | hw | ha | hf => exact rfl); (case hs => exact c99); (case hp => exact rfl))
   | (refine S2 ?_ ?_) <;> intro hc <;> try (exfalso; first | omega | (simp at hc; done))
   | refine St ?_
   | ((with_reducible refine RD.nil ?_); (refine' RDk.intro ?oks ?hl ?_); (case hl => exact rfl); (case oks => (repeat' (first | exact True.intro | refine And.intro ?_ ?_ | exact rfl | exact OSem.load1 exts_ok rfl rfl rfl rfl | exact OSem.loadN exts_ok rfl rfl rfl rfl))))
   | refine Sd ?_
   | fail)
  refine ThenM.n ?_
  refine RM.seq (RM.seqS ?_)
  repeat' (first
   | refine S0 ?_
   | refine Sm ?_
   | refine Sc sem95 ?_
   | (refine S2 ?_ ?_) <;> intro hc <;> try (exfalso; first | omega | (simp at hc; done))
   | refine St ?_
   | fail)
  refine ThenM.n (RM.block ?_)
  refine RM.aboveE (K := 11) (node := 0) (ns := ns) (ib := 10) (is := 9) (i0 := 0) rfl (by decide) hi hl hn ?box rfl (by decide) (fun pre => spZ2 ns (.slice 1 0 0 5) x.s) rfl (fun pre _ i => flatT_get _ rfl i) (fun pre => Nat.le_refl _) (fun pre => ⟨⟨true, rfl⟩, ⟨true, rfl⟩, rfl⟩) ?round ?post
  case box => exact ⟨⟨true, rfl⟩, ⟨true, rfl⟩, rfl⟩
  case round =>
    intro pre z hlt hpl hx
    exact (Nat.not_lt_zero _ hx).elim
  case post =>
    dsimp only [spZ2]
    repeat' (first
     | refine S0 ?_
     | refine Sm ?_
     | refine Sc cc ?_
     | (refine S2 ?_ ?_) <;> intro hc <;> try (exfalso; first | omega | (simp at hc; done))
     | refine St ?_
     | fail)
    all_goals first
      | (exfalso; omega)
      | exact ⟨rfl, _, rfl, [0, 1], ⟨rfl, rfl, rfl, RenO.ro (RenVs.plain (cellsN_plain _)), RenO.ro (RenVs.plain (cellsN_plain _)), True.intro⟩, RenV.tuple (RenVs.cons (RenV.agg1 RenV.nilslice) (RenVs.plain rfl))⟩
set_option maxHeartbeats 4000000 in
theorem sem56e (ns by' : List Nd) (o : NdOk ns) (node : Int) (hr : -9223372036854775808 ≤ node ∧ node < 9223372036854775808) (he : findR ns node ≠ 0) (u v : AV) (tu : TF 0 ns u) (nv : NF 1 by' v) : CSem Tryz.prog 56 [.agg [u], .int .i64 node, v] (twoH ns by') (.tuple [.agg [.nilslice], .int .i64 (findR ns node)]) (twoH ns by') := by
  rcases nv.form with ⟨rfl, rfl⟩ | rfl
  all_goals
    refine CSem.intoM Tryz.func56 rfl Tryz.ntmps56 rfl rfl rfl ?_
    dsimp only [twoH]
    refine RM.seqS ?_
    repeat' (first
     | refine S0 ?_
     | refine Sm ?_
     | (refine S2 ?_ ?_) <;> intro hc <;> try (exfalso; first | omega | (simp at hc; done))
     | refine St ?_
     | fail)
    refine ThenM.n ?_
    refine RM.seqS ?_
    repeat' (first
     | refine S0 ?_
     | refine Sm ?_
     | refine Sc (tf66 o hr tu) ?_
     | (refine S2 ?_ ?_) <;> intro hc <;> try (exfalso; first | omega | (simp at hc; done))
     | refine St ?_
     | fail)
    all_goals first
      | (exfalso; omega)
      | (exact ⟨rfl, _, rfl, [0, 1], ⟨rfl, rfl, rfl, RenO.ro (RenVs.plain (cellsN_plain _)), RenO.ro (RenVs.plain (cellsN_plain _)), True.intro⟩, RenV.tuple (RenVs.cons (RenV.agg1 RenV.nilslice) (RenVs.plain rfl))⟩)
set_option maxHeartbeats 4000000 in
theorem sem56l (ns by' : List Nd) (o : NdOk ns) (h0 : checkR ns = 0) (node : Nat) (hi : node < ns.length) (hb : 600 < by'.length) : CSem Tryz.prog 56 [.agg [.slice 0 0 ns.length 5], .int .i64 (node : Int), .slice 1 0 by'.length 5] (twoH ns by') (.tuple [.agg [.nilslice], .int .i64 5]) (twoH ns by') := by
  have hn := o.len
  have cf : ∀ {h : Heap}, Nat.blt 0 h.next = true → tells (h.objs.get 0) (cellsN ns) → CSem Tryz.prog 66 [.agg [.slice 0 0 ns.length 5], .int .i64 (node : Int)] h (.int .i64 0) h := fun hi' ht => by
    have := tf66 o (node := (node : Int)) (by omega) (TF.sl (i := 0)) hi' ht
    rwa [findR_z h0 (by omega)] at this
  refine CSem.intoM Tryz.func56 rfl Tryz.ntmps56 rfl rfl rfl ?_
  dsimp only [twoH]
  refine RM.seqS ?_
  repeat' (first
   | refine S0 ?_
   | refine Sm ?_
   | (refine S2 ?_ ?_) <;> intro hc <;> try (exfalso; first | omega | (simp at hc; done))
   | refine St ?_
   | fail)
  refine ThenM.n ?_
  refine RM.seqS ?_
  repeat' (first
   | refine S0 ?_
   | refine Sm ?_
   | refine Sc cf ?_
   | (refine S2 ?_ ?_) <;> intro hc <;> try (exfalso; first | omega | (simp at hc; done))
   | refine St ?_
   | fail)
  refine ThenM.n ?_
  refine RM.seqS ?_
  repeat' (first
   | refine S0 ?_
   | refine Sm ?_
   | (refine S2 ?_ ?_) <;> intro hc <;> try (exfalso; first | omega | (simp at hc; done))
   | refine St ?_
   | fail)
  all_goals first
    | (exfalso; omega)
    | exact ⟨rfl, _, rfl, [0, 1], ⟨rfl, rfl, rfl, RenO.ro (RenVs.plain (cellsN_plain _)), RenO.ro (RenVs.plain (cellsN_plain _)), True.intro⟩, RenV.tuple (RenVs.cons (RenV.agg1 RenV.nilslice) (RenVs.plain rfl))⟩
end Go.Am
