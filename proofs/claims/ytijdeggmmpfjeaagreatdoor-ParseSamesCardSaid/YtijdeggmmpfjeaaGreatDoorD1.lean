/- Part of the proof: WnA, WnB. -/
import Derived.Test.YtijdeggmmpfjeaaGreatDoorC1
set_option linter.unusedSimpArgs false
set_option linter.unusedVariables false
set_option linter.unusedSectionVars false
namespace Go.Am
open Go Go.Proofs Go.RowKit Go.Pu
set_option maxRecDepth 1000000
inductive TF (i : Nat) (ns : List Nd) : AV → Prop
  | nil : ns = [] → TF i ns .nilslice
  | sl : TF i ns (.slice i 0 ns.length 5)
theorem CSem.liftV {P : Program} {f : FuncId} {args0 args : List AV} {h0 h1 : Heap} {v : AV} (c : CSem P f args0 h0 v h1) (hv : ∀ M M', conc M v = conc M' v) {h : Heap} {s : List Nat} (hn : h0.next = s.length)
    (ho : ∀ (j i : Nat), s[j]? = some i → ∃ e es c, h0.objs.get j = some (.ro e es c) ∧ plains c = true ∧ tells (h.objs.get i) c) (ha : RenVs s args args0) : CSem P f args h v h := by
  intro B w0 M w r cargs hc
  have r0 := via_ok r hn ho
  refine (c w.heap.size w (M.via s) w r0 cargs (by rw [ha]; exact hc)).mono ?_
  rintro e w' ⟨M1, c, g1, rfl, hcv, r1⟩
  exact ⟨M, c, Grow.refl _ M, rfl, by rw [hv M M1]; exact hcv, r.after r1.below⟩
theorem CSem.lift0 {P : Program} {f : FuncId} {args : List AV} {h1 : Heap} {v : AV} (c : CSem P f args ⟨.leaf, 0⟩ v h1) (hv : ∀ M M', conc M v = conc M' v) (ha : RenVs [] args args) (h : Heap) : CSem P f args h v h :=
  CSem.liftV c hv (s := []) rfl (fun j i e => by simp at e) ha
theorem CSem.lift1 {P : Program} {f : FuncId} {args0 args : List AV} {ns : List Nd} {h1 : Heap} {v : AV} (c : CSem P f args0 (nodesH ns) v h1) (hv : ∀ M M', conc M v = conc M' v) {h : Heap} {i : Nat} (ht : tells (h.objs.get i) (cellsN ns)) (ha : RenVs [i] args args0) : CSem P f args h v h :=
  CSem.liftV c hv (s := [i]) rfl (fun j k e => by
    cases j with
    | zero => simp only [List.getElem?_cons_zero, Option.some.injEq] at e; subst e; exact ⟨50, 5, cellsN ns, rfl, cellsN_plain ns, ht⟩
    | succ j => simp at e) ha
theorem isV_eq' {o : Option (AV × Heap)} {v : AV} (h : isV o v = true) : ∃ h', o = some (v, h') := by
  unfold isV at h
  split at h
  · simp only [Bool.and_eq_true] at h
    rw [veq1_eq h.2]
    exact ⟨_, rfl⟩
  · cases h
def nilA : List AV := [.agg [.nilslice]]
theorem nilA_ren (s : List Nat) : RenVs s nilA nilA := RenVs.cons (RenV.agg (RenVs.cons RenV.nilslice RenVs.nil)) RenVs.nil
theorem ev24 : isV (acall Tryz.prog exts awakeO 400 24 nilA ⟨.leaf, 0⟩) (.bool (thinB [])) = true := by decide +kernel
theorem ev26 : isV (acall Tryz.prog exts awakeO 400 26 nilA ⟨.leaf, 0⟩) (.int .i64 (checkR [])) = true := by decide +kernel
theorem ev27 : isV (acall Tryz.prog exts awakeO 400 27 nilA ⟨.leaf, 0⟩) (.int .i64 (checkR [])) = true := by decide +kernel
theorem tf24 {i : Nat} {ns : List Nd} {v : AV} (t : TF i ns v) {h : Heap} (hi : Nat.blt i h.next = true) (ht : tells (h.objs.get i) (cellsN ns)) : CSem Tryz.prog 24 [.agg [v]] h (.bool (thinB ns)) h := by
  cases t with
  | nil e =>
    subst e
    obtain ⟨h', e⟩ := isV_eq' ev24
    exact CSem.lift0 (CSem.of (wcall_ok 400) e) (fun _ _ => rfl) (nilA_ren _) h
  | sl => exact at24 hi ht
theorem tf26 {i : Nat} {ns : List Nd} {v : AV} (o : NdOk ns) (t : TF i ns v) {h : Heap} (hi : Nat.blt i h.next = true) (ht : tells (h.objs.get i) (cellsN ns)) : CSem Tryz.prog 26 [.agg [v]] h (.int .i64 (checkR ns)) h := by
  cases t with
  | nil e =>
    subst e
    obtain ⟨h', e⟩ := isV_eq' ev26
    exact CSem.lift0 (CSem.of (wcall_ok 400) e) (fun _ _ => rfl) (nilA_ren _) h
  | sl => exact at26 o hi ht
theorem tf27 {i : Nat} {ns : List Nd} {v : AV} (o : NdOk ns) (t : TF i ns v) {h : Heap} (hi : Nat.blt i h.next = true) (ht : tells (h.objs.get i) (cellsN ns)) : CSem Tryz.prog 27 [.agg [v]] h (.int .i64 (checkR ns)) h := by
  cases t with
  | nil e =>
    subst e
    obtain ⟨h', e⟩ := isV_eq' ev27
    exact CSem.lift0 (CSem.of (wcall_ok 400) e) (fun _ _ => rfl) (nilA_ren _) h
  | sl => exact at27 o hi ht
def isNilT (o : Option (AV × Heap)) : Bool := match o with
  | some (.agg [.nilslice], _) => true
  | _ => false
theorem isNilT_eq {o : Option (AV × Heap)} (h : isNilT o = true) : ∃ h', o = some (.agg [.nilslice], h') := by
  unfold isNilT at h
  split at h
  · exact ⟨_, rfl⟩
  · cases h
theorem ev25 : isNilT (acall Tryz.prog exts awakeO 400 25 nilA ⟨.leaf, 0⟩) = true := by decide +kernel
theorem ev25e : isNilT (acall Tryz.prog exts awakeO 400 25 [.agg [.slice 0 0 0 5]] ⟨.node (some (.ro 50 5 [])) .leaf .leaf, 1⟩) = true := by decide +kernel
theorem tf25 {i : Nat} {v : AV} (t : TF i [] v) {h : Heap} (ht : tells (h.objs.get i) (cellsN [])) : CSem Tryz.prog 25 [.agg [v]] h (.agg [.nilslice]) h := by
  cases t with
  | nil e =>
    obtain ⟨h', e⟩ := isNilT_eq ev25
    exact CSem.lift0 (CSem.of (wcall_ok 400) e) (fun _ _ => rfl) (nilA_ren _) h
  | sl =>
    obtain ⟨h', e⟩ := isNilT_eq ev25e
    exact CSem.lift1 (ns := []) (CSem.of (wcall_ok 400) e) (fun _ _ => rfl) ht (RenVs.cons (RenV.agg (RenVs.cons (RenV.slice rfl) RenVs.nil)) RenVs.nil)
theorem stood50 : Tryz.prog.stoodInHeld 50 = false := by kernel_rfl
theorem guard50 : Tryz.prog.eqGuardType Tryz.prog.depth 50 = false := by kernel_rfl
def rowA (a0 a1 : Int) (a2 : List UInt8) (a3 a4 : Int) : List AV := [.int .u8 a0, .int .i64 a1, .str a2, .int .i64 a3, .int .i64 a4]
theorem aeqI {P : Program} {n t : Nat} {k : IntKind} (ht : P.underlying t = some (.int k)) {j : IntKind} (hj : ikeq j j = true) (a b : Int) : aeqIn P (n + 1) t (.int j a) (.int j b) = some (decide (a = b)) := by
  unfold aeqIn
  rw [ht]
  simp only [hj, cond_true, ieq_iff]
theorem aeqS {P : Program} {n t : Nat} (ht : P.underlying t = some .string) (a b : List UInt8) : aeqIn P (n + 1) t (.str a) (.str b) = some (decide (a = b)) := by
  unfold aeqIn
  rw [ht]
  simp only [lbeq_iff]
theorem aeqRow (a0 b0 a1 b1 : Int) (a2 b2 : List UInt8) (a3 b3 a4 b4 : Int) : aeqIn Tryz.prog 20 50 (.agg (rowA a0 a1 a2 a3 a4)) (.agg (rowA b0 b1 b2 b3 b4)) = some (decide (a0 = b0) && (decide (a1 = b1) && (decide (a2 = b2) && (decide (a3 = b3) && decide (a4 = b4))))) := by
  unfold aeqIn
  rw [Tryz.underlying50]
  simp only [stood50, cond_false]
  have p0 : ∀ a0 a1 a2 a3 a4, apart Tryz.prog 5 (rowA a0 a1 a2 a3 a4) 0 = some (.int .u8 a0) := fun _ _ _ _ _ => rfl
  have p1 : ∀ a0 a1 a2 a3 a4, apart Tryz.prog 3 (rowA a0 a1 a2 a3 a4) 1 = some (.int .i64 a1) := fun _ _ _ _ _ => rfl
  have p2 : ∀ a0 a1 a2 a3 a4, apart Tryz.prog 9 (rowA a0 a1 a2 a3 a4) 2 = some (.str a2) := fun _ _ _ _ _ => rfl
  have p3 : ∀ a0 a1 a2 a3 a4, apart Tryz.prog 3 (rowA a0 a1 a2 a3 a4) 3 = some (.int .i64 a3) := fun _ _ _ _ _ => rfl
  have p4 : ∀ a0 a1 a2 a3 a4, apart Tryz.prog 3 (rowA a0 a1 a2 a3 a4) 4 = some (.int .i64 a4) := fun _ _ _ _ _ => rfl
  have n0 : ("Kind" == "_") = false := by decide
  have n1 : ("N" == "_") = false := by decide
  have n2 : ("Text" == "_") = false := by decide
  have n3 : ("At" == "_") = false := by decide
  have n4 : ("Size" == "_") = false := by decide
  simp only [aeqFields, n0, n1, n2, n3, n4, cond_false, p0, p1, p2, p3, p4, aeqI Tryz.underlying5 (j := .u8) rfl, aeqI Tryz.underlying3 (j := .i64) rfl, aeqS Tryz.underlying9]
  by_cases h0 : a0 = b0 <;> by_cases h1 : a1 = b1 <;> by_cases h2 : a2 = b2 <;> by_cases h3 : a3 = b3 <;> by_cases h4 : a4 = b4 <;> simp [h0, h1, h2, h3, h4]
theorem abinRow (x y : Operand) (a0 b0 a1 b1 : Int) (a2 b2 : List UInt8) (a3 b3 a4 b4 : Int) : abin Tryz.prog .eql 50 x y (.agg (rowA a0 a1 a2 a3 a4)) (.agg (rowA b0 b1 b2 b3 b4)) = some (.bool (decide (a0 = b0) && (decide (a1 = b1) && (decide (a2 = b2) && (decide (a3 = b3) && decide (a4 = b4)))))) := by
  have g : aguard Tryz.prog 50 x y (.agg (rowA a0 a1 a2 a3 a4)) (.agg (rowA b0 b1 b2 b3 b4)) = true := by
    show (!Tryz.prog.eqGuardType Tryz.prog.depth 50) = true
    rw [guard50]; rfl
  show (bif aguard Tryz.prog 50 x y (.agg (rowA a0 a1 a2 a3 a4)) (.agg (rowA b0 b1 b2 b3 b4)) then (match aeqIn Tryz.prog 20 50 (.agg (rowA a0 a1 a2 a3 a4)) (.agg (rowA b0 b1 b2 b3 b4)) with
        | some r => some (AV.bool r)
        | none => none) else none) = _
  rw [g, cond_true, aeqRow]
end Go.Am
namespace Go.Am
open Go Go.Proofs Go.RowKit Go.Pu
set_option maxRecDepth 1000000
theorem RenV.fn0 {s : List Nat} {f : Fn} : RenV s (.func f [] []) (.func f [] []) := fun _ => rfl
theorem sem88 (x y : Nd) (h : Heap) : CSem Tryz.prog 88 [.agg (rowN x), .agg (rowN y)] h (.bool (alikeN x y)) h := by
  refine CSem.pureA ?_ (RenVs.cons (RenV.agg (RenVs.plain rfl)) (RenVs.cons (RenV.agg (RenVs.plain rfl)) RenVs.nil)) (RenV.plain rfl) h
  refine CSem.into Tryz.func88 rfl (by decide) Tryz.ntmps88 rfl rfl rfl ?_
  dsimp only [rowN]
  repeat' (first
   | with_reducible refine RS.seq ?_
   | with_reducible refine RS.goL ?_
   | with_reducible refine RO.nil ?_
   | with_reducible refine ThenS.n ?_
   | with_reducible refine RS.ret ?_
   | ((with_reducible refine' RO.step ?hw ?ho ?hp ?_); (case hw => exact rfl); (case ho => exact OSem.bin exts_ok rfl rfl (abinRow _ _ _ _ _ _ _ _ _ _ _ _)); (case hp => exact rfl))
   | ((with_reducible refine' RO.ld1 exts_ok ?hw ?hx ?hu ?hD ?hv ?hp ?_); (case hw | hx | hu | hD => exact rfl); (case hv => exact rfl); (case hp => exact rfl))
   | ((with_reducible refine' RO.ldN exts_ok ?hw ?hx ?hu ?hD ?hv ?hp ?_); (case hw | hx | hu | hD => exact rfl); (case hv => exact rfl); (case hp => exact rfl))
   | ((with_reducible refine' RO.step ?hw ?ho ?hp ?_); (case hw => exact rfl); (case ho => (first | exact OSem.val exts_ok rfl | exact OSem.skip exts_ok rfl)); (case hp => exact rfl))
   | fail)
  refine ⟨rfl, _, rfl, [], ⟨rfl, rfl, rfl, True.intro⟩, RenV.eq ?_ rfl⟩
  show AV.bool _ = AV.bool _
  have e : decide ((x.k : Int) = (y.k : Int)) = decide (x.k = y.k) := decide_eq_decide.2 Int.ofNat_inj
  simp [alikeN, e]
def fn88 : AV := .func (.func 88) [] []
set_option maxHeartbeats 4000000 in
theorem sem89 (ns ms : List Nd) (hn : ns.length ≤ 1400) : CSem Tryz.prog 89 [.slice 0 0 ns.length 5, .slice 1 0 ms.length 5, fn88] (twoH ns ms) (.bool (alikeB ns ms)) (twoH ns ms) := by
  refine CSem.into Tryz.func89 rfl (by decide) Tryz.ntmps89 rfl rfl rfl ?_
  dsimp only [twoH, fn88]
  repeat' (first
   | with_reducible refine RS.seq ?_
   | with_reducible refine RS.goL ?_
   | with_reducible refine RO.nil ?_
   | with_reducible refine ThenS.n ?_
   | with_reducible refine RS.block ?_
   | with_reducible refine ThenS.r ?_
   | with_reducible refine RS.skip ?_
   | with_reducible refine RS.ret ?_
   | ((with_reducible refine RS.condT ?hb ?_); (case hb => exact rfl))
   | ((with_reducible refine RS.condF ?hb ?_); (case hb => exact rfl))
   | (((with_reducible refine' RO.nei exts_ok ?hw ?hx ?hy ?hk ?hT ?hF (fun hc => ?_) (fun hc => ?_)); (case hw | hx | hy | hk | hT | hF => exact rfl)) <;> try (exfalso; first | omega | (simp at hc; done)))
   | ((with_reducible refine' RO.lenL exts_ok ?hw ?hx ?hu ?hp ?_); (case hw | hx | hu | hp => exact rfl))
   | ((with_reducible refine' RO.step ?hw ?ho ?hp ?_); (case hw => exact rfl); (case ho => exact OSem.val exts_ok rfl); (case hp => exact rfl))
   | fail)
  · have e : alikeB ns ms = false := by unfold alikeB; rw [decide_eq_false (by omega)]; rfl
    rw [e]
    exact ⟨rfl, _, rfl, [0, 1], ⟨rfl, rfl, rfl, RenO.ro (RenVs.plain (cellsN_plain _)), RenO.ro (RenVs.plain (cellsN_plain _)), True.intro⟩, RenV.plain rfl⟩
  · have hlen : ns.length = ms.length := by omega
    have e : alikeB ns ms = alikeF ns ms := by unfold alikeB; rw [decide_eq_true hlen]; rfl
    rw [e]
    refine RS.loop (σ := Nat) (fun i => i ≤ ns.length ∧ alikeF (ns.drop i) (ms.drop i) = alikeF ns ms) (fun i => [(1, .slice 1 0 ms.length 5), (2, .func (.func 88) [] []), (15, .slice 0 0 ns.length 5), (16, .int .i64 (ns.length : Int)), (17, .int .i64 (i : Int))]) (fun _ => twoH ns ms) (fun i => ns.length - i) 0 ⟨Nat.zero_le _, rfl⟩ ⟨[0, 1], ⟨rfl, rfl, rfl, RenO.ro (RenVs.plain (cellsN_plain _)), RenO.ro (RenVs.plain (cellsN_plain _)), True.intro⟩, ⟨⟨_, rfl, RenV.slice rfl⟩, ⟨_, rfl, RenV.fn0⟩, ⟨_, rfl, RenV.slice rfl⟩, ⟨_, rfl, RenV.plain rfl⟩, ⟨_, rfl, RenV.plain rfl⟩, True.intro⟩⟩ ?round
    rintro i ⟨hi, hR⟩
    refine ⟨_, rfl, ?_⟩
    dsimp only [twoH]
    by_cases hlt : i < ns.length
    · obtain ⟨x, hx⟩ : ∃ x, ns[i]? = some x := ⟨ns[i], by simp [hlt]⟩
      obtain ⟨y, hy⟩ : ∃ y, ms[i]? = some y := ⟨ms[i]'(by omega), by rw [List.getElem?_eq_getElem]⟩
      rw [drop_get' hx, drop_get' hy, alikeF] at hR
      cases hq : alikeN x y with
      | false =>
        have c88 : ∀ h, CSem Tryz.prog 88 [.agg (rowN x), .agg (rowN y)] h (.bool false) h := fun h => hq ▸ sem88 x y h
        rw [hq, Bool.false_and] at hR
        repeat' (first
         | with_reducible refine RS.seq ?_
         | with_reducible refine RS.goL ?_
         | with_reducible refine RO.nil ?_
         | with_reducible refine ThenS.n ?_
         | with_reducible refine RS.block ?_
         | with_reducible refine InB.r ?_
         | with_reducible refine ThenS.r ?_
         | with_reducible refine RS.skip ?_
         | with_reducible refine RS.ret ?_
         | with_reducible refine Rnd.r ?_
         | ((with_reducible refine RS.condT ?hb ?_); (case hb => exact rfl))
         | ((with_reducible refine' RO.step ?hw ?ho ?hp ?_); (case hw => exact rfl); (case ho => exact OSem.call exts_ok rfl (c88 _)); (case hp => exact rfl))
         | (((with_reducible refine' RO.lss exts_ok ?hw ?hx ?hy ?hk ?hT ?hF (fun hc => ?_) (fun hc => ?_)); (case hw | hx | hy | hk | hT | hF => exact rfl)) <;> try (exfalso; first | omega | (simp at hc; done)))
         | ((with_reducible refine' RO.idxL exts_ok ?hw ?hx ?hy ?hu ?hi ?hes ?hz ?hlt ?hp ?_); (case hw | hx | hy | hu | hi | hes => exact rfl); (case hz => exact rfl); (case hlt => omega); (case hp => exact rfl))
         | ((with_reducible refine' RO.ldN exts_ok ?hw ?hx ?hu ?hD ?hv ?hp ?_); (case hw | hx | hu | hD => exact rfl); (case hv => (first | exact rfl | exact cellsN_row hx | exact cellsN_row hy)); (case hp => exact rfl))
         | ((with_reducible refine' RO.step ?hw ?ho ?hp ?_); (case hw => exact rfl); (case ho => (first | exact OSem.val exts_ok rfl | exact OSem.skip exts_ok rfl)); (case hp => exact rfl))
         | fail)
        rw [← hR]
        exact ⟨rfl, _, rfl, [0, 1], ⟨rfl, rfl, rfl, RenO.ro (RenVs.plain (cellsN_plain _)), RenO.ro (RenVs.plain (cellsN_plain _)), True.intro⟩, RenV.plain rfl⟩
      | true =>
        have c88 : ∀ h, CSem Tryz.prog 88 [.agg (rowN x), .agg (rowN y)] h (.bool true) h := fun h => hq ▸ sem88 x y h
        rw [hq, Bool.true_and] at hR
        repeat' (first
         | with_reducible refine RS.seq ?_
         | with_reducible refine RS.goL ?_
         | with_reducible refine RO.nil ?_
         | with_reducible refine ThenS.n ?_
         | with_reducible refine RS.block ?_
         | with_reducible refine InB.n ?_
         | with_reducible refine RS.skip ?_
         | ((with_reducible refine RS.condT ?hb ?_); (case hb => exact rfl))
         | ((with_reducible refine RS.condF ?hb ?_); (case hb => exact rfl))
         | ((with_reducible refine' RO.step ?hw ?ho ?hp ?_); (case hw => exact rfl); (case ho => exact OSem.call exts_ok rfl (c88 _)); (case hp => exact rfl))
         | (((with_reducible refine' RO.lss exts_ok ?hw ?hx ?hy ?hk ?hT ?hF (fun hc => ?_) (fun hc => ?_)); (case hw | hx | hy | hk | hT | hF => exact rfl)) <;> try (exfalso; first | omega | (simp at hc; done)))
         | ((with_reducible refine' RO.addI exts_ok ?hw ?hx ?hy ?hi ?hp ?_); (case hw | hx | hy => exact rfl); (case hi => omega); (case hp => exact rfl))
         | ((with_reducible refine' RO.idxL exts_ok ?hw ?hx ?hy ?hu ?hi ?hes ?hz ?hlt ?hp ?_); (case hw | hx | hy | hu | hi | hes => exact rfl); (case hz => exact rfl); (case hlt => omega); (case hp => exact rfl))
         | ((with_reducible refine' RO.ldN exts_ok ?hw ?hx ?hu ?hD ?hv ?hp ?_); (case hw | hx | hu | hD => exact rfl); (case hv => (first | exact rfl | exact cellsN_row hx | exact cellsN_row hy)); (case hp => exact rfl))
         | ((with_reducible refine' RO.step ?hw ?ho ?hp ?_); (case hw => exact rfl); (case ho => (first | exact OSem.val exts_ok rfl | exact OSem.skip exts_ok rfl)); (case hp => exact rfl))
         | fail)
        refine Rnd.n (i + 1) [0, 1] ⟨by omega, hR⟩ (by omega) ⟨rfl, rfl, rfl, RenO.ro (RenVs.plain (cellsN_plain _)), RenO.ro (RenVs.plain (cellsN_plain _)), True.intro⟩ ?_
        exact ⟨⟨_, rfl, RenV.slice rfl⟩, ⟨_, rfl, RenV.fn0⟩, ⟨_, rfl, RenV.slice rfl⟩, ⟨_, rfl, RenV.plain rfl⟩, ⟨_, rfl, RenV.eq (by simp) rfl⟩, True.intro⟩
    · have hie : i = ns.length := by omega
      rw [List.drop_of_length_le (by omega)] at hR
      have hR : true = alikeF ns ms := hR
      rw [← hR]
      subst hie
      repeat' (first
       | with_reducible refine RS.seq ?_
       | with_reducible refine RS.goL ?_
       | with_reducible refine RO.nil ?_
       | with_reducible refine ThenS.n ?_
       | with_reducible refine ThenS.e ?_
       | with_reducible refine RS.ret ?_
       | with_reducible refine RS.exit ?_
       | with_reducible refine Rnd.e ?_
       | ((with_reducible refine RS.condF ?hb ?_); (case hb => exact rfl))
       | ((with_reducible refine InB.e ?hb ?_); (case hb => exact rfl))
       | (((with_reducible refine' RO.lss exts_ok ?hw ?hx ?hy ?hk ?hT ?hF (fun hc => ?_) (fun hc => ?_)); (case hw | hx | hy | hk | hT | hF => exact rfl)) <;> try (exfalso; first | omega | (simp at hc; done)))
       | ((with_reducible refine' RO.step ?hw ?ho ?hp ?_); (case hw => exact rfl); (case ho => exact OSem.val exts_ok rfl); (case hp => exact rfl))
       | fail)
      exact ⟨rfl, _, rfl, [0, 1], ⟨rfl, rfl, rfl, RenO.ro (RenVs.plain (cellsN_plain _)), RenO.ro (RenVs.plain (cellsN_plain _)), True.intro⟩, RenV.plain rfl⟩
theorem ev39 : isV (acall Tryz.prog exts awakeO 400 39 [.agg [.nilslice], .agg [.nilslice]] ⟨.leaf, 0⟩) (.bool true) = true := by decide +kernel
theorem ev39r : isV (acall Tryz.prog exts awakeO 400 39 [.agg [.nilslice], .agg [.slice 0 0 0 5]] ⟨.node (some (.ro 50 5 [])) .leaf .leaf, 1⟩) (.bool true) = true := by decide +kernel
theorem ev39l : isV (acall Tryz.prog exts awakeO 400 39 [.agg [.slice 0 0 0 5], .agg [.nilslice]] ⟨.node (some (.ro 50 5 [])) .leaf .leaf, 1⟩) (.bool true) = true := by decide +kernel
theorem ev89 : isV (acall Tryz.prog exts awakeO 400 89 [.nilslice, .nilslice, fn88] ⟨.leaf, 0⟩) (.bool true) = true := by decide +kernel
theorem ev89r : isV (acall Tryz.prog exts awakeO 400 89 [.nilslice, .slice 0 0 0 5, fn88] ⟨.node (some (.ro 50 5 [])) .leaf .leaf, 1⟩) (.bool true) = true := by decide +kernel
theorem ev89l : isV (acall Tryz.prog exts awakeO 400 89 [.slice 0 0 0 5, .nilslice, fn88] ⟨.node (some (.ro 50 5 [])) .leaf .leaf, 1⟩) (.bool true) = true := by decide +kernel
theorem alikeB_ne {ns ms : List Nd} (h : ns.length ≠ ms.length) : alikeB ns ms = false := by unfold alikeB; rw [decide_eq_false h]; rfl
theorem sem39r (ms : List Nd) (hne : ms.length ≠ 0) : CSem Tryz.prog 39 [.agg [.nilslice], .agg [.slice 0 0 ms.length 5]] (nodesH ms) (.bool false) (nodesH ms) := by
  refine CSem.into Tryz.func39 rfl (by decide) Tryz.ntmps39 rfl rfl rfl ?_
  dsimp only [nodesH]
  repeat' (first
   | with_reducible refine RS.seq ?_
   | with_reducible refine RS.goL ?_
   | with_reducible refine RO.nil ?_
   | with_reducible refine ThenS.n ?_
   | with_reducible refine RS.block ?_
   | with_reducible refine ThenS.r ?_
   | with_reducible refine RS.skip ?_
   | with_reducible refine RS.ret ?_
   | ((with_reducible refine RS.condT ?hb ?_); (case hb => exact rfl))
   | ((with_reducible refine RS.condF ?hb ?_); (case hb => exact rfl))
   | (((with_reducible refine' RO.nei exts_ok ?hw ?hx ?hy ?hk ?hT ?hF (fun hc => ?_) (fun hc => ?_)); (case hw | hx | hy | hk | hT | hF => exact rfl)) <;> try (exfalso; first | omega | (simp at hc; done)))
   | ((with_reducible refine' RO.lenL exts_ok ?hw ?hx ?hu ?hp ?_); (case hw | hx | hu | hp => exact rfl))
   | ((with_reducible refine' RO.ld1 exts_ok ?hw ?hx ?hu ?hD ?hv ?hp ?_); (case hw | hx | hu | hD => exact rfl); (case hv => exact rfl); (case hp => exact rfl))
   | ((with_reducible refine' RO.step ?hw ?ho ?hp ?_); (case hw => exact rfl); (case ho => exact OSem.val exts_ok rfl); (case hp => exact rfl))
   | fail)
  all_goals first
    | (exfalso; have hc' : (0 : Int) = (ms.length : Int) := hc; omega)
    | (exfalso; have hc' : (ms.length : Int) = (0 : Int) := hc; omega)
    | exact ⟨rfl, _, rfl, [0], ⟨rfl, rfl, rfl, RenO.ro (RenVs.plain (cellsN_plain _)), True.intro⟩, RenV.plain rfl⟩
theorem sem39l (ms : List Nd) (hne : ms.length ≠ 0) : CSem Tryz.prog 39 [.agg [.slice 0 0 ms.length 5], .agg [.nilslice]] (nodesH ms) (.bool false) (nodesH ms) := by
  refine CSem.into Tryz.func39 rfl (by decide) Tryz.ntmps39 rfl rfl rfl ?_
  dsimp only [nodesH]
  repeat' (first
   | with_reducible refine RS.seq ?_
   | with_reducible refine RS.goL ?_
   | with_reducible refine RO.nil ?_
   | with_reducible refine ThenS.n ?_
   | with_reducible refine RS.block ?_
   | with_reducible refine ThenS.r ?_
   | with_reducible refine RS.skip ?_
   | with_reducible refine RS.ret ?_
   | ((with_reducible refine RS.condT ?hb ?_); (case hb => exact rfl))
   | ((with_reducible refine RS.condF ?hb ?_); (case hb => exact rfl))
   | (((with_reducible refine' RO.nei exts_ok ?hw ?hx ?hy ?hk ?hT ?hF (fun hc => ?_) (fun hc => ?_)); (case hw | hx | hy | hk | hT | hF => exact rfl)) <;> try (exfalso; first | omega | (simp at hc; done)))
   | ((with_reducible refine' RO.lenL exts_ok ?hw ?hx ?hu ?hp ?_); (case hw | hx | hu | hp => exact rfl))
   | ((with_reducible refine' RO.ld1 exts_ok ?hw ?hx ?hu ?hD ?hv ?hp ?_); (case hw | hx | hu | hD => exact rfl); (case hv => exact rfl); (case hp => exact rfl))
   | ((with_reducible refine' RO.step ?hw ?ho ?hp ?_); (case hw => exact rfl); (case ho => exact OSem.val exts_ok rfl); (case hp => exact rfl))
   | fail)
  all_goals first
    | (exfalso; have hc' : (0 : Int) = (ms.length : Int) := hc; omega)
    | (exfalso; have hc' : (ms.length : Int) = (0 : Int) := hc; omega)
    | exact ⟨rfl, _, rfl, [0], ⟨rfl, rfl, rfl, RenO.ro (RenVs.plain (cellsN_plain _)), True.intro⟩, RenV.plain rfl⟩
theorem sem89r (ms : List Nd) (hne : ms.length ≠ 0) : CSem Tryz.prog 89 [.nilslice, .slice 0 0 ms.length 5, fn88] (nodesH ms) (.bool false) (nodesH ms) := by
  refine CSem.into Tryz.func89 rfl (by decide) Tryz.ntmps89 rfl rfl rfl ?_
  dsimp only [nodesH, fn88]
  repeat' (first
   | with_reducible refine RS.seq ?_
   | with_reducible refine RS.goL ?_
   | with_reducible refine RO.nil ?_
   | with_reducible refine ThenS.n ?_
   | with_reducible refine RS.block ?_
   | with_reducible refine ThenS.r ?_
   | with_reducible refine RS.skip ?_
   | with_reducible refine RS.ret ?_
   | ((with_reducible refine RS.condT ?hb ?_); (case hb => exact rfl))
   | ((with_reducible refine RS.condF ?hb ?_); (case hb => exact rfl))
   | (((with_reducible refine' RO.nei exts_ok ?hw ?hx ?hy ?hk ?hT ?hF (fun hc => ?_) (fun hc => ?_)); (case hw | hx | hy | hk | hT | hF => exact rfl)) <;> try (exfalso; first | omega | (simp at hc; done)))
   | ((with_reducible refine' RO.lenL exts_ok ?hw ?hx ?hu ?hp ?_); (case hw | hx | hu | hp => exact rfl))
   | ((with_reducible refine' RO.step ?hw ?ho ?hp ?_); (case hw => exact rfl); (case ho => exact OSem.val exts_ok rfl); (case hp => exact rfl))
   | fail)
  all_goals first
    | (exfalso; have hc' : (0 : Int) = (ms.length : Int) := hc; omega)
    | (exfalso; have hc' : (ms.length : Int) = (0 : Int) := hc; omega)
    | exact ⟨rfl, _, rfl, [0], ⟨rfl, rfl, rfl, RenO.ro (RenVs.plain (cellsN_plain _)), True.intro⟩, RenV.plain rfl⟩
theorem sem89l (ms : List Nd) (hne : ms.length ≠ 0) : CSem Tryz.prog 89 [.slice 0 0 ms.length 5, .nilslice, fn88] (nodesH ms) (.bool false) (nodesH ms) := by
  refine CSem.into Tryz.func89 rfl (by decide) Tryz.ntmps89 rfl rfl rfl ?_
  dsimp only [nodesH, fn88]
  repeat' (first
   | with_reducible refine RS.seq ?_
   | with_reducible refine RS.goL ?_
   | with_reducible refine RO.nil ?_
   | with_reducible refine ThenS.n ?_
   | with_reducible refine RS.block ?_
   | with_reducible refine ThenS.r ?_
   | with_reducible refine RS.skip ?_
   | with_reducible refine RS.ret ?_
   | ((with_reducible refine RS.condT ?hb ?_); (case hb => exact rfl))
   | ((with_reducible refine RS.condF ?hb ?_); (case hb => exact rfl))
   | (((with_reducible refine' RO.nei exts_ok ?hw ?hx ?hy ?hk ?hT ?hF (fun hc => ?_) (fun hc => ?_)); (case hw | hx | hy | hk | hT | hF => exact rfl)) <;> try (exfalso; first | omega | (simp at hc; done)))
   | ((with_reducible refine' RO.lenL exts_ok ?hw ?hx ?hu ?hp ?_); (case hw | hx | hu | hp => exact rfl))
   | ((with_reducible refine' RO.step ?hw ?ho ?hp ?_); (case hw => exact rfl); (case ho => exact OSem.val exts_ok rfl); (case hp => exact rfl))
   | fail)
  all_goals first
    | (exfalso; have hc' : (0 : Int) = (ms.length : Int) := hc; omega)
    | (exfalso; have hc' : (ms.length : Int) = (0 : Int) := hc; omega)
    | exact ⟨rfl, _, rfl, [0], ⟨rfl, rfl, rfl, RenO.ro (RenVs.plain (cellsN_plain _)), True.intro⟩, RenV.plain rfl⟩
theorem RenVs.two {s : List Nat} {a b c d : AV} (h : RenV s a b) (k : RenV s c d) : RenVs s [a, c] [b, d] := RenVs.cons h (RenVs.cons k RenVs.nil)
theorem RenV.agg1 {s : List Nat} {a b : AV} (h : RenV s a b) : RenV s (.agg [a]) (.agg [b]) := RenV.agg (RenVs.cons h RenVs.nil)
theorem tf39 {i j : Nat} {ns ms : List Nd} {u v : AV} (hn : ns.length ≤ 1400) (tu : TF i ns u) (tv : TF j ms v) {h : Heap} (hi : Nat.blt i h.next = true) (ht : tells (h.objs.get i) (cellsN ns)) (hj : Nat.blt j h.next = true) (htj : tells (h.objs.get j) (cellsN ms)) :
    CSem Tryz.prog 39 [.agg [u], .agg [v]] h (.bool (alikeB ns ms)) h := by
  cases tu with
  | nil e =>
    subst e
    cases tv with
    | nil e =>
      subst e
      obtain ⟨h', e⟩ := isV_eq' ev39
      exact CSem.lift0 (CSem.of (wcall_ok 400) e) (fun _ _ => rfl) (RenVs.two (RenV.agg1 RenV.nilslice) (RenV.agg1 RenV.nilslice)) h
    | sl =>
      by_cases hm : ms.length = 0
      · obtain rfl := List.length_eq_zero_iff.1 hm
        obtain ⟨h', e⟩ := isV_eq' ev39r
        exact CSem.lift1 (ns := []) (CSem.of (wcall_ok 400) e) (fun _ _ => rfl) htj (RenVs.two (RenV.agg1 RenV.nilslice) (RenV.agg1 (RenV.slice rfl)))
      · rw [alikeB_ne (by simpa using fun e => hm e.symm)]
        exact CSem.lift1 (sem39r ms hm) (fun _ _ => rfl) htj (RenVs.two (RenV.agg1 RenV.nilslice) (RenV.agg1 (RenV.slice rfl)))
  | sl =>
    cases tv with
    | nil e =>
      subst e
      by_cases hm : ns.length = 0
      · obtain rfl := List.length_eq_zero_iff.1 hm
        obtain ⟨h', e⟩ := isV_eq' ev39l
        exact CSem.lift1 (ns := []) (CSem.of (wcall_ok 400) e) (fun _ _ => rfl) ht (RenVs.two (RenV.agg1 (RenV.slice rfl)) (RenV.agg1 RenV.nilslice))
      · rw [alikeB_ne (by simpa using hm)]
        exact CSem.lift1 (sem39l ns hm) (fun _ _ => rfl) ht (RenVs.two (RenV.agg1 (RenV.slice rfl)) (RenV.agg1 RenV.nilslice))
    | sl => exact upTwo (sem39 ns ms hn) rfl hi ht hj htj
theorem RenVs.three {s : List Nat} {a b c d : AV} {f : Fn} (h : RenV s a b) (k : RenV s c d) : RenVs s [a, c, .func f [] []] [b, d, .func f [] []] := RenVs.cons h (RenVs.cons k (RenVs.cons RenV.fn0 RenVs.nil))
theorem tf89 {i j : Nat} {ns ms : List Nd} {u v : AV} (hn : ns.length ≤ 1400) (tu : TF i ns u) (tv : TF j ms v) {h : Heap} (hi : Nat.blt i h.next = true) (ht : tells (h.objs.get i) (cellsN ns)) (hj : Nat.blt j h.next = true) (htj : tells (h.objs.get j) (cellsN ms)) :
    CSem Tryz.prog 89 [u, v, .func (.func 88) [] []] h (.bool (alikeB ns ms)) h := by
  cases tu with
  | nil e =>
    subst e
    cases tv with
    | nil e =>
      subst e
      obtain ⟨h', e⟩ := isV_eq' ev89
      exact CSem.lift0 (CSem.of (wcall_ok 400) e) (fun _ _ => rfl) (RenVs.three RenV.nilslice RenV.nilslice) h
    | sl =>
      by_cases hm : ms.length = 0
      · obtain rfl := List.length_eq_zero_iff.1 hm
        obtain ⟨h', e⟩ := isV_eq' ev89r
        exact CSem.lift1 (ns := []) (CSem.of (wcall_ok 400) e) (fun _ _ => rfl) htj (RenVs.three RenV.nilslice (RenV.slice rfl))
      · rw [alikeB_ne (by simpa using fun e => hm e.symm)]
        exact CSem.lift1 (sem89r ms hm) (fun _ _ => rfl) htj (RenVs.three RenV.nilslice (RenV.slice rfl))
  | sl =>
    cases tv with
    | nil e =>
      subst e
      by_cases hm : ns.length = 0
      · obtain rfl := List.length_eq_zero_iff.1 hm
        obtain ⟨h', e⟩ := isV_eq' ev89l
        exact CSem.lift1 (ns := []) (CSem.of (wcall_ok 400) e) (fun _ _ => rfl) ht (RenVs.three (RenV.slice rfl) RenV.nilslice)
      · rw [alikeB_ne (by simpa using hm)]
        exact CSem.lift1 (sem89l ns hm) (fun _ _ => rfl) ht (RenVs.three (RenV.slice rfl) RenV.nilslice)
    | sl => exact CSem.up (sem89 ns ms hn) [i, j] [] rfl (by simp only [List.all_cons, hi, hj, List.all_nil, Bool.and_true]) ⟨⟨cellsN_plain ns, ht⟩, ⟨cellsN_plain ms, htj⟩, True.intro⟩ (RenVs.three (RenV.slice rfl) (RenV.slice rfl)) True.intro rfl rfl (RenV.plain rfl)
end Go.Am
