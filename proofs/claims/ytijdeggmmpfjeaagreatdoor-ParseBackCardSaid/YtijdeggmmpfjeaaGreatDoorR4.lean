/- Part of the proof: WrG. -/
import Derived.Test.YtijdeggmmpfjeaaGreatDoorR3
import Derived.Test.YtijdeggmmpfjeaaGreatDoorP3
set_option linter.unusedSimpArgs false
set_option linter.unusedVariables false
set_option linter.unusedSectionVars false
namespace Go.Am
open Go Go.Proofs Go.RowKit Go.Pu
set_option maxRecDepth 1000000
theorem raised_mem {f : Nat → Bool} {d : Int} {l : List Nd} {x : Nd} (h : x ∈ raised f d l) : ∃ i y, l[i]? = some y ∧ x = if f i then { y with s := y.s + d } else y := by
  obtain ⟨i, hi⟩ := List.mem_iff_getElem?.1 h
  rw [raised_get] at hi
  obtain ⟨y, hy, rfl⟩ := Option.map_eq_some_iff.1 hi
  exact ⟨i, y, hy, rfl⟩
theorem splA_mem {ns : List Nd} {i : Nat} {by' : List Nd} {y : Nd} (h : y ∈ splA ns i by') : y ∈ ns ∨ y ∈ by' := by
  unfold splA at h
  rcases List.mem_append.1 h with h | h
  · exact .inl (List.mem_of_mem_take h)
  · rcases List.mem_append.1 h with h | h
    · exact .inr h
    · exact .inl (List.mem_of_mem_drop h)
theorem splN_len {ns : List Nd} (hl : Lam (sizes ns)) {i : Nat} (hi : i < ns.length) (by' : List Nd) : ((splN ns i by').length : Int) = ns.length + by'.length - sizeAt ns i := by
  unfold splN
  rw [raised_len]
  exact splA_len hl hi by'
theorem splN_ok {ns : List Nd} (o : NdOk ns) (h0 : checkR ns = 0) {by' : List Nd} (ob : NdOk by') {node : Nat} (hi : node < ns.length) (hlen : ns.length + by'.length ≤ 700) : NdOk (splN ns node by') := by
  have hl := check_lam o h0
  have hz := sizeAt_le hl hi
  refine ⟨?_, fun x hx => ?_, fun x hx => ?_, fun x hx => ?_⟩
  · have := splN_len hl hi by'
    omega
  · obtain ⟨i, y, hy, rfl⟩ := raised_mem hx
    have : y.k < 256 := (splA_mem (List.mem_of_getElem? hy)).elim (o.k y) (ob.k y)
    split <;> exact this
  · obtain ⟨i, y, hy, rfl⟩ := raised_mem hx
    split
    · rename_i hf
      unfold ancB at hf
      simp only [decide_eq_true_eq] at hf
      rw [splA_lo (by omega) hf.1] at hy
      have h1 := sizeAt_get hy
      have h2 := sizeAt_le hl (i := i) (by omega)
      have h3 := o.len
      simp only
      omega
    · exact (splA_mem (List.mem_of_getElem? hy)).elim (o.s y) (ob.s y)
  · obtain ⟨i, y, hy, rfl⟩ := raised_mem hx
    have : y.t.length ≤ 1000000 := (splA_mem (List.mem_of_getElem? hy)).elim (o.t y) (ob.t y)
    split <;> exact this
def splV (j : Nat) (o : List Nd) : AV := if checkR o = 0 then .slice j 0 o.length 5 else .nilslice
def threeH (ns by' o : List Nd) : Heap := ⟨.node (some (.ro 50 5 (cellsN ns))) (.node (some (.ro 50 5 (cellsN by'))) .leaf .leaf) (.node (some (.cells 50 5 (cellsN o) false)) .leaf .leaf), 3⟩
def splO (ns by' o : List Nd) : Heap := if checkR o = 0 then threeH ns by' o else twoH ns by'
def spA (ns by' : List Nd) (node e tot : Nat) (v : AV) (s : Int) (o : List Nd) : Heap := ⟨.node (some (.ro 50 5 (cellsN ns))) (.node (some (.ro 50 5 (cellsN by'))) (.node (some (.cells 24 1 [v] true)) (.node (some (.cells 24 1 [.slice 0 0 node 5, v, .slice 0 e (ns.length - e) 5] true)) .leaf .leaf) .leaf) (.node (some (.cells 3 1 [.int .i64 s] true)) (.node (some (.cells 24 1 [.slice 0 0 ns.length 5] true)) .leaf .leaf) .leaf)) (.node (some (.cells 26 1 [.slice 0 0 ns.length 5] true)) (.node (some (.cells 26 1 [.nilslice] true)) (.node (some (.cells 50 5 (cellsN o) false)) .leaf .leaf) .leaf) (.node (some (.cells 26 1 [.slice 8 0 tot 5] true)) (.node (some (.cells 3 1 [.int .i64 (node : Int)] true)) .leaf .leaf) .leaf)), 11⟩
def spB (ns by' : List Nd) (node tot : Nat) (v : AV) (s : Int) (o : List Nd) : Heap := ⟨.node (some (.ro 50 5 (cellsN ns))) (.node (some (.ro 50 5 (cellsN by'))) (.node (some (.cells 24 1 [v] true)) .leaf (.node (some (.cells 3 1 [.int .i64 (node : Int)] true)) .leaf .leaf)) (.node (some (.cells 3 1 [.int .i64 s] true)) (.node (some (.cells 50 5 (cellsN o) false)) .leaf .leaf) .leaf)) (.node (some (.cells 26 1 [.slice 0 0 ns.length 5] true)) (.node (some (.cells 26 1 [.nilslice] true)) (.node (some (.cells 24 1 [.slice 0 0 node 5, v, .slice 7 0 0 5] true)) .leaf .leaf) .leaf) (.node (some (.cells 26 1 [.slice 9 0 tot 5] true)) (.node (some (.cells 24 1 [.slice 0 0 ns.length 5] true)) .leaf .leaf) .leaf)), 12⟩
theorem cellsN_set : ∀ (l : List Nd) (i : Nat) (y : Nd) (z : Int), l[i]? = some y → (cellsN l).set (i * 5 + 4) (.int .i64 z) = cellsN (l.set i { y with s := z })
  | [], i, y, z, h => by simp at h
  | x :: l, 0, y, z, h => by
    simp only [List.getElem?_cons_zero, Option.some.injEq] at h
    subst h
    rfl
  | x :: l, i + 1, y, z, h => by
    have e : cellsN (x :: l) = rowN x ++ cellsN l := rfl
    rw [e, List.set_append_right _ _ (by rw [rowN_len]; omega), rowN_len, show (i + 1) * 5 + 4 - 5 = i * 5 + 4 by omega, cellsN_set l i y z (by simpa using h)]
    rfl
section
variable {P : Program} {ext : FuncId → Bool} {n : Nat} {ops : Array Oper} {l : List Oper} {r0 : Option (Nat × TypeId × List AV)} {rs : List (Option (Nat × TypeId × List AV))} {env env1 : Env} {h h1 h2 : Heap} {K : List Rec → Env → List Heap → Prop} {L : List Tmp} {d : Option Tmp} {ty : TypeId} {pos : String} {af : Array Edge} {gd : Option (Nat × Bool)}
theorem RD.opSlZ (hext : ExtOk P ext) {t e : TypeId} {x : Operand} {lo hi : Option Operand} {i len es : Nat} {lv uv : Option AV} {a b : Nat} (hL : (⟨d, .slice t x lo hi none, ty, pos, af, gd⟩ : Oper).looksAt ops = L) (hw : awanted ops (aeval env) (⟨d, .slice t x lo hi none, ty, pos, af, gd⟩ : Oper) = some true) (hx : gfast L env x = some (.slice i 0 len es)) (hl : aopt (gfast L env) lo = some lv) (hu : aopt (gfast L env) hi = some uv) (ht : P.underlying t = some (.slice e)) (hi' : (P.info? e).isSome = true) (hes : Nat.beq (P.cellsOf e) es = true) (hb : abound uv len len = some b) (ha : abound lv 0 b = some a) (hlt : a < len) (hp : aput env n d (.slice i a (b - a) es) = some env1)
    (rest : RD P n ops l rs env1 h fun recs e hs => K (⟨(⟨d, .slice t x lo hi none, ty, pos, af, gd⟩ : Oper), env, .calm, .slice i a (b - a) es⟩ :: recs) e hs) : RD P n ops ((⟨d, .slice t x lo hi none, ty, pos, af, gd⟩ : Oper) :: l) (r0 :: rs) env h K :=
  RD.calmF hL hw (fun H => by have := OSem.slR (P := P) (ext := ext) hext (h := H) (d := d) (ty := ty) (pos := pos) (af := af) (gd := gd) hx hl hu ht hi' hes hb ha hlt; rw [Nat.zero_add] at this; exact this) hp rest
end
set_option maxHeartbeats 32000000 in
theorem sem56an (ns : List Nd) (o : NdOk ns) (h0 : checkR ns = 0) (node : Nat) (hi : node < ns.length) (he : (node : Int) + sizeAt ns node < ns.length) (hb6 : ([] : List Nd).length ≤ 600) (hlen : ns.length + ([] : List Nd).length ≤ 700) : CSem Tryz.prog 56 [.agg [.slice 0 0 ns.length 5], .int .i64 (node : Int), .nilslice] (twoH ns ([] : List Nd)) (.tuple [.agg [splV 2 (splN ns node ([] : List Nd))], .int .i64 (checkR (splN ns node ([] : List Nd)))]) (splO ns ([] : List Nd) (splN ns node ([] : List Nd))) := by
  have hl := check_lam o h0
  have hn := o.len
  have oo := splN_ok o h0 (by' := []) ⟨by simp, fun x hx => (by cases hx), fun x hx => (by cases hx), fun x hx => (by cases hx)⟩ hi hlen
  have hol := splN_len hl hi ([] : List Nd)
  have hbump := bumped_anc ns node ([] : List Nd)
  have hsplA : splA ns node ([] : List Nd) = partC (ns.take node) ([] : List Nd) (ns.drop (node + (sizeAt ns node).toNat)) 3 := rfl
  obtain ⟨x, s, hx, hxs, hs1, hs2, hs3, _⟩ := sub_nat hl hi
  rw [hs3, Int.toNat_natCast] at hsplA
  rw [hs3, ← hxs] at he hol hbump
  try simp only [List.length_nil] at hlen hb6 hol hbump
  have hdr : True := trivial
  skip
  have hbl : ∀ pre : List Nat, (bumped (((0 : Nat) : Int) - x.s) (partC (ns.take node) ([] : List Nd) (ns.drop (node + s)) 3) pre).length = node + 0 + (ns.length - (node + s)) := fun pre => by
    rw [bumped_len]
    simp [partC]
    omega
  have hlo : ∀ j, j < node → ∃ y : Nd, (partC (ns.take node) ([] : List Nd) (ns.drop (node + s)) 3)[j]? = some y ∧ 1 ≤ y.s ∧ y.s ≤ 700 := fun j hj => by
    obtain ⟨y, hy⟩ : ∃ y, ns[j]? = some y := ⟨ns[j]'(by omega), by rw [List.getElem?_eq_getElem]⟩
    have h1 := sizeAt_get hy
    have h2 := sizeAt_le hl (i := j) (by omega)
    refine ⟨y, ?_, by omega, by omega⟩
    rw [← hsplA, splA_lo (by omega) hj, hy]
  have cf : ∀ {h : Heap}, Nat.blt 0 h.next = true → tells (h.objs.get 0) (cellsN ns) → CSem Tryz.prog 66 [.agg [.slice 0 0 ns.length 5], .int .i64 (node : Int)] h (.int .i64 0) h := fun hi' ht => by
    have := tf66 o (node := (node : Int)) (by omega) (TF.sl (i := 0)) hi' ht
    rwa [findR_z h0 (by omega)] at this
  have c99 := sem99an ns node (node + s) x.s (by omega) (by omega) hn (by omega)
  refine CSem.intoM Tryz.func56 rfl Tryz.ntmps56 rfl rfl rfl ?_
  dsimp only [twoH]
  refine RM.seqS ?_
  repeat' (first
   | refine S0 ?_
   | refine Sm ?_
   | (refine S2 ?_ ?_) <;> intro hc <;> try (exfalso; first | omega | (simp at hc; done))
   | refine St ?_
   | ((with_reducible refine RD.nil ?_); (refine' RDk.intro ?oks ?hl ?_); (case hl => exact rfl); (case oks => (repeat' (first | exact True.intro | refine And.intro ?_ ?_ | exact rfl | exact OSem.load1 exts_ok rfl rfl rfl rfl | exact OSem.loadN exts_ok rfl rfl rfl rfl))))
   | refine Sd ?_
   | fail)
  refine ThenM.n ?_
  refine RM.seqS ?_
  repeat' (first
   | refine S0 ?_
   | refine Sm ?_
   | refine Sc cf ?_
   | (refine S2 ?_ ?_) <;> intro hc <;> try (exfalso; first | omega | (simp at hc; done))
   | refine St ?_
   | ((with_reducible refine RD.nil ?_); (refine' RDk.intro ?oks ?hl ?_); (case hl => exact rfl); (case oks => (repeat' (first | exact True.intro | refine And.intro ?_ ?_ | exact rfl | exact OSem.load1 exts_ok rfl rfl rfl rfl | exact OSem.loadN exts_ok rfl rfl rfl rfl))))
   | refine Sd ?_
   | fail)
  refine ThenM.n ?_
  refine RM.seqS ?_
  repeat' (first
   | refine S0 ?_
   | refine Sm ?_
   | (refine S2 ?_ ?_) <;> intro hc <;> try (exfalso; first | omega | (simp at hc; done))
   | refine St ?_
   | ((with_reducible refine RD.nil ?_); (refine' RDk.intro ?oks ?hl ?_); (case hl => exact rfl); (case oks => (repeat' (first | exact True.intro | refine And.intro ?_ ?_ | exact rfl | exact OSem.load1 exts_ok rfl rfl rfl rfl | exact OSem.loadN exts_ok rfl rfl rfl rfl))))
   | refine Sd ?_
   | fail)
  all_goals first
    | (exfalso; omega)
    | refine ThenM.n ?_
  refine RM.seqS ?_
  repeat' (first
   | refine S0 ?_
   | refine Sm ?_
   | ((with_reducible refine' RO.idxL (m := node) exts_ok ?hw ?hx ?hy ?hu ?hi ?hes ?hz ?hlt ?hp ?_); (case hw | hx | hy | hu | hi | hes => exact rfl); (case hz | hlt => omega); (case hp => exact rfl))
   | ((with_reducible refine' RQ.idxL (m := node) exts_ok ?hw ?hx ?hy ?hu ?hi ?hes ?hz ?hlt ?hp ?_); (case hw | hx | hy | hu | hi | hes => exact rfl); (case hz | hlt => omega); (case hp => exact rfl))
   | (refine S2 ?_ ?_) <;> intro hc <;> try (exfalso; first | omega | (simp at hc; done))
   | refine Sf hx ?_
   | refine St ?_
   | ((with_reducible refine RD.nil ?_); (refine' RDk.intro ?oks ?hl ?_); (case hl => exact rfl); (case oks => (repeat' (first | exact True.intro | refine And.intro ?_ ?_ | exact rfl | exact OSem.load1 exts_ok rfl rfl rfl rfl | exact OSem.loadN exts_ok rfl rfl rfl rfl | exact OSem.load1 exts_ok rfl rfl rfl (cellsN_one hx rfl) | exact OSem.load1 exts_ok rfl rfl rfl (cellsN_row hx) | exact OSem.load1 exts_ok rfl rfl rfl (cellsI_one hx) | exact OSem.load1 exts_ok rfl rfl rfl (cellsZ_one hx) | exact OSem.load1 exts_ok rfl rfl rfl (cellsS_one hx) | exact OSem.loadN exts_ok rfl rfl rfl (cellsN_one hx rfl) | exact OSem.loadN exts_ok rfl rfl rfl (cellsN_row hx) | exact OSem.loadN exts_ok rfl rfl rfl (cellsI_one hx) | exact OSem.loadN exts_ok rfl rfl rfl (cellsZ_one hx) | exact OSem.loadN exts_ok rfl rfl rfl (cellsS_one hx)))))
   | refine Sd ?_
   | refine Sr hx ?_
   | fail)
  refine ThenM.n ?_
  refine RM.seqS ?_
  repeat' (first
   | refine S0 ?_
   | refine Sm ?_
   | ((with_reducible refine' RS.drawE mixed [none, none, none, none, none, none, none, none, none, none, none, none, none, none, some (26, [.nilslice]), none] ?hn ?hms ?hord ?hh ?_); (case hn | hms | hord | hh => exact rfl))
   | ((with_reducible refine' RD.opSl0 (b := node) exts_ok ?hLL ?hw ?hx ?hu ?ht ?hi ?hes ?hb ?hp ?_); (case hLL | hw | hx | hu | ht | hi | hes => exact rfl); (case hb => exact abound_le rfl (by omega)); (case hp => exact rfl))
   | ((with_reducible refine' RD.opSlZ (a := node + s) (b := ns.length) exts_ok ?hLL ?hw ?hx ?hl ?hu ?ht ?hi ?hes ?hb ?ha ?hlt ?hp ?_); (case hLL | hw | hx | hl | hu | ht | hi | hes => exact rfl); (case hb => exact rfl); (case ha => exact abound_le (by omega) (by omega)); (case hlt => omega); (case hp => exact rfl))
   | ((with_reducible refine' RD.opAddI exts_ok ?hLL ?hw ?hx ?hy ?hi ?hp ?_); (case hLL | hw | hx | hy => exact rfl); (case hi => omega); (case hp => exact rfl))
   | ((with_reducible refine' RD.opBS ?hLL ?hw ?ho ?hp ?_); (case hLL | hw => exact rfl); (case ho => exact OSem.val exts_ok rfl); (case hp => exact rfl))
   | ((with_reducible refine' RD.opFnE exts_ok 99 ?hLL ?hw ?ha ?hf ?hs ?hp ?_); (case hLL | hw | ha | hf => exact rfl); (case hs => exact c99); (case hp => exact rfl))
   | (refine S2 ?_ ?_) <;> intro hc <;> try (exfalso; first | omega | (simp at hc; done))
   | refine St ?_
   | ((with_reducible refine RD.nil ?_); (refine' RDk.intro ?oks ?hl ?_); (case hl => exact rfl); (case oks => (repeat' (first | exact True.intro | refine And.intro ?_ ?_ | exact rfl | exact OSem.load1 exts_ok rfl rfl rfl rfl | exact OSem.loadN exts_ok rfl rfl rfl rfl))))
   | refine Sd ?_
   | fail)
  refine ThenM.n ?_
  refine RM.seq (RM.seqS ?_)
  repeat' (first
   | refine S0 ?_
   | refine Sm ?_
   | refine Sc sem95 ?_
   | (refine S2 ?_ ?_) <;> intro hc <;> try (exfalso; first | omega | (simp at hc; done))
   | refine St ?_
   | ((with_reducible refine RD.nil ?_); (refine' RDk.intro ?oks ?hl ?_); (case hl => exact rfl); (case oks => (repeat' (first | exact True.intro | refine And.intro ?_ ?_ | exact rfl | exact OSem.load1 exts_ok rfl rfl rfl rfl | exact OSem.loadN exts_ok rfl rfl rfl rfl))))
   | refine Sd ?_
   | fail)
  refine ThenM.n (RM.block ?_)
  have hb0 : bumped (((0 : Nat) : Int) - x.s) (partC (ns.take node) ([] : List Nd) (ns.drop (node + s)) 3) [] = partC (ns.take node) ([] : List Nd) (ns.drop (node + s)) 3 := bumped_nil _ _
  refine RM.aboveE (K := 11) (node := node) (ns := ns) (ib := 10) (is := 9) (i0 := 0) rfl (by decide) hi hl hn ?box rfl (by decide) (fun pre => spA ns ([] : List Nd) node (node + s) (lenC node 0 (ns.length - (node + s)) 3) .nilslice x.s (bumped (((0 : Nat) : Int) - x.s) (partC (ns.take node) ([] : List Nd) (ns.drop (node + s)) 3) pre)) (by rw [hb0]; rfl) (fun pre _ i => flatT_get _ rfl i) (fun pre => Nat.le_refl _) (fun pre => ⟨⟨true, rfl⟩, ⟨true, rfl⟩, rfl⟩) ?round ?post
  case box => exact ⟨⟨true, rfl⟩, ⟨true, rfl⟩, rfl⟩
  case round =>
    intro pre z hlt hpl hx
    refine ⟨_, rfl, _, rfl, ?_⟩
    have hbx := hbl pre
    obtain ⟨y0, hy0, hy1, hy2⟩ := hlo z hx
    have hbb := bump_bound (d := (((0 : Nat) : Int) - x.s)) (pre := pre) (i := z) (by omega) (by omega) (by omega)
    obtain ⟨y, hy, hys⟩ : ∃ y : Nd, (bumped (((0 : Nat) : Int) - x.s) (partC (ns.take node) ([] : List Nd) (ns.drop (node + s)) 3) pre)[z]? = some y ∧ y.s = y0.s + (pre.count z : Int) * (((0 : Nat) : Int) - x.s) := ⟨_, by rw [bumped_get, hy0]; rfl, rfl⟩
    have hsn := bumped_snoc hy
    have hcs := cellsN_set _ _ _ (y.s + (((0 : Nat) : Int) - x.s)) hy
    rw [hsn] at hcs
    generalize (pre.count z : Int) * (((0 : Nat) : Int) - x.s) = q at hys hbb
    generalize bumped (((0 : Nat) : Int) - x.s) (partC (ns.take node) ([] : List Nd) (ns.drop (node + s)) 3) (pre ++ [z]) = o2 at hcs ⊢
    generalize bumped (((0 : Nat) : Int) - x.s) (partC (ns.take node) ([] : List Nd) (ns.drop (node + s)) 3) pre = o1 at hy hcs hbx ⊢
    simp only [spA, lenC_3]
    repeat' (first
     | refine S0 ?_
     | refine Sm ?_
     | ((with_reducible refine' RSI.drawE mixed [none, none, none, none, none, none, none, none, none, none, none, none, none, none] ?hn ?hd ?hms ?hord ?hh ?_); (case hn | hd | hms | hord | hh => exact rfl))
     | ((with_reducible refine' RD.opIx exts_ok z ?hLL ?hw ?hx ?hy ?hu ?hi ?hes ?hz ?hlt ?hp ?_); (case hLL | hw | hx | hy | hu | hi | hes | hz => exact rfl); (case hlt => omega); (case hp => exact rfl))
     | ((with_reducible refine' RD.opLenL exts_ok ?hLL ?hw ?hx ?hu ?hp ?_); (case hLL | hw | hx | hu | hp => exact rfl))
     | ((with_reducible refine' RD.opSubI exts_ok ?hLL ?hw ?hx ?hy ?hi ?hp ?_); (case hLL | hw | hx | hy => exact rfl); (case hi => omega); (case hp => exact rfl))
     | ((with_reducible refine' RD.opSubI (a := ((0 : Nat) : Int)) exts_ok ?hLL ?hw ?hx ?hy ?hi ?hp ?_); (case hLL | hw | hx | hy => exact rfl); (case hi => omega); (case hp => exact rfl))
     | ((with_reducible refine' RD.opAddI exts_ok ?hLL ?hw ?hx ?hy ?hi ?hp ?_); (case hLL | hw | hx | hy => exact rfl); (case hi => omega); (case hp => exact rfl))
     | ((with_reducible refine' RD.opSt exts_ok (cellsN o2) ?hLL ?hw ?hx ?hy ?hv ?hone ?hi ?hk ?hg ?hlt ?hc ?hput ?hp ?_); (case hLL | hw | hx | hy | hv | hone | hi | hk | hg => exact rfl); (case hlt => (show z * 5 + 4 < _; rw [cellsN_len]; omega)); (case hc => exact hcs); (case hput | hp => exact rfl))
     | (refine S2 ?_ ?_) <;> intro hc <;> try (exfalso; first | omega | (simp at hc; done))
     | refine Sf hy ?_
     | refine St ?_
     | ((with_reducible refine RD.nil ?_); (refine' RDk.intro ?oks ?hl ?_); (case hl => exact rfl); (case oks => (repeat' (first | exact True.intro | refine And.intro ?_ ?_ | exact rfl | exact OSem.load1 exts_ok rfl rfl rfl rfl | exact OSem.loadN exts_ok rfl rfl rfl rfl | exact OSem.load1 exts_ok rfl rfl rfl (cellsN_one hy rfl) | exact OSem.load1 exts_ok rfl rfl rfl (cellsN_row hy) | exact OSem.load1 exts_ok rfl rfl rfl (cellsI_one hy) | exact OSem.load1 exts_ok rfl rfl rfl (cellsZ_one hy) | exact OSem.load1 exts_ok rfl rfl rfl (cellsS_one hy) | exact OSem.loadN exts_ok rfl rfl rfl (cellsN_one hy rfl) | exact OSem.loadN exts_ok rfl rfl rfl (cellsN_row hy) | exact OSem.loadN exts_ok rfl rfl rfl (cellsI_one hy) | exact OSem.loadN exts_ok rfl rfl rfl (cellsZ_one hy) | exact OSem.loadN exts_ok rfl rfl rfl (cellsS_one hy)))))
     | refine Sd ?_
     | refine Sr hy ?_
     | fail)
    exact ⟨rfl, [0, 1, 2, 3, 4, 5, 6, 7, 8, 9, 10], by exact layX⟩
  case post =>
    rw [← hsplA, hbump]
    have hol2 : (lenC node 0 (ns.length - (node + s)) 3) = (splN ns node ([] : List Nd)).length := by rw [lenC_3]; omega
    dsimp only [spA]
    rw [hol2]
    by_cases hc : checkR (splN ns node ([] : List Nd)) = 0
    · have cc : ∀ {h : Heap} {i : Nat}, Nat.blt i h.next = true → tells (h.objs.get i) (cellsN (splN ns node ([] : List Nd))) → CSem Tryz.prog 26 [.agg [.slice i 0 (splN ns node ([] : List Nd)).length 5]] h (.int .i64 0) h := fun hi ht => by
        have := tf26 oo TF.sl hi ht
        rwa [hc] at this
      unfold splV splO
      rw [if_pos hc, if_pos hc, hc]
      generalize splN ns node ([] : List Nd) = o2 at cc
      repeat' (first
       | refine S0 ?_
       | refine Sm ?_
       | refine Sc cc ?_
       | (refine S2 ?_ ?_) <;> intro hc <;> try (exfalso; first | omega | (simp at hc; done))
       | refine St ?_
       | ((with_reducible refine RD.nil ?_); (refine' RDk.intro ?oks ?hl ?_); (case hl => exact rfl); (case oks => (repeat' (first | exact True.intro | refine And.intro ?_ ?_ | exact rfl | exact OSem.load1 exts_ok rfl rfl rfl rfl | exact OSem.loadN exts_ok rfl rfl rfl rfl))))
       | refine Sd ?_
       | fail)
      all_goals first
        | (exfalso; omega)
        | exact ⟨rfl, _, rfl, [0, 1, 8], ⟨rfl, rfl, rfl, RenO.ro (RenVs.plain (cellsN_plain _)), RenO.ro (RenVs.plain (cellsN_plain _)), RenO.cells (RenVs.plain (cellsN_plain _)), True.intro⟩, RenV.tuple (RenVs.cons (RenV.agg1 (RenV.slice rfl)) (RenVs.plain rfl))⟩
    · have cc : ∀ {h : Heap} {i : Nat}, Nat.blt i h.next = true → tells (h.objs.get i) (cellsN (splN ns node ([] : List Nd))) → CSem Tryz.prog 26 [.agg [.slice i 0 (splN ns node ([] : List Nd)).length 5]] h (.int .i64 (checkR (splN ns node ([] : List Nd)))) h := fun hi ht => tf26 oo TF.sl hi ht
      unfold splV splO
      rw [if_neg hc, if_neg hc]
      generalize splN ns node ([] : List Nd) = o2 at cc hc
      repeat' (first
       | refine S0 ?_
       | refine Sm ?_
       | refine Sc cc ?_
       | (refine S2 ?_ ?_) <;> intro hc <;> try (exfalso; first | omega | (simp at hc; done))
       | refine St ?_
       | ((with_reducible refine RD.nil ?_); (refine' RDk.intro ?oks ?hl ?_); (case hl => exact rfl); (case oks => (repeat' (first | exact True.intro | refine And.intro ?_ ?_ | exact rfl | exact OSem.load1 exts_ok rfl rfl rfl rfl | exact OSem.loadN exts_ok rfl rfl rfl rfl))))
       | refine Sd ?_
       | fail)
      all_goals first
        | (exfalso; omega)
        | exact ⟨rfl, _, rfl, [0, 1], ⟨rfl, rfl, rfl, RenO.ro (RenVs.plain (cellsN_plain _)), RenO.ro (RenVs.plain (cellsN_plain _)), True.intro⟩, RenV.tuple (RenVs.cons (RenV.agg1 RenV.nilslice) (RenVs.plain rfl))⟩
set_option maxHeartbeats 32000000 in
theorem sem56as (ns by' : List Nd) (o : NdOk ns) (ob : NdOk by') (h0 : checkR ns = 0) (node : Nat) (hi : node < ns.length) (he : (node : Int) + sizeAt ns node < ns.length) (hb6 : by'.length ≤ 600) (hlen : ns.length + by'.length ≤ 700) : CSem Tryz.prog 56 [.agg [.slice 0 0 ns.length 5], .int .i64 (node : Int), .slice 1 0 by'.length 5] (twoH ns by') (.tuple [.agg [splV 2 (splN ns node by')], .int .i64 (checkR (splN ns node by'))]) (splO ns by' (splN ns node by')) := by
  have hl := check_lam o h0
  have hn := o.len
  have oo := splN_ok o h0 ob hi hlen
  have hol := splN_len hl hi by'
  have hbump := bumped_anc ns node by'
  have hsplA : splA ns node by' = partC (ns.take node) by' (ns.drop (node + (sizeAt ns node).toNat)) 3 := rfl
  obtain ⟨x, s, hx, hxs, hs1, hs2, hs3, _⟩ := sub_nat hl hi
  rw [hs3, Int.toNat_natCast] at hsplA
  rw [hs3, ← hxs] at he hol hbump
  try simp only [List.length_nil] at hlen hb6 hol hbump
  have hdr : True := trivial
  skip
  have hbl : ∀ pre : List Nat, (bumped ((by'.length : Int) - x.s) (partC (ns.take node) by' (ns.drop (node + s)) 3) pre).length = node + by'.length + (ns.length - (node + s)) := fun pre => by
    rw [bumped_len]
    simp [partC]
    omega
  have hlo : ∀ j, j < node → ∃ y : Nd, (partC (ns.take node) by' (ns.drop (node + s)) 3)[j]? = some y ∧ 1 ≤ y.s ∧ y.s ≤ 700 := fun j hj => by
    obtain ⟨y, hy⟩ : ∃ y, ns[j]? = some y := ⟨ns[j]'(by omega), by rw [List.getElem?_eq_getElem]⟩
    have h1 := sizeAt_get hy
    have h2 := sizeAt_le hl (i := j) (by omega)
    refine ⟨y, ?_, by omega, by omega⟩
    rw [← hsplA, splA_lo (by omega) hj, hy]
  have cf : ∀ {h : Heap}, Nat.blt 0 h.next = true → tells (h.objs.get 0) (cellsN ns) → CSem Tryz.prog 66 [.agg [.slice 0 0 ns.length 5], .int .i64 (node : Int)] h (.int .i64 0) h := fun hi' ht => by
    have := tf66 o (node := (node : Int)) (by omega) (TF.sl (i := 0)) hi' ht
    rwa [findR_z h0 (by omega)] at this
  have c99 := sem99as ns by' node (node + s) x.s (by omega) (by omega) hn (by omega) (by omega)
  refine CSem.intoM Tryz.func56 rfl Tryz.ntmps56 rfl rfl rfl ?_
  dsimp only [twoH]
  refine RM.seqS ?_
  repeat' (first
   | refine S0 ?_
   | refine Sm ?_
   | (refine S2 ?_ ?_) <;> intro hc <;> try (exfalso; first | omega | (simp at hc; done))
   | refine St ?_
   | ((with_reducible refine RD.nil ?_); (refine' RDk.intro ?oks ?hl ?_); (case hl => exact rfl); (case oks => (repeat' (first | exact True.intro | refine And.intro ?_ ?_ | exact rfl | exact OSem.load1 exts_ok rfl rfl rfl rfl | exact OSem.loadN exts_ok rfl rfl rfl rfl))))
   | refine Sd ?_
   | fail)
  refine ThenM.n ?_
  refine RM.seqS ?_
  repeat' (first
   | refine S0 ?_
   | refine Sm ?_
   | refine Sc cf ?_
   | (refine S2 ?_ ?_) <;> intro hc <;> try (exfalso; first | omega | (simp at hc; done))
   | refine St ?_
   | ((with_reducible refine RD.nil ?_); (refine' RDk.intro ?oks ?hl ?_); (case hl => exact rfl); (case oks => (repeat' (first | exact True.intro | refine And.intro ?_ ?_ | exact rfl | exact OSem.load1 exts_ok rfl rfl rfl rfl | exact OSem.loadN exts_ok rfl rfl rfl rfl))))
   | refine Sd ?_
   | fail)
  refine ThenM.n ?_
  refine RM.seqS ?_
  repeat' (first
   | refine S0 ?_
   | refine Sm ?_
   | (refine S2 ?_ ?_) <;> intro hc <;> try (exfalso; first | omega | (simp at hc; done))
   | refine St ?_
   | ((with_reducible refine RD.nil ?_); (refine' RDk.intro ?oks ?hl ?_); (case hl => exact rfl); (case oks => (repeat' (first | exact True.intro | refine And.intro ?_ ?_ | exact rfl | exact OSem.load1 exts_ok rfl rfl rfl rfl | exact OSem.loadN exts_ok rfl rfl rfl rfl))))
   | refine Sd ?_
   | fail)
  all_goals first
    | (exfalso; omega)
    | refine ThenM.n ?_
  refine RM.seqS ?_
  repeat' (first
   | refine S0 ?_
   | refine Sm ?_
   | ((with_reducible refine' RO.idxL (m := node) exts_ok ?hw ?hx ?hy ?hu ?hi ?hes ?hz ?hlt ?hp ?_); (case hw | hx | hy | hu | hi | hes => exact rfl); (case hz | hlt => omega); (case hp => exact rfl))
   | ((with_reducible refine' RQ.idxL (m := node) exts_ok ?hw ?hx ?hy ?hu ?hi ?hes ?hz ?hlt ?hp ?_); (case hw | hx | hy | hu | hi | hes => exact rfl); (case hz | hlt => omega); (case hp => exact rfl))
   | (refine S2 ?_ ?_) <;> intro hc <;> try (exfalso; first | omega | (simp at hc; done))
   | refine Sf hx ?_
   | refine St ?_
   | ((with_reducible refine RD.nil ?_); (refine' RDk.intro ?oks ?hl ?_); (case hl => exact rfl); (case oks => (repeat' (first | exact True.intro | refine And.intro ?_ ?_ | exact rfl | exact OSem.load1 exts_ok rfl rfl rfl rfl | exact OSem.loadN exts_ok rfl rfl rfl rfl | exact OSem.load1 exts_ok rfl rfl rfl (cellsN_one hx rfl) | exact OSem.load1 exts_ok rfl rfl rfl (cellsN_row hx) | exact OSem.load1 exts_ok rfl rfl rfl (cellsI_one hx) | exact OSem.load1 exts_ok rfl rfl rfl (cellsZ_one hx) | exact OSem.load1 exts_ok rfl rfl rfl (cellsS_one hx) | exact OSem.loadN exts_ok rfl rfl rfl (cellsN_one hx rfl) | exact OSem.loadN exts_ok rfl rfl rfl (cellsN_row hx) | exact OSem.loadN exts_ok rfl rfl rfl (cellsI_one hx) | exact OSem.loadN exts_ok rfl rfl rfl (cellsZ_one hx) | exact OSem.loadN exts_ok rfl rfl rfl (cellsS_one hx)))))
   | refine Sd ?_
   | refine Sr hx ?_
   | fail)
  refine ThenM.n ?_
  refine RM.seqS ?_
  repeat' (first
   | refine S0 ?_
   | refine Sm ?_
   | ((with_reducible refine' RS.drawE mixed [none, none, none, none, none, none, none, none, none, none, none, none, none, none, some (26, [.nilslice]), none] ?hn ?hms ?hord ?hh ?_); (case hn | hms | hord | hh => exact rfl))
   | ((with_reducible refine' RD.opSl0 (b := node) exts_ok ?hLL ?hw ?hx ?hu ?ht ?hi ?hes ?hb ?hp ?_); (case hLL | hw | hx | hu | ht | hi | hes => exact rfl); (case hb => exact abound_le rfl (by omega)); (case hp => exact rfl))
   | ((with_reducible refine' RD.opSlZ (a := node + s) (b := ns.length) exts_ok ?hLL ?hw ?hx ?hl ?hu ?ht ?hi ?hes ?hb ?ha ?hlt ?hp ?_); (case hLL | hw | hx | hl | hu | ht | hi | hes => exact rfl); (case hb => exact rfl); (case ha => exact abound_le (by omega) (by omega)); (case hlt => omega); (case hp => exact rfl))
   | ((with_reducible refine' RD.opAddI exts_ok ?hLL ?hw ?hx ?hy ?hi ?hp ?_); (case hLL | hw | hx | hy => exact rfl); (case hi => omega); (case hp => exact rfl))
   | ((with_reducible refine' RD.opBS ?hLL ?hw ?ho ?hp ?_); (case hLL | hw => exact rfl); (case ho => exact OSem.val exts_ok rfl); (case hp => exact rfl))
   | ((with_reducible refine' RD.opFnE exts_ok 99 ?hLL ?hw ?ha ?hf ?hs ?hp ?_); (case hLL | hw | ha | hf => exact rfl); (case hs => exact c99); (case hp => exact rfl))
   | (refine S2 ?_ ?_) <;> intro hc <;> try (exfalso; first | omega | (simp at hc; done))
   | refine St ?_
   | ((with_reducible refine RD.nil ?_); (refine' RDk.intro ?oks ?hl ?_); (case hl => exact rfl); (case oks => (repeat' (first | exact True.intro | refine And.intro ?_ ?_ | exact rfl | exact OSem.load1 exts_ok rfl rfl rfl rfl | exact OSem.loadN exts_ok rfl rfl rfl rfl))))
   | refine Sd ?_
   | fail)
  refine ThenM.n ?_
  refine RM.seq (RM.seqS ?_)
  repeat' (first
   | refine S0 ?_
   | refine Sm ?_
   | refine Sc sem95 ?_
   | (refine S2 ?_ ?_) <;> intro hc <;> try (exfalso; first | omega | (simp at hc; done))
   | refine St ?_
   | ((with_reducible refine RD.nil ?_); (refine' RDk.intro ?oks ?hl ?_); (case hl => exact rfl); (case oks => (repeat' (first | exact True.intro | refine And.intro ?_ ?_ | exact rfl | exact OSem.load1 exts_ok rfl rfl rfl rfl | exact OSem.loadN exts_ok rfl rfl rfl rfl))))
   | refine Sd ?_
   | fail)
  refine ThenM.n (RM.block ?_)
  have hb0 : bumped ((by'.length : Int) - x.s) (partC (ns.take node) by' (ns.drop (node + s)) 3) [] = partC (ns.take node) by' (ns.drop (node + s)) 3 := bumped_nil _ _
  refine RM.aboveE (K := 11) (node := node) (ns := ns) (ib := 10) (is := 9) (i0 := 0) rfl (by decide) hi hl hn ?box rfl (by decide) (fun pre => spA ns by' node (node + s) (lenC node by'.length (ns.length - (node + s)) 3) (.slice 1 0 by'.length 5) x.s (bumped ((by'.length : Int) - x.s) (partC (ns.take node) by' (ns.drop (node + s)) 3) pre)) (by rw [hb0]; rfl) (fun pre _ i => flatT_get _ rfl i) (fun pre => Nat.le_refl _) (fun pre => ⟨⟨true, rfl⟩, ⟨true, rfl⟩, rfl⟩) ?round ?post
  case box => exact ⟨⟨true, rfl⟩, ⟨true, rfl⟩, rfl⟩
  case round =>
    intro pre z hlt hpl hx
    refine ⟨_, rfl, _, rfl, ?_⟩
    have hbx := hbl pre
    obtain ⟨y0, hy0, hy1, hy2⟩ := hlo z hx
    have hbb := bump_bound (d := ((by'.length : Int) - x.s)) (pre := pre) (i := z) (by omega) (by omega) (by omega)
    obtain ⟨y, hy, hys⟩ : ∃ y : Nd, (bumped ((by'.length : Int) - x.s) (partC (ns.take node) by' (ns.drop (node + s)) 3) pre)[z]? = some y ∧ y.s = y0.s + (pre.count z : Int) * ((by'.length : Int) - x.s) := ⟨_, by rw [bumped_get, hy0]; rfl, rfl⟩
    have hsn := bumped_snoc hy
    have hcs := cellsN_set _ _ _ (y.s + ((by'.length : Int) - x.s)) hy
    rw [hsn] at hcs
    generalize (pre.count z : Int) * ((by'.length : Int) - x.s) = q at hys hbb
    generalize bumped ((by'.length : Int) - x.s) (partC (ns.take node) by' (ns.drop (node + s)) 3) (pre ++ [z]) = o2 at hcs ⊢
    generalize bumped ((by'.length : Int) - x.s) (partC (ns.take node) by' (ns.drop (node + s)) 3) pre = o1 at hy hcs hbx ⊢
    simp only [spA, lenC_3]
    repeat' (first
     | refine S0 ?_
     | refine Sm ?_
     | ((with_reducible refine' RSI.drawE mixed [none, none, none, none, none, none, none, none, none, none, none, none, none, none] ?hn ?hd ?hms ?hord ?hh ?_); (case hn | hd | hms | hord | hh => exact rfl))
     | ((with_reducible refine' RD.opIx exts_ok z ?hLL ?hw ?hx ?hy ?hu ?hi ?hes ?hz ?hlt ?hp ?_); (case hLL | hw | hx | hy | hu | hi | hes | hz => exact rfl); (case hlt => omega); (case hp => exact rfl))
     | ((with_reducible refine' RD.opLenL exts_ok ?hLL ?hw ?hx ?hu ?hp ?_); (case hLL | hw | hx | hu | hp => exact rfl))
     | ((with_reducible refine' RD.opSubI exts_ok ?hLL ?hw ?hx ?hy ?hi ?hp ?_); (case hLL | hw | hx | hy => exact rfl); (case hi => omega); (case hp => exact rfl))
     | ((with_reducible refine' RD.opAddI exts_ok ?hLL ?hw ?hx ?hy ?hi ?hp ?_); (case hLL | hw | hx | hy => exact rfl); (case hi => omega); (case hp => exact rfl))
     | ((with_reducible refine' RD.opSt exts_ok (cellsN o2) ?hLL ?hw ?hx ?hy ?hv ?hone ?hi ?hk ?hg ?hlt ?hc ?hput ?hp ?_); (case hLL | hw | hx | hy | hv | hone | hi | hk | hg => exact rfl); (case hlt => (show z * 5 + 4 < _; rw [cellsN_len]; omega)); (case hc => exact hcs); (case hput | hp => exact rfl))
     | (refine S2 ?_ ?_) <;> intro hc <;> try (exfalso; first | omega | (simp at hc; done))
     | refine Sf hy ?_
     | refine St ?_
     | ((with_reducible refine RD.nil ?_); (refine' RDk.intro ?oks ?hl ?_); (case hl => exact rfl); (case oks => (repeat' (first | exact True.intro | refine And.intro ?_ ?_ | exact rfl | exact OSem.load1 exts_ok rfl rfl rfl rfl | exact OSem.loadN exts_ok rfl rfl rfl rfl | exact OSem.load1 exts_ok rfl rfl rfl (cellsN_one hy rfl) | exact OSem.load1 exts_ok rfl rfl rfl (cellsN_row hy) | exact OSem.load1 exts_ok rfl rfl rfl (cellsI_one hy) | exact OSem.load1 exts_ok rfl rfl rfl (cellsZ_one hy) | exact OSem.load1 exts_ok rfl rfl rfl (cellsS_one hy) | exact OSem.loadN exts_ok rfl rfl rfl (cellsN_one hy rfl) | exact OSem.loadN exts_ok rfl rfl rfl (cellsN_row hy) | exact OSem.loadN exts_ok rfl rfl rfl (cellsI_one hy) | exact OSem.loadN exts_ok rfl rfl rfl (cellsZ_one hy) | exact OSem.loadN exts_ok rfl rfl rfl (cellsS_one hy)))))
     | refine Sd ?_
     | refine Sr hy ?_
     | fail)
    exact ⟨rfl, [0, 1, 2, 3, 4, 5, 6, 7, 8, 9, 10], by exact layX⟩
  case post =>
    rw [← hsplA, hbump]
    have hol2 : (lenC node by'.length (ns.length - (node + s)) 3) = (splN ns node by').length := by rw [lenC_3]; omega
    dsimp only [spA]
    rw [hol2]
    by_cases hc : checkR (splN ns node by') = 0
    · have cc : ∀ {h : Heap} {i : Nat}, Nat.blt i h.next = true → tells (h.objs.get i) (cellsN (splN ns node by')) → CSem Tryz.prog 26 [.agg [.slice i 0 (splN ns node by').length 5]] h (.int .i64 0) h := fun hi ht => by
        have := tf26 oo TF.sl hi ht
        rwa [hc] at this
      unfold splV splO
      rw [if_pos hc, if_pos hc, hc]
      generalize splN ns node by' = o2 at cc
      repeat' (first
       | refine S0 ?_
       | refine Sm ?_
       | refine Sc cc ?_
       | (refine S2 ?_ ?_) <;> intro hc <;> try (exfalso; first | omega | (simp at hc; done))
       | refine St ?_
       | ((with_reducible refine RD.nil ?_); (refine' RDk.intro ?oks ?hl ?_); (case hl => exact rfl); (case oks => (repeat' (first | exact True.intro | refine And.intro ?_ ?_ | exact rfl | exact OSem.load1 exts_ok rfl rfl rfl rfl | exact OSem.loadN exts_ok rfl rfl rfl rfl))))
       | refine Sd ?_
       | fail)
      all_goals first
        | (exfalso; omega)
        | exact ⟨rfl, _, rfl, [0, 1, 8], ⟨rfl, rfl, rfl, RenO.ro (RenVs.plain (cellsN_plain _)), RenO.ro (RenVs.plain (cellsN_plain _)), RenO.cells (RenVs.plain (cellsN_plain _)), True.intro⟩, RenV.tuple (RenVs.cons (RenV.agg1 (RenV.slice rfl)) (RenVs.plain rfl))⟩
    · have cc : ∀ {h : Heap} {i : Nat}, Nat.blt i h.next = true → tells (h.objs.get i) (cellsN (splN ns node by')) → CSem Tryz.prog 26 [.agg [.slice i 0 (splN ns node by').length 5]] h (.int .i64 (checkR (splN ns node by'))) h := fun hi ht => tf26 oo TF.sl hi ht
      unfold splV splO
      rw [if_neg hc, if_neg hc]
      generalize splN ns node by' = o2 at cc hc
      repeat' (first
       | refine S0 ?_
       | refine Sm ?_
       | refine Sc cc ?_
       | (refine S2 ?_ ?_) <;> intro hc <;> try (exfalso; first | omega | (simp at hc; done))
       | refine St ?_
       | ((with_reducible refine RD.nil ?_); (refine' RDk.intro ?oks ?hl ?_); (case hl => exact rfl); (case oks => (repeat' (first | exact True.intro | refine And.intro ?_ ?_ | exact rfl | exact OSem.load1 exts_ok rfl rfl rfl rfl | exact OSem.loadN exts_ok rfl rfl rfl rfl))))
       | refine Sd ?_
       | fail)
      all_goals first
        | (exfalso; omega)
        | exact ⟨rfl, _, rfl, [0, 1], ⟨rfl, rfl, rfl, RenO.ro (RenVs.plain (cellsN_plain _)), RenO.ro (RenVs.plain (cellsN_plain _)), True.intro⟩, RenV.tuple (RenVs.cons (RenV.agg1 RenV.nilslice) (RenVs.plain rfl))⟩
set_option maxHeartbeats 32000000 in
theorem sem56bn (ns : List Nd) (o : NdOk ns) (h0 : checkR ns = 0) (node : Nat) (hi : node < ns.length) (he : (node : Int) + sizeAt ns node = ns.length) (h0t : 0 < node + 0 + 0) (hb6 : ([] : List Nd).length ≤ 600) (hlen : ns.length + ([] : List Nd).length ≤ 700) : CSem Tryz.prog 56 [.agg [.slice 0 0 ns.length 5], .int .i64 (node : Int), .nilslice] (twoH ns ([] : List Nd)) (.tuple [.agg [splV 2 (splN ns node ([] : List Nd))], .int .i64 (checkR (splN ns node ([] : List Nd)))]) (splO ns ([] : List Nd) (splN ns node ([] : List Nd))) := by
  have hl := check_lam o h0
  have hn := o.len
  have oo := splN_ok o h0 (by' := []) ⟨by simp, fun x hx => (by cases hx), fun x hx => (by cases hx), fun x hx => (by cases hx)⟩ hi hlen
  have hol := splN_len hl hi ([] : List Nd)
  have hbump := bumped_anc ns node ([] : List Nd)
  have hsplA : splA ns node ([] : List Nd) = partC (ns.take node) ([] : List Nd) (ns.drop (node + (sizeAt ns node).toNat)) 3 := rfl
  obtain ⟨x, s, hx, hxs, hs1, hs2, hs3, _⟩ := sub_nat hl hi
  rw [hs3, Int.toNat_natCast] at hsplA
  rw [hs3, ← hxs] at he hol hbump
  try simp only [List.length_nil] at hlen hb6 hol hbump
  have hdr : ns.drop (node + s) = [] := List.drop_of_length_le (by omega)
  rw [hdr] at hsplA
  have hbl : ∀ pre : List Nat, (bumped (((0 : Nat) : Int) - x.s) (partC (ns.take node) ([] : List Nd) ([] : List Nd) 3) pre).length = node + 0 + 0 := fun pre => by
    rw [bumped_len]
    simp [partC]
    omega
  have hlo : ∀ j, j < node → ∃ y : Nd, (partC (ns.take node) ([] : List Nd) ([] : List Nd) 3)[j]? = some y ∧ 1 ≤ y.s ∧ y.s ≤ 700 := fun j hj => by
    obtain ⟨y, hy⟩ : ∃ y, ns[j]? = some y := ⟨ns[j]'(by omega), by rw [List.getElem?_eq_getElem]⟩
    have h1 := sizeAt_get hy
    have h2 := sizeAt_le hl (i := j) (by omega)
    refine ⟨y, ?_, by omega, by omega⟩
    rw [← hsplA, splA_lo (by omega) hj, hy]
  have cf : ∀ {h : Heap}, Nat.blt 0 h.next = true → tells (h.objs.get 0) (cellsN ns) → CSem Tryz.prog 66 [.agg [.slice 0 0 ns.length 5], .int .i64 (node : Int)] h (.int .i64 0) h := fun hi' ht => by
    have := tf66 o (node := (node : Int)) (by omega) (TF.sl (i := 0)) hi' ht
    rwa [findR_z h0 (by omega)] at this
  have c99 := sem99bn ns node x.s (by omega) hn h0t (by omega)
  refine CSem.intoM Tryz.func56 rfl Tryz.ntmps56 rfl rfl rfl ?_
  dsimp only [twoH]
  refine RM.seqS ?_
  repeat' (first
   | refine S0 ?_
   | refine Sm ?_
   | (refine S2 ?_ ?_) <;> intro hc <;> try (exfalso; first | omega | (simp at hc; done))
   | refine St ?_
   | ((with_reducible refine RD.nil ?_); (refine' RDk.intro ?oks ?hl ?_); (case hl => exact rfl); (case oks => (repeat' (first | exact True.intro | refine And.intro ?_ ?_ | exact rfl | exact OSem.load1 exts_ok rfl rfl rfl rfl | exact OSem.loadN exts_ok rfl rfl rfl rfl))))
   | refine Sd ?_
   | fail)
  refine ThenM.n ?_
  refine RM.seqS ?_
  repeat' (first
   | refine S0 ?_
   | refine Sm ?_
   | refine Sc cf ?_
   | (refine S2 ?_ ?_) <;> intro hc <;> try (exfalso; first | omega | (simp at hc; done))
   | refine St ?_
   | ((with_reducible refine RD.nil ?_); (refine' RDk.intro ?oks ?hl ?_); (case hl => exact rfl); (case oks => (repeat' (first | exact True.intro | refine And.intro ?_ ?_ | exact rfl | exact OSem.load1 exts_ok rfl rfl rfl rfl | exact OSem.loadN exts_ok rfl rfl rfl rfl))))
   | refine Sd ?_
   | fail)
  refine ThenM.n ?_
  refine RM.seqS ?_
  repeat' (first
   | refine S0 ?_
   | refine Sm ?_
   | (refine S2 ?_ ?_) <;> intro hc <;> try (exfalso; first | omega | (simp at hc; done))
   | refine St ?_
   | ((with_reducible refine RD.nil ?_); (refine' RDk.intro ?oks ?hl ?_); (case hl => exact rfl); (case oks => (repeat' (first | exact True.intro | refine And.intro ?_ ?_ | exact rfl | exact OSem.load1 exts_ok rfl rfl rfl rfl | exact OSem.loadN exts_ok rfl rfl rfl rfl))))
   | refine Sd ?_
   | fail)
  all_goals first
    | (exfalso; omega)
    | refine ThenM.n ?_
  refine RM.seqS ?_
  repeat' (first
   | refine S0 ?_
   | refine Sm ?_
   | ((with_reducible refine' RO.idxL (m := node) exts_ok ?hw ?hx ?hy ?hu ?hi ?hes ?hz ?hlt ?hp ?_); (case hw | hx | hy | hu | hi | hes => exact rfl); (case hz | hlt => omega); (case hp => exact rfl))
   | ((with_reducible refine' RQ.idxL (m := node) exts_ok ?hw ?hx ?hy ?hu ?hi ?hes ?hz ?hlt ?hp ?_); (case hw | hx | hy | hu | hi | hes => exact rfl); (case hz | hlt => omega); (case hp => exact rfl))
   | (refine S2 ?_ ?_) <;> intro hc <;> try (exfalso; first | omega | (simp at hc; done))
   | refine Sf hx ?_
   | refine St ?_
   | ((with_reducible refine RD.nil ?_); (refine' RDk.intro ?oks ?hl ?_); (case hl => exact rfl); (case oks => (repeat' (first | exact True.intro | refine And.intro ?_ ?_ | exact rfl | exact OSem.load1 exts_ok rfl rfl rfl rfl | exact OSem.loadN exts_ok rfl rfl rfl rfl | exact OSem.load1 exts_ok rfl rfl rfl (cellsN_one hx rfl) | exact OSem.load1 exts_ok rfl rfl rfl (cellsN_row hx) | exact OSem.load1 exts_ok rfl rfl rfl (cellsI_one hx) | exact OSem.load1 exts_ok rfl rfl rfl (cellsZ_one hx) | exact OSem.load1 exts_ok rfl rfl rfl (cellsS_one hx) | exact OSem.loadN exts_ok rfl rfl rfl (cellsN_one hx rfl) | exact OSem.loadN exts_ok rfl rfl rfl (cellsN_row hx) | exact OSem.loadN exts_ok rfl rfl rfl (cellsI_one hx) | exact OSem.loadN exts_ok rfl rfl rfl (cellsZ_one hx) | exact OSem.loadN exts_ok rfl rfl rfl (cellsS_one hx)))))
   | refine Sd ?_
   | refine Sr hx ?_
   | fail)
  refine ThenM.n ?_
  refine RM.seqS ?_
  repeat' (first
   | refine S0 ?_
   | refine Sm ?_
   | ((with_reducible refine' RS.drawE mixed [none, none, none, none, none, none, none, none, none, none, none, none, none, none, some (26, [.nilslice]), none] ?hn ?hms ?hord ?hh ?_); (case hn | hms | hord | hh => exact rfl))
   | ((with_reducible refine' RD.opSl0 (b := node) exts_ok ?hLL ?hw ?hx ?hu ?ht ?hi ?hes ?hb ?hp ?_); (case hLL | hw | hx | hu | ht | hi | hes => exact rfl); (case hb => exact abound_le rfl (by omega)); (case hp => exact rfl))
   | ((with_reducible refine' RD.opSlE 7 8 ?hob ?hnx ?hnx1 ?hLL ?hw ?hx ?hlo ?hz ?ht ?hi ?hes ?hn ?hp ?_); (case hob | hnx | hnx1 | hLL | hw | hx | hlo => exact rfl); (case hz => omega); (case ht | hi | hes | hn | hp => exact rfl))
   | ((with_reducible refine' RD.opAddI exts_ok ?hLL ?hw ?hx ?hy ?hi ?hp ?_); (case hLL | hw | hx | hy => exact rfl); (case hi => omega); (case hp => exact rfl))
   | ((with_reducible refine' RD.opBS ?hLL ?hw ?ho ?hp ?_); (case hLL | hw => exact rfl); (case ho => exact OSem.val exts_ok rfl); (case hp => exact rfl))
   | ((with_reducible refine' RD.opFnE exts_ok 99 ?hLL ?hw ?ha ?hf ?hs ?hp ?_); (case hLL | hw | ha | hf => exact rfl); (case hs => exact c99); (case hp => exact rfl))
   | (refine S2 ?_ ?_) <;> intro hc <;> try (exfalso; first | omega | (simp at hc; done))
   | refine St ?_
   | ((with_reducible refine RD.nil ?_); (refine' RDk.intro ?oks ?hl ?_); (case hl => exact rfl); (case oks => (repeat' (first | exact True.intro | refine And.intro ?_ ?_ | exact rfl | exact OSem.load1 exts_ok rfl rfl rfl rfl | exact OSem.loadN exts_ok rfl rfl rfl rfl))))
   | refine Sd ?_
   | fail)
  refine ThenM.n ?_
  refine RM.seq (RM.seqS ?_)
  repeat' (first
   | refine S0 ?_
   | refine Sm ?_
   | refine Sc sem95 ?_
   | (refine S2 ?_ ?_) <;> intro hc <;> try (exfalso; first | omega | (simp at hc; done))
   | refine St ?_
   | ((with_reducible refine RD.nil ?_); (refine' RDk.intro ?oks ?hl ?_); (case hl => exact rfl); (case oks => (repeat' (first | exact True.intro | refine And.intro ?_ ?_ | exact rfl | exact OSem.load1 exts_ok rfl rfl rfl rfl | exact OSem.loadN exts_ok rfl rfl rfl rfl))))
   | refine Sd ?_
   | fail)
  refine ThenM.n (RM.block ?_)
  have hb0 : bumped (((0 : Nat) : Int) - x.s) (partC (ns.take node) ([] : List Nd) ([] : List Nd) 3) [] = partC (ns.take node) ([] : List Nd) ([] : List Nd) 3 := bumped_nil _ _
  refine RM.aboveE (K := 12) (node := node) (ns := ns) (ib := 11) (is := 10) (i0 := 0) rfl (by decide) hi hl hn ?box rfl (by decide) (fun pre => spB ns ([] : List Nd) node (lenC node 0 0 3) .nilslice x.s (bumped (((0 : Nat) : Int) - x.s) (partC (ns.take node) ([] : List Nd) ([] : List Nd) 3) pre)) (by rw [hb0]; rfl) (fun pre _ i => flatT_get _ rfl i) (fun pre => Nat.le_refl _) (fun pre => ⟨⟨true, rfl⟩, ⟨true, rfl⟩, rfl⟩) ?round ?post
  case box => exact ⟨⟨true, rfl⟩, ⟨true, rfl⟩, rfl⟩
  case round =>
    intro pre z hlt hpl hx
    refine ⟨_, rfl, _, rfl, ?_⟩
    have hbx := hbl pre
    obtain ⟨y0, hy0, hy1, hy2⟩ := hlo z hx
    have hbb := bump_bound (d := (((0 : Nat) : Int) - x.s)) (pre := pre) (i := z) (by omega) (by omega) (by omega)
    obtain ⟨y, hy, hys⟩ : ∃ y : Nd, (bumped (((0 : Nat) : Int) - x.s) (partC (ns.take node) ([] : List Nd) ([] : List Nd) 3) pre)[z]? = some y ∧ y.s = y0.s + (pre.count z : Int) * (((0 : Nat) : Int) - x.s) := ⟨_, by rw [bumped_get, hy0]; rfl, rfl⟩
    have hsn := bumped_snoc hy
    have hcs := cellsN_set _ _ _ (y.s + (((0 : Nat) : Int) - x.s)) hy
    rw [hsn] at hcs
    generalize (pre.count z : Int) * (((0 : Nat) : Int) - x.s) = q at hys hbb
    generalize bumped (((0 : Nat) : Int) - x.s) (partC (ns.take node) ([] : List Nd) ([] : List Nd) 3) (pre ++ [z]) = o2 at hcs ⊢
    generalize bumped (((0 : Nat) : Int) - x.s) (partC (ns.take node) ([] : List Nd) ([] : List Nd) 3) pre = o1 at hy hcs hbx ⊢
    simp only [spB, lenC_3]
    repeat' (first
     | refine S0 ?_
     | refine Sm ?_
     | ((with_reducible refine' RSI.drawE mixed [none, none, none, none, none, none, none, none, none, none, none, none, none, none] ?hn ?hd ?hms ?hord ?hh ?_); (case hn | hd | hms | hord | hh => exact rfl))
     | ((with_reducible refine' RD.opIx exts_ok z ?hLL ?hw ?hx ?hy ?hu ?hi ?hes ?hz ?hlt ?hp ?_); (case hLL | hw | hx | hy | hu | hi | hes | hz => exact rfl); (case hlt => omega); (case hp => exact rfl))
     | ((with_reducible refine' RD.opLenL exts_ok ?hLL ?hw ?hx ?hu ?hp ?_); (case hLL | hw | hx | hu | hp => exact rfl))
     | ((with_reducible refine' RD.opSubI exts_ok ?hLL ?hw ?hx ?hy ?hi ?hp ?_); (case hLL | hw | hx | hy => exact rfl); (case hi => omega); (case hp => exact rfl))
     | ((with_reducible refine' RD.opSubI (a := ((0 : Nat) : Int)) exts_ok ?hLL ?hw ?hx ?hy ?hi ?hp ?_); (case hLL | hw | hx | hy => exact rfl); (case hi => omega); (case hp => exact rfl))
     | ((with_reducible refine' RD.opAddI exts_ok ?hLL ?hw ?hx ?hy ?hi ?hp ?_); (case hLL | hw | hx | hy => exact rfl); (case hi => omega); (case hp => exact rfl))
     | ((with_reducible refine' RD.opSt exts_ok (cellsN o2) ?hLL ?hw ?hx ?hy ?hv ?hone ?hi ?hk ?hg ?hlt ?hc ?hput ?hp ?_); (case hLL | hw | hx | hy | hv | hone | hi | hk | hg => exact rfl); (case hlt => (show z * 5 + 4 < _; rw [cellsN_len]; omega)); (case hc => exact hcs); (case hput | hp => exact rfl))
     | (refine S2 ?_ ?_) <;> intro hc <;> try (exfalso; first | omega | (simp at hc; done))
     | refine Sf hy ?_
     | refine St ?_
     | ((with_reducible refine RD.nil ?_); (refine' RDk.intro ?oks ?hl ?_); (case hl => exact rfl); (case oks => (repeat' (first | exact True.intro | refine And.intro ?_ ?_ | exact rfl | exact OSem.load1 exts_ok rfl rfl rfl rfl | exact OSem.loadN exts_ok rfl rfl rfl rfl | exact OSem.load1 exts_ok rfl rfl rfl (cellsN_one hy rfl) | exact OSem.load1 exts_ok rfl rfl rfl (cellsN_row hy) | exact OSem.load1 exts_ok rfl rfl rfl (cellsI_one hy) | exact OSem.load1 exts_ok rfl rfl rfl (cellsZ_one hy) | exact OSem.load1 exts_ok rfl rfl rfl (cellsS_one hy) | exact OSem.loadN exts_ok rfl rfl rfl (cellsN_one hy rfl) | exact OSem.loadN exts_ok rfl rfl rfl (cellsN_row hy) | exact OSem.loadN exts_ok rfl rfl rfl (cellsI_one hy) | exact OSem.loadN exts_ok rfl rfl rfl (cellsZ_one hy) | exact OSem.loadN exts_ok rfl rfl rfl (cellsS_one hy)))))
     | refine Sd ?_
     | refine Sr hy ?_
     | fail)
    exact ⟨rfl, [0, 1, 2, 3, 4, 5, 6, 7, 8, 9, 10, 11], by exact layX⟩
  case post =>
    rw [← hsplA, hbump]
    have hol2 : (lenC node 0 0 3) = (splN ns node ([] : List Nd)).length := by rw [lenC_3]; omega
    dsimp only [spB]
    rw [hol2]
    by_cases hc : checkR (splN ns node ([] : List Nd)) = 0
    · have cc : ∀ {h : Heap} {i : Nat}, Nat.blt i h.next = true → tells (h.objs.get i) (cellsN (splN ns node ([] : List Nd))) → CSem Tryz.prog 26 [.agg [.slice i 0 (splN ns node ([] : List Nd)).length 5]] h (.int .i64 0) h := fun hi ht => by
        have := tf26 oo TF.sl hi ht
        rwa [hc] at this
      unfold splV splO
      rw [if_pos hc, if_pos hc, hc]
      generalize splN ns node ([] : List Nd) = o2 at cc
      repeat' (first
       | refine S0 ?_
       | refine Sm ?_
       | refine Sc cc ?_
       | (refine S2 ?_ ?_) <;> intro hc <;> try (exfalso; first | omega | (simp at hc; done))
       | refine St ?_
       | ((with_reducible refine RD.nil ?_); (refine' RDk.intro ?oks ?hl ?_); (case hl => exact rfl); (case oks => (repeat' (first | exact True.intro | refine And.intro ?_ ?_ | exact rfl | exact OSem.load1 exts_ok rfl rfl rfl rfl | exact OSem.loadN exts_ok rfl rfl rfl rfl))))
       | refine Sd ?_
       | fail)
      all_goals first
        | (exfalso; omega)
        | exact ⟨rfl, _, rfl, [0, 1, 9], ⟨rfl, rfl, rfl, RenO.ro (RenVs.plain (cellsN_plain _)), RenO.ro (RenVs.plain (cellsN_plain _)), RenO.cells (RenVs.plain (cellsN_plain _)), True.intro⟩, RenV.tuple (RenVs.cons (RenV.agg1 (RenV.slice rfl)) (RenVs.plain rfl))⟩
    · have cc : ∀ {h : Heap} {i : Nat}, Nat.blt i h.next = true → tells (h.objs.get i) (cellsN (splN ns node ([] : List Nd))) → CSem Tryz.prog 26 [.agg [.slice i 0 (splN ns node ([] : List Nd)).length 5]] h (.int .i64 (checkR (splN ns node ([] : List Nd)))) h := fun hi ht => tf26 oo TF.sl hi ht
      unfold splV splO
      rw [if_neg hc, if_neg hc]
      generalize splN ns node ([] : List Nd) = o2 at cc hc
      repeat' (first
       | refine S0 ?_
       | refine Sm ?_
       | refine Sc cc ?_
       | (refine S2 ?_ ?_) <;> intro hc <;> try (exfalso; first | omega | (simp at hc; done))
       | refine St ?_
       | ((with_reducible refine RD.nil ?_); (refine' RDk.intro ?oks ?hl ?_); (case hl => exact rfl); (case oks => (repeat' (first | exact True.intro | refine And.intro ?_ ?_ | exact rfl | exact OSem.load1 exts_ok rfl rfl rfl rfl | exact OSem.loadN exts_ok rfl rfl rfl rfl))))
       | refine Sd ?_
       | fail)
      all_goals first
        | (exfalso; omega)
        | exact ⟨rfl, _, rfl, [0, 1], ⟨rfl, rfl, rfl, RenO.ro (RenVs.plain (cellsN_plain _)), RenO.ro (RenVs.plain (cellsN_plain _)), True.intro⟩, RenV.tuple (RenVs.cons (RenV.agg1 RenV.nilslice) (RenVs.plain rfl))⟩
set_option maxHeartbeats 32000000 in
theorem sem56bs (ns by' : List Nd) (o : NdOk ns) (ob : NdOk by') (h0 : checkR ns = 0) (node : Nat) (hi : node < ns.length) (he : (node : Int) + sizeAt ns node = ns.length) (h0t : 0 < node + by'.length + 0) (hb6 : by'.length ≤ 600) (hlen : ns.length + by'.length ≤ 700) : CSem Tryz.prog 56 [.agg [.slice 0 0 ns.length 5], .int .i64 (node : Int), .slice 1 0 by'.length 5] (twoH ns by') (.tuple [.agg [splV 2 (splN ns node by')], .int .i64 (checkR (splN ns node by'))]) (splO ns by' (splN ns node by')) := by
  have hl := check_lam o h0
  have hn := o.len
  have oo := splN_ok o h0 ob hi hlen
  have hol := splN_len hl hi by'
  have hbump := bumped_anc ns node by'
  have hsplA : splA ns node by' = partC (ns.take node) by' (ns.drop (node + (sizeAt ns node).toNat)) 3 := rfl
  obtain ⟨x, s, hx, hxs, hs1, hs2, hs3, _⟩ := sub_nat hl hi
  rw [hs3, Int.toNat_natCast] at hsplA
  rw [hs3, ← hxs] at he hol hbump
  try simp only [List.length_nil] at hlen hb6 hol hbump
  have hdr : ns.drop (node + s) = [] := List.drop_of_length_le (by omega)
  rw [hdr] at hsplA
  have hbl : ∀ pre : List Nat, (bumped ((by'.length : Int) - x.s) (partC (ns.take node) by' ([] : List Nd) 3) pre).length = node + by'.length + 0 := fun pre => by
    rw [bumped_len]
    simp [partC]
    omega
  have hlo : ∀ j, j < node → ∃ y : Nd, (partC (ns.take node) by' ([] : List Nd) 3)[j]? = some y ∧ 1 ≤ y.s ∧ y.s ≤ 700 := fun j hj => by
    obtain ⟨y, hy⟩ : ∃ y, ns[j]? = some y := ⟨ns[j]'(by omega), by rw [List.getElem?_eq_getElem]⟩
    have h1 := sizeAt_get hy
    have h2 := sizeAt_le hl (i := j) (by omega)
    refine ⟨y, ?_, by omega, by omega⟩
    rw [← hsplA, splA_lo (by omega) hj, hy]
  have cf : ∀ {h : Heap}, Nat.blt 0 h.next = true → tells (h.objs.get 0) (cellsN ns) → CSem Tryz.prog 66 [.agg [.slice 0 0 ns.length 5], .int .i64 (node : Int)] h (.int .i64 0) h := fun hi' ht => by
    have := tf66 o (node := (node : Int)) (by omega) (TF.sl (i := 0)) hi' ht
    rwa [findR_z h0 (by omega)] at this
  have c99 := sem99bs ns by' node x.s (by omega) hn h0t (by omega) (by omega)
  refine CSem.intoM Tryz.func56 rfl Tryz.ntmps56 rfl rfl rfl ?_
  dsimp only [twoH]
  refine RM.seqS ?_
  repeat' (first
   | refine S0 ?_
   | refine Sm ?_
   | (refine S2 ?_ ?_) <;> intro hc <;> try (exfalso; first | omega | (simp at hc; done))
   | refine St ?_
   | ((with_reducible refine RD.nil ?_); (refine' RDk.intro ?oks ?hl ?_); (case hl => exact rfl); (case oks => (repeat' (first | exact True.intro | refine And.intro ?_ ?_ | exact rfl | exact OSem.load1 exts_ok rfl rfl rfl rfl | exact OSem.loadN exts_ok rfl rfl rfl rfl))))
   | refine Sd ?_
   | fail)
  refine ThenM.n ?_
  refine RM.seqS ?_
  repeat' (first
   | refine S0 ?_
   | refine Sm ?_
   | refine Sc cf ?_
   | (refine S2 ?_ ?_) <;> intro hc <;> try (exfalso; first | omega | (simp at hc; done))
   | refine St ?_
   | ((with_reducible refine RD.nil ?_); (refine' RDk.intro ?oks ?hl ?_); (case hl => exact rfl); (case oks => (repeat' (first | exact True.intro | refine And.intro ?_ ?_ | exact rfl | exact OSem.load1 exts_ok rfl rfl rfl rfl | exact OSem.loadN exts_ok rfl rfl rfl rfl))))
   | refine Sd ?_
   | fail)
  refine ThenM.n ?_
  refine RM.seqS ?_
  repeat' (first
   | refine S0 ?_
   | refine Sm ?_
   | (refine S2 ?_ ?_) <;> intro hc <;> try (exfalso; first | omega | (simp at hc; done))
   | refine St ?_
   | ((with_reducible refine RD.nil ?_); (refine' RDk.intro ?oks ?hl ?_); (case hl => exact rfl); (case oks => (repeat' (first | exact True.intro | refine And.intro ?_ ?_ | exact rfl | exact OSem.load1 exts_ok rfl rfl rfl rfl | exact OSem.loadN exts_ok rfl rfl rfl rfl))))
   | refine Sd ?_
   | fail)
  all_goals first
    | (exfalso; omega)
    | refine ThenM.n ?_
  refine RM.seqS ?_
  repeat' (first
   | refine S0 ?_
   | refine Sm ?_
   | ((with_reducible refine' RO.idxL (m := node) exts_ok ?hw ?hx ?hy ?hu ?hi ?hes ?hz ?hlt ?hp ?_); (case hw | hx | hy | hu | hi | hes => exact rfl); (case hz | hlt => omega); (case hp => exact rfl))
   | ((with_reducible refine' RQ.idxL (m := node) exts_ok ?hw ?hx ?hy ?hu ?hi ?hes ?hz ?hlt ?hp ?_); (case hw | hx | hy | hu | hi | hes => exact rfl); (case hz | hlt => omega); (case hp => exact rfl))
   | (refine S2 ?_ ?_) <;> intro hc <;> try (exfalso; first | omega | (simp at hc; done))
   | refine Sf hx ?_
   | refine St ?_
   | ((with_reducible refine RD.nil ?_); (refine' RDk.intro ?oks ?hl ?_); (case hl => exact rfl); (case oks => (repeat' (first | exact True.intro | refine And.intro ?_ ?_ | exact rfl | exact OSem.load1 exts_ok rfl rfl rfl rfl | exact OSem.loadN exts_ok rfl rfl rfl rfl | exact OSem.load1 exts_ok rfl rfl rfl (cellsN_one hx rfl) | exact OSem.load1 exts_ok rfl rfl rfl (cellsN_row hx) | exact OSem.load1 exts_ok rfl rfl rfl (cellsI_one hx) | exact OSem.load1 exts_ok rfl rfl rfl (cellsZ_one hx) | exact OSem.load1 exts_ok rfl rfl rfl (cellsS_one hx) | exact OSem.loadN exts_ok rfl rfl rfl (cellsN_one hx rfl) | exact OSem.loadN exts_ok rfl rfl rfl (cellsN_row hx) | exact OSem.loadN exts_ok rfl rfl rfl (cellsI_one hx) | exact OSem.loadN exts_ok rfl rfl rfl (cellsZ_one hx) | exact OSem.loadN exts_ok rfl rfl rfl (cellsS_one hx)))))
   | refine Sd ?_
   | refine Sr hx ?_
   | fail)
  refine ThenM.n ?_
  refine RM.seqS ?_
  repeat' (first
   | refine S0 ?_
   | refine Sm ?_
   | ((with_reducible refine' RS.drawE mixed [none, none, none, none, none, none, none, none, none, none, none, none, none, none, some (26, [.nilslice]), none] ?hn ?hms ?hord ?hh ?_); (case hn | hms | hord | hh => exact rfl))
   | ((with_reducible refine' RD.opSl0 (b := node) exts_ok ?hLL ?hw ?hx ?hu ?ht ?hi ?hes ?hb ?hp ?_); (case hLL | hw | hx | hu | ht | hi | hes => exact rfl); (case hb => exact abound_le rfl (by omega)); (case hp => exact rfl))
   | ((with_reducible refine' RD.opSlE 7 8 ?hob ?hnx ?hnx1 ?hLL ?hw ?hx ?hlo ?hz ?ht ?hi ?hes ?hn ?hp ?_); (case hob | hnx | hnx1 | hLL | hw | hx | hlo => exact rfl); (case hz => omega); (case ht | hi | hes | hn | hp => exact rfl))
   | ((with_reducible refine' RD.opAddI exts_ok ?hLL ?hw ?hx ?hy ?hi ?hp ?_); (case hLL | hw | hx | hy => exact rfl); (case hi => omega); (case hp => exact rfl))
   | ((with_reducible refine' RD.opBS ?hLL ?hw ?ho ?hp ?_); (case hLL | hw => exact rfl); (case ho => exact OSem.val exts_ok rfl); (case hp => exact rfl))
   | ((with_reducible refine' RD.opFnE exts_ok 99 ?hLL ?hw ?ha ?hf ?hs ?hp ?_); (case hLL | hw | ha | hf => exact rfl); (case hs => exact c99); (case hp => exact rfl))
   | (refine S2 ?_ ?_) <;> intro hc <;> try (exfalso; first | omega | (simp at hc; done))
   | refine St ?_
   | ((with_reducible refine RD.nil ?_); (refine' RDk.intro ?oks ?hl ?_); (case hl => exact rfl); (case oks => (repeat' (first | exact True.intro | refine And.intro ?_ ?_ | exact rfl | exact OSem.load1 exts_ok rfl rfl rfl rfl | exact OSem.loadN exts_ok rfl rfl rfl rfl))))
   | refine Sd ?_
   | fail)
  refine ThenM.n ?_
  refine RM.seq (RM.seqS ?_)
  repeat' (first
   | refine S0 ?_
   | refine Sm ?_
   | refine Sc sem95 ?_
   | (refine S2 ?_ ?_) <;> intro hc <;> try (exfalso; first | omega | (simp at hc; done))
   | refine St ?_
   | ((with_reducible refine RD.nil ?_); (refine' RDk.intro ?oks ?hl ?_); (case hl => exact rfl); (case oks => (repeat' (first | exact True.intro | refine And.intro ?_ ?_ | exact rfl | exact OSem.load1 exts_ok rfl rfl rfl rfl | exact OSem.loadN exts_ok rfl rfl rfl rfl))))
   | refine Sd ?_
   | fail)
  refine ThenM.n (RM.block ?_)
  have hb0 : bumped ((by'.length : Int) - x.s) (partC (ns.take node) by' ([] : List Nd) 3) [] = partC (ns.take node) by' ([] : List Nd) 3 := bumped_nil _ _
  refine RM.aboveE (K := 12) (node := node) (ns := ns) (ib := 11) (is := 10) (i0 := 0) rfl (by decide) hi hl hn ?box rfl (by decide) (fun pre => spB ns by' node (lenC node by'.length 0 3) (.slice 1 0 by'.length 5) x.s (bumped ((by'.length : Int) - x.s) (partC (ns.take node) by' ([] : List Nd) 3) pre)) (by rw [hb0]; rfl) (fun pre _ i => flatT_get _ rfl i) (fun pre => Nat.le_refl _) (fun pre => ⟨⟨true, rfl⟩, ⟨true, rfl⟩, rfl⟩) ?round ?post
  case box => exact ⟨⟨true, rfl⟩, ⟨true, rfl⟩, rfl⟩
  case round =>
    intro pre z hlt hpl hx
    refine ⟨_, rfl, _, rfl, ?_⟩
    have hbx := hbl pre
    obtain ⟨y0, hy0, hy1, hy2⟩ := hlo z hx
    have hbb := bump_bound (d := ((by'.length : Int) - x.s)) (pre := pre) (i := z) (by omega) (by omega) (by omega)
    obtain ⟨y, hy, hys⟩ : ∃ y : Nd, (bumped ((by'.length : Int) - x.s) (partC (ns.take node) by' ([] : List Nd) 3) pre)[z]? = some y ∧ y.s = y0.s + (pre.count z : Int) * ((by'.length : Int) - x.s) := ⟨_, by rw [bumped_get, hy0]; rfl, rfl⟩
    have hsn := bumped_snoc hy
    have hcs := cellsN_set _ _ _ (y.s + ((by'.length : Int) - x.s)) hy
    rw [hsn] at hcs
    generalize (pre.count z : Int) * ((by'.length : Int) - x.s) = q at hys hbb
    generalize bumped ((by'.length : Int) - x.s) (partC (ns.take node) by' ([] : List Nd) 3) (pre ++ [z]) = o2 at hcs ⊢
    generalize bumped ((by'.length : Int) - x.s) (partC (ns.take node) by' ([] : List Nd) 3) pre = o1 at hy hcs hbx ⊢
    simp only [spB, lenC_3]
    repeat' (first
     | refine S0 ?_
     | refine Sm ?_
     | ((with_reducible refine' RSI.drawE mixed [none, none, none, none, none, none, none, none, none, none, none, none, none, none] ?hn ?hd ?hms ?hord ?hh ?_); (case hn | hd | hms | hord | hh => exact rfl))
     | ((with_reducible refine' RD.opIx exts_ok z ?hLL ?hw ?hx ?hy ?hu ?hi ?hes ?hz ?hlt ?hp ?_); (case hLL | hw | hx | hy | hu | hi | hes | hz => exact rfl); (case hlt => omega); (case hp => exact rfl))
     | ((with_reducible refine' RD.opLenL exts_ok ?hLL ?hw ?hx ?hu ?hp ?_); (case hLL | hw | hx | hu | hp => exact rfl))
     | ((with_reducible refine' RD.opSubI exts_ok ?hLL ?hw ?hx ?hy ?hi ?hp ?_); (case hLL | hw | hx | hy => exact rfl); (case hi => omega); (case hp => exact rfl))
     | ((with_reducible refine' RD.opAddI exts_ok ?hLL ?hw ?hx ?hy ?hi ?hp ?_); (case hLL | hw | hx | hy => exact rfl); (case hi => omega); (case hp => exact rfl))
     | ((with_reducible refine' RD.opSt exts_ok (cellsN o2) ?hLL ?hw ?hx ?hy ?hv ?hone ?hi ?hk ?hg ?hlt ?hc ?hput ?hp ?_); (case hLL | hw | hx | hy | hv | hone | hi | hk | hg => exact rfl); (case hlt => (show z * 5 + 4 < _; rw [cellsN_len]; omega)); (case hc => exact hcs); (case hput | hp => exact rfl))
     | (refine S2 ?_ ?_) <;> intro hc <;> try (exfalso; first | omega | (simp at hc; done))
     | refine Sf hy ?_
     | refine St ?_
     | ((with_reducible refine RD.nil ?_); (refine' RDk.intro ?oks ?hl ?_); (case hl => exact rfl); (case oks => (repeat' (first | exact True.intro | refine And.intro ?_ ?_ | exact rfl | exact OSem.load1 exts_ok rfl rfl rfl rfl | exact OSem.loadN exts_ok rfl rfl rfl rfl | exact OSem.load1 exts_ok rfl rfl rfl (cellsN_one hy rfl) | exact OSem.load1 exts_ok rfl rfl rfl (cellsN_row hy) | exact OSem.load1 exts_ok rfl rfl rfl (cellsI_one hy) | exact OSem.load1 exts_ok rfl rfl rfl (cellsZ_one hy) | exact OSem.load1 exts_ok rfl rfl rfl (cellsS_one hy) | exact OSem.loadN exts_ok rfl rfl rfl (cellsN_one hy rfl) | exact OSem.loadN exts_ok rfl rfl rfl (cellsN_row hy) | exact OSem.loadN exts_ok rfl rfl rfl (cellsI_one hy) | exact OSem.loadN exts_ok rfl rfl rfl (cellsZ_one hy) | exact OSem.loadN exts_ok rfl rfl rfl (cellsS_one hy)))))
     | refine Sd ?_
     | refine Sr hy ?_
     | fail)
    exact ⟨rfl, [0, 1, 2, 3, 4, 5, 6, 7, 8, 9, 10, 11], by exact layX⟩
  case post =>
    rw [← hsplA, hbump]
    have hol2 : (lenC node by'.length 0 3) = (splN ns node by').length := by rw [lenC_3]; omega
    dsimp only [spB]
    rw [hol2]
    by_cases hc : checkR (splN ns node by') = 0
    · have cc : ∀ {h : Heap} {i : Nat}, Nat.blt i h.next = true → tells (h.objs.get i) (cellsN (splN ns node by')) → CSem Tryz.prog 26 [.agg [.slice i 0 (splN ns node by').length 5]] h (.int .i64 0) h := fun hi ht => by
        have := tf26 oo TF.sl hi ht
        rwa [hc] at this
      unfold splV splO
      rw [if_pos hc, if_pos hc, hc]
      generalize splN ns node by' = o2 at cc
      repeat' (first
       | refine S0 ?_
       | refine Sm ?_
       | refine Sc cc ?_
       | (refine S2 ?_ ?_) <;> intro hc <;> try (exfalso; first | omega | (simp at hc; done))
       | refine St ?_
       | ((with_reducible refine RD.nil ?_); (refine' RDk.intro ?oks ?hl ?_); (case hl => exact rfl); (case oks => (repeat' (first | exact True.intro | refine And.intro ?_ ?_ | exact rfl | exact OSem.load1 exts_ok rfl rfl rfl rfl | exact OSem.loadN exts_ok rfl rfl rfl rfl))))
       | refine Sd ?_
       | fail)
      all_goals first
        | (exfalso; omega)
        | exact ⟨rfl, _, rfl, [0, 1, 9], ⟨rfl, rfl, rfl, RenO.ro (RenVs.plain (cellsN_plain _)), RenO.ro (RenVs.plain (cellsN_plain _)), RenO.cells (RenVs.plain (cellsN_plain _)), True.intro⟩, RenV.tuple (RenVs.cons (RenV.agg1 (RenV.slice rfl)) (RenVs.plain rfl))⟩
    · have cc : ∀ {h : Heap} {i : Nat}, Nat.blt i h.next = true → tells (h.objs.get i) (cellsN (splN ns node by')) → CSem Tryz.prog 26 [.agg [.slice i 0 (splN ns node by').length 5]] h (.int .i64 (checkR (splN ns node by'))) h := fun hi ht => tf26 oo TF.sl hi ht
      unfold splV splO
      rw [if_neg hc, if_neg hc]
      generalize splN ns node by' = o2 at cc hc
      repeat' (first
       | refine S0 ?_
       | refine Sm ?_
       | refine Sc cc ?_
       | (refine S2 ?_ ?_) <;> intro hc <;> try (exfalso; first | omega | (simp at hc; done))
       | refine St ?_
       | ((with_reducible refine RD.nil ?_); (refine' RDk.intro ?oks ?hl ?_); (case hl => exact rfl); (case oks => (repeat' (first | exact True.intro | refine And.intro ?_ ?_ | exact rfl | exact OSem.load1 exts_ok rfl rfl rfl rfl | exact OSem.loadN exts_ok rfl rfl rfl rfl))))
       | refine Sd ?_
       | fail)
      all_goals first
        | (exfalso; omega)
        | exact ⟨rfl, _, rfl, [0, 1], ⟨rfl, rfl, rfl, RenO.ro (RenVs.plain (cellsN_plain _)), RenO.ro (RenVs.plain (cellsN_plain _)), True.intro⟩, RenV.tuple (RenVs.cons (RenV.agg1 RenV.nilslice) (RenVs.plain rfl))⟩
end Go.Am
