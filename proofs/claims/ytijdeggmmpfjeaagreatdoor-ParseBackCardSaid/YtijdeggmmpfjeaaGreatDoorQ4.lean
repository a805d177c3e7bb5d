/- Part of the proof: WqG, WqH, WqI, WqK, WqL. -/
import Derived.Test.YtijdeggmmpfjeaaGreatDoorQ3
import Derived.Test.YtijdeggmmpfjeaaGreatDoorD3
import Derived.ChangeArms
set_option linter.unusedSimpArgs false
set_option linter.unusedVariables false
set_option linter.unusedSectionVars false
namespace Go.Am
open Go Go.Proofs Go.RowKit Go.Pu
set_option maxRecDepth 1000000
section
variable {P : Program} {N n : Nat} {ops : Array Oper} {l : List Oper} {env env1 : Env} {h h1 : Heap} {Post : APost} {ext : FuncId → Bool} {d : Option Tmp} {ty : TypeId} {pos : String} {af : Array Edge} {gd : Option (Nat × Bool)}
theorem aappend_many {t u : TypeId} {e : TypeId} {inf : TypeInfo} {z : AV} {es j n m k q : Nat} {c olds news : List AV} {ex : Bool} {h1 : Heap} {h' : Heap} {j' : Nat} (ht : P.underlying t = some (.slice e)) (hu : P.underlying u = some (.slice e)) (hi : P.info? e = some inf) (hz : azero P e = some z) (hzl : Nat.beq z.cells.length es = true) (hes : P.cellsOf e = es) (he0 : Nat.blt 0 es = true)
    (hn : acells h q (k * es) (m * es) = some news) (hone : allOne news = true) (hm : m ≠ 0) (hg : h.objs.get j = some (.cells e es c ex)) (ho : acells h j 0 (n * es) = some olds) (hb : n + m ≤ 1000000) (hb2 : (n + m) * inf.bytes ≤ 1000000000) (hp : h.put j none = some h1) (ha : h1.add (.cells e es (olds ++ news) false) = some (j', h')) :
    aappend P h t u (.slice j 0 n es) (.slice q k m es) = some (.slice j' 0 (n + m) es, h') := by
  subst hes
  have h1' : Nat.ble (n + m) 1000000 = true := by simpa using hb
  have h2' : Nat.ble ((n + m) * inf.bytes) 1000000000 = true := by simpa using hb2
  have h3 : elemIs h j e = true := by simp [elemIs, hg]
  have h4 : asource P h u (P.cellsOf e) (.slice q k m (P.cellsOf e)) = some (m, news) := by simp only [asource, hu, hn, Nat.beq_refl, cond_true]
  have h5 : Nat.beq m 0 = false := by rw [beq_iff']; simp [hm]
  simp only [aappend, ht, hi, hz, hzl, he0, cond_true, h4, hone, h3, h1', h2', ho, hp, ha, Nat.beq_refl, h5, cond_false]
theorem aappend_y0 {t u : TypeId} {e : TypeId} {inf : TypeInfo} {z : AV} {es j n : Nat} (ht : P.underlying t = some (.slice e)) (hu : P.underlying u = some (.slice e)) (hi : P.info? e = some inf) (hz : azero P e = some z) (hzl : Nat.beq z.cells.length es = true) (hes : P.cellsOf e = es) (he0 : Nat.blt 0 es = true) :
    aappend P h t u (.slice j 0 n es) .nilslice = some (.slice j 0 n es, h) := by
  subst hes
  have h4 : asource P h u (P.cellsOf e) .nilslice = some (0, []) := by simp only [asource, hu]
  simp only [aappend, ht, hi, hz, hzl, he0, cond_true, h4, allOne]
  rfl
theorem RO.appM (hext : ExtOk P ext) {t u e : TypeId} {x y : Operand} {inf : TypeInfo} {z : AV} {es j n' m k q : Nat} {c olds news : List AV} {ex : Bool} {h2 : Heap} {j' : Nat} (hw : awanted ops (aeval env) (⟨d, .call ⟨.builtin .append, #[x, y], #[t, u]⟩, ty, pos, af, gd⟩ : Oper) = some true) (hx : aeval env x = some (.slice j 0 n' es)) (hy : aeval env y = some (.slice q k m es)) (ht : P.underlying t = some (.slice e)) (hu : P.underlying u = some (.slice e)) (hi : P.info? e = some inf) (hz : azero P e = some z) (hzl : Nat.beq z.cells.length es = true) (hes : P.cellsOf e = es) (he0 : Nat.blt 0 es = true) (hn : acells h q (k * es) (m * es) = some news) (hone : allOne news = true) (hm : m ≠ 0) (hg : h.objs.get j = some (.cells e es c ex)) (ho : acells h j 0 (n' * es) = some olds) (hb : n' + m ≤ 1000000) (hb2 : (n' + m) * inf.bytes ≤ 1000000000) (hq : h.put j none = some h2) (ha : h2.add (.cells e es (olds ++ news) false) = some (j', h1)) (hp : aput env n d (.slice j' 0 (n' + m) es) = some env1) (r : RO P N n ops l env1 h1 Post) : RO P N n ops ((⟨d, .call ⟨.builtin .append, #[x, y], #[t, u]⟩, ty, pos, af, gd⟩ : Oper) :: l) env h Post :=
  RO.step hw (OSem.app hext rfl rfl rfl hx hy (aappend_many ht hu hi hz hzl hes he0 hn hone hm hg ho hb hb2 hq ha)) hp r
theorem RO.appY (hext : ExtOk P ext) {t u e : TypeId} {x y : Operand} {inf : TypeInfo} {z : AV} {es j n' : Nat} (hw : awanted ops (aeval env) (⟨d, .call ⟨.builtin .append, #[x, y], #[t, u]⟩, ty, pos, af, gd⟩ : Oper) = some true) (hx : aeval env x = some (.slice j 0 n' es)) (hy : aeval env y = some .nilslice) (ht : P.underlying t = some (.slice e)) (hu : P.underlying u = some (.slice e)) (hi : P.info? e = some inf) (hz : azero P e = some z) (hzl : Nat.beq z.cells.length es = true) (hes : P.cellsOf e = es) (he0 : Nat.blt 0 es = true) (hp : aput env n d (.slice j 0 n' es) = some env1) (r : RO P N n ops l env1 h Post) : RO P N n ops ((⟨d, .call ⟨.builtin .append, #[x, y], #[t, u]⟩, ty, pos, af, gd⟩ : Oper) :: l) env h Post :=
  RO.step hw (OSem.app hext rfl rfl rfl hx hy (aappend_y0 ht hu hi hz hzl hes he0)) hp r
end
theorem tf53 {ns : List Nd} (hl : Lam (sizes ns)) (hn : ns.length ≤ 700) {node : Nat} (hi : node < ns.length) {h : Heap} {i : Nat} (hi' : Nat.blt i h.next = true) (ht : tells (h.objs.get i) (cellsN ns)) : CSem Tryz.prog 53 [.agg [.slice i 0 ns.length 5], .int .i64 (node : Int)] h (.int .i64 (upF (ancF (sizeAt ns) node node))) h :=
  CSem.upN (sem53 ns hl hn node hi) hi' ht (RenVs.cons (RenV.agg1 (RenV.slice rfl)) (RenVs.plain rfl)) (RenV.plain rfl)
end Go.Am
namespace Go.Am
open Go Go.Proofs Go.RowKit Go.Pu
set_option maxRecDepth 1000000
theorem add_next {h h' : Heap} {o : AObj} {j : Nat} (ha : h.add o = some (j, h')) : j = h.next := by
  rw [Heap.add_eq] at ha
  split at ha
  · simp only [Option.some.injEq, Prod.mk.injEq] at ha
    exact ha.1.symm
  · cases ha
theorem aN {i : Nat} {n : Nat} {x : AV} (hx : plain1 x = true) : RenVs [i] [.agg [.slice i 0 n 5], x] [.agg [.slice 0 0 n 5], x] := RenVs.cons (RenV.agg1 (RenV.slice rfl)) (RenVs.plain (by simp [plains, hx]))
section
variable {ns : List Nd} {node : Nat} {a : Nat} {l : List Nat} {z : Int} {zs : List Int} {h h' : Heap} {i j : Nat}
theorem t53 (o : NdOk ns) (h0 : checkR ns = 0) (hn : node < ns.length) (hi : Nat.blt i h.next = true) (ht : tells (h.objs.get i) (cellsN ns)) : CSem Tryz.prog 53 [.agg [.slice i 0 ns.length 5], .int .i64 (node : Int)] h (.int .i64 (upF (ancF (sizeAt ns) node node))) h := tf53 (check_lam o h0) o.len hn hi ht
end
end Go.Am
namespace Go.Am
open Go Go.Proofs Go.RowKit Go.Pu
set_option maxRecDepth 1000000
section
variable {P : Program} {N n : Nat} {ops : Array Oper} {l : List Oper} {env env1 : Env} {h h1 : Heap} {Post : APost} {ext : FuncId → Bool} {d : Option Tmp} {ty : TypeId} {pos : String} {af : Array Edge} {gd : Option (Nat × Bool)}
end
end Go.Am
namespace Go.Am
open Go Go.Proofs Go.RowKit Go.Pu Go.ChangeShapes Go.WideShapes Go.Deep
set_option maxRecDepth 100000
end Go.Am
namespace Go.Am
open Go Go.Proofs Go.RowKit Go.Pu
set_option maxRecDepth 100000
def TellsZ (W : World) (l : List Int) (p : Loc) : Prop := p.b < W.heap.size ∧ ∀ (i : Nat) (z : Int), l[i]? = some z → W.cell? ⟨p.b, p.base + i, none⟩ = some (.int .i64 z)
theorem roZ_ok {P : Program} {W : World} {l : List Int} {p : Loc} (M : Map) (h : TellsZ W l p) : ORel P M p (some (.ro 3 1 (cellsZ l))) W.heap[p.b]? := by
  intro j a ha
  obtain ⟨z, hz, rfl⟩ : ∃ z, l[j]? = some z ∧ a = intZ z := by
    simp only [cellsZ, List.getElem?_map, Option.map_eq_some_iff] at ha
    obtain ⟨z, h1, h2⟩ := ha
    exact ⟨z, h1, h2.symm⟩
  exact ⟨.int .i64 z, by simp [intZ, conc], by rw [← cell?_eq]; exact h.2 j z hz⟩
theorem heapTP {W : World} (g : Known Tryz.prog W.heap.size W) {l0 l1 : Option Loc} {ns : List Nd} {l : List Int} (h0 : ∀ p, l0 = some p → TellsAt W ns p) (h1 : ∀ p, l1 = some p → TellsZ W l p) : HRel Tryz.prog W.heap.size W (map2 l0 l1) (pzH ns l) W := by
  refine ⟨BelowM.refl _ _, ⟨Nat.le_refl _, g⟩, fun i hi => ?_, fun i p hp => ?_, fun i j p q hi hj hpq ho hs => ?_⟩
  · have : 2 ≤ i := hi
    simp only [map2]
    rw [if_neg (by omega), if_neg (by omega)]
  · simp only [map2] at hp
    split at hp
    · rename_i e
      subst e
      refine ⟨fun o h1' h2 => ?_, (h0 p hp).1, ro_ok _ (h0 p hp)⟩
      have : o = .ro 50 5 (cellsN ns) := (Option.some.inj h1').symm
      subst this
      cases h2
    · split at hp
      · rename_i e
        subst e
        refine ⟨fun o h1' h2 => ?_, (h1 p hp).1, roZ_ok _ (h1 p hp)⟩
        have : o = .ro 3 1 (cellsZ l) := (Option.some.inj h1').symm
        subst this
        cases h2
      · cases hp
  · exfalso
    obtain ⟨o, ho, hr⟩ := ho
    simp only [map2] at hi
    split at hi
    · rename_i e
      subst e
      have : o = .ro 50 5 (cellsN ns) := (Option.some.inj ho).symm
      subst this
      cases hr
    · split at hi
      · rename_i e
        subst e
        have : o = .ro 3 1 (cellsZ l) := (Option.some.inj ho).symm
        subst this
        cases hr
      · cases hi
end Go.Am
