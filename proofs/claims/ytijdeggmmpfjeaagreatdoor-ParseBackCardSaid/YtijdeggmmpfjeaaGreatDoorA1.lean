/- Part of the proof: WkKids, WkA, WkB. -/
import Derived.Test.YtijdeggmmpfjeaaGreatDoorS3
import Derived.Test.YtijdeggmmpfjeaaGreatDoorM9
import Derived.Test.YtijdeggmmpfjeaaGreatDoorS2
set_option linter.unusedSimpArgs false
set_option linter.unusedVariables false
set_option linter.unusedSectionVars false
namespace Go.Am
open Go Go.Proofs Go.RowKit Go.Pu
set_option maxRecDepth 100000
def nodesH (ns : List Nd) : Heap := ⟨.node (some (.ro 50 5 (cellsN ns))) .leaf .leaf, 1⟩
def madeV (j : Nat) (l : List Nat) : AV := match l with
  | [] => .nilslice
  | _ :: _ => .slice j 0 l.length 1
def kidsH (ns : List Nd) (l : List Nat) : Heap := match l with
  | [] => nodesH ns
  | _ :: _ => ⟨.node (some (.ro 50 5 (cellsN ns))) (.node (some (.cells 3 1 (cellsI l) false)) .leaf .leaf) .leaf, 2⟩
structure KS where
  k : Nat
  f : Nat
  out : List Nat
theorem sizes_get {ns : List Nd} {k : Nat} {x : Nd} (h : ns[k]? = some x) : (sizes ns)[k]? = some x.s := by simp [sizes, h]
set_option maxHeartbeats 400000 in
theorem sem93 (ns : List Nd) (hl : Lam (sizes ns)) (hn : ns.length ≤ 700) (node : Nat) (hi : node < ns.length) : CSem Tryz.prog 93 [.slice 0 0 ns.length 5, .int .i64 (node : Int)] (nodesH ns) (madeV 1 (kidsOf (sizes ns) node)) (kidsH ns (kidsOf (sizes ns) node)) := by
  obtain ⟨x0, hx0⟩ : ∃ x, ns[node]? = some x := ⟨ns[node], by simp [hi]⟩
  have hr0 := hl.rng _ _ (sizes_get hx0)
  have hz : (sizes ns).length = ns.length := by simp [sizes]
  rw [hz] at hr0
  have e0 : kidsOf (sizes ns) node = kidsF (sizes ns) ns.length (node + 1) (node + x0.s) := by unfold kidsOf; rw [sizes_get hx0, hz]; rfl
  refine CSem.into Tryz.func93 rfl (by decide) Tryz.ntmps93 rfl rfl rfl ?_
  dsimp only [nodesH]
  repeat' (first
   | refine S0 ?_
   | (refine S2 ?_ ?_) <;> intro hc <;> try (exfalso; first | omega | (simp at hc; done))
   | refine St ?_
   | fail)
  refine RS.loop (σ := KS) (fun s => node < s.k ∧ (s.k : Int) ≤ node + x0.s ∧ (node : Int) + x0.s - s.k ≤ s.f ∧ s.out ++ kidsF (sizes ns) s.f s.k (node + x0.s) = kidsOf (sizes ns) node ∧ s.out.length ≤ s.k) (fun s => [(0, .slice 0 0 ns.length 5), (1, .int .i64 (node : Int)), (4, madeV 1 s.out), (5, .int .i64 (s.k : Int))]) (fun s => kidsH ns s.out) (fun s => s.f) ⟨node + 1, ns.length, []⟩ ?inv ?lay ?round
  case inv => exact ⟨by simp, by simp; omega, by simp; omega, e0.symm, by simp⟩
  case lay => exact ⟨[0], by (refine ⟨rfl, rfl, rfl, ?_⟩; repeat' (first | exact True.intro | refine And.intro ?_ ?_ | exact RenO.none | exact RenO.cells (RenVs.plain rfl) | exact RenO.ro (RenVs.plain (cellsN_plain _)) | exact RenO.cells (RenVs.plain (cellsN_plain _)) | exact RenO.cells (RenVs.plain (cellsI_plain _)) | exact RenO.cells (RenVs.plain (cellsZ_plain _)) | exact RenO.cells (RenVs.cons (RenV.slice rfl) RenVs.nil) | exact RenO.iter | exact RenO.cells (RenVs.plain (rowN_plain _)))), by (repeat' (first | exact True.intro | refine And.intro ?_ ?_ | exact ⟨_, rfl, RenV.plain rfl⟩ | exact ⟨_, rfl, RenV.slice rfl⟩ | exact ⟨_, rfl, RenV.ptr rfl⟩ | exact ⟨_, rfl, RenV.nilslice⟩))⟩
  case round =>
    rintro ⟨k, f, out⟩ ⟨i1, i2, i3, i4, i5⟩
    simp only at i1 i2 i3 i4 i5
    by_cases hlt : (k : Int) < node + x0.s
    · obtain ⟨x, hx⟩ : ∃ x, ns[k]? = some x := ⟨ns[k]'(by omega), by rw [List.getElem?_eq_getElem]⟩
      have hr := hl.rng _ _ (sizes_get hx)
      have hlm := hl.lam _ _ _ _ i1 (sizes_get hx0) (sizes_get hx) hlt
      rw [hz] at hr
      obtain ⟨f, rfl⟩ : ∃ g, f = g + 1 := ⟨f - 1, by omega⟩
      have e1 : kidsF (sizes ns) (f + 1) k (node + x0.s) = k :: kidsF (sizes ns) f (k + x.s.toNat) (node + x0.s) := by
        rw [kidsF, if_pos hlt, sizes_get hx]; rfl
      rw [e1] at i4
      have i4' : (out ++ [k]) ++ kidsF (sizes ns) f (k + x.s.toNat) (node + x0.s) = kidsOf (sizes ns) node := by rw [← i4]; simp
      have ek : ((k + x.s.toNat : Nat) : Int) = k + x.s := by omega
      cases out with
      | nil =>
        refine ⟨_, rfl, ?_⟩
        dsimp only [madeV, kidsH, nodesH]
        repeat' (first
         | refine S0 ?_
         | (refine S2 ?_ ?_) <;> intro hc <;> try (exfalso; first | omega | (simp at hc; done))
         | refine Sf hx0 ?_
         | refine Sf hx ?_
         | refine St ?_
         | fail)
        refine Rnd.n ⟨k + x.s.toNat, f, [k]⟩ [0, 2] ⟨by dsimp only; omega, by dsimp only; omega, by dsimp only; omega, i4', by simp; omega⟩ (by simp) (by (refine ⟨rfl, rfl, rfl, ?_⟩; repeat' (first | exact True.intro | refine And.intro ?_ ?_ | exact RenO.none | exact RenO.cells (RenVs.plain rfl) | exact RenO.ro (RenVs.plain (cellsN_plain _)) | exact RenO.cells (RenVs.plain (cellsN_plain _)) | exact RenO.cells (RenVs.plain (cellsI_plain _)) | exact RenO.cells (RenVs.plain (cellsZ_plain _)) | exact RenO.cells (RenVs.cons (RenV.slice rfl) RenVs.nil) | exact RenO.iter | exact RenO.cells (RenVs.plain (rowN_plain _))))) ?_
        refine ⟨⟨_, rfl, RenV.slice rfl⟩, ⟨_, rfl, RenV.plain rfl⟩, ⟨_, rfl, RenV.slice rfl⟩, ⟨_, rfl, RenV.eq (by rw [ek]) rfl⟩, True.intro⟩
      | cons o os =>
        refine ⟨_, rfl, ?_⟩
        dsimp only [madeV, kidsH]
        simp only [List.length_cons] at i5
        repeat' (first
         | refine S0 ?_
         | (refine S2 ?_ ?_) <;> intro hc <;> try (exfalso; first | omega | (simp at hc; done))
         | refine Sf hx0 ?_
         | refine Sf hx ?_
         | refine St ?_
         | fail)
        refine Rnd.n ⟨k + x.s.toNat, f, (o :: os) ++ [k]⟩ [0, 3] ⟨by dsimp only; omega, by dsimp only; omega, by dsimp only; omega, i4', by simp; omega⟩ (by simp) ⟨rfl, rfl, rfl, RenO.ro (RenVs.plain (cellsN_plain _)), RenO.cells (RenVs.eq (cellsI_snoc _ _).symm (by rw [← cellsI_snoc]; exact cellsI_plain _)), True.intro⟩ ?_
        refine ⟨⟨_, rfl, RenV.slice rfl⟩, ⟨_, rfl, RenV.plain rfl⟩, ⟨_, rfl, RenV.sliceL rfl (by simp)⟩, ⟨_, rfl, RenV.eq (by rw [ek]) rfl⟩, True.intro⟩
    · have e1 : kidsF (sizes ns) f k (node + x0.s) = [] := by
        cases f with
        | zero => rfl
        | succ f => rw [kidsF, if_neg hlt]
      rw [e1, List.append_nil] at i4
      rw [← i4]
      cases out with
      | nil =>
        refine ⟨_, rfl, ?_⟩
        dsimp only [madeV, kidsH, nodesH]
        repeat' (first
         | refine S0 ?_
         | (refine S2 ?_ ?_) <;> intro hc <;> try (exfalso; first | omega | (simp at hc; done))
         | refine Sf hx0 ?_
         | refine St ?_
         | fail)
        exact ⟨rfl, _, rfl, [0], by (refine ⟨rfl, rfl, rfl, ?_⟩; repeat' (first | exact True.intro | refine And.intro ?_ ?_ | exact RenO.none | exact RenO.cells (RenVs.plain rfl) | exact RenO.ro (RenVs.plain (cellsN_plain _)) | exact RenO.cells (RenVs.plain (cellsN_plain _)) | exact RenO.cells (RenVs.plain (cellsI_plain _)) | exact RenO.cells (RenVs.plain (cellsZ_plain _)) | exact RenO.cells (RenVs.cons (RenV.slice rfl) RenVs.nil) | exact RenO.iter | exact RenO.cells (RenVs.plain (rowN_plain _)))), RenV.nilslice⟩
      | cons o os =>
        refine ⟨_, rfl, ?_⟩
        dsimp only [madeV, kidsH]
        repeat' (first
         | refine S0 ?_
         | (refine S2 ?_ ?_) <;> intro hc <;> try (exfalso; first | omega | (simp at hc; done))
         | refine Sf hx0 ?_
         | refine St ?_
         | fail)
        exact ⟨rfl, _, rfl, [0, 1], by (refine ⟨rfl, rfl, rfl, ?_⟩; repeat' (first | exact True.intro | refine And.intro ?_ ?_ | exact RenO.none | exact RenO.cells (RenVs.plain rfl) | exact RenO.ro (RenVs.plain (cellsN_plain _)) | exact RenO.cells (RenVs.plain (cellsN_plain _)) | exact RenO.cells (RenVs.plain (cellsI_plain _)) | exact RenO.cells (RenVs.plain (cellsZ_plain _)) | exact RenO.cells (RenVs.cons (RenV.slice rfl) RenVs.nil) | exact RenO.iter | exact RenO.cells (RenVs.plain (rowN_plain _)))), RenV.slice rfl⟩
end Go.Am
namespace Go.Am
open Go Go.Proofs Go.RowKit Go.Pu
set_option maxRecDepth 100000
theorem CSem.pure {P : Program} {f : FuncId} {args : List AV} {v : AV} (c : CSem P f args ⟨.leaf, 0⟩ v ⟨.leaf, 0⟩) (ha : RenVs [] args args) (hv : RenV [] v v) (h : Heap) : CSem P f args h v h :=
  CSem.up c [] [] rfl rfl True.intro ha True.intro rfl rfl hv
theorem CSem.upN {P : Program} {f : FuncId} {ns : List Nd} {args0 args : List AV} {v : AV} (c : CSem P f args0 (nodesH ns) v (nodesH ns)) {h : Heap} {i : Nat} (hi : Nat.blt i h.next = true) (ht : tells (h.objs.get i) (cellsN ns)) (ha : RenVs [i] args args0) (hv : RenV [i] v v) : CSem P f args h v h :=
  CSem.up c [i] [] rfl (by simp only [List.all_cons, hi, List.all_nil, Bool.and_true]) ⟨⟨cellsN_plain ns, ht⟩, True.intro⟩ ha True.intro rfl rfl (by simpa using hv)
def kidsO (l : List Nat) : List SObj := match l with
  | [] => []
  | _ :: _ => [⟨3, 1, cellsI l, false⟩]
theorem CSem.upK {P : Program} {f : FuncId} {ns : List Nd} {l : List Nat} {args0 args : List AV} {v0 v : AV} (c : CSem P f args0 (nodesH ns) v0 (kidsH ns l)) {h h' : Heap} {i : Nat} (hi : Nat.blt i h.next = true) (ht : tells (h.objs.get i) (cellsN ns)) (ha : RenVs [i] args args0) (hadd : addAll (kidsO l) h = some h') (hv : RenV ([i] ++ List.range' h.next (kidsO l).length) v v0) : CSem P f args h v h' := by
  refine CSem.up c [i] (kidsO l) rfl (by simp only [List.all_cons, hi, List.all_nil, Bool.and_true]) ⟨⟨cellsN_plain ns, ht⟩, True.intro⟩ ha ?_ ?_ hadd hv
  · cases l with
    | nil => exact True.intro
    | cons a l => exact ⟨⟨(show (kidsH ns (a :: l)).objs.get 1 = _ from rfl), cellsI_plain _⟩, True.intro⟩
  · cases l <;> rfl
def addK (l : List Nat) (h : Heap) : Option Heap := match l with
  | [] => some h
  | _ :: _ => match h.add (.cells 3 1 (cellsI l) false) with
    | some (_, h') => some h'
    | none => none
theorem addK_eq (l : List Nat) (h : Heap) : addAll (kidsO l) h = addK l h := by
  cases l with
  | nil => rfl
  | cons a l =>
    simp only [addAll, kidsO, addK]
    cases h.add (.cells 3 1 (cellsI (a :: l)) false) <;> rfl
theorem at93 {ns : List Nd} (hl : Lam (sizes ns)) (hn : ns.length ≤ 700) {node : Nat} (hi : node < ns.length) {l : List Nat} (hl' : kidsOf (sizes ns) node = l) {h h' : Heap} {i : Nat} (j : Nat) (hj : h.next = j) (hi' : Nat.blt i h.next = true) (ht : tells (h.objs.get i) (cellsN ns)) (hadd : addK l h = some h') : CSem Tryz.prog 93 [.slice i 0 ns.length 5, .int .i64 (node : Int)] h (madeV j l) h' := by
  subst hj hl'
  rw [← addK_eq] at hadd
  refine CSem.upK (sem93 ns hl hn node hi) hi' ht (RenVs.cons (RenV.slice rfl) (RenVs.plain rfl)) hadd ?_
  cases kidsOf (sizes ns) node with
  | nil => exact RenV.nilslice
  | cons a l => exact RenV.slice rfl
theorem sem84 (x a b : Int) (h : Heap) : CSem Tryz.prog 84 [.int .i64 x, .int .i64 a, .int .i64 b] h (.bool (decide (a ≤ x ∧ x ≤ b))) h := by
  refine CSem.pure ?_ (RenVs.plain rfl) (RenV.plain rfl) h
  refine CSem.into Tryz.func84 rfl (by decide) Tryz.ntmps84 rfl rfl rfl ?_
  dsimp only
  repeat' (first
   | refine S0 ?_
   | (refine S2 ?_ ?_) <;> intro hc <;> try (exfalso; first | omega | (simp at hc; done))
   | refine St ?_
   | fail)
  all_goals refine ⟨rfl, _, rfl, [], by (refine ⟨rfl, rfl, rfl, ?_⟩; repeat' (first | exact True.intro | refine And.intro ?_ ?_ | exact RenO.none | exact RenO.cells (RenVs.plain rfl) | exact RenO.ro (RenVs.plain (cellsN_plain _)) | exact RenO.cells (RenVs.plain (cellsN_plain _)) | exact RenO.cells (RenVs.plain (cellsI_plain _)) | exact RenO.cells (RenVs.plain (cellsZ_plain _)) | exact RenO.cells (RenVs.cons (RenV.slice rfl) RenVs.nil) | exact RenO.iter | exact RenO.cells (RenVs.plain (rowN_plain _)))), RenV.eq ?_ rfl⟩
  all_goals simp [afinish, *]
structure KR where
  k : Nat
  f : Nat
  out : List Nat
def refKidsV (j : Nat) : Option (List Nat) → AV
  | some l => .tuple [madeV j l, .bool true]
  | none => .tuple [.nilslice, .bool false]
def optH (ns : List Nd) (o : Option (List Nat)) : Heap := match o with
  | some l => kidsH ns l
  | none => nodesH ns
def refH (ns : List Nd) (l : List Nat) : Heap := match l with
  | [] => ⟨.node (some (.ro 50 5 (cellsN ns))) (.node (some (.cells 26 1 [.slice 0 0 ns.length 5] true)) .leaf .leaf) .leaf, 2⟩
  | _ :: _ => ⟨.node (some (.ro 50 5 (cellsN ns))) (.node (some (.cells 26 1 [.slice 0 0 ns.length 5] true)) .leaf .leaf) (.node (some (.cells 3 1 (cellsI l) false)) .leaf .leaf), 3⟩
set_option maxHeartbeats 1000000 in
theorem sem40 (ns : List Nd) (hn : ns.length ≤ 700) (hb : ∀ x ∈ ns, -9223372036854775808 ≤ x.s ∧ x.s < 9223372036854775808) (node : Nat) (hi : node < ns.length) : CSem Tryz.prog 40 [.agg [.slice 0 0 ns.length 5], .int .i64 (node : Int)] (nodesH ns) (refKidsV 1 (rkOf (sizes ns) node)) (optH ns (rkOf (sizes ns) node)) := by
  obtain ⟨x0, hx0⟩ : ∃ x, ns[node]? = some x := ⟨ns[node], by simp [hi]⟩
  have hz : (sizes ns).length = ns.length := by simp [sizes]
  have ub : ∀ x ∈ ns, -9223372036854775808 ≤ x.s ∧ x.s < 9223372036854775808 := hb
  refine CSem.into Tryz.func40 rfl (by decide) Tryz.ntmps40 rfl rfl rfl ?_
  dsimp only [nodesH]
  repeat' (first
   | refine S0 ?_
   | (refine Se (sem84 _ _ _ _) ?_ ?_) <;> intro hc <;> try (exfalso; first | omega | (simp at hc; done))
   | (refine S2 ?_ ?_) <;> intro hc <;> try (exfalso; first | omega | (simp at hc; done))
   | refine Sf hx0 ?_
   | refine St ?_
   | fail)
  · have e0 : rkOf (sizes ns) node = rkF (sizes ns) ns.length (node + 1) (node + x0.s) := by unfold rkOf; rw [sizes_get hx0, hz]; exact if_pos hc
    refine RS.loop (σ := KR) (fun s => node < s.k ∧ (s.k : Int) ≤ node + x0.s ∧ (node : Int) + x0.s - s.k ≤ s.f ∧ (rkF (sizes ns) s.f s.k (node + x0.s)).map (s.out ++ ·) = rkOf (sizes ns) node ∧ s.out.length ≤ s.k) (fun s => [(1, .int .i64 (node : Int)), (2, .ptr 1 0), (6, madeV 2 s.out), (7, .int .i64 (node + x0.s)), (8, .int .i64 (s.k : Int))]) (fun s => refH ns s.out) (fun s => s.f) ⟨node + 1, ns.length, []⟩ ?inv ?lay ?round
    case inv => exact ⟨by simp, by simp; omega, by simp; omega, by rw [e0]; simp, by simp⟩
    case lay => exact ⟨[0, 1], by (refine ⟨rfl, rfl, rfl, ?_⟩; repeat' (first | exact True.intro | refine And.intro ?_ ?_ | exact RenO.none | exact RenO.cells (RenVs.plain rfl) | exact RenO.ro (RenVs.plain (cellsN_plain _)) | exact RenO.cells (RenVs.plain (cellsN_plain _)) | exact RenO.cells (RenVs.plain (cellsI_plain _)) | exact RenO.cells (RenVs.plain (cellsZ_plain _)) | exact RenO.cells (RenVs.cons (RenV.slice rfl) RenVs.nil) | exact RenO.iter | exact RenO.cells (RenVs.plain (rowN_plain _)))), ⟨_, rfl, RenV.plain rfl⟩, ⟨_, rfl, RenV.ptr rfl⟩, ⟨_, rfl, RenV.nilslice⟩, ⟨_, rfl, RenV.eq (by rw [Int.add_comm]) rfl⟩, ⟨_, rfl, RenV.plain rfl⟩, True.intro⟩
    case round =>
      rintro ⟨k, f, out⟩ ⟨i1, i2, i3, i4, i5⟩
      simp only at i1 i2 i3 i4 i5
      by_cases hlt : (k : Int) < node + x0.s
      · obtain ⟨x, hx⟩ : ∃ x, ns[k]? = some x := ⟨ns[k]'(by omega), by rw [List.getElem?_eq_getElem]⟩
        have hbx := ub x (List.mem_of_getElem? hx)
        obtain ⟨f, rfl⟩ : ∃ g, f = g + 1 := ⟨f - 1, by omega⟩
        by_cases hcx : 1 ≤ x.s ∧ x.s ≤ node + x0.s - k
        · have e1 : rkF (sizes ns) (f + 1) k (node + x0.s) = (rkF (sizes ns) f (k + x.s.toNat) (node + x0.s)).map (k :: ·) := by
            rw [rkF, if_pos hlt, sizes_get hx]; exact if_pos hcx
          rw [e1] at i4
          have i4' : (rkF (sizes ns) f (k + x.s.toNat) (node + x0.s)).map ((out ++ [k]) ++ ·) = rkOf (sizes ns) node := by
            rw [← i4]; cases rkF (sizes ns) f (k + x.s.toNat) (node + x0.s) <;> simp
          have ek : ((k + x.s.toNat : Nat) : Int) = k + x.s := by omega
          cases out with
          | nil =>
            refine ⟨_, rfl, ?_⟩
            dsimp only [madeV, refH]
            repeat' (first
             | refine S0 ?_
             | (refine Se (sem84 _ _ _ _) ?_ ?_) <;> intro hc <;> try (exfalso; first | omega | (simp at hc; done))
             | (refine S2 ?_ ?_) <;> intro hc <;> try (exfalso; first | omega | (simp at hc; done))
             | refine Sf hx ?_
             | refine St ?_
             | fail)
            refine Rnd.n ⟨k + x.s.toNat, f, [k]⟩ [0, 1, 3] ⟨by dsimp only; omega, by dsimp only; omega, by dsimp only; omega, i4', by simp; omega⟩ (by simp) (by (refine ⟨rfl, rfl, rfl, ?_⟩; repeat' (first | exact True.intro | refine And.intro ?_ ?_ | exact RenO.none | exact RenO.cells (RenVs.plain rfl) | exact RenO.ro (RenVs.plain (cellsN_plain _)) | exact RenO.cells (RenVs.plain (cellsN_plain _)) | exact RenO.cells (RenVs.plain (cellsI_plain _)) | exact RenO.cells (RenVs.plain (cellsZ_plain _)) | exact RenO.cells (RenVs.cons (RenV.slice rfl) RenVs.nil) | exact RenO.iter | exact RenO.cells (RenVs.plain (rowN_plain _))))) ?_
            refine ⟨⟨_, rfl, RenV.plain rfl⟩, ⟨_, rfl, RenV.ptr rfl⟩, ⟨_, rfl, RenV.slice rfl⟩, ⟨_, rfl, RenV.plain rfl⟩, ⟨_, rfl, RenV.eq (by rw [ek]) rfl⟩, True.intro⟩
          | cons o os =>
            refine ⟨_, rfl, ?_⟩
            dsimp only [madeV, refH]
            simp only [List.length_cons] at i5
            repeat' (first
             | refine S0 ?_
             | (refine Se (sem84 _ _ _ _) ?_ ?_) <;> intro hc <;> try (exfalso; first | omega | (simp at hc; done))
             | (refine S2 ?_ ?_) <;> intro hc <;> try (exfalso; first | omega | (simp at hc; done))
             | refine Sf hx ?_
             | refine St ?_
             | fail)
            refine Rnd.n ⟨k + x.s.toNat, f, (o :: os) ++ [k]⟩ [0, 1, 4] ⟨by dsimp only; omega, by dsimp only; omega, by dsimp only; omega, i4', by simp; omega⟩ (by simp) ⟨rfl, rfl, rfl, RenO.ro (RenVs.plain (cellsN_plain _)), RenO.cells (RenVs.cons (RenV.slice rfl) RenVs.nil), RenO.cells (RenVs.eq (cellsI_snoc _ _).symm (by rw [← cellsI_snoc]; exact cellsI_plain _)), True.intro⟩ ?_
            refine ⟨⟨_, rfl, RenV.plain rfl⟩, ⟨_, rfl, RenV.ptr rfl⟩, ⟨_, rfl, RenV.sliceL rfl (by simp)⟩, ⟨_, rfl, RenV.plain rfl⟩, ⟨_, rfl, RenV.eq (by rw [ek]) rfl⟩, True.intro⟩
        · have e1 : rkF (sizes ns) (f + 1) k (node + x0.s) = none := by
            rw [rkF, if_pos hlt, sizes_get hx]; exact if_neg hcx
          rw [e1] at i4
          have i4 : rkOf (sizes ns) node = none := i4.symm
          rw [i4]
          cases out with
          | nil =>
            refine ⟨_, rfl, ?_⟩
            dsimp only [madeV, refH]
            repeat' (first
             | refine S0 ?_
             | (refine Se (sem84 _ _ _ _) ?_ ?_) <;> intro hc <;> try (exfalso; first | omega | (simp at hc; done))
             | (refine S2 ?_ ?_) <;> intro hc <;> try (exfalso; first | omega | (simp at hc; done))
             | refine Sf hx ?_
             | refine St ?_
             | fail)
            exact ⟨rfl, _, rfl, [0], by (refine ⟨rfl, rfl, rfl, ?_⟩; repeat' (first | exact True.intro | refine And.intro ?_ ?_ | exact RenO.none | exact RenO.cells (RenVs.plain rfl) | exact RenO.ro (RenVs.plain (cellsN_plain _)) | exact RenO.cells (RenVs.plain (cellsN_plain _)) | exact RenO.cells (RenVs.plain (cellsI_plain _)) | exact RenO.cells (RenVs.plain (cellsZ_plain _)) | exact RenO.cells (RenVs.cons (RenV.slice rfl) RenVs.nil) | exact RenO.iter | exact RenO.cells (RenVs.plain (rowN_plain _)))), RenV.tuple (RenVs.plain rfl)⟩
          | cons o os =>
            refine ⟨_, rfl, ?_⟩
            dsimp only [madeV, refH]
            repeat' (first
             | refine S0 ?_
             | (refine Se (sem84 _ _ _ _) ?_ ?_) <;> intro hc <;> try (exfalso; first | omega | (simp at hc; done))
             | (refine S2 ?_ ?_) <;> intro hc <;> try (exfalso; first | omega | (simp at hc; done))
             | refine Sf hx ?_
             | refine St ?_
             | fail)
            exact ⟨rfl, _, rfl, [0], by (refine ⟨rfl, rfl, rfl, ?_⟩; repeat' (first | exact True.intro | refine And.intro ?_ ?_ | exact RenO.none | exact RenO.cells (RenVs.plain rfl) | exact RenO.ro (RenVs.plain (cellsN_plain _)) | exact RenO.cells (RenVs.plain (cellsN_plain _)) | exact RenO.cells (RenVs.plain (cellsI_plain _)) | exact RenO.cells (RenVs.plain (cellsZ_plain _)) | exact RenO.cells (RenVs.cons (RenV.slice rfl) RenVs.nil) | exact RenO.iter | exact RenO.cells (RenVs.plain (rowN_plain _)))), RenV.tuple (RenVs.plain rfl)⟩
      · have e1 : rkF (sizes ns) f k (node + x0.s) = some [] := by
          cases f with
          | zero => rfl
          | succ f => rw [rkF, if_neg hlt]
        rw [e1] at i4
        have i4 : rkOf (sizes ns) node = some out := by rw [← i4]; simp
        rw [i4]
        cases out with
        | nil =>
          refine ⟨_, rfl, ?_⟩
          dsimp only [madeV, refH]
          repeat' (first
           | refine S0 ?_
           | (refine S2 ?_ ?_) <;> intro hc <;> try (exfalso; first | omega | (simp at hc; done))
           | refine St ?_
           | fail)
          exact ⟨rfl, _, rfl, [0], by (refine ⟨rfl, rfl, rfl, ?_⟩; repeat' (first | exact True.intro | refine And.intro ?_ ?_ | exact RenO.none | exact RenO.cells (RenVs.plain rfl) | exact RenO.ro (RenVs.plain (cellsN_plain _)) | exact RenO.cells (RenVs.plain (cellsN_plain _)) | exact RenO.cells (RenVs.plain (cellsI_plain _)) | exact RenO.cells (RenVs.plain (cellsZ_plain _)) | exact RenO.cells (RenVs.cons (RenV.slice rfl) RenVs.nil) | exact RenO.iter | exact RenO.cells (RenVs.plain (rowN_plain _)))), RenV.tuple (RenVs.plain rfl)⟩
        | cons o os =>
          refine ⟨_, rfl, ?_⟩
          dsimp only [madeV, refH]
          repeat' (first
           | refine S0 ?_
           | (refine S2 ?_ ?_) <;> intro hc <;> try (exfalso; first | omega | (simp at hc; done))
           | refine St ?_
           | fail)
          exact ⟨rfl, _, rfl, [0, 2], by (refine ⟨rfl, rfl, rfl, ?_⟩; repeat' (first | exact True.intro | refine And.intro ?_ ?_ | exact RenO.none | exact RenO.cells (RenVs.plain rfl) | exact RenO.ro (RenVs.plain (cellsN_plain _)) | exact RenO.cells (RenVs.plain (cellsN_plain _)) | exact RenO.cells (RenVs.plain (cellsI_plain _)) | exact RenO.cells (RenVs.plain (cellsZ_plain _)) | exact RenO.cells (RenVs.cons (RenV.slice rfl) RenVs.nil) | exact RenO.iter | exact RenO.cells (RenVs.plain (rowN_plain _)))), RenV.tuple (RenVs.cons (RenV.slice rfl) (RenVs.plain rfl))⟩
  · have e0 : rkOf (sizes ns) node = none := by unfold rkOf; rw [sizes_get hx0, hz]; exact if_neg hc
    rw [e0]
    exact ⟨rfl, _, rfl, [0], by (refine ⟨rfl, rfl, rfl, ?_⟩; repeat' (first | exact True.intro | refine And.intro ?_ ?_ | exact RenO.none | exact RenO.cells (RenVs.plain rfl) | exact RenO.ro (RenVs.plain (cellsN_plain _)) | exact RenO.cells (RenVs.plain (cellsN_plain _)) | exact RenO.cells (RenVs.plain (cellsI_plain _)) | exact RenO.cells (RenVs.plain (cellsZ_plain _)) | exact RenO.cells (RenVs.cons (RenV.slice rfl) RenVs.nil) | exact RenO.iter | exact RenO.cells (RenVs.plain (rowN_plain _)))), RenV.tuple (RenVs.plain rfl)⟩
end Go.Am
namespace Go.Am
open Go Go.Proofs Go.RowKit Go.Pu
set_option maxRecDepth 100000
theorem tab_get {tab : List AV} {f : Nat → AV} (h : veqs tab ((List.range 256).map f) = true) {k : Nat} (hk : k < 256) : tab[k]? = some (f k) := by
  rw [veqs_eq h]
  simp [hk]
def classK (k : Nat) : Int := if k = 32 then 1 else if k = 10 then 2 else if k = 37 then 3 else if 97 ≤ k ∧ k ≤ 122 then 4 else if 48 ≤ k ∧ k ≤ 57 then 5 else 0
theorem fn38 {k : Nat} (hk : k < 256) (h : Heap) : CSem Tryz.prog 38 [.int .u8 (k : Int)] h (.int .u8 ((sortK k).toNat : Int)) h := sem38 (tab_get (f := fun k => .int .u8 ((sortK k).toNat : Int)) (by decide +kernel) hk) h
theorem fn103 {k : Nat} (hk : k < 256) (h : Heap) : CSem Tryz.prog 103 [.int .u8 (k : Int)] h (.int .u8 ((letK k).toNat : Int)) h := sem103 (tab_get (f := fun k => .int .u8 ((letK k).toNat : Int)) (by decide +kernel) hk) h
theorem fn172 {k : Nat} (hk : k < 256) (h : Heap) : CSem Tryz.prog 172 [.int .u8 (k : Int)] h (.str (fixedK k)) h := sem172 (tab_get (f := fun k => .str (fixedK k)) (by decide +kernel) hk) h
theorem fn174 {k : Nat} (hk : k < 256) (h : Heap) : CSem Tryz.prog 174 [.int .u8 (k : Int)] h (.bool (namedK k)) h := sem174 (tab_get (f := fun k => .bool (namedK k)) (by decide +kernel) hk) h
theorem fn152 {k : Nat} (hk : k < 256) (h : Heap) : CSem Tryz.prog 152 [.int .u8 (k : Int)] h (.int .i64 (classK k)) h := sem152 (tab_get (f := fun k => .int .i64 (classK k)) (by decide +kernel) hk) h
theorem fn219 {k : Nat} (hk : k < 256) (h : Heap) : CSem Tryz.prog 219 [.int .u8 (k : Int)] h (.bool (decide (97 ≤ k ∧ k ≤ 122))) h := sem219 (tab_get (f := fun k => .bool (decide (97 ≤ k ∧ k ≤ 122))) (by decide +kernel) hk) h
theorem fn222 {k : Nat} (hk : k < 256) (h : Heap) : CSem Tryz.prog 222 [.int .u8 (k : Int)] h (.bool (decide (48 ≤ k ∧ k ≤ 57))) h := sem222 (tab_get (f := fun k => .bool (decide (48 ≤ k ∧ k ≤ 57))) (by decide +kernel) hk) h
end Go.Am
