/- Part of the proof: WnA, WnB, WnC. -/
import Derived.Test.YtijdeggmmpfjeaaGreatDoorW1
set_option linter.unusedSimpArgs false
set_option linter.unusedVariables false
set_option linter.unusedSectionVars false
namespace Go.Am
open Go Go.Proofs Go.RowKit Go.Pu
set_option maxRecDepth 1000000
inductive TF (i : Nat) (ns : List Nd) : AV → Prop
  | nil : ns = [] → TF i ns .nilslice
  | sl : TF i ns (.slice i 0 ns.length 5)
theorem CSem.liftV {P : Program} {f : FuncId} {args0 args : List AV} {h0 h1 : Heap} {v : AV} (c : CSem P f args0 h0 v h1) (hv : ∀ M M', conc M v = conc M' v) {h : Heap} {s : List Nat} (hn : h0.next = s.length)
    (ho : ∀ (j i : Nat), s[j]? = some i → ∃ e es c, h0.objs.get j = some (.ro e es c) ∧ plains c = true ∧ tells (h.objs.get i) c) (ha : RenVs s args args0) : CSem P f args h v h := by
  intro B w0 M w r cargs hc
  have r0 := via_ok r hn ho
  refine (c w.heap.size w (M.via s) w r0 cargs (by rw [ha]; exact hc)).mono ?_
  rintro e w' ⟨M1, c, g1, rfl, hcv, r1⟩
  exact ⟨M, c, Grow.refl _ M, rfl, by rw [hv M M1]; exact hcv, r.after r1.below⟩
theorem CSem.lift0 {P : Program} {f : FuncId} {args : List AV} {h1 : Heap} {v : AV} (c : CSem P f args ⟨.leaf, 0⟩ v h1) (hv : ∀ M M', conc M v = conc M' v) (ha : RenVs [] args args) (h : Heap) : CSem P f args h v h :=
  CSem.liftV c hv (s := []) rfl (fun j i e => by simp at e) ha
theorem isV_eq' {o : Option (AV × Heap)} {v : AV} (h : isV o v = true) : ∃ h', o = some (v, h') := by
  unfold isV at h
  split at h
  · simp only [Bool.and_eq_true] at h
    rw [veq1_eq h.2]
    exact ⟨_, rfl⟩
  · cases h
def nilA : List AV := [.agg [.nilslice]]
theorem nilA_ren (s : List Nat) : RenVs s nilA nilA := RenVs.cons (RenV.agg (RenVs.cons RenV.nilslice RenVs.nil)) RenVs.nil
theorem ev24 : isV (acall Tryz.prog exts awakeO 400 24 nilA ⟨.leaf, 0⟩) (.bool (thinB [])) = true := by decide +kernel
theorem ev26 : isV (acall Tryz.prog exts awakeO 400 26 nilA ⟨.leaf, 0⟩) (.int .i64 (checkR [])) = true := by decide +kernel
theorem ev27 : isV (acall Tryz.prog exts awakeO 400 27 nilA ⟨.leaf, 0⟩) (.int .i64 (checkR [])) = true := by decide +kernel
theorem tf24 {i : Nat} {ns : List Nd} {v : AV} (t : TF i ns v) {h : Heap} (hi : Nat.blt i h.next = true) (ht : tells (h.objs.get i) (cellsN ns)) : CSem Tryz.prog 24 [.agg [v]] h (.bool (thinB ns)) h := by
  cases t with
  | nil e =>
    subst e
    obtain ⟨h', e⟩ := isV_eq' ev24
    exact CSem.lift0 (CSem.of (wcall_ok 400) e) (fun _ _ => rfl) (nilA_ren _) h
  | sl => exact at24 hi ht
theorem tf26 {i : Nat} {ns : List Nd} {v : AV} (o : NdOk ns) (t : TF i ns v) {h : Heap} (hi : Nat.blt i h.next = true) (ht : tells (h.objs.get i) (cellsN ns)) : CSem Tryz.prog 26 [.agg [v]] h (.int .i64 (checkR ns)) h := by
  cases t with
  | nil e =>
    subst e
    obtain ⟨h', e⟩ := isV_eq' ev26
    exact CSem.lift0 (CSem.of (wcall_ok 400) e) (fun _ _ => rfl) (nilA_ren _) h
  | sl => exact at26 o hi ht
theorem tf27 {i : Nat} {ns : List Nd} {v : AV} (o : NdOk ns) (t : TF i ns v) {h : Heap} (hi : Nat.blt i h.next = true) (ht : tells (h.objs.get i) (cellsN ns)) : CSem Tryz.prog 27 [.agg [v]] h (.int .i64 (checkR ns)) h := by
  cases t with
  | nil e =>
    subst e
    obtain ⟨h', e⟩ := isV_eq' ev27
    exact CSem.lift0 (CSem.of (wcall_ok 400) e) (fun _ _ => rfl) (nilA_ren _) h
  | sl => exact at27 o hi ht
end Go.Am
namespace Go.Am
open Go Go.Proofs Go.RowKit Go.Pu
set_option maxRecDepth 1000000
theorem RenV.agg1 {s : List Nat} {a b : AV} (h : RenV s a b) : RenV s (.agg [a]) (.agg [b]) := RenV.agg (RenVs.cons h RenVs.nil)
end Go.Am
namespace Go.Am
open Go Go.Proofs Go.RowKit Go.Pu
set_option maxRecDepth 1000000
theorem TF.form {i : Nat} {ns : List Nd} {u : AV} (t : TF i ns u) : u = .nilslice ∨ u = .slice i 0 ns.length 5 := by
  cases t with
  | nil _ => exact .inl rfl
  | sl => exact .inr rfl
end Go.Am
