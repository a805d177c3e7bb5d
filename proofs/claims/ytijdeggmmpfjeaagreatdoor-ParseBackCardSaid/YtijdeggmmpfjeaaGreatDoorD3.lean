/- Part of the proof: WnD, WnE, WnF. -/
import Derived.Test.YtijdeggmmpfjeaaGreatDoorD1
set_option linter.unusedSimpArgs false
set_option linter.unusedVariables false
set_option linter.unusedSectionVars false
namespace Go.Am
open Go Go.Proofs Go.RowKit Go.Pu
set_option maxRecDepth 1000000
end Go.Am
namespace Go.Am
open Go Go.Proofs Go.RowKit Go.Pu
set_option maxRecDepth 1000000
end Go.Am
namespace Go.Am
open Go Go.Proofs Go.RowKit Go.Pu
set_option maxRecDepth 100000
def map2 (l0 l1 : Option Loc) : Map := fun i => if i = 0 then l0 else if i = 1 then l1 else none
def TellsAt (W : World) (ns : List Nd) (p : Loc) : Prop := p.b < W.heap.size ∧ ∀ i x, ns[i]? = some x → NdAt W (fun j => ⟨p.b, p.base + (i * 5 + j), none⟩) x
theorem treeIn_TF {W : World} {c : Value} (h : TreeIn W c) (i : Nat) : ∃ (l : Option Loc) (ns : List Nd) (u : AV), TF i ns u ∧ NdIn ns ∧ (∀ p, l = some p → TellsAt W ns p) ∧ ∀ M : Map, M i = l → conc M u = some c := by
  rcases h with rfl | ⟨b, off, cap, ns, rfl, hl, hb, hn⟩
  · exact ⟨none, [], .nilslice, TF.nil rfl, ⟨fun x hx => (by cases hx), fun x hx => (by cases hx)⟩, fun p hp => (by cases hp), fun M _ => rfl⟩
  · refine ⟨some ⟨b, off, cap⟩, ns, .slice i 0 ns.length 5, TF.sl, ndIn_of hn, fun p hp => ?_, fun M hM => ?_⟩
    · cases hp
      exact ⟨hb, hn⟩
    · simp [conc, hM, hl]
theorem ro_ok {P : Program} {W : World} {ns : List Nd} {p : Loc} (M : Map) (h : TellsAt W ns p) : ORel P M p (some (.ro 50 5 (cellsN ns))) W.heap[p.b]? := by
  intro j a ha
  obtain ⟨k, f, x, rfl, hf, hx, hr⟩ := cellsN_get ns j a ha
  obtain ⟨c, h1, h2⟩ := nodes_conc h.2 M k x hx f a hr
  exact ⟨c, h1, by rw [← cell?_eq]; exact h2⟩
end Go.Am
