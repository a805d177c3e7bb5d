/- Part of the proof: WmF, WmD. -/
import Derived.Test.YtijdeggmmpfjeaaGreatDoorW1
import Derived.Test.YtijdeggmmpfjeaaGreatDoorProg
import Derived.Test.YtijdeggmmpfjeaaGreatDoorB8
set_option linter.unusedSimpArgs false
set_option linter.unusedVariables false
set_option linter.unusedSectionVars false
namespace Go.Am
open Go Go.Proofs Go.RowKit Go.Pu Go.ChangeShapes Go.WideShapes Go.Deep
set_option maxRecDepth 100000
def TreeIn (W : World) (c : Value) : Prop := c = .slice none 0 0 ∨ ∃ (b off cap : Nat) (ns : List Nd), c = .slice (some ⟨b, off, none⟩) ns.length cap ∧ ns.length ≤ cap ∧ b < W.heap.size ∧ ∀ i x, ns[i]? = some x → NdAt W (fun j => ⟨b, off + (i * 5 + j), none⟩) x
theorem nodes_arg {H : Type} {enc : TypeId × Value → H} {W : World} {base : Nat} {c : Value} {n : Nat} {x : DataW H × List MemPlace} (hok : Cell.okWide Tryz.prog W .any base 24 c)
    (h : DataW.trod enc Tryz.prog W 0 (fun _ => true) true n 24 [c] = some x) : TreeIn W c := by
  rcases nodes_of (b0 := base) Tryz.underlying24 Tryz.underlying50 (by kernel_rfl) ⟨rfl, rfl, rfl, rfl, rfl⟩ ⟨Tryz.underlying5, Tryz.underlying3, Tryz.underlying9, Tryz.underlying3, Tryz.underlying3⟩ ⟨by kernel_rfl, by kernel_rfl, by kernel_rfl, by kernel_rfl, by kernel_rfl⟩ (fun v e => by cases e; exact hok) h with e | ⟨b, off, cap, ns, e, h1, h2, h3⟩
  · exact .inl (by simpa using e)
  · exact .inr ⟨b, off, cap, ns, by simpa using e, h1, h2, h3⟩
theorem tree_arg {H : Type} {enc : TypeId × Value → H} {W : World} {base : Nat} {v : Value} {d : DataW H} {p : List MemPlace} (hok : Value.okWide Tryz.prog W .any base 26 v) (h : DataW.Trod enc Tryz.prog W 0 (fun _ => true) true 26 v d p) :
    ∃ c, v = .agg #[c] ∧ TreeIn W c := by
  obtain ⟨fuel, hf⟩ := h
  simp only [Value.okWide, Tryz.underlying26] at hok
  obtain ⟨⟨l⟩, rfl, hsz, ts, hts, _, hall⟩ := hok
  rw [show Tryz.prog.cellsOf 26 = 1 by kernel_rfl] at hsz
  rw [show Tryz.prog.cellTypes Tryz.prog.depth 26 = some [24] by kernel_rfl] at hts
  obtain rfl := Option.some.inj hts
  match l, hsz with
  | [c], _ =>
    obtain ⟨u, hu, hc⟩ := hall 0 c rfl
    obtain rfl : 24 = u := Option.some.inj hu
    obtain ⟨y0, n, _, _, hy⟩ := trod_struct1 Tryz.underlying26 hf
    rw [show Tryz.prog.cellsOf 24 = 1 by kernel_rfl] at hy
    exact ⟨c, rfl, nodes_arg hc hy⟩
end Go.Am
namespace Go.Am
open Go Go.Proofs Go.RowKit Go.Pu
set_option maxRecDepth 1000000
def awakeK : CallK := fun f args h => bif Nat.beq f 20 then (match args with
    | [] => some (.bool true, h)
    | _ => none) else none
theorem awakeK_ok : CallOk Tryz.prog awakeK := by
  intro f args h v h' e
  unfold awakeK at e
  rw [cond_some] at e
  obtain ⟨hf, e⟩ := e
  have := Nat.eq_of_beq_eq_true hf
  subst this
  split at e
  · simp only [Option.some.injEq, Prod.mk.injEq] at e
    obtain ⟨rfl, rfl⟩ := e
    exact sem20 h
  · cases e
def awakeO : CallK := orO awakeK orac
theorem wcall_ok (fuel : Nat) : CallOk Tryz.prog (acall Tryz.prog exts awakeO fuel) := acallW_ok (orO_ok awakeK_ok orac_ok) (aexec_ok exts_ok mixed (orO_ok awakeK_ok orac_ok) fuel fuel (Nat.le_refl _))
theorem ev4nil : isTrue (acall Tryz.prog exts awakeO 400 4 [.agg [.nilslice]] ⟨.leaf, 0⟩) = true := by decide +kernel
theorem ev4none : isTrue (acall Tryz.prog exts awakeO 400 4 [.agg [.slice 0 0 0 5]] ⟨.node (some (.ro 50 5 [])) .leaf .leaf, 1⟩) = true := by decide +kernel
theorem sem4nil : ∃ h', CSem Tryz.prog 4 [.agg [.nilslice]] ⟨.leaf, 0⟩ (.bool true) h' := by
  obtain ⟨h', e⟩ := isTrue_eq ev4nil
  exact ⟨h', CSem.of (wcall_ok 400) e⟩
theorem sem4none : ∃ h', CSem Tryz.prog 4 [.agg [.slice 0 0 0 5]] (nodesH []) (.bool true) h' := by
  obtain ⟨h', e⟩ := isTrue_eq ev4none
  exact ⟨h', CSem.of (wcall_ok 400) e⟩
theorem sem4any (ns : List Nd) (o : NdIn ns) : ∃ h', CSem Tryz.prog 4 [.agg [.slice 0 0 ns.length 5]] (nodesH ns) (.bool true) h' := by
  cases ns with
  | nil => exact sem4none
  | cons x l => exact ⟨_, sem4 (x :: l) o (by simp)⟩
theorem ndIn_of {w : World} {b off : Nat} {ns : List Nd} (h : ∀ i x, ns[i]? = some x → NdAt w (fun j => ⟨b, off + (i * 5 + j), none⟩) x) : NdIn ns := by
  refine ⟨fun x hx => ?_, fun x hx => ?_⟩ <;> obtain ⟨i, hi, rfl⟩ := List.getElem_of_mem hx
  · exact (h i _ (List.getElem?_eq_getElem hi)).k
  · exact (h i _ (List.getElem?_eq_getElem hi)).s
theorem calls4 (W : World) (g : Known Tryz.prog W.heap.size W) (v : Value) (hv : TreeIn W v) :
    Calls Tryz.prog 4 #[.agg #[v]] W fun e w' => e = .returned (.bool true) ∧ Below W.heap.size W w' := by
  rcases hv with rfl | ⟨b, off, cap, ns, rfl, hl, hb, hn⟩
  · obtain ⟨h', s⟩ := sem4nil
    refine (s W.heap.size W (fun _ => none) W (HRel.none W g) [.agg #[.slice none 0 0]] (by simp [concs, conc])).mono ?_
    rintro e w' ⟨M', c, _, rfl, hc, r⟩
    simp only [conc, Option.some.injEq] at hc
    exact ⟨by rw [← hc], r.below⟩
  · obtain ⟨h', s⟩ := sem4any ns (ndIn_of hn)
    refine (s W.heap.size W (map1 b off cap) W (tree_heap g hb (nodes_conc hn _)) [.agg #[.slice (some ⟨b, off, none⟩) ns.length cap]] (by simp [concs, conc, map1, hl])).mono ?_
    rintro e w' ⟨M', c, _, rfl, hc, r⟩
    simp only [conc, Option.some.injEq] at hc
    exact ⟨by rw [← hc], r.below⟩
end Go.Am
