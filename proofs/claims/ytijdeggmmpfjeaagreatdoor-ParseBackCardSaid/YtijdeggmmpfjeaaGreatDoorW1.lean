/- Part of the proof: WmA, WmB, WmC, WmF, WmD. -/
import Derived.Test.YtijdeggmmpfjeaaGreatDoorM9
import Derived.Deep.Slices
import Derived.Deep.Fields
import Derived.ChangeSame
import Derived.Lib.LaidU8
import Derived.Test.YtijdeggmmpfjeaaGreatDoorProg
import Derived.Test.YtijdeggmmpfjeaaGreatDoorB8
set_option linter.unusedSimpArgs false
set_option linter.unusedVariables false
set_option linter.unusedSectionVars false
namespace Go.Am
open Go Go.RowKit Go.Pu
theorem list_of {α : Type} (p : Nat → α → Prop) : ∀ n : Nat, (∀ i, i < n → ∃ x, p i x) → ∃ l : List α, l.length = n ∧ ∀ i x, l[i]? = some x → p i x
  | 0, _ => ⟨[], rfl, fun i x h => by simp at h⟩
  | n + 1, h => by
    obtain ⟨l, h1, h2⟩ := list_of p n fun i hi => h i (by omega)
    obtain ⟨x, hx⟩ := h n (by omega)
    refine ⟨l ++ [x], by simp [h1], fun i y hy => ?_⟩
    by_cases hi : i < n
    · rw [List.getElem?_append_left (by omega)] at hy; exact h2 i y hy
    · have : i = n := by
        have := (List.getElem?_eq_some_iff.1 hy).1
        simp at this; omega
      subst this
      rw [List.getElem?_append_right (by omega)] at hy
      simp [h1] at hy
      subst hy; exact hx
theorem cellsN_get : ∀ (ns : List Nd) (j : Nat) (a : AV), (cellsN ns)[j]? = some a → ∃ i f x, j = i * 5 + f ∧ f < 5 ∧ ns[i]? = some x ∧ (rowN x)[f]? = some a
  | [], j, a, h => by simp [cellsN] at h
  | y :: ns, j, a, h => by
    have e : cellsN (y :: ns) = rowN y ++ cellsN ns := rfl
    rw [e] at h
    by_cases hj : j < 5
    · rw [List.getElem?_append_left (by rw [rowN_len]; exact hj)] at h
      exact ⟨0, j, y, by omega, hj, rfl, h⟩
    · rw [List.getElem?_append_right (by rw [rowN_len]; omega), rowN_len] at h
      obtain ⟨i, f, x, h1, h2, h3, h4⟩ := cellsN_get ns _ _ h
      exact ⟨i + 1, f, x, by omega, h2, by simpa using h3, h4⟩
theorem row_conc {M : Map} {x : Nd} {f : Nat} {a : AV} (h : (rowN x)[f]? = some a) {w : World} {c : Nat → Addr} (h0 : w.cell? (c 0) = some (.int .u8 (x.k : Int))) (h1 : w.cell? (c 1) = some (.int .i64 x.n)) (h2 : w.cell? (c 2) = some (.string ⟨x.t.toArray⟩)) (h3 : w.cell? (c 3) = some (.int .i64 x.a)) (h4 : w.cell? (c 4) = some (.int .i64 x.s)) :
    ∃ v, conc M a = some v ∧ w.cell? (c f) = some v := by
  match f, h with
  | 0, h => cases h; exact ⟨_, by simp [conc], h0⟩
  | 1, h => cases h; exact ⟨_, by simp [conc], h1⟩
  | 2, h => cases h; exact ⟨_, by simp [conc], h2⟩
  | 3, h => cases h; exact ⟨_, by simp [conc], h3⟩
  | 4, h => cases h; exact ⟨_, by simp [conc], h4⟩
  | n + 5, h => simp [rowN] at h
end Go.Am
namespace Go.Am
open Go Go.RowKit Go.Pu Go.ChangeShapes Go.WideShapes Go.Deep
theorem spot_add (b off n : Nat) : (⟨b, off, none⟩ : Addr).add n = ⟨b, off + n, none⟩ := by
  unfold Addr.add
  split
  · rename_i h; subst h; rfl
  · rfl
structure NdAt (w : World) (a : Nat → Addr) (x : Nd) : Prop where
  k : x.k < 256
  s : -9223372036854775808 ≤ x.s ∧ x.s < 9223372036854775808
  c0 : w.cell? (a 0) = some (.int .u8 (x.k : Int))
  c1 : w.cell? (a 1) = some (.int .i64 x.n)
  c2 : w.cell? (a 2) = some (.string ⟨x.t.toArray⟩)
  c3 : w.cell? (a 3) = some (.int .i64 x.a)
  c4 : w.cell? (a 4) = some (.int .i64 x.s)
theorem node_of {H : Type} {enc : TypeId × Value → H} {P : Program} {w : World} {base : Nat} {sp : Nat → Bool} {held : Bool} {n : Nat} {E : TypeId} {f0 f1 f2 f3 f4 : Field} {a : Addr} {cs : List Value} {x : DataW H × List MemPlace}
    (hE : P.underlying E = some (.struct #[f0, f1, f2, f3, f4])) (ho : f0.offset = 0 ∧ f1.offset = 1 ∧ f2.offset = 2 ∧ f3.offset = 3 ∧ f4.offset = 4)
    (ht : P.underlying f0.type = some (.int .u8) ∧ P.underlying f1.type = some (.int .i64) ∧ P.underlying f2.type = some .string ∧ P.underlying f3.type = some (.int .i64) ∧ P.underlying f4.type = some (.int .i64))
    (hc : P.cellsOf f0.type = 1 ∧ P.cellsOf f1.type = 1 ∧ P.cellsOf f2.type = 1 ∧ P.cellsOf f3.type = 1 ∧ P.cellsOf f4.type = 1)
    (hcells : w.cells? base a 5 = some cs) (h : DataW.trod enc P w base sp held n E cs = some x) : ∃ nd : Nd, NdAt w (fun j => a.add j) nd := by
  obtain ⟨_, hl, hat⟩ := World.cells?_some hcells
  obtain ⟨xs, m, _, _, _, hxl, hf⟩ := DataW.trod_struct hE h
  match cs, hl with
  | [v0, v1, v2, v3, v4], _ =>
    obtain ⟨o0, o1, o2, o3, o4⟩ := ho
    obtain ⟨t0, t1, t2, t3, t4⟩ := ht
    obtain ⟨c0, c1, c2, c3, c4⟩ := hc
    match xs, hxl with
    | [y0, y1, y2, y3, y4], _ =>
      have g0 := hf 0 f0 rfl
      have g1 := hf 1 f1 rfl
      have g2 := hf 2 f2 rfl
      have g3 := hf 3 f3 rfl
      have g4 := hf 4 f4 rfl
      rw [o0, c0] at g0
      rw [o1, c1] at g1
      rw [o2, c2] at g2
      rw [o3, c3] at g3
      rw [o4, c4] at g4
      obtain ⟨n0, e0, _, w0⟩ := DataW.trod_int t0 g0
      obtain ⟨n1, e1, _, _⟩ := DataW.trod_int t1 g1
      obtain ⟨s2, e2, _, _⟩ := DataW.trod_string t2 g2
      obtain ⟨n3, e3, _, _⟩ := DataW.trod_int t3 g3
      obtain ⟨n4, e4, _, w4⟩ := DataW.trod_int t4 g4
      simp only [List.drop_succ_cons, List.drop_zero, List.take_succ_cons, List.take_zero, List.cons.injEq, and_true] at e0 e1 e2 e3 e4
      subst e0 e1 e2 e3 e4
      simp only [Lit.wf, IntKind.min, IntKind.max, IntKind.signed, IntKind.bits, Bool.and_eq_true, decide_eq_true_eq] at w0 w4
      have k0 : (0 : Int) ≤ n0 ∧ n0 ≤ 255 := by simpa using w0
      have k4 : -9223372036854775808 ≤ n4 ∧ n4 ≤ 9223372036854775807 := by simpa using w4
      refine ⟨⟨n0.toNat, n1, s2.data.toList, n3, n4⟩, ⟨by dsimp only; omega, by dsimp only; omega, ?_, ?_, ?_, ?_, ?_⟩⟩
      · dsimp only
        rw [Int.toNat_of_nonneg k0.1]
        exact hat 0 (by omega)
      · exact hat 1 (by omega)
      · exact hat 2 (by omega)
      · exact hat 3 (by omega)
      · exact hat 4 (by omega)
theorem nodes_of {H : Type} {enc : TypeId × Value → H} {P : Program} {w : World} {base b0 : Nat} {sp : Nat → Bool} {held : Bool} {n : Nat} {S E : TypeId} {f0 f1 f2 f3 f4 : Field} {cs : List Value} {x : DataW H × List MemPlace}
    (hS : P.underlying S = some (.slice E)) (hE : P.underlying E = some (.struct #[f0, f1, f2, f3, f4])) (hC : P.cellsOf E = 5) (ho : f0.offset = 0 ∧ f1.offset = 1 ∧ f2.offset = 2 ∧ f3.offset = 3 ∧ f4.offset = 4)
    (ht : P.underlying f0.type = some (.int .u8) ∧ P.underlying f1.type = some (.int .i64) ∧ P.underlying f2.type = some .string ∧ P.underlying f3.type = some (.int .i64) ∧ P.underlying f4.type = some (.int .i64))
    (hc : P.cellsOf f0.type = 1 ∧ P.cellsOf f1.type = 1 ∧ P.cellsOf f2.type = 1 ∧ P.cellsOf f3.type = 1 ∧ P.cellsOf f4.type = 1)
    (hok : ∀ v, cs = [v] → Cell.okWide P w .any b0 S v) (h : DataW.trod enc P w base sp held n S cs = some x) :
    cs = [.slice none 0 0] ∨ ∃ (b off cap : Nat) (ns : List Nd), cs = [.slice (some ⟨b, off, none⟩) ns.length cap] ∧ ns.length ≤ cap ∧ b < w.heap.size ∧ ∀ i x, ns[i]? = some x → NdAt w (fun j => ⟨b, off + (i * 5 + j), none⟩) x := by
  rcases open_slice hS h with h0 | ⟨a, len, cap, m, k, D, Pl, rfl, _, hl, _, hm, _, hi⟩
  · exact .inl h0.1
  · right
    have ok := hok _ rfl
    simp only [Cell.okWide, hS, Cell.ok, World.has] at ok
    obtain ⟨_, _, _, hspot, row, cells, hshape, _⟩ := ok
    obtain ⟨b, off, spot⟩ := a
    simp only at hspot hshape hm hi
    subst hspot
    have hb : b < w.heap.size := by
      unfold World.shape? at hshape
      cases e : w.heap[b]? with
      | none => rw [e] at hshape; cases hshape
      | some o => exact (Array.getElem?_eq_some_iff.1 e).1
    have hml : len ≤ m := by rw [hm]; split <;> omega
    obtain ⟨ns, h1, h2⟩ := list_of (fun i x => NdAt w (fun j => ⟨b, off + (i * 5 + j), none⟩) x) len fun i hlt => by
      obtain ⟨cs', hcs, htr⟩ := hi i (by omega)
      rw [hC] at hcs
      obtain ⟨nd, hn⟩ := node_of hE ho ht hc hcs htr
      refine ⟨nd, ?_⟩
      have : (fun j => ((⟨b, off, none⟩ : Addr).add (i * 5)).add j) = fun j => ⟨b, off + (i * 5 + j), none⟩ := by
        funext j
        rw [spot_add, spot_add, Nat.add_assoc]
      rw [← this]; exact hn
    subst h1
    exact ⟨b, off, cap, ns, rfl, hl, hb, h2⟩
theorem nodes_conc {w : World} {b off : Nat} {ns : List Nd} (h : ∀ i x, ns[i]? = some x → NdAt w (fun j => ⟨b, off + (i * 5 + j), none⟩) x) (M : Map) :
    ∀ i x, ns[i]? = some x → ∀ f a, (rowN x)[f]? = some a → ∃ c, conc M a = some c ∧ w.cell? ⟨b, off + (i * 5 + f), none⟩ = some c := fun i x hx _ _ ha =>
  row_conc (c := fun f => ⟨b, off + (i * 5 + f), none⟩) ha (h i x hx).c0 (h i x hx).c1 (h i x hx).c2 (h i x hx).c3 (h i x hx).c4
end Go.Am
namespace Go.Am
open Go Go.RowKit Go.ChangeShapes Go.WideShapes
theorem var_below {P : Program} {w W : World} (hb : Below w.heap.size w W) {n : String} {cs : Array Value} (h : w.var? P n = some cs) : W.var? P n = some cs := by
  unfold World.var? at *
  cases hg : P.globalNamed n with
  | none => simp [hg] at h
  | some g =>
    simp only [hg, Option.bind_some] at h ⊢
    have hlt : g < w.heap.size := by
      rcases Nat.lt_or_ge g w.heap.size with h' | h'
      · exact h'
      · rw [Array.getElem?_eq_none h'] at h; simp at h
    rw [hb.block g hlt]
    exact h
theorem known_of {P : Program} {w : World} (h1 : ∃ tp p, w.var? P "strconv.ErrRange" = some #[.iface tp p]) (h2 : ∃ tp p, w.var? P "strconv.ErrSyntax" = some #[.iface tp p]) (h3 : Lib.TabIs P w "internal/strconv.uint64pow10" .u64 Lib.pow10Tab) : Known P w.heap.size w := fun W hW => by
  obtain ⟨tp, p, h1⟩ := h1
  obtain ⟨tq, q, h2⟩ := h2
  exact ⟨⟨tp, p, var_below hW h1⟩, ⟨tq, q, var_below hW h2⟩, var_below hW h3⟩
theorem iface_of {H : Type} {enc : TypeId × Value → H} {P : Program} {w : World} {base : Nat} {sp : Nat → Bool} {fuel : Nat} {t : TypeId} {ms : Array (String × TypeId)} {cs : List Value} {nm : String} {D : DataW H} {p : List MemPlace}
    (ht : P.underlying t = some (.interface ms)) (h : DataW.trod enc P w base sp false fuel t cs = some (.iface nm D, p)) : ∃ u v, cs = [.iface u v] := by
  cases fuel with
  | zero => simp [DataW.trod] at h
  | succ n =>
    unfold DataW.trod at h
    rw [ht] at h
    split at h <;> simp_all
theorem var_iface {P : Program} {w : World} {n nm : String} {D : DataW Unit} {g : Nat} {t : TypeId} {ms : Array (String × TypeId)} (hg : P.globalNamed n = some g) (ht : (P.globals[g]?).map (·.type) = some t) (hu : P.underlying t = some (.interface ms))
    (h : Lib.VarReads P w n (.iface nm D)) : ∃ tp p, w.var? P n = some #[.iface tp p] := by
  obtain ⟨g', t', cs, fuel, p, h1, h2, h3, h4⟩ := h
  obtain rfl := Option.some.inj (hg.symm.trans h1)
  obtain rfl := Option.some.inj (ht.symm.trans h2)
  obtain ⟨u, v, hc⟩ := iface_of hu h4
  obtain ⟨l⟩ := cs
  simp only at hc
  subst hc
  exact ⟨u, v, h3⟩
theorem var_tab {P : Program} {w : World} {n : String} {k : IntKind} {zs : List Int} {g m : Nat} {t e : TypeId} (hg : P.globalNamed n = some g) (hty : (P.globals[g]?).map (·.type) = some t) (ht : P.underlying t = some (.array m e)) (he : P.underlying e = some (.int k)) (hce : P.cellsOf e = 1) (hct : P.cellsOf t = m)
    (h : Lib.VarReads P w n (Lib.tabData k zs)) : Lib.TabIs P w n k zs := by
  obtain ⟨g', t', cs, fuel, p, h1, h2, h3, h4⟩ := h
  obtain rfl := Option.some.inj (hg.symm.trans h1)
  obtain rfl := Option.some.inj (hty.symm.trans h2)
  unfold Lib.TabIs
  rw [h3, ← Lib.cells_of_tab ht he hce hct h4]
end Go.Am
namespace Go.Am
open Go Go.Proofs Go.RowKit Go.Pu Go.ChangeShapes Go.WideShapes Go.Deep
set_option maxRecDepth 100000
def TreeIn (W : World) (c : Value) : Prop := c = .slice none 0 0 ∨ ∃ (b off cap : Nat) (ns : List Nd), c = .slice (some ⟨b, off, none⟩) ns.length cap ∧ ns.length ≤ cap ∧ b < W.heap.size ∧ ∀ i x, ns[i]? = some x → NdAt W (fun j => ⟨b, off + (i * 5 + j), none⟩) x
theorem nodes_arg {H : Type} {enc : TypeId × Value → H} {W : World} {base : Nat} {c : Value} {n : Nat} {x : DataW H × List MemPlace} (hok : Cell.okWide Tryz.prog W .any base 24 c)
    (h : DataW.trod enc Tryz.prog W 0 (fun _ => true) true n 24 [c] = some x) : TreeIn W c := by
  rcases nodes_of (b0 := base) Tryz.underlying24 Tryz.underlying50 (by kernel_rfl) ⟨rfl, rfl, rfl, rfl, rfl⟩ ⟨Tryz.underlying5, Tryz.underlying3, Tryz.underlying9, Tryz.underlying3, Tryz.underlying3⟩ ⟨by kernel_rfl, by kernel_rfl, by kernel_rfl, by kernel_rfl, by kernel_rfl⟩ (fun v e => by cases e; exact hok) h with e | ⟨b, off, cap, ns, e, h1, h2, h3⟩
  · exact .inl (by simpa using e)
  · exact .inr ⟨b, off, cap, ns, by simpa using e, h1, h2, h3⟩
theorem tree_arg {H : Type} {enc : TypeId × Value → H} {W : World} {base : Nat} {v : Value} {d : DataW H} {p : List MemPlace} (hok : Value.okWide Tryz.prog W .any base 26 v) (h : DataW.Trod enc Tryz.prog W 0 (fun _ => true) true 26 v d p) :
    ∃ c, v = .agg #[c] ∧ TreeIn W c := by
  obtain ⟨fuel, hf⟩ := h
  simp only [Value.okWide, Tryz.underlying26] at hok
  obtain ⟨⟨l⟩, rfl, hsz, ts, hts, _, hall⟩ := hok
  rw [show Tryz.prog.cellsOf 26 = 1 by kernel_rfl] at hsz
  rw [show Tryz.prog.cellTypes Tryz.prog.depth 26 = some [24] by kernel_rfl] at hts
  obtain rfl := Option.some.inj hts
  match l, hsz with
  | [c], _ =>
    obtain ⟨u, hu, hc⟩ := hall 0 c rfl
    obtain rfl : 24 = u := Option.some.inj hu
    obtain ⟨y0, n, _, _, hy⟩ := trod_struct1 Tryz.underlying26 hf
    rw [show Tryz.prog.cellsOf 24 = 1 by kernel_rfl] at hy
    exact ⟨c, rfl, nodes_arg hc hy⟩
end Go.Am
namespace Go.Am
open Go Go.Proofs Go.RowKit Go.Pu
set_option maxRecDepth 1000000
def awakeK : CallK := fun f args h => bif Nat.beq f 20 then (match args with
    | [] => some (.bool true, h)
    | _ => none) else none
theorem awakeK_ok : CallOk Tryz.prog awakeK := by
  intro f args h v h' e
  unfold awakeK at e
  rw [cond_some] at e
  obtain ⟨hf, e⟩ := e
  have := Nat.eq_of_beq_eq_true hf
  subst this
  split at e
  · simp only [Option.some.injEq, Prod.mk.injEq] at e
    obtain ⟨rfl, rfl⟩ := e
    exact sem20 h
  · cases e
def awakeO : CallK := orO awakeK orac
theorem wcall_ok (fuel : Nat) : CallOk Tryz.prog (acall Tryz.prog exts awakeO fuel) := acallW_ok (orO_ok awakeK_ok orac_ok) (aexec_ok exts_ok mixed (orO_ok awakeK_ok orac_ok) fuel fuel (Nat.le_refl _))
theorem ndIn_of {w : World} {b off : Nat} {ns : List Nd} (h : ∀ i x, ns[i]? = some x → NdAt w (fun j => ⟨b, off + (i * 5 + j), none⟩) x) : NdIn ns := by
  refine ⟨fun x hx => ?_, fun x hx => ?_⟩ <;> obtain ⟨i, hi, rfl⟩ := List.getElem_of_mem hx
  · exact (h i _ (List.getElem?_eq_getElem hi)).k
  · exact (h i _ (List.getElem?_eq_getElem hi)).s
end Go.Am
