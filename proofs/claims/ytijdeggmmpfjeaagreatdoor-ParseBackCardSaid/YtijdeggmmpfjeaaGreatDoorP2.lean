/- Part of the proof: WpD, WpA, WpB, WpC, WpE, WpF, WpG. -/
import Derived.Test.YtijdeggmmpfjeaaGreatDoorM9
import Derived.OrdersIn
import Derived.TacticsIn
import Derived.RangeFuncCalls
import Derived.RangeFuncBox
import Derived.RangeFuncLeaves
import Derived.Shelf.Abstract
import Derived.WalkKit
import Derived.OwnWalkIn
import Derived.TacticsInMore
import Derived.RegionIn
import Derived.Shelf.RegionOpen
import Derived.LoopNIn
import Derived.LoopIn
import Derived.IntWalk
import Derived.Test.YtijdeggmmpfjeaaGreatDoorProg
import Derived.RangeFuncNested
set_option linter.unusedSimpArgs false
set_option linter.unusedVariables false
set_option linter.unusedSectionVars false
namespace Go.Am
open Go Go.RowKit
theorem drawS_any {P : Program} {ops : Array Oper} {n : Nat} {gs : List Guess} {rs : List (Option (Nat × TypeId × List AV))} {env e : Env} {h h0 hl : Heap} {recs : List Rec} {hs : List Heap}
    (hord : ordered ops ops.toList (masks ops.toList []) [] = true) (hh : ahoist P gs h = some (rs, h0)) (t : TracedS P ops n ops.toList rs env h0 recs e hs) (hok : okS P ops hs (effs recs 0) (masks ops.toList []) (masks ops.toList []) recs 0) (hlast : hs.getLast? = some hl)
    {B : Nat} {w0 : World} {M : Map} {a : Act} {w : World} (r : HRel P B w0 M h w) (re : ERel M n env a) {Q : Exit → Act → World → Prop}
    (hq : ∀ M' a' w', Grow h hl M M' → HRel P B w0 M' hl w' → ERel M' n e a' → Q .normal a' w') : wpAny P .any ops Q ops.size (Array.replicate ops.size false) a { w with drawn := w.drawn + 1 } := by
  have hlen : recs.length = ops.size := by rw [t.len]; simp
  have main : ∀ (fuel : Nat) (listed : Array Bool) (a : Act) (w : World), cnt (fun x => !listed.getD x false) (List.range ops.size) ≤ fuel → DInv P B w0 M h ops n env recs hs h0.next listed a w → wpAny P .any ops Q fuel listed a w := by
    have fin : ∀ (listed : Array Bool) (a : Act) (w : World), DInv P B w0 M h ops n env recs hs h0.next listed a w → (∀ i, i < ops.size → listed.getD i false = true) → Q .normal a w := by
      intro listed a w inv hall
      obtain ⟨M', H, eH, eM0, eK, eN, eR, eW, eE, eF⟩ := inv.ex
      have hcnt : cnt (fun x => listed.getD x false) (effs recs 0) = ecount recs := by
        have h1 := ecount_eq recs recs.length 0
        rw [List.take_length, Nat.zero_add] at h1
        rw [h1]
        refine cnt_congr fun x hx => ?_
        obtain ⟨r', _, h2, _⟩ := effs_mem.1 hx
        have hx' : x < recs.length := by
          have := (List.getElem?_eq_some_iff.1 h2).1
          simpa using this
        rw [hall x (by omega), blt_iff]
        simp [hx']
      rw [hcnt] at eH
      have hl1 : hs.getLast? = hs[ecount recs]? := by
        rw [List.getLast?_eq_getElem?, t.hlen]
        simp
      rw [hl1, eH] at hlast
      simp only [Option.some.injEq] at hlast
      subst hlast
      refine hq M' a w ⟨eM0, eK, Nat.le_trans (ahoist_next hh).2.1 eN⟩ eR ⟨inv.adef, inv.asz, fun x v hv => ?_⟩
      have hend : envAt recs e recs.length = e := by simp [envAt]
      rcases t.get x recs.length (Nat.le_refl _) with ⟨g1, g2⟩ | ⟨j, r', g1, g2, g3, g4, g5⟩
      · rw [hend, hv] at g2
        refine eE x v (fun k r' hk _ hd => g1 k r' ?_ hk hd) g2.symm
        exact (List.getElem?_eq_some_iff.1 hk).1
      · rw [hend, hv] at g5
        simp only [Option.some.injEq] at g5
        subst g5
        refine eW j r' x g2 (hall j (by omega)) g3 fun k r'' hk _ hd => Nat.le_of_not_lt fun hjk => g4 k r'' hjk ?_ hk hd
        exact (List.getElem?_eq_some_iff.1 hk).1
    have full : ∀ (listed : Array Bool) (a : Act) (w : World), DInv P B w0 M h ops n env recs hs h0.next listed a w → Region.ready .any ops listed = [] → ∀ i, i < ops.size → listed.getD i false = true := by
      intro listed a w inv hr i
      induction i using Nat.strongRecOn with
      | _ i ih =>
        intro hi
        cases hs : listed.getD i false with
        | true => rfl
        | false =>
          exfalso
          have hmem : i ∈ Region.ready .any ops listed := by
            refine mem_ready.2 ⟨?_, ops[i], by simp [hi], fun e he hb => ?_⟩
            · have hi' : i < listed.size := by rw [inv.size]; exact hi
              simp only [Array.getD_eq_getD_getElem?, Array.getElem?_eq_getElem hi'] at hs ⊢
              simpa using hs
            · have := (ordered_spec hord (by simp) (by simp) i ops[i] (by simp [hi])).1 e he hb
              simp only [List.length_nil, Nat.zero_add] at this
              exact ih e.on this (by omega)
          rw [hr] at hmem
          cases hmem
    intro fuel
    induction fuel with
    | zero =>
      intro listed a w hc inv
      have hall : ∀ i, i < ops.size → listed.getD i false = true := by
        intro i hi
        cases hs : listed.getD i false with
        | true => rfl
        | false =>
          have := count_unlisted hi inv.size hs
          omega
      refine ⟨?_, fin listed a w inv hall⟩
      cases hr : Region.ready .any ops listed with
      | nil => rfl
      | cons x xs =>
        have hx := mem_ready.1 (show x ∈ Region.ready .any ops listed by rw [hr]; simp)
        obtain ⟨h1, o, h2, _⟩ := hx
        have hlt := (Array.getElem?_eq_some_iff.1 h2).1
        have h3 := hall x hlt
        have hi' : x < listed.size := by rw [inv.size]; exact hlt
        simp only [Array.getD_eq_getD_getElem?, Array.getElem?_eq_getElem hi'] at h1 h3
        simp at h1 h3
        rw [h1] at h3
        cases h3
    | succ fuel ih =>
      intro listed a w hc inv
      refine ⟨fun hr => fin listed a w inv (full listed a w inv hr), fun i hi => ?_⟩
      refine inv.stepS hord hh t hok hi fun a' w' inv' => ih _ a' w' ?_ inv'
      obtain ⟨h1, o, h2, _⟩ := mem_ready.1 hi
      have hlt := (Array.getElem?_eq_some_iff.1 h2).1
      have hi' : i < listed.size := by rw [inv.size]; exact hlt
      have hs : listed.getD i false = false := by
        simp only [Array.getD_eq_getD_getElem?, Array.getElem?_eq_getElem hi'] at h1 ⊢
        simpa using h1
      have := count_unlisted hlt inv.size hs
      omega
  have hrep : ∀ x, (Array.replicate ops.size false).getD x false = false := fun x => by
    simp only [Array.getD_eq_getD_getElem?, Array.getElem?_replicate]
    split <;> rfl
  have hz : ∀ l : List Nat, cnt (fun x => (Array.replicate ops.size false).getD x false) l = 0 := fun l => by
    induction l with
    | nil => rfl
    | cons x l ih => simp only [cnt, hrep x, cond_false, ih]
  refine main ops.size _ _ _ ?_ ⟨by simp, fun i j hi => (by rw [hrep i] at hi; cases hi), re.defers, re.size, M, h0, ?_, Map.le.refl M, fun _ _ => rfl, Nat.le_refl _, ahoist_rel hh r.drew, ?_, fun t v _ hv => re.get t v hv, ?_⟩
  · have : ∀ (p : Nat → Bool) (l : List Nat), cnt p l ≤ l.length := fun p l => by
      induction l with
      | nil => exact Nat.le_refl _
      | cons x l ih => simp only [cnt, List.length_cons]; cases p x <;> simp <;> omega
    have := this (fun x => !(Array.replicate ops.size false).getD x false) (List.range ops.size)
    simpa using this
  · rw [hz, ← List.head?_eq_getElem?]
    exact t.head
  · intro i r' x _ hi
    rw [hrep i] at hi
    cases hi
  · intro i r' j tt z hi hk _
    have hf := t.fact i r' hi
    unfold FactS at hf
    rw [hk] at hf
    obtain ⟨_, hf2, _⟩ := hf
    have := ((ahoist_next hh).2.2.1 i j tt z (by simpa [Option.join_eq_some_iff] using hf2)).1
    exact r.fresh j this
theorem rows_in {l n : Nat} {P : Program} {row : String} {args : Array Value} {w : World} {R : Value → World → Prop} (h : Rows P row args w R) : RowsIn (Fence.wide.inRound l) n P row args w R := by
  intro c cs _
  obtain ⟨v, w', h1, h2⟩ := h c cs
  exact ⟨v, w', h1, by rw [fenced_inRound]; exact stepsIn_wide.2 h2⟩
theorem upon_in {l n : Nat} {P : Program} {o : Oper} {a : Act} {next : Act → World → Prop} {Q : Exit → Act → World → Prop} : ∀ {r : Result Next}, o.upon P a next Q r → o.uponIn (Fence.wide.inRound l) n P a next Q r := by
  intro r h
  unfold Oper.upon at h
  unfold Oper.uponIn
  split at h
  · exact h
  · exact h
  · exact h
  · exact ⟨fun e => (by cases e), CallsIn.inRound l (callsIn_wide.2 h)⟩
  · exact ⟨fun e => (by cases e), rows_in h⟩
  · exact h
  · exact h.elim
theorem oper_in {l n : Nat} {P : Program} {o : Oper} {a : Act} {w : World} {next : Act → World → Prop} {Q : Exit → Act → World → Prop} (hd : ∀ c, o.op ≠ .defer c) (h : o.wp P a w next Q) : o.wpIn (Fence.wide.inRound l) n P a w next Q := by
  refine ⟨fun _ _ => trivial, ?_⟩
  rw [Oper.semAt_eq _ _ _ hd]
  exact upon_in h
def noDefer (ops : Array Oper) : Prop := ∀ (i : Nat) (o : Oper), ops[i]? = some o → ∀ c, o.op ≠ .defer c
theorem wpOp_in {l n : Nat} {P : Program} {ops : Array Oper} {Q : Exit → Act → World → Prop} (hd : noDefer ops) (hQ : ¬ LetsOut Q) {i : Nat} {K K' : Act → World → Prop} (hK : ∀ a w, K a w → K' a w) {a : Act} {w : World} (h : wpOp P ops Q i K a w) : wpOpIn (Fence.wide.inRound l) n P ops Q i K' a w := by
  unfold wpOp at h
  unfold wpOpIn
  cases ho : ops[i]? with
  | none => rw [ho] at h; exact hK _ _ h
  | some o =>
    rw [ho] at h
    simp only at h ⊢
    split
    · rename_i hw
      rw [if_pos hw] at h
      rcases h with h | ⟨_, h⟩
      · exact Oper.wpIn_mono hK (oper_in (hd i o ho) h)
      · exact absurd h hQ
    · rename_i hw
      rw [if_neg hw] at h
      exact ⟨fun _ _ => trivial, hK _ _ h⟩
theorem wpAny_in {l n : Nat} {P : Program} {md : Region.Mode} {ops : Array Oper} {Q : Exit → Act → World → Prop} (hd : noDefer ops) (hQ : ¬ LetsOut Q) : ∀ (fuel : Nat) (listed : Array Bool) (a : Act) (w : World), wpAny P md ops Q fuel listed a w → wpAnyIn (Fence.wide.inRound l) n P md ops Q fuel listed a w
  | 0, _, _, _, h => h
  | fuel + 1, listed, _, _, h => ⟨h.1, fun i hi => wpOp_in hd hQ (fun a w => wpAny_in hd hQ fuel _ a w) (h.2 i hi)⟩
theorem wpOps_in {l n : Nat} {P : Program} {ops : Array Oper} {Q : Exit → Act → World → Prop} (hd : noDefer ops) (hQ : ¬ LetsOut Q) : ∀ (is : List Nat) (a : Act) (w : World), wpOps P ops Q is a w → wpOpsIn (Fence.wide.inRound l) n P ops Q is a w
  | [], _, _, h => h
  | i :: is, a, w, h => by
    rw [wpOps_cons] at h
    rw [wpOpsIn_cons]
    exact wpOp_in hd hQ (fun a w => wpOps_in hd hQ is a w) h
end Go.Am
namespace Go.Am
open Go Go.Proofs Go.RowKit
attribute [local go_sem] Oper.semAt_some
def ancF (s : Nat → Int) (node : Nat) : Nat → List Nat
  | 0 => []
  | k + 1 => if (node : Int) < k + s k then k :: ancF s node k else ancF s node k
def iterA (Bn Bs b off node : Nat) (a : Addr) : Prop := a = ⟨Bn, 0, none⟩ ∨ a = ⟨Bs, 0, none⟩ ∨ ∃ j, j < node ∧ a = ⟨b, off + (j * 5 + 4), none⟩
def KeepB (A : Addr → Prop) (X Y : World) : Prop := ∀ a v, A a → X.cell? a = some v → Y.cell? a = some v
theorem KeepB.refl (A : Addr → Prop) (X : World) : KeepB A X X := fun _ _ _ h => h
theorem KeepB.trans {A : Addr → Prop} {X Y Z : World} (h : KeepB A X Y) (k : KeepB A Y Z) : KeepB A X Z := fun a v ha e => k a v ha (h a v ha e)
set_option maxRecDepth 100000 in
set_option maxHeartbeats 4000000 in
theorem above1_in (F : Fence) (n : Nat) (hF : ∀ f, F.fn f) (hro : F.round = none) (hn : 1 ≤ n) (l Bn Bs b off len cap node : Nat) (s : Nat → Int) (hs : ∀ k, k < node → 0 ≤ s k ∧ s k ≤ 1000000) (hnode : node < len) (hlen : len ≤ 1000000) (J Jx : List Nat → World → Prop) (hJd : ∀ pre W, J pre W → J pre W.drew)
    (hY : ∀ (pre : List Nat) (x : Nat) (W : World), x < node → J pre W → pre.length < node → YieldAt F (n - 1) Tryz.prog l #[.int .i64 (x : Int)] W fun e W' =>
      (e = .returned (.bool true) ∧ J (pre ++ [x]) W' ∧ KeepB (iterA Bn Bs b off node) W W') ∨ (e = .returned (.bool false) ∧ Jx (pre ++ [x]) W'))
    (W : World) (hBn : W.cell? ⟨Bn, 0, none⟩ = some (.int .i64 (node : Int))) (hBs : W.cell? ⟨Bs, 0, none⟩ = some (.slice (some ⟨b, off, none⟩) len cap))
    (hc : ∀ j, j < node → W.cell? ⟨b, off + (j * 5 + 4), none⟩ = some (.int .i64 (s j))) (h0 : J [] W) :
    CallsIn F n Tryz.prog 162 #[.func (.yield l) #[] #[], .pointer (some ⟨Bn, 0, none⟩), .pointer (some ⟨Bs, 0, none⟩)] W fun e W' => (∃ v, e = .returned v) ∧
      ((∃ ys, ys = ancF s node node ∧ J ys W') ∨ (∃ pre, (pre ≠ [] ∧ ∃ r, pre ++ r = ancF s node node) ∧ Jx pre W')) := by
  refine callsIn_of_wp Tryz.func162 rfl (hF 162) ?_ hro
  simp only [Tryz.ntmps162, List.size_toArray, List.length_cons, List.length_nil, Nat.reduceAdd, Nat.reduceSub, Array.replicate_succ, Array.replicate_zero, List.push_toArray, List.append_toArray, List.nil_append, List.cons_append]
  gi_wp2
  gi_loopw [4] (fun i wr => ∃ (k : Nat) (pre : List Nat), k ≤ node ∧ i = .int .i64 ((k : Int) - 1) ∧ pre ++ ancF s node k = ancF s node node ∧ pre.length + k ≤ node ∧ J pre wr ∧ KeepB (iterA Bn Bs b off node) W wr)
    (fun i _ => (intOf i + 1).toNat)
  case atStart => exact ⟨node, [], Nat.le_refl _, by simp, rfl, by simp, h0, KeepB.refl _ _⟩
  case round =>
    obtain ⟨k, pre, hk, rfl, hpre, hpl, hJ, hK⟩ := hrel
    have hBn' := hK _ _ (.inl rfl) hBn
    have hBs' := hK _ _ (.inr (.inl rfl)) hBs
    cases k with
    | zero =>
      gi_wp2
      go_end0
      exact ⟨⟨_, rfl⟩, .inl ⟨pre, by simpa [ancF] using hpre, hJ⟩⟩
    | succ k =>
      have hcx : wr.cell? ⟨b, off + k * 5 + 4, none⟩ = some (.int .i64 (s k)) := by rw [Nat.add_assoc]; exact hK _ _ (.inr (.inr ⟨k, by omega, rfl⟩)) (hc k (by omega))
      have hsk := hs k (by omega)
      have hkl : k < len := by omega
      have hmx : Tryz.prog.follows .mixedOrders = true := by kernel_rfl
      have hwrap : IntKind.i64.wrap ((k : Int) + s k) = k + s k := IntWalk.i64_in _ (by omega)
      have hK1 := hK
      by_cases hgt : (node : Int) < k + s k
      · have hgt' : decide ((node : Int) < k + s k) = true := decide_eq_true hgt
        obtain ⟨fn, tmps, assign, body, hy, hR⟩ := hY pre k wr.drew (by omega) (hJd _ _ hJ) (by omega)
        gi_wp2
        refine wpIn_region_any hmx ?_
        change wpAnyIn _ _ _ _ _ _ _ _ _ (World.drew _)
        refine wpAnyIn_take hro (i := 0) (v := ?_) rfl (by kernel_rfl) (by kernel_rfl) (by kernel_rfl) (fun _ _ _ h => h) ⟨Or.inl ⟨by rfl, ?_⟩, fun _ => rfl⟩ ?_
        rotate_left
        · intro w; go_simp; try with_reducible rfl
        refine wpAnyIn_take hro (i := 2) (v := ?_) rfl (by kernel_rfl) (by kernel_rfl) (by kernel_rfl) (fun _ _ _ h => h) ⟨Or.inl ⟨by rfl, ?_⟩, fun _ => rfl⟩ ?_
        rotate_left
        · intro w; go_simp; try with_reducible rfl
        refine wpAnyIn_ready (rs := [1, 7]) (by kernel_rfl) (by simp) ?_
        refine AllReadyIn.cons rfl (fun K hK => ?_) ?_
        · go_simp
          refine hK _ _ ?_
          clear hK K
          refine wpAnyIn_take hro (i := 3) (v := ?_) rfl (by kernel_rfl) (by kernel_rfl) (by kernel_rfl) (fun _ _ _ h => h) ⟨Or.inl ⟨by rfl, ?_⟩, fun _ => rfl⟩ ?_
          rotate_left
          · intro w; go_simp; try with_reducible rfl
          refine wpAnyIn_take hro (i := 4) (v := ?_) rfl (by kernel_rfl) (by kernel_rfl) (by kernel_rfl) (fun _ _ _ h => h) ⟨Or.inl ⟨by rfl, ?_⟩, fun _ => rfl⟩ ?_
          rotate_left
          · intro w; go_simp; try with_reducible rfl
          refine wpAnyIn_ready (rs := [5, 7]) (by kernel_rfl) (by simp) ?_
          refine AllReadyIn.cons rfl (fun K hK => ?_) ?_
          · go_simp
            refine hK _ _ ?_
            clear hK K
            refine wpAnyIn_take hro (i := 6) (v := ?_) rfl (by kernel_rfl) (by kernel_rfl) (by kernel_rfl) (fun _ _ _ h => h) ⟨Or.inl ⟨by rfl, ?_⟩, fun _ => rfl⟩ ?_
            rotate_left
            · intro w; go_simp; try with_reducible rfl
            refine wpAnyIn_ready (rs := [7]) (by kernel_rfl) (by simp) ?_
            refine AllReadyIn.cons rfl (fun K hK => ?_) ?_
            · go_simp
              refine hK _ _ ?_
              clear hK K
              refine wpAnyIn_ready (rs := [8]) (by kernel_rfl) (by simp) ?_
              refine AllReadyIn.cons rfl (fun K hK => ?_) ?_
              · go_simp
                refine hK _ _ ?_
                clear hK K
                refine wpAnyIn_ready (rs := [9]) (by kernel_rfl) (by simp) ?_
                refine AllReadyIn.cons rfl (fun K hK => ?_) ?_
                · go_simp
                  refine hK _ _ ?_
                  clear hK K
                  refine wpAnyIn_take hro (i := 10) (v := ?_) rfl (by kernel_rfl) (by kernel_rfl) (by kernel_rfl) (fun _ _ _ h => h) ⟨Or.inl ⟨by rfl, ?_⟩, fun _ => rfl⟩ ?_
                  rotate_left
                  · intro w; go_simp; try with_reducible rfl
                  refine wpAnyIn_take hro (i := 11) (v := ?_) rfl (by kernel_rfl) (by kernel_rfl) (by kernel_rfl) (fun _ _ _ h => h) ⟨Or.inl ⟨by rfl, ?_⟩, fun _ => rfl⟩ ?_
                  rotate_left
                  · intro w; go_simp; try with_reducible rfl
                  refine wpAnyIn_ready (rs := [12]) (by kernel_rfl) (by simp) ?_
                  refine AllReadyIn.cons rfl (fun K hK => ?_) ?_
                  · go_simp
                    refine hR.mono ?_
                    rintro e W3 (⟨rfl, hJ3, hk3⟩ | ⟨rfl, hJx3⟩)
                    · refine hK _ _ ?_
                      clear hK K
                      refine wpAnyIn_ready (rs := [13]) (by kernel_rfl) (by simp) ?_
                      refine AllReadyIn.cons rfl (fun K hK => ?_) ?_
                      · go_simp
                        refine hK _ _ ?_
                        clear hK K
                        refine wpAnyIn_ready (rs := [14]) (by kernel_rfl) (by simp) ?_
                        refine AllReadyIn.cons rfl (fun K hK => ?_) ?_
                        · go_simp
                          refine hK _ _ ?_
                          clear hK K
                          refine wpAnyIn_done (by kernel_rfl) ?_ _
                          gi_wp2
                          go_roundw
                          case rel => exact ⟨k, pre ++ [k], by omega, rfl, by rw [ancF, if_pos (by omega)] at hpre; simpa using hpre, by simp; omega, hJ3, hK1.trans hk3⟩
                          case measure => simp [intOf] <;> omega
                        exact AllReadyIn.nil
                      exact AllReadyIn.nil
                    · refine hK _ _ ?_
                      clear hK K
                      refine wpAnyIn_ready (rs := [13]) (by kernel_rfl) (by simp) ?_
                      refine AllReadyIn.cons rfl (fun K hK => ?_) ?_
                      · go_simp
                        refine hK _ _ ?_
                        clear hK K
                        refine wpAnyIn_ready (rs := [14]) (by kernel_rfl) (by simp) ?_
                        refine AllReadyIn.cons rfl (fun K hK => ?_) ?_
                        · go_simp
                          refine hK _ _ ?_
                          clear hK K
                          refine wpAnyIn_done (by kernel_rfl) ?_ _
                          gi_wp2
                          refine bodyPost_ret (results_none rfl _ _ _) rfl ?_
                          exact ⟨⟨_, rfl⟩, .inr ⟨pre ++ [k], ⟨by simp, ancF s node k, by rw [ancF, if_pos (by omega)] at hpre; simpa using hpre⟩, hJx3⟩⟩
                        exact AllReadyIn.nil
                      exact AllReadyIn.nil
                  exact AllReadyIn.nil
                exact AllReadyIn.nil
              exact AllReadyIn.nil
            exact AllReadyIn.nil
          refine AllReadyIn.cons rfl (fun K hK => ?_) ?_
          · go_simp
            refine hK _ _ ?_
            clear hK K
            refine wpAnyIn_ready (rs := [5]) (by kernel_rfl) (by simp) ?_
            refine AllReadyIn.cons rfl (fun K hK => ?_) ?_
            · go_simp
              refine hK _ _ ?_
              clear hK K
              refine wpAnyIn_take hro (i := 6) (v := ?_) rfl (by kernel_rfl) (by kernel_rfl) (by kernel_rfl) (fun _ _ _ h => h) ⟨Or.inl ⟨by rfl, ?_⟩, fun _ => rfl⟩ ?_
              rotate_left
              · intro w; go_simp; try with_reducible rfl
              refine wpAnyIn_ready (rs := [8]) (by kernel_rfl) (by simp) ?_
              refine AllReadyIn.cons rfl (fun K hK => ?_) ?_
              · go_simp
                refine hK _ _ ?_
                clear hK K
                refine wpAnyIn_ready (rs := [9]) (by kernel_rfl) (by simp) ?_
                refine AllReadyIn.cons rfl (fun K hK => ?_) ?_
                · go_simp
                  refine hK _ _ ?_
                  clear hK K
                  refine wpAnyIn_take hro (i := 10) (v := ?_) rfl (by kernel_rfl) (by kernel_rfl) (by kernel_rfl) (fun _ _ _ h => h) ⟨Or.inl ⟨by rfl, ?_⟩, fun _ => rfl⟩ ?_
                  rotate_left
                  · intro w; go_simp; try with_reducible rfl
                  refine wpAnyIn_take hro (i := 11) (v := ?_) rfl (by kernel_rfl) (by kernel_rfl) (by kernel_rfl) (fun _ _ _ h => h) ⟨Or.inl ⟨by rfl, ?_⟩, fun _ => rfl⟩ ?_
                  rotate_left
                  · intro w; go_simp; try with_reducible rfl
                  refine wpAnyIn_ready (rs := [12]) (by kernel_rfl) (by simp) ?_
                  refine AllReadyIn.cons rfl (fun K hK => ?_) ?_
                  · go_simp
                    refine hR.mono ?_
                    rintro e W3 (⟨rfl, hJ3, hk3⟩ | ⟨rfl, hJx3⟩)
                    · refine hK _ _ ?_
                      clear hK K
                      refine wpAnyIn_ready (rs := [13]) (by kernel_rfl) (by simp) ?_
                      refine AllReadyIn.cons rfl (fun K hK => ?_) ?_
                      · go_simp
                        refine hK _ _ ?_
                        clear hK K
                        refine wpAnyIn_ready (rs := [14]) (by kernel_rfl) (by simp) ?_
                        refine AllReadyIn.cons rfl (fun K hK => ?_) ?_
                        · go_simp
                          refine hK _ _ ?_
                          clear hK K
                          refine wpAnyIn_done (by kernel_rfl) ?_ _
                          gi_wp2
                          go_roundw
                          case rel => exact ⟨k, pre ++ [k], by omega, rfl, by rw [ancF, if_pos (by omega)] at hpre; simpa using hpre, by simp; omega, hJ3, hK1.trans hk3⟩
                          case measure => simp [intOf] <;> omega
                        exact AllReadyIn.nil
                      exact AllReadyIn.nil
                    · refine hK _ _ ?_
                      clear hK K
                      refine wpAnyIn_ready (rs := [13]) (by kernel_rfl) (by simp) ?_
                      refine AllReadyIn.cons rfl (fun K hK => ?_) ?_
                      · go_simp
                        refine hK _ _ ?_
                        clear hK K
                        refine wpAnyIn_ready (rs := [14]) (by kernel_rfl) (by simp) ?_
                        refine AllReadyIn.cons rfl (fun K hK => ?_) ?_
                        · go_simp
                          refine hK _ _ ?_
                          clear hK K
                          refine wpAnyIn_done (by kernel_rfl) ?_ _
                          gi_wp2
                          refine bodyPost_ret (results_none rfl _ _ _) rfl ?_
                          exact ⟨⟨_, rfl⟩, .inr ⟨pre ++ [k], ⟨by simp, ancF s node k, by rw [ancF, if_pos (by omega)] at hpre; simpa using hpre⟩, hJx3⟩⟩
                        exact AllReadyIn.nil
                      exact AllReadyIn.nil
                  exact AllReadyIn.nil
                exact AllReadyIn.nil
              exact AllReadyIn.nil
            exact AllReadyIn.nil
          exact AllReadyIn.nil
        refine AllReadyIn.cons rfl (fun K hK => ?_) ?_
        · go_simp
          refine hK _ _ ?_
          clear hK K
          refine wpAnyIn_ready (rs := [1]) (by kernel_rfl) (by simp) ?_
          refine AllReadyIn.cons rfl (fun K hK => ?_) ?_
          · go_simp
            refine hK _ _ ?_
            clear hK K
            refine wpAnyIn_take hro (i := 3) (v := ?_) rfl (by kernel_rfl) (by kernel_rfl) (by kernel_rfl) (fun _ _ _ h => h) ⟨Or.inl ⟨by rfl, ?_⟩, fun _ => rfl⟩ ?_
            rotate_left
            · intro w; go_simp; try with_reducible rfl
            refine wpAnyIn_take hro (i := 4) (v := ?_) rfl (by kernel_rfl) (by kernel_rfl) (by kernel_rfl) (fun _ _ _ h => h) ⟨Or.inl ⟨by rfl, ?_⟩, fun _ => rfl⟩ ?_
            rotate_left
            · intro w; go_simp; try with_reducible rfl
            refine wpAnyIn_ready (rs := [5]) (by kernel_rfl) (by simp) ?_
            refine AllReadyIn.cons rfl (fun K hK => ?_) ?_
            · go_simp
              refine hK _ _ ?_
              clear hK K
              refine wpAnyIn_take hro (i := 6) (v := ?_) rfl (by kernel_rfl) (by kernel_rfl) (by kernel_rfl) (fun _ _ _ h => h) ⟨Or.inl ⟨by rfl, ?_⟩, fun _ => rfl⟩ ?_
              rotate_left
              · intro w; go_simp; try with_reducible rfl
              refine wpAnyIn_ready (rs := [8]) (by kernel_rfl) (by simp) ?_
              refine AllReadyIn.cons rfl (fun K hK => ?_) ?_
              · go_simp
                refine hK _ _ ?_
                clear hK K
                refine wpAnyIn_ready (rs := [9]) (by kernel_rfl) (by simp) ?_
                refine AllReadyIn.cons rfl (fun K hK => ?_) ?_
                · go_simp
                  refine hK _ _ ?_
                  clear hK K
                  refine wpAnyIn_take hro (i := 10) (v := ?_) rfl (by kernel_rfl) (by kernel_rfl) (by kernel_rfl) (fun _ _ _ h => h) ⟨Or.inl ⟨by rfl, ?_⟩, fun _ => rfl⟩ ?_
                  rotate_left
                  · intro w; go_simp; try with_reducible rfl
                  refine wpAnyIn_take hro (i := 11) (v := ?_) rfl (by kernel_rfl) (by kernel_rfl) (by kernel_rfl) (fun _ _ _ h => h) ⟨Or.inl ⟨by rfl, ?_⟩, fun _ => rfl⟩ ?_
                  rotate_left
                  · intro w; go_simp; try with_reducible rfl
                  refine wpAnyIn_ready (rs := [12]) (by kernel_rfl) (by simp) ?_
                  refine AllReadyIn.cons rfl (fun K hK => ?_) ?_
                  · go_simp
                    refine hR.mono ?_
                    rintro e W3 (⟨rfl, hJ3, hk3⟩ | ⟨rfl, hJx3⟩)
                    · refine hK _ _ ?_
                      clear hK K
                      refine wpAnyIn_ready (rs := [13]) (by kernel_rfl) (by simp) ?_
                      refine AllReadyIn.cons rfl (fun K hK => ?_) ?_
                      · go_simp
                        refine hK _ _ ?_
                        clear hK K
                        refine wpAnyIn_ready (rs := [14]) (by kernel_rfl) (by simp) ?_
                        refine AllReadyIn.cons rfl (fun K hK => ?_) ?_
                        · go_simp
                          refine hK _ _ ?_
                          clear hK K
                          refine wpAnyIn_done (by kernel_rfl) ?_ _
                          gi_wp2
                          go_roundw
                          case rel => exact ⟨k, pre ++ [k], by omega, rfl, by rw [ancF, if_pos (by omega)] at hpre; simpa using hpre, by simp; omega, hJ3, hK1.trans hk3⟩
                          case measure => simp [intOf] <;> omega
                        exact AllReadyIn.nil
                      exact AllReadyIn.nil
                    · refine hK _ _ ?_
                      clear hK K
                      refine wpAnyIn_ready (rs := [13]) (by kernel_rfl) (by simp) ?_
                      refine AllReadyIn.cons rfl (fun K hK => ?_) ?_
                      · go_simp
                        refine hK _ _ ?_
                        clear hK K
                        refine wpAnyIn_ready (rs := [14]) (by kernel_rfl) (by simp) ?_
                        refine AllReadyIn.cons rfl (fun K hK => ?_) ?_
                        · go_simp
                          refine hK _ _ ?_
                          clear hK K
                          refine wpAnyIn_done (by kernel_rfl) ?_ _
                          gi_wp2
                          refine bodyPost_ret (results_none rfl _ _ _) rfl ?_
                          exact ⟨⟨_, rfl⟩, .inr ⟨pre ++ [k], ⟨by simp, ancF s node k, by rw [ancF, if_pos (by omega)] at hpre; simpa using hpre⟩, hJx3⟩⟩
                        exact AllReadyIn.nil
                      exact AllReadyIn.nil
                  exact AllReadyIn.nil
                exact AllReadyIn.nil
              exact AllReadyIn.nil
            exact AllReadyIn.nil
          exact AllReadyIn.nil
        exact AllReadyIn.nil
      · have hgt' : decide ((node : Int) < k + s k) = false := decide_eq_false hgt
        gi_wp2
        refine wpIn_region_any hmx ?_
        change wpAnyIn _ _ _ _ _ _ _ _ _ (World.drew _)
        refine wpAnyIn_take hro (i := 0) (v := ?_) rfl (by kernel_rfl) (by kernel_rfl) (by kernel_rfl) (fun _ _ _ h => h) ⟨Or.inl ⟨by rfl, ?_⟩, fun _ => rfl⟩ ?_
        rotate_left
        · intro w; go_simp; try with_reducible rfl
        refine wpAnyIn_take hro (i := 2) (v := ?_) rfl (by kernel_rfl) (by kernel_rfl) (by kernel_rfl) (fun _ _ _ h => h) ⟨Or.inl ⟨by rfl, ?_⟩, fun _ => rfl⟩ ?_
        rotate_left
        · intro w; go_simp; try with_reducible rfl
        refine wpAnyIn_ready (rs := [1, 7]) (by kernel_rfl) (by simp) ?_
        refine AllReadyIn.cons rfl (fun K hK => ?_) ?_
        · go_simp
          refine hK _ _ ?_
          clear hK K
          refine wpAnyIn_take hro (i := 3) (v := ?_) rfl (by kernel_rfl) (by kernel_rfl) (by kernel_rfl) (fun _ _ _ h => h) ⟨Or.inl ⟨by rfl, ?_⟩, fun _ => rfl⟩ ?_
          rotate_left
          · intro w; go_simp; try with_reducible rfl
          refine wpAnyIn_take hro (i := 4) (v := ?_) rfl (by kernel_rfl) (by kernel_rfl) (by kernel_rfl) (fun _ _ _ h => h) ⟨Or.inl ⟨by rfl, ?_⟩, fun _ => rfl⟩ ?_
          rotate_left
          · intro w; go_simp; try with_reducible rfl
          refine wpAnyIn_ready (rs := [5, 7]) (by kernel_rfl) (by simp) ?_
          refine AllReadyIn.cons rfl (fun K hK => ?_) ?_
          · go_simp
            refine hK _ _ ?_
            clear hK K
            refine wpAnyIn_take hro (i := 6) (v := ?_) rfl (by kernel_rfl) (by kernel_rfl) (by kernel_rfl) (fun _ _ _ h => h) ⟨Or.inl ⟨by rfl, ?_⟩, fun _ => rfl⟩ ?_
            rotate_left
            · intro w; go_simp; try with_reducible rfl
            refine wpAnyIn_ready (rs := [7]) (by kernel_rfl) (by simp) ?_
            refine AllReadyIn.cons rfl (fun K hK => ?_) ?_
            · go_simp
              refine hK _ _ ?_
              clear hK K
              refine wpAnyIn_ready (rs := [8]) (by kernel_rfl) (by simp) ?_
              refine AllReadyIn.cons rfl (fun K hK => ?_) ?_
              · go_simp
                refine hK _ _ ?_
                clear hK K
                refine wpAnyIn_ready (rs := [9]) (by kernel_rfl) (by simp) ?_
                refine AllReadyIn.cons rfl (fun K hK => ?_) ?_
                · go_simp
                  refine hK _ _ ?_
                  clear hK K
                  refine wpAnyIn_take hro (i := 10) (v := undef) rfl (by kernel_rfl) (by kernel_rfl) (by kernel_rfl) (fun _ _ _ h => h) ⟨Or.inr ⟨by rfl, rfl⟩, fun _ => rfl⟩ ?_
                  refine wpAnyIn_take hro (i := 11) (v := undef) rfl (by kernel_rfl) (by kernel_rfl) (by kernel_rfl) (fun _ _ _ h => h) ⟨Or.inr ⟨by rfl, rfl⟩, fun _ => rfl⟩ ?_
                  refine wpAnyIn_ready (rs := [12]) (by kernel_rfl) (by simp) ?_
                  refine AllReadyIn.cons rfl (fun K hK => ?_) ?_
                  · go_simp
                    refine hK _ _ ?_
                    clear hK K
                    refine wpAnyIn_ready (rs := [13]) (by kernel_rfl) (by simp) ?_
                    refine AllReadyIn.cons rfl (fun K hK => ?_) ?_
                    · go_simp
                      refine hK _ _ ?_
                      clear hK K
                      refine wpAnyIn_ready (rs := [14]) (by kernel_rfl) (by simp) ?_
                      refine AllReadyIn.cons rfl (fun K hK => ?_) ?_
                      · go_simp
                        refine hK _ _ ?_
                        clear hK K
                        refine wpAnyIn_done (by kernel_rfl) ?_ _
                        gi_wp2
                        go_roundw
                        case rel => exact ⟨k, pre, by omega, rfl, by rw [ancF, if_neg (by omega)] at hpre; exact hpre, by omega, hJd _ _ hJ, hK1⟩
                        case measure => simp [intOf] <;> omega
                      exact AllReadyIn.nil
                    exact AllReadyIn.nil
                  exact AllReadyIn.nil
                exact AllReadyIn.nil
              exact AllReadyIn.nil
            exact AllReadyIn.nil
          refine AllReadyIn.cons rfl (fun K hK => ?_) ?_
          · go_simp
            refine hK _ _ ?_
            clear hK K
            refine wpAnyIn_ready (rs := [5]) (by kernel_rfl) (by simp) ?_
            refine AllReadyIn.cons rfl (fun K hK => ?_) ?_
            · go_simp
              refine hK _ _ ?_
              clear hK K
              refine wpAnyIn_take hro (i := 6) (v := ?_) rfl (by kernel_rfl) (by kernel_rfl) (by kernel_rfl) (fun _ _ _ h => h) ⟨Or.inl ⟨by rfl, ?_⟩, fun _ => rfl⟩ ?_
              rotate_left
              · intro w; go_simp; try with_reducible rfl
              refine wpAnyIn_ready (rs := [8]) (by kernel_rfl) (by simp) ?_
              refine AllReadyIn.cons rfl (fun K hK => ?_) ?_
              · go_simp
                refine hK _ _ ?_
                clear hK K
                refine wpAnyIn_ready (rs := [9]) (by kernel_rfl) (by simp) ?_
                refine AllReadyIn.cons rfl (fun K hK => ?_) ?_
                · go_simp
                  refine hK _ _ ?_
                  clear hK K
                  refine wpAnyIn_take hro (i := 10) (v := undef) rfl (by kernel_rfl) (by kernel_rfl) (by kernel_rfl) (fun _ _ _ h => h) ⟨Or.inr ⟨by rfl, rfl⟩, fun _ => rfl⟩ ?_
                  refine wpAnyIn_take hro (i := 11) (v := undef) rfl (by kernel_rfl) (by kernel_rfl) (by kernel_rfl) (fun _ _ _ h => h) ⟨Or.inr ⟨by rfl, rfl⟩, fun _ => rfl⟩ ?_
                  refine wpAnyIn_ready (rs := [12]) (by kernel_rfl) (by simp) ?_
                  refine AllReadyIn.cons rfl (fun K hK => ?_) ?_
                  · go_simp
                    refine hK _ _ ?_
                    clear hK K
                    refine wpAnyIn_ready (rs := [13]) (by kernel_rfl) (by simp) ?_
                    refine AllReadyIn.cons rfl (fun K hK => ?_) ?_
                    · go_simp
                      refine hK _ _ ?_
                      clear hK K
                      refine wpAnyIn_ready (rs := [14]) (by kernel_rfl) (by simp) ?_
                      refine AllReadyIn.cons rfl (fun K hK => ?_) ?_
                      · go_simp
                        refine hK _ _ ?_
                        clear hK K
                        refine wpAnyIn_done (by kernel_rfl) ?_ _
                        gi_wp2
                        go_roundw
                        case rel => exact ⟨k, pre, by omega, rfl, by rw [ancF, if_neg (by omega)] at hpre; exact hpre, by omega, hJd _ _ hJ, hK1⟩
                        case measure => simp [intOf] <;> omega
                      exact AllReadyIn.nil
                    exact AllReadyIn.nil
                  exact AllReadyIn.nil
                exact AllReadyIn.nil
              exact AllReadyIn.nil
            exact AllReadyIn.nil
          exact AllReadyIn.nil
        refine AllReadyIn.cons rfl (fun K hK => ?_) ?_
        · go_simp
          refine hK _ _ ?_
          clear hK K
          refine wpAnyIn_ready (rs := [1]) (by kernel_rfl) (by simp) ?_
          refine AllReadyIn.cons rfl (fun K hK => ?_) ?_
          · go_simp
            refine hK _ _ ?_
            clear hK K
            refine wpAnyIn_take hro (i := 3) (v := ?_) rfl (by kernel_rfl) (by kernel_rfl) (by kernel_rfl) (fun _ _ _ h => h) ⟨Or.inl ⟨by rfl, ?_⟩, fun _ => rfl⟩ ?_
            rotate_left
            · intro w; go_simp; try with_reducible rfl
            refine wpAnyIn_take hro (i := 4) (v := ?_) rfl (by kernel_rfl) (by kernel_rfl) (by kernel_rfl) (fun _ _ _ h => h) ⟨Or.inl ⟨by rfl, ?_⟩, fun _ => rfl⟩ ?_
            rotate_left
            · intro w; go_simp; try with_reducible rfl
            refine wpAnyIn_ready (rs := [5]) (by kernel_rfl) (by simp) ?_
            refine AllReadyIn.cons rfl (fun K hK => ?_) ?_
            · go_simp
              refine hK _ _ ?_
              clear hK K
              refine wpAnyIn_take hro (i := 6) (v := ?_) rfl (by kernel_rfl) (by kernel_rfl) (by kernel_rfl) (fun _ _ _ h => h) ⟨Or.inl ⟨by rfl, ?_⟩, fun _ => rfl⟩ ?_
              rotate_left
              · intro w; go_simp; try with_reducible rfl
              refine wpAnyIn_ready (rs := [8]) (by kernel_rfl) (by simp) ?_
              refine AllReadyIn.cons rfl (fun K hK => ?_) ?_
              · go_simp
                refine hK _ _ ?_
                clear hK K
                refine wpAnyIn_ready (rs := [9]) (by kernel_rfl) (by simp) ?_
                refine AllReadyIn.cons rfl (fun K hK => ?_) ?_
                · go_simp
                  refine hK _ _ ?_
                  clear hK K
                  refine wpAnyIn_take hro (i := 10) (v := undef) rfl (by kernel_rfl) (by kernel_rfl) (by kernel_rfl) (fun _ _ _ h => h) ⟨Or.inr ⟨by rfl, rfl⟩, fun _ => rfl⟩ ?_
                  refine wpAnyIn_take hro (i := 11) (v := undef) rfl (by kernel_rfl) (by kernel_rfl) (by kernel_rfl) (fun _ _ _ h => h) ⟨Or.inr ⟨by rfl, rfl⟩, fun _ => rfl⟩ ?_
                  refine wpAnyIn_ready (rs := [12]) (by kernel_rfl) (by simp) ?_
                  refine AllReadyIn.cons rfl (fun K hK => ?_) ?_
                  · go_simp
                    refine hK _ _ ?_
                    clear hK K
                    refine wpAnyIn_ready (rs := [13]) (by kernel_rfl) (by simp) ?_
                    refine AllReadyIn.cons rfl (fun K hK => ?_) ?_
                    · go_simp
                      refine hK _ _ ?_
                      clear hK K
                      refine wpAnyIn_ready (rs := [14]) (by kernel_rfl) (by simp) ?_
                      refine AllReadyIn.cons rfl (fun K hK => ?_) ?_
                      · go_simp
                        refine hK _ _ ?_
                        clear hK K
                        refine wpAnyIn_done (by kernel_rfl) ?_ _
                        gi_wp2
                        go_roundw
                        case rel => exact ⟨k, pre, by omega, rfl, by rw [ancF, if_neg (by omega)] at hpre; exact hpre, by omega, hJd _ _ hJ, hK1⟩
                        case measure => simp [intOf] <;> omega
                      exact AllReadyIn.nil
                    exact AllReadyIn.nil
                  exact AllReadyIn.nil
                exact AllReadyIn.nil
              exact AllReadyIn.nil
            exact AllReadyIn.nil
          exact AllReadyIn.nil
        exact AllReadyIn.nil
end Go.Am
namespace Go.Am
open Go Go.Proofs Go.RowKit
attribute [local go_sem] Oper.semAt_some
set_option maxRecDepth 100000
theorem grownBy_drew' (W : World) : W.grownBy W.drew none := ⟨rfl, rfl, rfl, Nat.le_refl _, fun _ _ _ => rfl⟩
theorem above_stops (F : Fence) (n : Nat) (hF : ∀ f, F.fn f) (hro : F.round = none) (hn : 1 ≤ n) (Bn Bs b off len cap node : Nat) (s : Nat → Int) (hs : ∀ k, k < node → 0 ≤ s k ∧ s k ≤ 1000000) (hnode : node < len) (hlen : len ≤ 1000000) (w : World)
    (h1 : Bn < w.heap.size) (h2 : Bs < w.heap.size) (h3 : b < w.heap.size) (hBn : w.cell? ⟨Bn, 0, none⟩ = some (.int .i64 (node : Int))) (hBs : w.cell? ⟨Bs, 0, none⟩ = some (.slice (some ⟨b, off, none⟩) len cap))
    (hc : ∀ j, j < node → w.cell? ⟨b, off + (j * 5 + 4), none⟩ = some (.int .i64 (s j))) :
    SeqStopsK F n Tryz.prog 162 #[.pointer (some ⟨Bn, 0, none⟩), .pointer (some ⟨Bs, 0, none⟩)] (fun x : {x : Nat // x < node} => #[Value.int .i64 (x.1 : Int)]) (KeepB (iterA Bn Bs b off node)) (fun ys => ys.map (·.1) = ancF s node node) (fun pre => pre ≠ [] ∧ ∃ r, pre.map (·.1) ++ r = ancF s node node) node w := fun l J Jx W hW hJ _ hY h0 => by
  refine (above1_in F n hF hro hn l Bn Bs b off len cap node s hs hnode hlen (fun pre W => ∃ pre' : List {x : Nat // x < node}, pre'.map (·.1) = pre ∧ J pre' W) (fun pre W => ∃ pre' : List {x : Nat // x < node}, pre'.map (·.1) = pre ∧ Jx pre' W)
    (fun pre W ⟨pre', e, h⟩ => ⟨pre', e, hJ pre' W _ none h (grownBy_drew' W) (fun r e => by cases e)⟩) ?_ W ((hW.cell (p := ⟨Bn, 0, none⟩) h1).trans hBn) ((hW.cell (p := ⟨Bs, 0, none⟩) h2).trans hBs)
    (fun j hj => (hW.cell (p := ⟨b, off + (j * 5 + 4), none⟩) h3).trans (hc j hj)) ⟨[], rfl, h0⟩).mono ?_
  · rintro pre x W hx ⟨pre', rfl, h⟩ hl
    obtain ⟨fn, tmps, assign, body, hy, hR⟩ := hY pre' ⟨x, hx⟩ W h (by simpa using hl)
    refine ⟨fn, tmps, assign, body, hy, hR.mono ?_⟩
    rintro e W' (⟨rfl, hj, hk⟩ | ⟨rfl, hj⟩)
    · exact .inl ⟨rfl, ⟨_, by simp, hj⟩, hk⟩
    · exact .inr ⟨rfl, _, by simp, hj⟩
  · rintro e W' ⟨he, ⟨ys, e1, pre', e2, hj⟩ | ⟨pre, ⟨hne, r, e1⟩, pre', e2, hj⟩⟩
    · exact ⟨he, .inl ⟨pre', e2.trans e1, hj⟩⟩
    · refine ⟨he, .inr ⟨pre', ⟨fun e => hne (by rw [← e2, e]; rfl), r, by rw [e2]; exact e1⟩, hj⟩⟩
set_option maxHeartbeats 1000000 in
theorem above_in (F : Fence) (n : Nat) (hF : ∀ f, F.fn f) (hro : F.round = none) (a : Option Addr) (len cap : Nat) (node : Int) (w : World) :
    CallsIn F n Tryz.prog 95 #[.slice a len cap, .int .i64 node] w fun e w' => e = .returned (.func (.func 162) #[] #[.pointer (some ⟨w.heap.size + 1, 0, none⟩), .pointer (some ⟨w.heap.size, 0, none⟩)]) ∧ w' = (w.alloc (.cells #[.slice a len cap] 24)).alloc (.cells #[.int .i64 node] 3) := by
  refine callsIn_of_wp Tryz.func95 rfl (hF 95) ?_ hro
  simp only [Tryz.ntmps95, List.size_toArray, List.length_cons, List.length_nil, Nat.reduceAdd, Nat.reduceSub, Array.replicate_succ, Array.replicate_zero, List.push_toArray, List.append_toArray, List.nil_append, List.cons_append]
  gi_wp2
  go_ret
  simp
end Go.Am
namespace Go.Am
open Go Go.Proofs Go.RowKit
attribute [local go_sem] Oper.semAt_some
def upF (l : List Nat) : Int := match l with
  | [] => -1
  | x :: _ => (x : Int)
theorem keepB_put {A : Addr → Prop} (W : World) (l : Nat) (o o' : Obj) (h : W.heap[l]? = some o) (ho : o.isCells = false) : KeepB A W (W.putObj l o') := fun a v _ e => by
  have : a.block ≠ l := fun ea => by
    unfold World.cell? at e
    rw [ea, h] at e
    cases o <;> first | (cases e; done) | cases ho
  unfold World.cell? at e ⊢
  rw [World.putObj_heap_other this]
  exact e
theorem alloc_heap (w : World) (o : Obj) : (w.alloc o).heap = w.heap.push o := rfl
theorem below_grown {B : Nat} {w W W' : World} {row : Option Nat} (h : Below B w W) (hB : B ≤ w.heap.size) (hg : W.grownBy W' row) (hr : ∀ r, row = some r → B ≤ r) : Below B w W' :=
  ⟨hg.os.trans h.os, hg.tape.trans h.tape, hg.output.trans h.output, Nat.le_trans h.size hg.size, fun k hk => (hg.block k (Nat.lt_of_lt_of_le hk (Nat.le_trans hB h.size)) (fun e => by have := hr k e.symm; omega)).trans (h.block k hk)⟩
set_option maxRecDepth 100000
end Go.Am
namespace Go.Am
open Go Go.Proofs Go.RowKit
def noDeferB (l : List Oper) : Bool := l.all fun o => match o.op with
  | .defer _ => false
  | _ => true
theorem noDefer_of {l : List Oper} (h : noDeferB l = true) : noDefer l.toArray := by
  intro i o ho c hc
  have hm : o ∈ l := by
    have : l[i]? = some o := by simpa using ho
    exact List.mem_of_getElem? this
  have := List.all_eq_true.1 h o hm
  rw [hc] at this
  cases this
def RSI (P : Program) (N n : Nat) (c : Code) (env : Env) (h : Heap) (Post : APost) : Prop := ∀ l m B w0 M a w, HRel P B w0 M h w → N ≤ h.next → ERel M n env a → ∀ Q : Exit → Act → World → Prop, ¬ LetsOut Q →
  (∀ e env' h' M' a' w', Post e env' h' → Keep N M M' → N ≤ h'.next → HRel P B w0 M' h' w' → ERel M' n env' a' → Q e.conc a' w') → c.wpIn (Fence.wide.inRound l) m P Q a w
def ThenSI (P : Program) (N n : Nat) (y : Code) (Post : APost) : APost
  | .normal, env, h => RSI P N n y env h Post
  | .exit i, env, h => Post (.exit i) env h
  | .ret, env, h => Post .ret env h
theorem RSI.seq {P : Program} {N n : Nat} {x y : Code} {env : Env} {h : Heap} {Post : APost} (r : RSI P N n x env h (ThenSI P N n y Post)) : RSI P N n (.seq x y) env h Post := by
  intro l m B w0 M a w k1 kN k2 Q hL hq
  refine wpIn_seq (r l m B w0 M a w k1 kN k2 _ ?_ ?_)
  · rintro ⟨a', w', ho⟩
    exact hL ⟨a', w', ho⟩
  intro e env1 h1 M1 a1 w1 hp g1 n1 r1 re1
  cases e with
  | normal => exact hp l m B w0 M1 a1 w1 r1 n1 re1 Q hL fun e env2 h2 M2 a2 w2 p g2 n2 r2 re2 => hq e env2 h2 M2 a2 w2 p (g1.trans g2) n2 r2 re2
  | exit i => exact hq (.exit i) env1 h1 M1 a1 w1 hp g1 n1 r1 re1
  | ret => exact hq .ret env1 h1 M1 a1 w1 hp g1 n1 r1 re1
theorem RSI.block {P : Program} {N n id : Nat} {c : Code} {env : Env} {h : Heap} {Post : APost} (r : RSI P N n c env h (InB id Post)) : RSI P N n (.block id c) env h Post := by
  intro l m B w0 M a w k1 kN k2 Q hL hq
  refine wpIn_block (r l m B w0 M a w k1 kN k2 _ ?_ ?_)
  · rintro ⟨a', w', ho⟩
    exact hL ⟨a', w', ho⟩
  intro e env1 h1 M1 a1 w1 hp g1 n1 r1 re1
  cases e with
  | normal => exact hq .normal env1 h1 M1 a1 w1 hp g1 n1 r1 re1
  | ret => exact hq .ret env1 h1 M1 a1 w1 hp g1 n1 r1 re1
  | exit j =>
    show (if j = id then Q .normal a1 w1 else Q (.exit j) a1 w1)
    simp only [InB] at hp
    cases hj : Nat.beq j id with
    | true =>
      simp only [hj, cond_true] at hp
      rw [if_pos (Nat.eq_of_beq_eq_true hj)]
      exact hq .normal env1 h1 M1 a1 w1 hp g1 n1 r1 re1
    | false =>
      simp only [hj, cond_false] at hp
      rw [if_neg (Nat.ne_of_beq_eq_false hj)]
      exact hq (.exit j) env1 h1 M1 a1 w1 hp g1 n1 r1 re1
theorem ThenSI.n {P : Program} {N n : Nat} {y : Code} {Post : APost} {env : Env} {h : Heap} (r : RSI P N n y env h Post) : ThenSI P N n y Post .normal env h := r
theorem RSI.goL {P : Program} {N n id : Nat} {l : List Oper} {env : Env} {h : Heap} {Post : APost} (hd : noDeferB l = true) (k : RO P N n l.toArray l env h Post) : RSI P N n (.region id l.toArray false) env h Post := by
  intro l' m B w0 M a w r hN re Q hL hq
  refine wpIn_region ?_
  refine wpOps_in (noDefer_of hd) hL _ _ _ ?_
  rw [List.range_eq_range']
  have := k 0 (by simp) B w0 M a w r hN re Q fun env' h' M' a' w' p => hq .normal env' h' M' a' w' p
  simpa using this
theorem RSI.drawE {P : Program} (hm : P.follows .mixedOrders = true) {N n id : Nat} {l : List Oper} {env : Env} {h h0 : Heap} {Post : APost} (gs : List Guess) {rs : List (Option (Nat × TypeId × List AV))} {ms : List Nat} (_hn : Nat.beq gs.length l.length = true) (hd : noDeferB l = true) (hms : masks l [] = ms) (hord : ordered l.toArray l ms [] = true) (hh : ahoist P gs h = some (rs, h0)) (k : RD P n l.toArray l rs env h0 (RDk P l.toArray ms Post)) : RSI P N n (.region id l.toArray true) env h Post := by
  subst hms
  intro l' m B w0 M a w r hN re Q hL hq
  obtain ⟨recs, e, hs, t, hok, hl, hlast, hp⟩ := k
  refine wpIn_region_any hm ?_
  exact wpAny_in (noDefer_of hd) hL _ _ _ _ (drawS_any hord hh t hok hlast r re fun M' a' w' g r' re' => hq .normal e hl M' a' w' hp (g.keepN hN) (Nat.le_trans hN g.next) r' re')
def flatO : Option AObj → Bool
  | some (.map _) | some (.umap _) | some (.iter _ _) => false
  | _ => true
theorem HRel.grown {P : Program} {B : Nat} {w0 : World} {M : Map} {h : Heap} {X Y : World} {row : Option Nat} (r : HRel P B w0 M h X) (hno : ∀ i, flatO (h.objs.get i) = true) (hg : X.grownBy Y row) (hr : ∀ b, row = some b → w0.heap.size ≤ b ∧ ∃ o, X.heap[b]? = some o ∧ o.isCells = false) : HRel P B w0 M h Y := by
  refine ⟨⟨below_grown r.below r.base.1 hg (fun b e => Nat.le_trans r.base.1 (hr b e).1), fun k o hk ho => ?_⟩, r.base, r.fresh, fun i p hp => ?_, r.inj⟩
  · have hx := r.belowM.marks k o hk ho
    have hlt := (Array.getElem?_eq_some_iff.1 hk).1
    rw [hg.block k (Array.getElem?_eq_some_iff.1 hx).1 (fun e => by have := (hr k e.symm).1; omega)]
    exact hx
  obtain ⟨h1, h2, h3⟩ := r.obj i p hp
  refine ⟨h1, Nat.lt_of_lt_of_le h2 hg.size, ?_⟩
  by_cases hrow : some p.b = row
  · obtain ⟨_, o, ho, hc⟩ := hr p.b hrow.symm
    have hno' := hno i
    cases hi : h.objs.get i with
    | none => exact True.intro
    | some ob =>
      rw [hi] at h3 hno'
      cases ob with
      | cells e es c ex =>
        obtain ⟨_, _, _, _, _, arr, h5, _⟩ := h3
        rw [ho] at h5
        cases h5
        cases hc
      | ro e es c =>
        intro j a ha
        obtain ⟨x, _, hx⟩ := h3 j a ha
        rw [ho] at hx
        cases o <;> first | (cases hx; done) | cases hc
      | map es => cases hno'
      | umap es => cases hno'
      | iter s pos => cases hno'
  · rw [hg.block p.b h2 hrow]
    exact h3
theorem Map.le_of_keep {P : Program} {B : Nat} {w0 : World} {M M' : Map} {h : Heap} {w : World} (r : HRel P B w0 M h w) (k : Keep h.next M M') : M.le M' := fun i p hp => by
  by_cases hi : i < h.next
  · rw [k i hi]; exact hp
  · rw [r.fresh i (by omega)] at hp; cases hp
end Go.Am
namespace Go.Am
open Go Go.Proofs Go.RowKit
def KeepsMarks (W W' : World) : Prop := ∀ (k : Nat) (o : Obj), W.heap[k]? = some o → isMark o = true → W'.heap[k]? = some o
theorem range_law {n : Nat} {P : Program} (h1 : 1 ≤ n) {gf : Nat} {g : Operand} {ps : Array Tmp} {assign body : Code} {a : Act} {w : World} {Q : Exit → Act → World → Prop} {lb : Array Value} (hg : a.eval g = .func (.func gf) #[] lb)
    (eg : ∀ args w, (callFunc gf args).run P w = .ok (.enter gf args) w) {α : Type} {encs : α → Array Value} {Kp : World → World → Prop} {S Sp : List α → Prop} {N : Nat} (hseq : SeqStopsK Fence.wide (n - 1) P gf lb encs Kp S Sp N w)
    (hKt : ∀ {A B C : World}, Kp A B → Kp B C → Kp A C) (hKb : ∀ (W : World) (l : Nat) (o o' : Obj), W.heap[l]? = some o → o.isCells = false → Kp W (W.putObj l o')) (hps : ∀ x, (encs x).size = ps.size)
    (I : List α → World → Prop) (hI : OwnFrom w.heap.size I) (h0 : I [] w) (a₁ : α → Act)
    (hassign : ∀ (l : Nat) (x : α) (W : World) (K : Act → World → Prop), K (a₁ x) W →
      assign.wpIn (Fence.wide.inRound l) (n - 1 - 1) P (Exit.then K (fun _ _ _ => False)) { tmps := (ps.zip (encs x)).foldl (fun t (p, v) => t.setIfInBounds p v) a.tmps, defers := [] } W)
    (hbody : ∀ (l : Nat) (pre : List α) (x : α) (W : World), I pre W → pre.length < N → body.wpIn (Fence.wide.inRound l) (n - 1 - 1) P (fun e _ W' => e = .normal ∧ KeepsMarks W W' ∧ Kp W W' ∧ I (pre ++ [x]) W') (a₁ x) W)
    (hdone : ∀ (D : Nat) (xs : List α) (W : World), w.heap.size ≤ D → S xs → I xs W → W.heap[D]? = some (.deferred (some [])) → Q .normal { a with defers := { target := .collected D, args := #[] } :: a.defers } W) :
    (Code.rangeFunc g ps assign body).wpIn Fence.wide n P Q a w := by
  refine wpIn_rangeFunc ?_
  intro fn hfn
  show _
  let rec' : LoopState → Option Code → Loop := fun st pe => { state := st, pending := pe, fn, tmps := a.tmps, params := ps, assign, body, defers := w.heap.size }
  obtain ⟨W1, hW1⟩ : ∃ W1, (w.alloc (.deferred (some []))).alloc (.loop (rec' .ready none)) = W1 := ⟨_, rfl⟩
  have hs1 : W1.heap.size = w.heap.size + 1 + 1 := by rw [← hW1]; simp
  have hL1 : W1.heap[w.heap.size + 1]? = some (.loop (rec' .ready none)) := by
    rw [← hW1, alloc_heap, Array.getElem?_push, if_pos (by simp)]
  have hK1 : W1.heap[w.heap.size]? = some (.deferred (some [])) := by
    rw [← hW1, alloc_heap, Array.getElem?_push, if_neg (by simp), alloc_heap, Array.getElem?_push, if_pos rfl]
  have hI1 : I [] W1 := by rw [← hW1]; exact hI.alloc _ (hI.alloc _ h0)
  have hb1 : Below w.heap.size w W1 := by
    rw [← hW1]; exact ((Below.refl _ w).alloc (Nat.le_refl _) _).alloc (by simp) _
  have heg : ∀ W, (invoke (.fn (.func gf) lb) #[.func (.yield (w.heap.size + 1)) #[] #[]]).run P W = .ok (.enter gf (#[.func (.yield (w.heap.size + 1)) #[] #[]] ++ lb)) W := fun W => by simp [invoke, go_sem, eg]
  refine ⟨w.heap.size + 1, [{ target := .collected w.heap.size, args := #[] }], W1, { target := .fn (.func gf) lb, args := #[.func (.yield (w.heap.size + 1)) #[] #[]] }, W1, gf, #[.func (.yield (w.heap.size + 1)) #[] #[]] ++ lb, W1, ?_, ?_, ?_, heg W1, fun _ => h1, ?_⟩
  · rw [← hW1]; exact run_enterLoop_outer _ _ _ _ _
  · simp only [resolve, hg]
    simp [go_sem]
  · intro _ _; trivial
  · let J : List α → World → Prop := fun pre W => I pre W ∧ W.heap[w.heap.size + 1]? = some (.loop (rec' .ready none)) ∧ W.heap[w.heap.size]? = some (.deferred (some []))
    have hJ : AbidesFrom W1.heap.size J := fun s A B row hs hg' hr => by
      have hrow : ∀ r, row = some r → w.heap.size + 1 + 1 ≤ r := fun r e => by have := (hr r e).1; omega
      refine ⟨hI s A B row hs.1 hg' (fun r e => ⟨by have := hrow r e; omega, (hr r e).2.imp fun o ho => ⟨ho.1, Obj.not_cells_of_walk ho.2⟩⟩), ?_, ?_⟩
      · rw [hg'.block _ (Array.getElem?_eq_some_iff.1 hs.2.1).1 (fun e => by have := hrow _ e.symm; omega)]; exact hs.2.1
      · rw [hg'.block _ (Array.getElem?_eq_some_iff.1 hs.2.2).1 (fun e => by have := hrow _ e.symm; omega)]; exact hs.2.2
    refine (hseq (w.heap.size + 1) J (fun _ _ => False) W1 hb1 hJ (fun _ _ _ _ h _ _ => h) ?_ ⟨hI1, hL1, hK1⟩).mono ?_
    · rintro pre x W ⟨hi, hl, hk⟩ hlen
      have hlt : w.heap.size + 1 < W.heap.size := (Array.getElem?_eq_some_iff.1 hl).1
      have hy := run_yield (P := P) (args := encs x) hl (by exact hps x)
      refine ⟨fn, _, assign, body, hy, roundIn_of_wpIn hfn (hassign _ x W _ ?_)⟩
      clear hy
      let busy : Obj := .loop { rec' .ready none with state := .busy }
      refine ⟨_, run_beginRound hl rfl, ?_⟩
      have hl2 : (W.putObj (w.heap.size + 1) busy).heap[w.heap.size + 1]? = some busy := World.putObj_heap_same hlt
      have hk2 : (W.putObj (w.heap.size + 1) busy).heap[w.heap.size]? = some (.deferred (some [])) := (World.putObj_heap_other (by omega)).trans hk
      refine wpIn_mono (hbody _ pre x _ (hI.putObj _ hi (by omega) hl rfl) hlen) ?_
      rintro e a3 W3 ⟨rfl, hm, hkp, hi3⟩
      have hl3 := hm _ _ hl2 rfl
      have hk3 := hm _ _ hk2 rfl
      have he := run_endRound (P := P) none hl3
      refine ⟨_, _, he, .inl ⟨rfl, ⟨hI.putObj _ hi3 (by omega) hl3 rfl, World.putObj_heap_same (Array.getElem?_eq_some_iff.1 hl3).1, (World.putObj_heap_other (by omega)).trans hk3⟩, hKt (hKt (hKb _ _ _ _ hl rfl) hkp) (hKb _ _ _ _ hl3 rfl)⟩⟩
    · rintro e W2 ⟨⟨v, rfl⟩, (⟨xs, hS, hi, hl, hk⟩ | ⟨pre, hSp, hf⟩)⟩
      · exact ⟨none, _, run_endLoop (P := P) hl (by simp [rec']), hdone _ xs _ (Nat.le_refl _) hS (hI.putObj _ hi (by omega) hl rfl) ((World.putObj_heap_other (by omega)).trans hk)⟩
      · exact hf.elim
end Go.Am
namespace Go.Am
open Go Go.Proofs Go.RowKit Go.Pu
theorem HRel.restart {P : Program} {B : Nat} {w0 : World} {M : Map} {h : Heap} {w : World} (r : HRel P B w0 M h w) : HRel P B w M h w :=
  ⟨BelowM.refl _ _, ⟨Nat.le_trans r.base.1 r.below.size, fun W hW => r.base.2 W (r.below.trans hW)⟩, r.fresh, r.obj, r.inj⟩
theorem HRel.rebase {P : Program} {B : Nat} {w0 : World} {M M' : Map} {h h' : Heap} {w w' : World} (r : HRel P B w0 M h w) (k : HRel P B w M' h' w') : HRel P B w0 M' h' w' :=
  ⟨r.belowM.step k.below k.belowM.marks, r.base, k.fresh, k.obj, k.inj⟩
theorem HRel.cell {P : Program} {B : Nat} {w0 : World} {M : Map} {h : Heap} {w : World} (r : HRel P B w0 M h w) {i : Nat} {p : Loc} (hM : M i = some p) {e es : Nat} {c : List AV} {ex : Bool} (hi : h.objs.get i = some (.cells e es c ex)) {j : Nat} {v : AV} (hj : c[j]? = some v) :
    p.base = 0 ∧ ∃ x, conc M v = some x ∧ w.cell? ⟨p.b, j, Option.none⟩ = some x := by
  obtain ⟨_, _, h3⟩ := r.obj i p hM
  rw [hi] at h3
  obtain ⟨g0, _, _, _, _, arr, h5, _, _, _, h9⟩ := h3
  obtain ⟨x, hx, hx'⟩ := h9 j v hj
  refine ⟨g0, x, hx, ?_⟩
  rw [cell?_eq, h5]
  exact hx'
theorem HRel.roCell {P : Program} {B : Nat} {w0 : World} {M : Map} {h : Heap} {w : World} (r : HRel P B w0 M h w) {i : Nat} {p : Loc} (hM : M i = some p) {e es : Nat} {c : List AV} (hi : h.objs.get i = some (.ro e es c)) {j : Nat} {v : AV} (hj : c[j]? = some v) :
    ∃ x, conc M v = some x ∧ w.cell? ⟨p.b, p.base + j, Option.none⟩ = some x := by
  obtain ⟨_, _, h3⟩ := r.obj i p hM
  rw [hi] at h3
  obtain ⟨x, hx, hx'⟩ := h3 j v hj
  exact ⟨x, hx, by rw [cell?_eq]; exact hx'⟩
theorem cellsN_at' : ∀ (ns : List Nd) (k : Nat) (x : Nd), ns[k]? = some x → (cellsN ns)[k * 5 + 4]? = some (.int .i64 x.s)
  | [], k, x, h => by simp at h
  | y :: ns, 0, x, h => by
    simp only [List.getElem?_cons_zero, Option.some.injEq] at h
    subst h
    rfl
  | y :: ns, k + 1, x, h => by
    have e : cellsN (y :: ns) = rowN y ++ cellsN ns := rfl
    rw [e, List.getElem?_append_right (by rw [rowN_len]; omega), rowN_len, show (k + 1) * 5 + 4 - 5 = k * 5 + 4 by omega]
    exact cellsN_at' ns k x (by simpa using h)
def sizeAt (ns : List Nd) (k : Nat) : Int := ((sizes ns)[k]?).getD 0
structure IterAt (ns : List Nd) (node : Nat) (pb ps p0 : Loc) (W : World) : Prop where
  c1 : W.cell? ⟨pb.b, 0, none⟩ = some (.int .i64 (node : Int))
  c2 : W.cell? ⟨ps.b, 0, none⟩ = some (.slice (some ⟨p0.b, p0.base + 0 * 5, none⟩) ns.length (p0.cap - 0))
  c3 : ∀ j, j < node → W.cell? ⟨p0.b, p0.base + 0 * 5 + (j * 5 + 4), none⟩ = some (.int .i64 (sizeAt ns j))
theorem IterAt.keep {ns : List Nd} {node : Nat} {pb ps p0 : Loc} {X Y : World} (hX : IterAt ns node pb ps p0 X) (hY : IterAt ns node pb ps p0 Y) : KeepB (iterA pb.b ps.b p0.b (p0.base + 0 * 5) node) X Y := by
  rintro a v (rfl | rfl | ⟨j, hj, rfl⟩) e
  · rw [hX.c1] at e; rw [hY.c1]; exact e
  · rw [hX.c2] at e; rw [hY.c2]; exact e
  · rw [hX.c3 j hj] at e; rw [hY.c3 j hj]; exact e
structure IterH (ns : List Nd) (node ib is i0 : Nat) (h : Heap) : Prop where
  b : ∃ x, h.objs.get ib = some (.cells 3 1 [.int .i64 (node : Int)] x)
  s : ∃ x, h.objs.get is = some (.cells 24 1 [.slice i0 0 ns.length 5] x)
  n : h.objs.get i0 = some (.ro 50 5 (cellsN ns))
theorem IterH.at {ns : List Nd} {node ib is i0 : Nat} {h : Heap} (k : IterH ns node ib is i0 h) (hn : node < ns.length) {B : Nat} {w0 W : World} {M : Map} (r : HRel Tryz.prog B w0 M h W) {pb ps p0 : Loc} (h1 : M ib = some pb) (h2 : M is = some ps) (h3 : M i0 = some p0) : IterAt ns node pb ps p0 W := by
  obtain ⟨x1, e1⟩ := k.b
  obtain ⟨x2, e2⟩ := k.s
  obtain ⟨_, v1, g1, c1⟩ := r.cell h1 e1 (j := 0) rfl
  obtain ⟨_, v2, g2, c2⟩ := r.cell h2 e2 (j := 0) rfl
  simp only [conc, Option.some.injEq] at g1
  subst g1
  simp only [conc, h3, Option.bind_some] at g2
  split at g2
  · simp only [Option.some.injEq] at g2
    subst g2
    refine ⟨c1, c2, fun j hj => ?_⟩
    obtain ⟨x, hx⟩ : ∃ x, ns[j]? = some x := ⟨ns[j]'(by omega), by rw [List.getElem?_eq_getElem]⟩
    obtain ⟨y, hy, hc⟩ := r.roCell h3 k.n (cellsN_at' ns j x hx)
    simp only [conc, Option.some.injEq] at hy
    subst hy
    simp only [Nat.zero_mul, Nat.add_zero]
    rw [hc]
    unfold sizeAt
    simp [sizes, hx]
  · cases g2
end Go.Am
