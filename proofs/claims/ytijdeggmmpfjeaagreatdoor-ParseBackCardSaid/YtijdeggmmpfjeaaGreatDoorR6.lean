/- Part of the proof: WrJ, WrM, WrN. -/
import Derived.Test.YtijdeggmmpfjeaaGreatDoorR5
import Derived.Test.YtijdeggmmpfjeaaGreatDoorQ4
set_option linter.unusedSimpArgs false
set_option linter.unusedVariables false
set_option linter.unusedSectionVars false
namespace Go.Am
open Go Go.Proofs Go.RowKit Go.Pu
set_option maxRecDepth 1000000
theorem checkR_nil : checkR [] ≠ 0 := by decide +kernel
theorem splN_nil {ns : List Nd} (h0 : checkR ns = 0) : splN ns 0 [] = [] := by
  have hr := check_root h0
  have he : sizeAt ns 0 = ns.length := by unfold sizeAt; rw [hr]; rfl
  unfold splN splA
  rw [he, List.drop_of_length_le (by omega)]
  rfl
theorem nd_end {ns : List Nd} (hl : Lam (sizes ns)) {node : Nat} (hi : node < ns.length) : (node : Int) + sizeAt ns node = ns.length ∨ (node : Int) + sizeAt ns node < ns.length := by
  have := sizeAt_le hl hi
  omega
theorem splZ (ns : List Nd) (h0 : checkR ns = 0) : splV 2 (splN ns 0 []) = .nilslice ∧ splO ns [] (splN ns 0 []) = twoH ns [] ∧ checkR (splN ns 0 []) = checkR [] := by
  rw [splN_nil h0]
  unfold splV splO
  rw [if_neg checkR_nil, if_neg checkR_nil]
  exact ⟨rfl, rfl, rfl⟩
theorem sem56k (ns by' : List Nd) (o : NdOk ns) (ob : NdOk by') (h0 : checkR ns = 0) (node : Nat) (hi : node < ns.length) (hb6 : by'.length ≤ 600) (hlen : ns.length + by'.length ≤ 700) (v : AV) (nv : NF 1 by' v) : CSem Tryz.prog 56 [.agg [.slice 0 0 ns.length 5], .int .i64 (node : Int), v] (twoH ns by') (.tuple [.agg [splV 2 (splN ns node by')], .int .i64 (checkR (splN ns node by'))]) (splO ns by' (splN ns node by')) := by
  have hl := check_lam o h0
  rcases nd_end hl hi with he | he
  · by_cases hz : 0 < node + by'.length + 0
    · rcases nv.form with ⟨rfl, rfl⟩ | rfl
      · exact sem56bn ns o h0 node hi he hz hb6 hlen
      · exact sem56bs ns by' o ob h0 node hi he hz hb6 hlen
    · obtain rfl : node = 0 := by omega
      obtain rfl : by' = [] := List.length_eq_zero_iff.1 (by omega)
      obtain ⟨e1, e2, e3⟩ := splZ ns h0
      rw [e1, e2, e3]
      rcases nv.form with ⟨rfl, _⟩ | rfl
      · exact sem56zn ns o h0
      · exact sem56ze ns o h0
  · rcases nv.form with ⟨rfl, rfl⟩ | rfl
    · exact sem56an ns o h0 node hi he hb6 hlen
    · exact sem56as ns by' o ob h0 node hi he hb6 hlen
theorem upTN {f i j : Nat} {ns by' : List Nd} {node : Int} {u v w : AV} (c : ∀ u v, TF 0 ns u → NF 1 by' v → CSem Tryz.prog f [.agg [u], .int .i64 node, v] (twoH ns by') w (twoH ns by')) (hw : RenV [i, j] w w) (tu : TF i ns u) (tv : NF j by' v) {h : Heap} (hi : Nat.blt i h.next = true) (ht : tells (h.objs.get i) (cellsN ns)) (hj : Nat.blt j h.next = true) (htj : tells (h.objs.get j) (cellsN by')) : CSem Tryz.prog f [.agg [u], .int .i64 node, v] h w h := by
  have key : ∀ {u0 v0 : AV}, TF 0 ns u0 → NF 1 by' v0 → RenV [i, j] u u0 → RenV [i, j] v v0 → CSem Tryz.prog f [.agg [u], .int .i64 node, v] h w h := fun t0 n0 ru rv =>
    CSem.up (c _ _ t0 n0) [i, j] [] rfl (by simp only [List.all_cons, hi, hj, List.all_nil, Bool.and_true]) ⟨⟨cellsN_plain ns, ht⟩, ⟨cellsN_plain by', htj⟩, True.intro⟩ (RenVs.cons (RenV.agg1 ru) (RenVs.cons (RenV.plain rfl) (RenVs.cons rv RenVs.nil))) True.intro rfl rfl hw
  cases tu with
  | nil e =>
    cases tv with
    | nil e' => exact key (.nil e) (.nil e') RenV.nilslice RenV.nilslice
    | sl => exact key (.nil e) .sl RenV.nilslice (RenV.slice rfl)
  | sl =>
    cases tv with
    | nil e' => exact key .sl (.nil e') (RenV.slice rfl) RenV.nilslice
    | sl => exact key .sl .sl (RenV.slice rfl) (RenV.slice rfl)
theorem upTNo {f i j k : Nat} {ns by' o : List Nd} {node : Int} {v v0 w0 w : AV} (c : CSem Tryz.prog f [.agg [.slice 0 0 ns.length 5], .int .i64 node, v0] (twoH ns by') w0 (threeH ns by' o)) (rv : RenV [i, j] v v0) {h h' : Heap} (hi : Nat.blt i h.next = true) (ht : tells (h.objs.get i) (cellsN ns)) (hj : Nat.blt j h.next = true) (htj : tells (h.objs.get j) (cellsN by')) (hadd : h.add (.cells 50 5 (cellsN o) false) = some (k, h')) (hw : RenV [i, j, k] w w0) : CSem Tryz.prog f [.agg [.slice i 0 ns.length 5], .int .i64 node, v] h w h' := by
  have hk := add_next hadd
  subst hk
  refine CSem.up c [i, j] [⟨50, 5, cellsN o, false⟩] rfl (by simp only [List.all_cons, hi, hj, List.all_nil, Bool.and_true]) ⟨⟨cellsN_plain ns, ht⟩, ⟨cellsN_plain by', htj⟩, True.intro⟩ (RenVs.cons (RenV.agg1 (RenV.slice rfl)) (RenVs.cons (RenV.plain rfl) (RenVs.cons rv RenVs.nil))) ⟨⟨(by show (threeH ns by' o).objs.get 2 = _; rfl), cellsN_plain _⟩, True.intro⟩ rfl (h' := h') ?_ ?_
  · simp only [addAll, hadd]
  · exact hw
theorem NF.ren {i j : Nat} {l : List Nd} {v : AV} (p : NF j l v) : ∃ v0, NF 1 l v0 ∧ RenV [i, j] v v0 := by
  cases p with
  | nil e => exact ⟨_, .nil e, RenV.nilslice⟩
  | sl => exact ⟨_, .sl, RenV.slice rfl⟩
def splE (ns : List Nd) (node : Int) (by' : List Nd) : Int := if findR ns node = 0 then (if 600 < by'.length then 5 else checkR (splN ns node.toNat by')) else findR ns node
structure SplC (f : Nat) : Prop where
  e : ∀ (ns by' : List Nd) (o : NdOk ns) (node : Int) (hr : -9223372036854775808 ≤ node ∧ node < 9223372036854775808) (he : findR ns node ≠ 0) (u v : AV) (tu : TF 0 ns u) (nv : NF 1 by' v), CSem Tryz.prog f [.agg [u], .int .i64 node, v] (twoH ns by') (.tuple [.agg [.nilslice], .int .i64 (findR ns node)]) (twoH ns by')
  l : ∀ (ns by' : List Nd) (o : NdOk ns) (h0 : checkR ns = 0) (node : Nat) (hi : node < ns.length) (hb : 600 < by'.length), CSem Tryz.prog f [.agg [.slice 0 0 ns.length 5], .int .i64 (node : Int), .slice 1 0 by'.length 5] (twoH ns by') (.tuple [.agg [.nilslice], .int .i64 5]) (twoH ns by')
  k : ∀ (ns by' : List Nd) (o : NdOk ns) (ob : NdOk by') (h0 : checkR ns = 0) (node : Nat) (hi : node < ns.length) (hb6 : by'.length ≤ 600) (hlen : ns.length + by'.length ≤ 700) (v : AV) (nv : NF 1 by' v), CSem Tryz.prog f [.agg [.slice 0 0 ns.length 5], .int .i64 (node : Int), v] (twoH ns by') (.tuple [.agg [splV 2 (splN ns node by')], .int .i64 (checkR (splN ns node by'))]) (splO ns by' (splN ns node by'))
theorem spl56 : SplC 56 := ⟨sem56e, sem56l, sem56k⟩
theorem findR_of {ns : List Nd} {node : Int} (h : findR ns node = 0) : checkR ns = 0 ∧ ∃ n : Nat, node = (n : Int) ∧ n < ns.length := by
  have h0 : checkR ns = 0 := by
    rcases Decidable.em (checkR ns = 0) with h' | h'
    · exact h'
    · rw [findR_c h'] at h; exact absurd h h'
  have hk : ¬ (node < 0 ∨ (ns.length : Int) ≤ node) := fun h' => by rw [findR_o h0 h'] at h; cases h
  exact ⟨h0, node.toNat, by omega, by omega⟩
theorem SplC.err {f : Nat} (s : SplC f) {ns by' : List Nd} (o : NdOk ns) (ob : NdOk by') (hlen : 600 < by'.length ∨ ns.length + by'.length ≤ 700) {node : Int} (hr : -9223372036854775808 ≤ node ∧ node < 9223372036854775808) (he : splE ns node by' ≠ 0) {i j : Nat} {u v : AV} (tu : TF i ns u) (nv : NF j by' v) {h : Heap} (hi : Nat.blt i h.next = true) (ht : tells (h.objs.get i) (cellsN ns)) (hj : Nat.blt j h.next = true) (htj : tells (h.objs.get j) (cellsN by')) : CSem Tryz.prog f [.agg [u], .int .i64 node, v] h (.tuple [.agg [.nilslice], .int .i64 (splE ns node by')]) h := by
  refine upTN (fun u v tu nv => ?_) (RenV.tuple (RenVs.cons (RenV.agg1 RenV.nilslice) (RenVs.plain rfl))) tu nv hi ht hj htj
  unfold splE at he ⊢
  by_cases hf : findR ns node = 0
  · rw [if_pos hf] at he ⊢
    obtain ⟨h0, n, rfl, hn⟩ := findR_of hf
    rw [find_sl tu hn]
    rw [Int.toNat_natCast] at he ⊢
    by_cases hb : 600 < by'.length
    · rw [if_pos hb]
      cases nv with
      | nil e => rw [e] at hb; simp at hb
      | sl => exact s.l ns by' o h0 n hn hb
    · rw [if_neg hb] at he ⊢
      have := s.k ns by' o ob h0 n hn (by omega) (hlen.resolve_left hb) v nv
      unfold splV splO at this
      rw [if_neg he, if_neg he] at this
      exact this
  · rw [if_neg hf]
    exact s.e ns by' o node hr hf u v tu nv
theorem SplC.ok {f : Nat} (s : SplC f) {ns by' : List Nd} (o : NdOk ns) (ob : NdOk by') (hlen : 600 < by'.length ∨ ns.length + by'.length ≤ 700) {node : Nat} (he : splE ns (node : Int) by' = 0) {i j k : Nat} {v : AV} (nv : NF j by' v) {h h' : Heap} (hi : Nat.blt i h.next = true) (ht : tells (h.objs.get i) (cellsN ns)) (hj : Nat.blt j h.next = true) (htj : tells (h.objs.get j) (cellsN by')) (hadd : h.add (.cells 50 5 (cellsN (splN ns node by')) false) = some (k, h')) : CSem Tryz.prog f [.agg [.slice i 0 ns.length 5], .int .i64 (node : Int), v] h (.tuple [.agg [.slice k 0 (splN ns node by').length 5], .int .i64 0]) h' := by
  unfold splE at he
  by_cases hf : findR ns (node : Int) = 0
  · rw [if_pos hf, Int.toNat_natCast] at he
    obtain ⟨h0, n, hn', hn⟩ := findR_of hf
    obtain rfl : node = n := by omega
    by_cases hb : 600 < by'.length
    · rw [if_pos hb] at he; cases he
    · rw [if_neg hb] at he
      obtain ⟨v0, n0, rv⟩ := nv.ren (i := i)
      have c := s.k ns by' o ob h0 node hn (by omega) (hlen.resolve_left hb) v0 n0
      unfold splV splO at c
      rw [if_pos he, if_pos he, he] at c
      exact upTNo c rv hi ht hj htj hadd (RenV.tuple (RenVs.cons (RenV.agg1 (RenV.slice rfl)) (RenVs.plain rfl)))
  · rw [if_neg hf] at he
    exact absurd he hf
theorem t55k {ns : List Nd} (o : NdOk ns) (h0 : checkR ns = 0) {node : Nat} (hn : node < ns.length) {h h' : Heap} {i j : Nat} (hi : Nat.blt i h.next = true) (ht : tells (h.objs.get i) (cellsN ns)) (hadd : h.add (.cells 50 5 (cellsN (subF ns node)) false) = some (j, h')) : CSem Tryz.prog 55 [.agg [.slice i 0 ns.length 5], .int .i64 (node : Int)] h (.tuple [.slice j 0 (subF ns node).length 5, .int .i64 0]) h' := by
  have hj := add_next hadd
  subst hj
  refine CSem.up (sem55k ns o h0 node hn) [i] [⟨50, 5, cellsN (subF ns node), false⟩] rfl (by simp only [List.all_cons, hi, List.all_nil, Bool.and_true]) ⟨⟨cellsN_plain ns, ht⟩, True.intro⟩ (aN rfl) ⟨⟨(by show (cloneH ns _).objs.get 1 = _; rfl), cellsN_plain _⟩, True.intro⟩ rfl (h' := h') ?_ (RenV.tuple (RenVs.cons (RenV.slice rfl) (RenVs.plain rfl)))
  simp only [addAll, hadd]
theorem t23s {ns : List Nd} (hn : ns.length ≤ 1400) {h : Heap} {i j : Nat} (hi : Nat.blt i h.next = true) (ht : tells (h.objs.get i) (cellsN ns)) (hj : Nat.blt j h.next = true) (htj : tells (h.objs.get j) (cellsN ns)) : CSem Tryz.prog 23 [.agg [.slice i 0 ns.length 5], .agg [.slice j 0 ns.length 5]] h (.bool true) h := by
  have hE := sem23 ns ns hn
  rw [equalB_refl] at hE
  exact upTwo hE rfl hi ht hj htj
end Go.Am
namespace Go.Am
open Go Go.Proofs Go.RowKit Go.Pu
set_option maxRecDepth 1000000
section
variable {P : Program} {ext : FuncId → Bool} {n : Nat} {ops : Array Oper} {l : List Oper} {r0 : Option (Nat × TypeId × List AV)} {rs : List (Option (Nat × TypeId × List AV))} {env env1 : Env} {h h1 h2 : Heap} {K : List Rec → Env → List Heap → Prop} {L : List Tmp} {d : Option Tmp} {ty : TypeId} {pos : String} {af : Array Edge} {gd : Option (Nat × Bool)}
theorem RD.opRem (hext : ExtOk P ext) {t t' : TypeId} {x y : Operand} {a b : Nat} (hL : (⟨d, .binOp .rem t x y t', ty, pos, af, gd⟩ : Oper).looksAt ops = L) (hw : awanted ops (aeval env) (⟨d, .binOp .rem t x y t', ty, pos, af, gd⟩ : Oper) = some true) (hx : gfast L env x = some (.int .i64 (a : Int))) (hy : gfast L env y = some (.int .i64 (b : Int))) (hb : b ≠ 0) (hp : aput env n d (.int .i64 ((a % b : Nat) : Int)) = some env1)
    (rest : RD P n ops l rs env1 h fun recs e hs => K (⟨(⟨d, .binOp .rem t x y t', ty, pos, af, gd⟩ : Oper), env, .calm, .int .i64 ((a % b : Nat) : Int)⟩ :: recs) e hs) : RD P n ops ((⟨d, .binOp .rem t x y t', ty, pos, af, gd⟩ : Oper) :: l) (r0 :: rs) env h K :=
  RD.calmF hL hw (fun _ => OSem.bin hext hx hy (by
    have h0 : ieq (b : Int) 0 = false := by
      cases e : ieq (b : Int) 0 with
      | false => rfl
      | true => rw [ieq_iff] at e; simp at e; omega
    rw [abin_i rfl rfl]
    simp only [aArith, h0, cond_false, Int.ofNat_tmod])) hp rest
theorem RD.opConv (hext : ExtOk P ext) {s t : TypeId} {x : Operand} {D : TypeDesc} {k k' : IntKind} {m : Int} (hL : (⟨d, .convert s t x, ty, pos, af, gd⟩ : Oper).looksAt ops = L) (hw : awanted ops (aeval env) (⟨d, .convert s t x, ty, pos, af, gd⟩ : Oper) = some true) (hx : gfast L env x = some (.int k m)) (hs : P.underlying s = some D) (ht : P.underlying t = some (.int k')) (hi : inI k' m = true) (hp : aput env n d (.int k' m) = some env1)
    (rest : RD P n ops l rs env1 h fun recs e hs => K (⟨(⟨d, .convert s t x, ty, pos, af, gd⟩ : Oper), env, .calm, .int k' m⟩ :: recs) e hs) : RD P n ops ((⟨d, .convert s t x, ty, pos, af, gd⟩ : Oper) :: l) (r0 :: rs) env h K :=
  RD.calmF hL hw (fun _ => OSem.convI hext hx hs ht hi) hp rest
end
theorem checkR_vals (ns : List Nd) : checkR ns = 0 ∨ checkR ns = 4 ∨ checkR ns = 5 := by
  unfold checkR
  split
  · exact .inr (.inr rfl)
  · split
    · split
      · exact .inr (.inr rfl)
      · exact .inl rfl
    · exact .inr (.inl rfl)
theorem NdOk.sub {ns : List Nd} (o : NdOk ns) (i : Nat) : NdOk (subF ns i) := by
  have hm : ∀ x ∈ subF ns i, x ∈ ns := fun x hx => List.mem_of_mem_drop (List.mem_of_mem_take hx)
  refine ⟨?_, fun x hx => o.k x (hm x hx), fun x hx => o.s x (hm x hx), fun x hx => o.t x (hm x hx)⟩
  have := o.len
  unfold subF
  rw [List.length_take, List.length_drop]
  omega
set_option maxHeartbeats 4000000 in
theorem sem18f (ns : List Nd) (ia : NdIn ns) (hr : rightB ns = false) (a b : Nat) (u : AV) (tu : TF 0 ns u) : CSem Tryz.prog 18 [.agg [u], .int .u8 (a : Int), .int .u8 (b : Int)] (nodesH ns) (.bool true) (nodesH ns) := by
  have hT : ∀ {h : Heap}, Nat.blt 0 h.next = true → tells (h.objs.get 0) (cellsN ns) → CSem Tryz.prog 37 [.agg [u]] h (.bool false) h := fun hi h2 => hr ▸ tf37 ia tu hi h2
  rcases tu.form with rfl | rfl
  all_goals
    refine CSem.into Tryz.func18 rfl (by decide) Tryz.ntmps18 rfl rfl rfl ?_
    dsimp only [nodesH]
    repeat' (first
     | refine S0 ?_
     | refine Sc hT ?_
     | refine Sc (sem20 _) ?_
     | (refine S2 ?_ ?_) <;> intro hc <;> try (exfalso; first | omega | (simp at hc; done))
     | refine St ?_
     | fail)
    all_goals exact ⟨rfl, _, rfl, [0], ⟨rfl, rfl, rfl, RenO.ro (RenVs.plain (cellsN_plain _)), True.intro⟩, RenV.plain rfl⟩
set_option maxHeartbeats 32000000 in
theorem sem18k (ns : List Nd) (ia : NdIn ns) (hr : rightB ns = true) (a b : Nat) (ha : a < 256) (hb : b < 256) : CSem Tryz.prog 18 [.agg [.slice 0 0 ns.length 5], .int .u8 (a : Int), .int .u8 (b : Int)] (nodesH ns) (.bool true) (nodesH ns) := by
  obtain ⟨ht, h0⟩ := right_thin hr
  obtain ⟨hn1, hn0⟩ := right_len hr
  have ok := thin_ok ia ht
  have hla := ok.len
  have hne : ns.length ≠ 0 := by omega
  have hl := check_lam ok h0
  have hi : a % ns.length < ns.length := Nat.mod_lt _ hn0
  have hk : b % ns.length < ns.length := Nat.mod_lt _ hn0
  have hT : ∀ {h : Heap}, Nat.blt 0 h.next = true → tells (h.objs.get 0) (cellsN ns) → CSem Tryz.prog 37 [.agg [.slice 0 0 ns.length 5]] h (.bool true) h := fun hi h2 => hr ▸ tf37 ia TF.sl hi h2
  have key : ∀ i k : Nat, i < ns.length → k < ns.length → a % ns.length = i → b % ns.length = k → CSem Tryz.prog 18 [.agg [.slice 0 0 ns.length 5], .int .u8 (a : Int), .int .u8 (b : Int)] (nodesH ns) (.bool true) (nodesH ns) := by
    intro i k hi hk ei ek
    subst ei ek
    have e23 : ∀ {h : Heap} {p q : Nat}, Nat.blt p h.next = true → tells (h.objs.get p) (cellsN ns) → Nat.blt q h.next = true → tells (h.objs.get q) (cellsN ns) → CSem Tryz.prog 23 [.agg [.slice p 0 ns.length 5], .agg [.slice q 0 ns.length 5]] h (.bool true) h := fun q1 q2 q3 q4 => t23s (by omega) q1 q2 q3 q4
    have hli := subF_len hl hi
    have hlk := subF_len hl hk
    have hzi := sizeAt_le hl hi
    have hzk := sizeAt_le hl hk
    have oi := ok.sub (a % ns.length)
    have ok' := ok.sub (b % ns.length)
    have f0 : ∀ j : Nat, j < ns.length → findR ns (j : Int) = 0 := fun j hj => findR_z h0 (by omega)
    have c1 : ∀ {h h' : Heap} {p q r : Nat}, Nat.blt p h.next = true → tells (h.objs.get p) (cellsN ns) → Nat.blt q h.next = true → tells (h.objs.get q) (cellsN (subF ns (a % ns.length))) → h.add (.cells 50 5 (cellsN ns) false) = some (r, h') → CSem Tryz.prog 56 [.agg [.slice p 0 ns.length 5], .int .i64 ((a % ns.length : Nat) : Int), .slice q 0 (subF ns (a % ns.length)).length 5] h (.tuple [.agg [.slice r 0 ns.length 5], .int .i64 0]) h' := fun q1 q2 q3 q4 q5 => by
      have := spl56.ok ok oi (.inr (by omega)) (node := a % ns.length) (by unfold splE; rw [if_pos (f0 _ hi), if_neg (by omega), Int.toNat_natCast, splN_self hl hi]; exact h0) NF.sl q1 q2 q3 q4 (by rw [splN_self hl hi]; exact q5)
      rw [splN_self hl hi] at this
      exact this
    by_cases he : splE ns ((a % ns.length : Nat) : Int) (subF ns (b % ns.length)) = 0
    · have hm : checkR (splN ns (a % ns.length) (subF ns (b % ns.length))) = 0 := by
        unfold splE at he
        rw [if_pos (f0 _ hi), if_neg (by omega), Int.toNat_natCast] at he
        exact he
      have om := splN_ok ok h0 ok' hi (by omega)
      have hml := splN_len hl hi (subF ns (b % ns.length))
      have hback := splN_back hl hi hk
      have c2 : ∀ {h h' : Heap} {p q r : Nat}, Nat.blt p h.next = true → tells (h.objs.get p) (cellsN ns) → Nat.blt q h.next = true → tells (h.objs.get q) (cellsN (subF ns (b % ns.length))) → h.add (.cells 50 5 (cellsN (splN ns (a % ns.length) (subF ns (b % ns.length)))) false) = some (r, h') → CSem Tryz.prog 56 [.agg [.slice p 0 ns.length 5], .int .i64 ((a % ns.length : Nat) : Int), .slice q 0 (subF ns (b % ns.length)).length 5] h (.tuple [.agg [.slice r 0 (splN ns (a % ns.length) (subF ns (b % ns.length))).length 5], .int .i64 0]) h' := fun q1 q2 q3 q4 q5 => spl56.ok ok ok' (.inr (by omega)) he NF.sl q1 q2 q3 q4 q5
      generalize splN ns (a % ns.length) (subF ns (b % ns.length)) = m at hm om hml hback c2
      have hmi : a % ns.length < m.length := by omega
      have fm : findR m ((a % ns.length : Nat) : Int) = 0 := findR_z hm (by omega)
      have c3 : ∀ {h h' : Heap} {p q r : Nat}, Nat.blt p h.next = true → tells (h.objs.get p) (cellsN m) → Nat.blt q h.next = true → tells (h.objs.get q) (cellsN (subF ns (a % ns.length))) → h.add (.cells 50 5 (cellsN ns) false) = some (r, h') → CSem Tryz.prog 56 [.agg [.slice p 0 m.length 5], .int .i64 ((a % ns.length : Nat) : Int), .slice q 0 (subF ns (a % ns.length)).length 5] h (.tuple [.agg [.slice r 0 ns.length 5], .int .i64 0]) h' := fun q1 q2 q3 q4 q5 => by
        have := spl56.ok om oi (.inr (by omega)) (node := a % ns.length) (by unfold splE; rw [if_pos fm, if_neg (by omega), Int.toNat_natCast, hback]; exact h0) NF.sl q1 q2 q3 q4 (by rw [hback]; exact q5)
        rw [hback] at this
        exact this
      have k1 : ∀ {h h' : Heap} {p q : Nat}, Nat.blt p h.next = true → tells (h.objs.get p) (cellsN ns) → h.add (.cells 50 5 (cellsN (subF ns (a % ns.length))) false) = some (q, h') → CSem Tryz.prog 55 [.agg [.slice p 0 ns.length 5], .int .i64 ((a % ns.length : Nat) : Int)] h (.tuple [.slice q 0 (subF ns (a % ns.length)).length 5, .int .i64 0]) h' := fun q1 q2 q3 => t55k ok h0 hi q1 q2 q3
      have k2 : ∀ {h h' : Heap} {p q : Nat}, Nat.blt p h.next = true → tells (h.objs.get p) (cellsN ns) → h.add (.cells 50 5 (cellsN (subF ns (b % ns.length))) false) = some (q, h') → CSem Tryz.prog 55 [.agg [.slice p 0 ns.length 5], .int .i64 ((b % ns.length : Nat) : Int)] h (.tuple [.slice q 0 (subF ns (b % ns.length)).length 5, .int .i64 0]) h' := fun q1 q2 q3 => t55k ok h0 hk q1 q2 q3
      have hsi : (subF ns (a % ns.length)).length ≤ 120 := by omega
      have hsi0 : (subF ns (a % ns.length)).length ≠ 0 := by omega
      have hsk : (subF ns (b % ns.length)).length ≤ 120 := by omega
      have hsk0 : (subF ns (b % ns.length)).length ≠ 0 := by omega
      generalize subF ns (a % ns.length) = si at c1 c3 k1 hsi hsi0
      generalize subF ns (b % ns.length) = sk at c2 k2 hsk hsk0
      refine CSem.into Tryz.func18 rfl (by decide) Tryz.ntmps18 rfl rfl rfl ?_
      dsimp only [nodesH]
      repeat' (first
       | refine S0 ?_
       | refine Sc hT ?_
       | ((with_reducible refine' RS.drawE mixed [none, none, none, none, none, none, none, none, none, none, none, none, none, none] ?hn ?hms ?hord ?hh ?_); (case hn | hms | hord | hh => exact rfl))
       | ((with_reducible refine' RD.opRem exts_ok ?hLL ?hw ?hx ?hy ?hb ?hp ?_); (case hLL | hw | hx | hy => exact rfl); (case hb => exact hne); (case hp => exact rfl))
       | ((with_reducible refine' RD.opConv exts_ok ?hLL ?hw ?hx ?hs ?ht ?hi ?hp ?_); (case hLL | hw | hx | hs | ht => exact rfl); (case hi => first | exact inI_i64 (by omega) (by omega)); (case hp => exact rfl))
       | ((with_reducible refine' RD.opLenL exts_ok ?hLL ?hw ?hx ?hu ?hp ?_); (case hLL | hw | hx | hu | hp => exact rfl))
       | refine Sc (at25 hne hla) ?_
       | refine Sc k1 ?_
       | refine Sc k2 ?_
       | ((with_reducible refine' RO.app0 exts_ok ?hw ?hx ?hy ?ht ?hu ?hi ?hz ?hzl ?hes ?he0 ?hn ?hone ?hm ?hb ?hb2 ?ha ?hp ?_); (case hw | hx | hy | ht | hu | hi | hz | hzl | hes | he0 => exact rfl); (case hn => exact cellsN_whole _); (case hone => exact allOne_rows _); (case hm | hb => omega); (case hb2 => (show _ * 48 ≤ _; omega)); (case ha | hp => exact rfl))
       | refine Sc c1 ?_
       | refine Sc c2 ?_
       | refine Sc c3 ?_
       | refine Sc e23 ?_
       | refine Sc (sem20 _) ?_
       | (refine S2 ?_ ?_) <;> intro hc <;> try (exfalso; first | omega | (simp at hc; done))
       | refine St ?_
       | ((with_reducible refine RD.nil ?_); (refine' RDk.intro ?oks ?hl ?_); (case hl => exact rfl); (case oks => (repeat' (first | exact True.intro | refine And.intro ?_ ?_ | exact rfl | exact OSem.load1 exts_ok rfl rfl rfl rfl | exact OSem.loadN exts_ok rfl rfl rfl rfl))))
       | refine Sd ?_
       | fail)
      all_goals first
        | (exfalso; omega)
        | exact ⟨rfl, _, rfl, [0], ⟨rfl, rfl, rfl, RenO.ro (RenVs.plain (cellsN_plain _)), True.intro⟩, RenV.plain rfl⟩
    · have hE : splE ns ((a % ns.length : Nat) : Int) (subF ns (b % ns.length)) = 4 ∨ splE ns ((a % ns.length : Nat) : Int) (subF ns (b % ns.length)) = 5 := by
        unfold splE at he ⊢
        rw [if_pos (f0 _ hi), if_neg (by omega), Int.toNat_natCast] at he ⊢
        rcases checkR_vals (splN ns (a % ns.length) (subF ns (b % ns.length))) with h | h | h
        · exact absurd h he
        · exact .inl h
        · exact .inr h
      have c2 : ∀ {E : Int}, splE ns ((a % ns.length : Nat) : Int) (subF ns (b % ns.length)) = E → ∀ {h : Heap} {p q : Nat}, Nat.blt p h.next = true → tells (h.objs.get p) (cellsN ns) → Nat.blt q h.next = true → tells (h.objs.get q) (cellsN (subF ns (b % ns.length))) → CSem Tryz.prog 56 [.agg [.slice p 0 ns.length 5], .int .i64 ((a % ns.length : Nat) : Int), .slice q 0 (subF ns (b % ns.length)).length 5] h (.tuple [.agg [.nilslice], .int .i64 E]) h := fun e _ _ _ q1 q2 q3 q4 => by
        have := spl56.err ok ok' (.inr (by omega)) (node := ((a % ns.length : Nat) : Int)) (by omega) he TF.sl NF.sl q1 q2 q3 q4
        rwa [e] at this
      have k1 : ∀ {h h' : Heap} {p q : Nat}, Nat.blt p h.next = true → tells (h.objs.get p) (cellsN ns) → h.add (.cells 50 5 (cellsN (subF ns (a % ns.length))) false) = some (q, h') → CSem Tryz.prog 55 [.agg [.slice p 0 ns.length 5], .int .i64 ((a % ns.length : Nat) : Int)] h (.tuple [.slice q 0 (subF ns (a % ns.length)).length 5, .int .i64 0]) h' := fun q1 q2 q3 => t55k ok h0 hi q1 q2 q3
      have k2 : ∀ {h h' : Heap} {p q : Nat}, Nat.blt p h.next = true → tells (h.objs.get p) (cellsN ns) → h.add (.cells 50 5 (cellsN (subF ns (b % ns.length))) false) = some (q, h') → CSem Tryz.prog 55 [.agg [.slice p 0 ns.length 5], .int .i64 ((b % ns.length : Nat) : Int)] h (.tuple [.slice q 0 (subF ns (b % ns.length)).length 5, .int .i64 0]) h' := fun q1 q2 q3 => t55k ok h0 hk q1 q2 q3
      have hsi : (subF ns (a % ns.length)).length ≤ 120 := by omega
      have hsi0 : (subF ns (a % ns.length)).length ≠ 0 := by omega
      have hsk : (subF ns (b % ns.length)).length ≤ 120 := by omega
      have hsk0 : (subF ns (b % ns.length)).length ≠ 0 := by omega
      rcases hE with hE | hE
      all_goals
        have c2 := @c2 _ hE
        generalize subF ns (a % ns.length) = si at c1 k1 hsi hsi0
        generalize subF ns (b % ns.length) = sk at c2 k2 hsk hsk0
        refine CSem.into Tryz.func18 rfl (by decide) Tryz.ntmps18 rfl rfl rfl ?_
        dsimp only [nodesH]
        repeat' (first
         | refine S0 ?_
         | refine Sc hT ?_
         | ((with_reducible refine' RS.drawE mixed [none, none, none, none, none, none, none, none, none, none, none, none, none, none] ?hn ?hms ?hord ?hh ?_); (case hn | hms | hord | hh => exact rfl))
         | ((with_reducible refine' RD.opRem exts_ok ?hLL ?hw ?hx ?hy ?hb ?hp ?_); (case hLL | hw | hx | hy => exact rfl); (case hb => exact hne); (case hp => exact rfl))
         | ((with_reducible refine' RD.opConv exts_ok ?hLL ?hw ?hx ?hs ?ht ?hi ?hp ?_); (case hLL | hw | hx | hs | ht => exact rfl); (case hi => first | exact inI_i64 (by omega) (by omega)); (case hp => exact rfl))
         | ((with_reducible refine' RD.opLenL exts_ok ?hLL ?hw ?hx ?hu ?hp ?_); (case hLL | hw | hx | hu | hp => exact rfl))
         | refine Sc (at25 hne hla) ?_
         | refine Sc k1 ?_
         | refine Sc k2 ?_
         | ((with_reducible refine' RO.app0 exts_ok ?hw ?hx ?hy ?ht ?hu ?hi ?hz ?hzl ?hes ?he0 ?hn ?hone ?hm ?hb ?hb2 ?ha ?hp ?_); (case hw | hx | hy | ht | hu | hi | hz | hzl | hes | he0 => exact rfl); (case hn => exact cellsN_whole _); (case hone => exact allOne_rows _); (case hm | hb => omega); (case hb2 => (show _ * 48 ≤ _; omega)); (case ha | hp => exact rfl))
         | refine Sc c1 ?_
         | refine Sc c2 ?_
         | refine Sc e23 ?_
         | refine Sc (sem20 _) ?_
         | (refine S2 ?_ ?_) <;> intro hc <;> try (exfalso; first | omega | (simp at hc; done))
         | refine St ?_
         | ((with_reducible refine RD.nil ?_); (refine' RDk.intro ?oks ?hl ?_); (case hl => exact rfl); (case oks => (repeat' (first | exact True.intro | refine And.intro ?_ ?_ | exact rfl | exact OSem.load1 exts_ok rfl rfl rfl rfl | exact OSem.loadN exts_ok rfl rfl rfl rfl))))
         | refine Sd ?_
         | fail)
        all_goals first
          | (exfalso; omega)
          | exact ⟨rfl, _, rfl, [0], ⟨rfl, rfl, rfl, RenO.ro (RenVs.plain (cellsN_plain _)), True.intro⟩, RenV.plain rfl⟩
  exact key _ _ hi hk rfl rfl
theorem sem18 (ns : List Nd) (ia : NdIn ns) (a b : Nat) (ha : a < 256) (hb : b < 256) (u : AV) (tu : TF 0 ns u) : CSem Tryz.prog 18 [.agg [u], .int .u8 (a : Int), .int .u8 (b : Int)] (nodesH ns) (.bool true) (nodesH ns) := by
  cases hr : rightB ns with
  | false => exact sem18f ns ia hr a b u tu
  | true =>
    rw [find_sl tu (node := 0) (right_len hr).2]
    exact sem18k ns ia hr a b ha hb
end Go.Am
namespace Go.Am
open Go Go.Proofs Go.RowKit Go.Pu Go.ChangeShapes Go.WideShapes Go.Deep
set_option maxRecDepth 100000
theorem byte_arg {H : Type} {enc : TypeId × Value → H} {W : World} {base : Nat} {v : Value} {d : DataW H} {p : List MemPlace} (hok : Value.okWide Tryz.prog W .any base 5 v) (h : DataW.Trod enc Tryz.prog W 0 (fun _ => true) true 5 v d p) : ∃ n : Nat, v = .int .u8 (n : Int) ∧ n < 256 := by
  obtain ⟨fuel, hf⟩ := h
  simp only [Value.okWide, Tryz.underlying5] at hok
  have hf' : DataW.trod enc Tryz.prog W 0 (fun _ => true) true fuel 5 [v] = some (d, p) := by
    cases v <;> first | exact hf | (simp only [Cell.okWide, Tryz.underlying5, Cell.ok] at hok)
  obtain ⟨z, e, _, w⟩ := DataW.trod_int Tryz.underlying5 hf'
  obtain rfl : v = .int .u8 z := by simpa using e
  simp only [Lit.wf, IntKind.min, IntKind.max, IntKind.signed, IntKind.bits, Bool.and_eq_true, decide_eq_true_eq] at w
  have k4 : 0 ≤ z ∧ z ≤ 255 := by simpa using w
  exact ⟨z.toNat, by congr 1; omega, by omega⟩
theorem calls18 (W : World) (g : Known Tryz.prog W.heap.size W) (v : Value) (a b : Nat) (hv : TreeIn W v) (ha : a < 256) (hb : b < 256) :
    Calls Tryz.prog 18 #[.agg #[v], .int .u8 (a : Int), .int .u8 (b : Int)] W fun e w' => e = .returned (.bool true) ∧ Below W.heap.size W w' := by
  obtain ⟨l0, ns, u, tu, iu, t0, c0⟩ := treeIn_TF hv 0
  have c := up1TF (more := [.int .u8 (a : Int), .int .u8 (b : Int)]) (fun u t => sem18 ns iu a b ha hb u t) rfl (RenV.plain rfl) tu (h := pzH ns []) rfl rfl
  refine (c W.heap.size W (map2 l0 none) W (heapTP g t0 (fun p hp => by cases hp)) [.agg #[v], .int .u8 (a : Int), .int .u8 (b : Int)] (by simp [concs, conc, c0 (map2 l0 none) rfl])).mono ?_
  rintro e w' ⟨M', c, _, rfl, hc, r⟩
  simp only [conc, Option.some.injEq] at hc
  exact ⟨by rw [← hc], r.below⟩
end Go.Am
