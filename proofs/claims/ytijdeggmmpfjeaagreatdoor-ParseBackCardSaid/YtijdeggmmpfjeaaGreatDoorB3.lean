/- Part of the proof: WkS, WkT, WkU. -/
import Derived.Test.YtijdeggmmpfjeaaGreatDoorB2
import Derived.Test.YtijdeggmmpfjeaaGreatDoorA3
set_option linter.unusedSimpArgs false
set_option linter.unusedVariables false
set_option linter.unusedSectionVars false
namespace Go.Am
open Go Go.Proofs Go.RowKit Go.Pu
set_option maxRecDepth 100000
set_option maxHeartbeats 2000000 in
theorem sem232 (s x : List UInt8) (hl : s.length ≤ 1000000) (hx : x.length ≤ 1000000) (h : Heap) : CSem Tryz.prog 232 [.str s, .str x] h (.bool (decide (x.length ≤ s.length ∧ s.drop (s.length - x.length) = x))) h := by
  refine CSem.pure ?_ (RenVs.plain rfl) (RenV.plain rfl) h
  refine CSem.into Tryz.func232 rfl (by decide) Tryz.ntmps232 rfl rfl rfl ?_
  dsimp only
  repeat' (first
   | refine S0 ?_
   | ((with_reducible refine' RO.subS (a := s.length - x.length) exts_ok ?hw ?hx ?hl ?hu ?ht ?hb ?ha ?hp ?_); (case hw => exact rfl); (case hx => exact rfl); (case hl => exact rfl); (case hu => exact rfl); (case ht => exact rfl); (case hb => exact rfl); (case ha => exact abound_le (by omega) (by omega)); (case hp => exact rfl))
   | (refine S2 ?_ ?_) <;> intro hc <;> try (exfalso; first | omega | (simp at hc; done))
   | refine St ?_
   | fail)
  all_goals first
    | (rw [decide_eq_true ⟨by omega, by simpa using hc⟩]; exact ⟨rfl, _, rfl, [], ⟨rfl, rfl, rfl, True.intro⟩, RenV.plain rfl⟩)
    | (rw [decide_eq_false (fun h => hc (by simpa using h.2))]; exact ⟨rfl, _, rfl, [], ⟨rfl, rfl, rfl, True.intro⟩, RenV.plain rfl⟩)
    | (rw [decide_eq_false (fun h => hc (by have := h.1; omega))]; exact ⟨rfl, _, rfl, [], ⟨rfl, rfl, rfl, True.intro⟩, RenV.plain rfl⟩)
theorem cutP_none {x s : List UInt8} (e : cutP x s = none) : ¬ (x.length ≤ s.length ∧ s.take x.length = x) := by
  rintro ⟨h1, h2⟩
  have : cutP x s = some (s.drop x.length) := cutP_iff.2 (by rw [← h2, List.length_take]; conv => rhs; rw [Nat.min_eq_left h1]; rw [List.take_append_drop])
  rw [e] at this; cases this
theorem cutE_none {x s : List UInt8} (e : cutE x s = none) : ¬ (x.length ≤ s.length ∧ s.drop (s.length - x.length) = x) := by
  rintro ⟨h1, h2⟩
  have : cutE x s = some (s.take (s.length - x.length)) := cutE_iff.2 (by conv => rhs; rhs; rw [← h2]
                                                                          rw [List.take_append_drop])
  rw [e] at this; cases this
set_option maxHeartbeats 2000000 in
theorem sem209T {s x r : List UInt8} (e : s = x ++ r) (h : Heap) : CSem Tryz.prog 209 [.str s, .str x] h (.tuple [.str r, .bool true]) h := by
  refine CSem.pure ?_ (RenVs.plain rfl) (RenV.tuple (RenVs.plain rfl)) h
  have e1 : s.take x.length = x := by rw [e]; simp
  have e3 : x.length ≤ s.length := by rw [e]; simp
  have e2 : (s.take s.length).drop x.length = r := by rw [List.take_length, e]; simp
  have hcc := sem231 s x
  rw [decide_eq_true ⟨e3, e1⟩] at hcc
  refine CSem.into Tryz.func209 rfl (by decide) Tryz.ntmps209 rfl rfl rfl ?_
  dsimp only
  repeat' (first
   | refine S0 ?_
   | refine Sc (hcc _) ?_
   | ((with_reducible refine' RO.subS exts_ok ?hw ?hx ?hl ?hu ?ht ?hb ?ha ?hp ?_); (case hw => exact rfl); (case hx => exact rfl); (case hl => exact rfl); (case hu => exact rfl); (case ht => exact rfl); (case hb => exact rfl); (case ha => exact abound_le rfl e3); (case hp => rw [e2]; exact rfl))
   | (refine S2 ?_ ?_) <;> intro hc <;> try (exfalso; first | omega | (simp at hc; done))
   | refine St ?_
   | fail)
  exact ⟨rfl, _, rfl, [], ⟨rfl, rfl, rfl, True.intro⟩, RenV.tuple (RenVs.plain rfl)⟩
set_option maxHeartbeats 2000000 in
theorem sem209F {s x : List UInt8} (e : cutP x s = none) (h : Heap) : CSem Tryz.prog 209 [.str s, .str x] h (.tuple [.str s, .bool false]) h := by
  refine CSem.pure ?_ (RenVs.plain rfl) (RenV.tuple (RenVs.plain rfl)) h
  have hcc := sem231 s x
  rw [decide_eq_false (cutP_none e)] at hcc
  refine CSem.into Tryz.func209 rfl (by decide) Tryz.ntmps209 rfl rfl rfl ?_
  dsimp only
  repeat' (first
   | refine S0 ?_
   | refine Sc (hcc _) ?_
   | (refine S2 ?_ ?_) <;> intro hc <;> try (exfalso; first | omega | (simp at hc; done))
   | refine St ?_
   | fail)
  exact ⟨rfl, _, rfl, [], ⟨rfl, rfl, rfl, True.intro⟩, RenV.tuple (RenVs.plain rfl)⟩
set_option maxHeartbeats 2000000 in
theorem sem166T {s x r : List UInt8} (e : s = x ++ r) (h : Heap) : CSem Tryz.prog 166 [.str s, .str x] h (.tuple [.str r, .bool true]) h := by
  refine CSem.pure ?_ (RenVs.plain rfl) (RenV.tuple (RenVs.plain rfl)) h
  refine CSem.into Tryz.func166 rfl (by decide) Tryz.ntmps166 rfl rfl rfl ?_
  dsimp only
  repeat' (first
   | refine S0 ?_
   | refine Sc (sem209T e _) ?_
   | (refine S2 ?_ ?_) <;> intro hc <;> try (exfalso; first | omega | (simp at hc; done))
   | refine St ?_
   | fail)
  exact ⟨rfl, _, rfl, [], ⟨rfl, rfl, rfl, True.intro⟩, RenV.tuple (RenVs.plain rfl)⟩
set_option maxHeartbeats 2000000 in
theorem sem166F {s x : List UInt8} (e : cutP x s = none) (h : Heap) : CSem Tryz.prog 166 [.str s, .str x] h (.tuple [.str s, .bool false]) h := by
  refine CSem.pure ?_ (RenVs.plain rfl) (RenV.tuple (RenVs.plain rfl)) h
  refine CSem.into Tryz.func166 rfl (by decide) Tryz.ntmps166 rfl rfl rfl ?_
  dsimp only
  repeat' (first
   | refine S0 ?_
   | refine Sc (sem209F e _) ?_
   | (refine S2 ?_ ?_) <;> intro hc <;> try (exfalso; first | omega | (simp at hc; done))
   | refine St ?_
   | fail)
  exact ⟨rfl, _, rfl, [], ⟨rfl, rfl, rfl, True.intro⟩, RenV.tuple (RenVs.plain rfl)⟩
set_option maxHeartbeats 2000000 in
theorem sem210T {s x r : List UInt8} (e : s = r ++ x) (hl : s.length ≤ 1000000) (hx : x.length ≤ 1000000) (h : Heap) : CSem Tryz.prog 210 [.str s, .str x] h (.tuple [.str r, .bool true]) h := by
  refine CSem.pure ?_ (RenVs.plain rfl) (RenV.tuple (RenVs.plain rfl)) h
  have e3 : x.length ≤ s.length := by rw [e]; simp
  have e1 : s.drop (s.length - x.length) = x := by rw [e]; simp
  have e2 : (s.take (s.length - x.length)).drop 0 = r := by rw [e]; simp
  have hcc := sem232 s x hl hx
  rw [decide_eq_true ⟨e3, e1⟩] at hcc
  refine CSem.into Tryz.func210 rfl (by decide) Tryz.ntmps210 rfl rfl rfl ?_
  dsimp only
  repeat' (first
   | refine S0 ?_
   | refine Sc (hcc _) ?_
   | ((with_reducible refine' RO.subS (b := s.length - x.length) exts_ok ?hw ?hx ?hl ?hu ?ht ?hb ?ha ?hp ?_); (case hw => exact rfl); (case hx => exact rfl); (case hl => exact rfl); (case hu => exact rfl); (case ht => exact rfl); (case hb => exact abound_le (by omega) (by omega)); (case ha => exact rfl); (case hp => rw [e2]; exact rfl))
   | (refine S2 ?_ ?_) <;> intro hc <;> try (exfalso; first | omega | (simp at hc; done))
   | refine St ?_
   | fail)
  exact ⟨rfl, _, rfl, [], ⟨rfl, rfl, rfl, True.intro⟩, RenV.tuple (RenVs.plain rfl)⟩
set_option maxHeartbeats 2000000 in
theorem sem210F {s x : List UInt8} (e : cutE x s = none) (hl : s.length ≤ 1000000) (hx : x.length ≤ 1000000) (h : Heap) : CSem Tryz.prog 210 [.str s, .str x] h (.tuple [.str s, .bool false]) h := by
  refine CSem.pure ?_ (RenVs.plain rfl) (RenV.tuple (RenVs.plain rfl)) h
  have hcc := sem232 s x hl hx
  rw [decide_eq_false (cutE_none e)] at hcc
  refine CSem.into Tryz.func210 rfl (by decide) Tryz.ntmps210 rfl rfl rfl ?_
  dsimp only
  repeat' (first
   | refine S0 ?_
   | refine Sc (hcc _) ?_
   | (refine S2 ?_ ?_) <;> intro hc <;> try (exfalso; first | omega | (simp at hc; done))
   | refine St ?_
   | fail)
  exact ⟨rfl, _, rfl, [], ⟨rfl, rfl, rfl, True.intro⟩, RenV.tuple (RenVs.plain rfl)⟩
set_option maxHeartbeats 2000000 in
theorem sem167T {s x r : List UInt8} (e : s = r ++ x) (hl : s.length ≤ 1000000) (hx : x.length ≤ 1000000) (h : Heap) : CSem Tryz.prog 167 [.str s, .str x] h (.tuple [.str r, .bool true]) h := by
  refine CSem.pure ?_ (RenVs.plain rfl) (RenV.tuple (RenVs.plain rfl)) h
  refine CSem.into Tryz.func167 rfl (by decide) Tryz.ntmps167 rfl rfl rfl ?_
  dsimp only
  repeat' (first
   | refine S0 ?_
   | refine Sc (sem210T e hl hx _) ?_
   | (refine S2 ?_ ?_) <;> intro hc <;> try (exfalso; first | omega | (simp at hc; done))
   | refine St ?_
   | fail)
  exact ⟨rfl, _, rfl, [], ⟨rfl, rfl, rfl, True.intro⟩, RenV.tuple (RenVs.plain rfl)⟩
set_option maxHeartbeats 2000000 in
theorem sem167F {s x : List UInt8} (e : cutE x s = none) (hl : s.length ≤ 1000000) (hx : x.length ≤ 1000000) (h : Heap) : CSem Tryz.prog 167 [.str s, .str x] h (.tuple [.str s, .bool false]) h := by
  refine CSem.pure ?_ (RenVs.plain rfl) (RenV.tuple (RenVs.plain rfl)) h
  refine CSem.into Tryz.func167 rfl (by decide) Tryz.ntmps167 rfl rfl rfl ?_
  dsimp only
  repeat' (first
   | refine S0 ?_
   | refine Sc (sem210F e hl hx _) ?_
   | (refine S2 ?_ ?_) <;> intro hc <;> try (exfalso; first | omega | (simp at hc; done))
   | refine St ?_
   | fail)
  exact ⟨rfl, _, rfl, [], ⟨rfl, rfl, rfl, True.intro⟩, RenV.tuple (RenVs.plain rfl)⟩
end Go.Am
namespace Go.Am
open Go Go.Proofs Go.RowKit Go.Pu
set_option maxRecDepth 100000
theorem OSem.nextS {P : Program} {ext : FuncId → Bool} (hext : ExtOk P ext) {d : Option Tmp} {ty : TypeId} {pos : String} {af : Array Edge} {gd : Option (Nat × Bool)} {g : Ev} {h h' : Heap} {x : Operand} {i p : Nat} {s : List UInt8} {c : UInt8} (hx : g x = some (.ptr i 0)) (hg : h.objs.get i = some (.iter s p)) (hb : s[p]? = some c) (hlt : c.toNat < 128) (hput : h.put i (some (.iter s (p + 1))) = some h') :
    OSem P ⟨d, .next x true, ty, pos, af, gd⟩ g h (.tuple [.bool true, .int .i64 (p : Int), .int .i32 (c.toNat : Int)]) h' := by
  refine OSem.val hext ?_
  have h1 : Nat.blt c.toNat 128 = true := by simpa [Nat.blt_eq] using hlt
  have h0 : anext h (.ptr i 0) true = some (.tuple [.bool true, .int .i64 (p : Int), .int .i32 (c.toNat : Int)], h') := by
    simp only [anext, cond_true, Nat.beq_refl, hg, lget_eq, hb, h1, hput]
    rfl
  simp only [aop, b1, hx, h0, avalh]
theorem OSem.nextE {P : Program} {ext : FuncId → Bool} (hext : ExtOk P ext) {d : Option Tmp} {ty : TypeId} {pos : String} {af : Array Edge} {gd : Option (Nat × Bool)} {g : Ev} {h : Heap} {x : Operand} {i p : Nat} {s : List UInt8} (hx : g x = some (.ptr i 0)) (hg : h.objs.get i = some (.iter s p)) (hb : s.length = p) :
    OSem P ⟨d, .next x true, ty, pos, af, gd⟩ g h (.tuple [.bool false]) h := by
  refine OSem.val hext ?_
  have h1 : Nat.ble s.length p = true := by rw [Nat.ble_eq]; omega
  have h2 : s[p]? = none := List.getElem?_eq_none (by omega)
  have h0 : anext h (.ptr i 0) true = some (.tuple [.bool false], h) := by
    simp only [anext, cond_true, Nat.beq_refl, hg, lget_eq, h2, h1]
  simp only [aop, b1, hx, h0, avalh]
theorem RO.nextS {P : Program} {ext : FuncId → Bool} {N n : Nat} {ops : Array Oper} {l : List Oper} {env env1 : Env} {Post : APost} (hext : ExtOk P ext) {d : Option Tmp} {ty : TypeId} {pos : String} {af : Array Edge} {gd : Option (Nat × Bool)} {h h' : Heap} {x : Operand} {i p : Nat} {s : List UInt8} {c : UInt8} (hw : awanted ops (aeval env) (⟨d, .next x true, ty, pos, af, gd⟩ : Oper) = some true) (hx : aeval env x = some (.ptr i 0)) (hg : h.objs.get i = some (.iter s p)) (hb : s[p]? = some c) (hlt : c.toNat < 128) (hput : h.put i (some (.iter s (p + 1))) = some h') (hp : aput env n d (.tuple [.bool true, .int .i64 (p : Int), .int .i32 (c.toNat : Int)]) = some env1) (r : RO P N n ops l env1 h' Post) : RO P N n ops ((⟨d, .next x true, ty, pos, af, gd⟩ : Oper) :: l) env h Post :=
  RO.step hw (OSem.nextS hext hx hg hb hlt hput) hp r
theorem RO.nextE {P : Program} {ext : FuncId → Bool} {N n : Nat} {ops : Array Oper} {l : List Oper} {env env1 : Env} {Post : APost} (hext : ExtOk P ext) {d : Option Tmp} {ty : TypeId} {pos : String} {af : Array Edge} {gd : Option (Nat × Bool)} {h : Heap} {x : Operand} {i p : Nat} {s : List UInt8} (hw : awanted ops (aeval env) (⟨d, .next x true, ty, pos, af, gd⟩ : Oper) = some true) (hx : aeval env x = some (.ptr i 0)) (hg : h.objs.get i = some (.iter s p)) (hb : s.length = p) (hp : aput env n d (.tuple [.bool false]) = some env1) (r : RO P N n ops l env1 h Post) : RO P N n ops ((⟨d, .next x true, ty, pos, af, gd⟩ : Oper) :: l) env h Post :=
  RO.step hw (OSem.nextE hext hx hg hb) hp r
def Low (s : List UInt8) : Prop := ∀ c ∈ s, c.toNat < 128
def cutLF (set : List UInt8) : List UInt8 → List UInt8
  | [] => []
  | c :: s => if set.contains c then cutLF set s else c :: s
def itH (s : List UInt8) (i : Nat) : Heap := ⟨.node (some (.iter s i)) .leaf .leaf, 1⟩
def itH2 (s : List UInt8) (i : Nat) (t : List UInt8) (k : Nat) : Heap := ⟨.node (some (.iter s i)) (.node (some (.iter t k)) .leaf .leaf) .leaf, 2⟩
set_option maxHeartbeats 4000000 in
theorem sem169 (s set : List UInt8) (hl : s.length ≤ 1000000) (hl2 : set.length ≤ 1000) (hs : Low s) (ht : Low set) (h : Heap) : CSem Tryz.prog 169 [.str s, .str set] h (.str (cutLF set s)) h := by
  refine CSem.pure ?_ (RenVs.plain rfl) (RenV.plain rfl) h
  refine CSem.into Tryz.func169 rfl (by decide) Tryz.ntmps169 rfl rfl rfl ?_
  dsimp only
  repeat' (first
   | refine S0 ?_
   | (refine S2 ?_ ?_) <;> intro hc <;> try (exfalso; first | omega | (simp at hc; done))
   | refine St ?_
   | fail)
  refine RS.loop (σ := Nat) (fun i => i ≤ s.length ∧ cutLF set (s.drop i) = cutLF set s) (fun i => [(0, .str s), (1, .str set), (11, .ptr 0 0)]) (fun i => itH s i) (fun i => s.length - i) 0 ⟨Nat.zero_le _, rfl⟩ ⟨[0], by (refine ⟨rfl, rfl, rfl, ?_⟩; repeat' (first | exact True.intro | refine And.intro ?_ ?_ | exact RenO.none | exact RenO.cells (RenVs.plain rfl) | exact RenO.ro (RenVs.plain (cellsN_plain _)) | exact RenO.cells (RenVs.plain (cellsN_plain _)) | exact RenO.cells (RenVs.plain (cellsI_plain _)) | exact RenO.cells (RenVs.plain (cellsZ_plain _)) | exact RenO.cells (RenVs.cons (RenV.slice rfl) RenVs.nil) | exact RenO.iter | exact RenO.cells (RenVs.plain (rowN_plain _)))), by (repeat' (first | exact True.intro | refine And.intro ?_ ?_ | exact ⟨_, rfl, RenV.plain rfl⟩ | exact ⟨_, rfl, RenV.slice rfl⟩ | exact ⟨_, rfl, RenV.ptr rfl⟩ | exact ⟨_, rfl, RenV.nilslice⟩))⟩ ?round
  rintro i ⟨hi, hR⟩
  refine ⟨_, rfl, ?_⟩
  dsimp only [itH]
  by_cases hlt : i < s.length
  · obtain ⟨c, hc0⟩ : ∃ c, s[i]? = some c := ⟨s[i], by rw [List.getElem?_eq_getElem]⟩
    have hc128 : c.toNat < 128 := hs c (List.mem_of_getElem? hc0)
    rw [drop_get hc0, cutLF] at hR
    repeat' (first
     | refine S0 ?_
     | ((with_reducible refine' RO.nextS exts_ok ?hw ?hx ?hg ?hb ?hlt ?hput ?hp ?_); (case hw => exact rfl); (case hx => exact rfl); (case hg => exact rfl); (case hb => first | exact hc0 | exact hd); (case hlt => first | exact hc128 | exact hd128); (case hput => exact rfl); (case hp => exact rfl))
     | ((with_reducible refine' RO.nextE exts_ok ?hw ?hx ?hg ?hb ?hp ?_); (case hw => exact rfl); (case hx => exact rfl); (case hg => exact rfl); (case hb => exact rfl); (case hp => exact rfl))
     | (refine S2 ?_ ?_) <;> intro hc <;> try (exfalso; first | omega | (simp at hc; done))
     | refine St ?_
     | fail)
    refine RS.loop (σ := SI) (fun x => x.k ≤ set.length ∧ (set.take x.k).contains c = x.b) (fun x => [(0, .str s), (1, .str set), (5, .int .i64 (i : Int)), (6, .int .i32 (c.toNat : Int)), (7, .bool x.b), (11, .ptr 0 0), (17, .ptr 1 0)]) (fun x => itH2 s (i + 1) set x.k) (fun x => set.length - x.k) ⟨0, false⟩ ⟨Nat.zero_le _, by simp⟩ ⟨[0, 1], by (refine ⟨rfl, rfl, rfl, ?_⟩; repeat' (first | exact True.intro | refine And.intro ?_ ?_ | exact RenO.none | exact RenO.cells (RenVs.plain rfl) | exact RenO.ro (RenVs.plain (cellsN_plain _)) | exact RenO.cells (RenVs.plain (cellsN_plain _)) | exact RenO.cells (RenVs.plain (cellsI_plain _)) | exact RenO.cells (RenVs.plain (cellsZ_plain _)) | exact RenO.cells (RenVs.cons (RenV.slice rfl) RenVs.nil) | exact RenO.iter | exact RenO.cells (RenVs.plain (rowN_plain _)))), by (repeat' (first | exact True.intro | refine And.intro ?_ ?_ | exact ⟨_, rfl, RenV.plain rfl⟩ | exact ⟨_, rfl, RenV.slice rfl⟩ | exact ⟨_, rfl, RenV.ptr rfl⟩ | exact ⟨_, rfl, RenV.nilslice⟩))⟩ ?round2
    rintro ⟨k, b⟩ ⟨hk, hb⟩
    simp only at hk hb
    by_cases hlk : k < set.length
    · obtain ⟨d, hd⟩ : ∃ d, set[k]? = some d := ⟨set[k], by rw [List.getElem?_eq_getElem]⟩
      have hd128 : d.toNat < 128 := ht d (List.mem_of_getElem? hd)
      have hsn := contains_take_succ (d := c) hd
      rw [hb] at hsn
      cases b with
      | true =>
        refine ⟨_, rfl, ?_⟩
        dsimp only [itH2]
        repeat' (first
         | refine S0 ?_
         | ((with_reducible refine' RO.nextS exts_ok ?hw ?hx ?hg ?hb ?hlt ?hput ?hp ?_); (case hw => exact rfl); (case hx => exact rfl); (case hg => exact rfl); (case hb => first | exact hc0 | exact hd); (case hlt => first | exact hc128 | exact hd128); (case hput => exact rfl); (case hp => exact rfl))
         | ((with_reducible refine' RO.nextE exts_ok ?hw ?hx ?hg ?hb ?hp ?_); (case hw => exact rfl); (case hx => exact rfl); (case hg => exact rfl); (case hb => exact rfl); (case hp => exact rfl))
         | (refine S2 ?_ ?_) <;> intro hc <;> try (exfalso; first | omega | (simp at hc; done))
         | refine St ?_
         | fail)
        refine Rnd.n ⟨k + 1, true⟩ [0, 1] ⟨by dsimp only; omega, by rw [hsn]; rfl⟩ (by dsimp only; omega) (by (refine ⟨rfl, rfl, rfl, ?_⟩; repeat' (first | exact True.intro | refine And.intro ?_ ?_ | exact RenO.none | exact RenO.cells (RenVs.plain rfl) | exact RenO.ro (RenVs.plain (cellsN_plain _)) | exact RenO.cells (RenVs.plain (cellsN_plain _)) | exact RenO.cells (RenVs.plain (cellsI_plain _)) | exact RenO.cells (RenVs.plain (cellsZ_plain _)) | exact RenO.cells (RenVs.cons (RenV.slice rfl) RenVs.nil) | exact RenO.iter | exact RenO.cells (RenVs.plain (rowN_plain _))))) ?_
        (repeat' (first | exact True.intro | refine And.intro ?_ ?_ | exact ⟨_, rfl, RenV.plain rfl⟩ | exact ⟨_, rfl, RenV.slice rfl⟩ | exact ⟨_, rfl, RenV.ptr rfl⟩ | exact ⟨_, rfl, RenV.nilslice⟩))
      | false =>
        refine ⟨_, rfl, ?_⟩
        dsimp only [itH2]
        repeat' (first
         | refine S0 ?_
         | ((with_reducible refine' RO.nextS exts_ok ?hw ?hx ?hg ?hb ?hlt ?hput ?hp ?_); (case hw => exact rfl); (case hx => exact rfl); (case hg => exact rfl); (case hb => first | exact hc0 | exact hd); (case hlt => first | exact hc128 | exact hd128); (case hput => exact rfl); (case hp => exact rfl))
         | ((with_reducible refine' RO.nextE exts_ok ?hw ?hx ?hg ?hb ?hp ?_); (case hw => exact rfl); (case hx => exact rfl); (case hg => exact rfl); (case hb => exact rfl); (case hp => exact rfl))
         | (refine S2 ?_ ?_) <;> intro hc <;> try (exfalso; first | omega | (simp at hc; done))
         | refine St ?_
         | fail)
        · refine Rnd.n ⟨k + 1, true⟩ [0, 1] ⟨by dsimp only; omega, by rw [hsn, u8_eq hc]; rfl⟩ (by dsimp only; omega) (by (refine ⟨rfl, rfl, rfl, ?_⟩; repeat' (first | exact True.intro | refine And.intro ?_ ?_ | exact RenO.none | exact RenO.cells (RenVs.plain rfl) | exact RenO.ro (RenVs.plain (cellsN_plain _)) | exact RenO.cells (RenVs.plain (cellsN_plain _)) | exact RenO.cells (RenVs.plain (cellsI_plain _)) | exact RenO.cells (RenVs.plain (cellsZ_plain _)) | exact RenO.cells (RenVs.cons (RenV.slice rfl) RenVs.nil) | exact RenO.iter | exact RenO.cells (RenVs.plain (rowN_plain _))))) ?_
          (repeat' (first | exact True.intro | refine And.intro ?_ ?_ | exact ⟨_, rfl, RenV.plain rfl⟩ | exact ⟨_, rfl, RenV.slice rfl⟩ | exact ⟨_, rfl, RenV.ptr rfl⟩ | exact ⟨_, rfl, RenV.nilslice⟩))
        · refine Rnd.n ⟨k + 1, false⟩ [0, 1] ⟨by dsimp only; omega, by rw [hsn, u8_ne hc]; rfl⟩ (by dsimp only; omega) (by (refine ⟨rfl, rfl, rfl, ?_⟩; repeat' (first | exact True.intro | refine And.intro ?_ ?_ | exact RenO.none | exact RenO.cells (RenVs.plain rfl) | exact RenO.ro (RenVs.plain (cellsN_plain _)) | exact RenO.cells (RenVs.plain (cellsN_plain _)) | exact RenO.cells (RenVs.plain (cellsI_plain _)) | exact RenO.cells (RenVs.plain (cellsZ_plain _)) | exact RenO.cells (RenVs.cons (RenV.slice rfl) RenVs.nil) | exact RenO.iter | exact RenO.cells (RenVs.plain (rowN_plain _))))) ?_
          (repeat' (first | exact True.intro | refine And.intro ?_ ?_ | exact ⟨_, rfl, RenV.plain rfl⟩ | exact ⟨_, rfl, RenV.slice rfl⟩ | exact ⟨_, rfl, RenV.ptr rfl⟩ | exact ⟨_, rfl, RenV.nilslice⟩))
    · have hke : k = set.length := by omega
      subst hke
      rw [List.take_length] at hb
      cases b with
      | true =>
        rw [if_pos hb] at hR
        refine ⟨_, rfl, ?_⟩
        dsimp only [itH2]
        repeat' (first
         | refine S0 ?_
         | ((with_reducible refine' RO.nextS exts_ok ?hw ?hx ?hg ?hb ?hlt ?hput ?hp ?_); (case hw => exact rfl); (case hx => exact rfl); (case hg => exact rfl); (case hb => first | exact hc0 | exact hd); (case hlt => first | exact hc128 | exact hd128); (case hput => exact rfl); (case hp => exact rfl))
         | ((with_reducible refine' RO.nextE exts_ok ?hw ?hx ?hg ?hb ?hp ?_); (case hw => exact rfl); (case hx => exact rfl); (case hg => exact rfl); (case hb => exact rfl); (case hp => exact rfl))
         | (refine S2 ?_ ?_) <;> intro hc <;> try (exfalso; first | omega | (simp at hc; done))
         | refine St ?_
         | fail)
        refine Rnd.n (i + 1) [0] ⟨by omega, hR⟩ (by omega) (by (refine ⟨rfl, rfl, rfl, ?_⟩; repeat' (first | exact True.intro | refine And.intro ?_ ?_ | exact RenO.none | exact RenO.cells (RenVs.plain rfl) | exact RenO.ro (RenVs.plain (cellsN_plain _)) | exact RenO.cells (RenVs.plain (cellsN_plain _)) | exact RenO.cells (RenVs.plain (cellsI_plain _)) | exact RenO.cells (RenVs.plain (cellsZ_plain _)) | exact RenO.cells (RenVs.cons (RenV.slice rfl) RenVs.nil) | exact RenO.iter | exact RenO.cells (RenVs.plain (rowN_plain _))))) ?_
        (repeat' (first | exact True.intro | refine And.intro ?_ ?_ | exact ⟨_, rfl, RenV.plain rfl⟩ | exact ⟨_, rfl, RenV.slice rfl⟩ | exact ⟨_, rfl, RenV.ptr rfl⟩ | exact ⟨_, rfl, RenV.nilslice⟩))
      | false =>
        rw [if_neg (by rw [hb]; simp)] at hR
        have e2 : (s.take s.length).drop i = cutLF set s := by rw [List.take_length, drop_get hc0, hR]
        refine ⟨_, rfl, ?_⟩
        dsimp only [itH2]
        repeat' (first
         | refine S0 ?_
         | ((with_reducible refine' RO.nextS exts_ok ?hw ?hx ?hg ?hb ?hlt ?hput ?hp ?_); (case hw => exact rfl); (case hx => exact rfl); (case hg => exact rfl); (case hb => first | exact hc0 | exact hd); (case hlt => first | exact hc128 | exact hd128); (case hput => exact rfl); (case hp => exact rfl))
         | ((with_reducible refine' RO.nextE exts_ok ?hw ?hx ?hg ?hb ?hp ?_); (case hw => exact rfl); (case hx => exact rfl); (case hg => exact rfl); (case hb => exact rfl); (case hp => exact rfl))
         | ((with_reducible refine' RO.subS exts_ok ?hw ?hx ?hl ?hu ?ht ?hb ?ha ?hp ?_); (case hw => exact rfl); (case hx => exact rfl); (case hl => exact rfl); (case hu => exact rfl); (case ht => exact rfl); (case hb => exact rfl); (case ha => exact abound_le rfl (by omega)); (case hp => rw [e2]; exact rfl))
         | (refine S2 ?_ ?_) <;> intro hc <;> try (exfalso; first | omega | (simp at hc; done))
         | refine St ?_
         | fail)
        exact ⟨rfl, _, rfl, [], ⟨rfl, rfl, rfl, True.intro⟩, RenV.plain rfl⟩
  · have hie : s.length = i := by omega
    subst hie
    rw [List.drop_length, cutLF] at hR
    rw [← hR]
    repeat' (first
     | refine S0 ?_
     | ((with_reducible refine' RO.nextS exts_ok ?hw ?hx ?hg ?hb ?hlt ?hput ?hp ?_); (case hw => exact rfl); (case hx => exact rfl); (case hg => exact rfl); (case hb => first | exact hc0 | exact hd); (case hlt => first | exact hc128 | exact hd128); (case hput => exact rfl); (case hp => exact rfl))
     | ((with_reducible refine' RO.nextE exts_ok ?hw ?hx ?hg ?hb ?hp ?_); (case hw => exact rfl); (case hx => exact rfl); (case hg => exact rfl); (case hb => exact rfl); (case hp => exact rfl))
     | (refine S2 ?_ ?_) <;> intro hc <;> try (exfalso; first | omega | (simp at hc; done))
     | refine St ?_
     | fail)
    exact ⟨rfl, _, rfl, [], ⟨rfl, rfl, rfl, True.intro⟩, RenV.plain rfl⟩
end Go.Am
namespace Go.Am
open Go Go.Proofs Go.RowKit Go.Pu
set_option maxRecDepth 100000
set_option maxHeartbeats 2000000 in
theorem sem211 (y : List UInt8) (c : UInt8) (hl : (y ++ [c]).length ≤ 1000000) (hc : c.toNat < 128) (h : Heap) : CSem Tryz.prog 211 [.str (y ++ [c])] h (.tuple [.int .i32 (c.toNat : Int), .int .i64 1]) h := by
  refine CSem.pure ?_ (RenVs.plain rfl) (RenV.tuple (RenVs.plain rfl)) h
  generalize hx : y ++ [c] = x at hl
  have hp : 0 < x.length := by rw [← hx]; simp
  have hcl : x[x.length - 1]? = some c := by rw [← hx]; simp
  have hi : inI .i32 (c.toNat : Int) = true := by unfold inI; simp [IntKind.min, IntKind.max]; omega
  refine CSem.into Tryz.func211 rfl (by decide) Tryz.ntmps211 rfl rfl rfl ?_
  dsimp only
  repeat' (first
   | refine S0 ?_
   | ((with_reducible refine' RO.convI exts_ok ?hw ?hx ?hs ?ht ?hi ?hp ?_); (case hw => exact rfl); (case hx => exact rfl); (case hs => exact rfl); (case ht => exact rfl); (case hi => exact hi); (case hp => exact rfl))
   | (refine S2 ?_ ?_) <;> intro hc <;> try (exfalso; first | omega | (simp at hc; done))
   | refine Sf hcl ?_
   | refine St ?_
   | fail)
  exact ⟨rfl, _, rfl, [], ⟨rfl, rfl, rfl, True.intro⟩, RenV.tuple (RenVs.plain rfl)⟩
theorem not_ilt (a b : Int) : (!ilt a b) = decide (b ≤ a) := by
  rw [ilt_iff]
  by_cases h : a < b <;> simp [h] <;> omega
def cutRF (set s : List UInt8) : List UInt8 := (cutLF set s.reverse).reverse
theorem cutRF_snoc (set y : List UInt8) (c : UInt8) : cutRF set (y ++ [c]) = if set.contains c then cutRF set y else y ++ [c] := by
  unfold cutRF
  rw [List.reverse_append, List.reverse_singleton, List.singleton_append, cutLF]
  split
  · rfl
  · simp
set_option maxHeartbeats 4000000 in
theorem sem168 (s set : List UInt8) (hl : s.length ≤ 1000000) (hl2 : set.length ≤ 1000) (hs : Low s) (ht : Low set) (h : Heap) : CSem Tryz.prog 168 [.str s, .str set] h (.str (cutRF set s)) h := by
  refine CSem.pure ?_ (RenVs.plain rfl) (RenV.plain rfl) h
  refine CSem.into Tryz.func168 rfl (by decide) Tryz.ntmps168 rfl rfl rfl ?_
  dsimp only
  repeat' (first
   | refine S0 ?_
   | (refine S2 ?_ ?_) <;> intro hc <;> try (exfalso; first | omega | (simp at hc; done))
   | refine St ?_
   | fail)
  refine RS.loop (σ := List UInt8) (fun x => x.length ≤ 1000000 ∧ Low x ∧ cutRF set x = cutRF set s) (fun x => [(0, .str x), (1, .str set)]) (fun _ => ⟨.leaf, 0⟩) (fun x => x.length) s ⟨hl, hs, rfl⟩ ⟨[], ⟨rfl, rfl, rfl, True.intro⟩, by (repeat' (first | exact True.intro | refine And.intro ?_ ?_ | exact ⟨_, rfl, RenV.plain rfl⟩ | exact ⟨_, rfl, RenV.slice rfl⟩ | exact ⟨_, rfl, RenV.ptr rfl⟩ | exact ⟨_, rfl, RenV.nilslice⟩))⟩ ?round
  rintro x ⟨hxl, hxs, hR⟩
  rcases List.eq_nil_or_concat x with rfl | ⟨y, c, rfl⟩
  · refine ⟨_, rfl, ?_⟩
    have e : cutRF set s = [] := hR.symm.trans rfl
    rw [e]
    repeat' (first
     | refine S0 ?_
     | (refine S2 ?_ ?_) <;> intro hc <;> try (exfalso; first | omega | (simp at hc; done))
     | refine St ?_
     | fail)
    exact ⟨rfl, _, rfl, [], ⟨rfl, rfl, rfl, True.intro⟩, RenV.plain rfl⟩
  · rw [List.concat_eq_append] at hxl hxs hR ⊢
    have hc128 : c.toNat < 128 := hxs c (by simp)
    have hp : 0 < (y ++ [c]).length := by simp
    have e2 : ((y ++ [c]).take ((y ++ [c]).length - 1)).drop 0 = y := by simp
    rw [cutRF_snoc] at hR
    have hc211 := sem211 y c hxl hc128
    have hyl : y.length < (y ++ [c]).length := by simp
    have hys : Low y := fun d hd => hxs d (by simp [hd])
    refine ⟨_, rfl, ?_⟩
    generalize hx : y ++ [c] = x at hxl hxs hR hp e2 hc211 hyl ⊢
    repeat' (first
     | refine S0 ?_
     | refine Sc (hc211 _) ?_
     | ((with_reducible refine' RO.nextS exts_ok ?hw ?hx ?hg ?hb ?hlt ?hput ?hp ?_); (case hw => exact rfl); (case hx => exact rfl); (case hg => exact rfl); (case hb => first | exact hc0 | exact hd); (case hlt => first | exact hc128 | exact hd128); (case hput => exact rfl); (case hp => exact rfl))
     | ((with_reducible refine' RO.nextE exts_ok ?hw ?hx ?hg ?hb ?hp ?_); (case hw => exact rfl); (case hx => exact rfl); (case hg => exact rfl); (case hb => exact rfl); (case hp => exact rfl))
     | (refine S2 ?_ ?_) <;> intro hc <;> try (exfalso; first | omega | (simp at hc; done))
     | refine St ?_
     | fail)
    refine RS.loop (σ := SI) (fun z => z.k ≤ set.length ∧ (set.take z.k).contains c = z.b) (fun z => [(0, .str x), (1, .str set), (5, .int .i32 (c.toNat : Int)), (6, .int .i64 1), (7, .bool z.b), (19, .ptr 0 0)]) (fun z => itH set z.k) (fun z => set.length - z.k) ⟨0, false⟩ ⟨Nat.zero_le _, by simp⟩ ⟨[0], by (refine ⟨rfl, rfl, rfl, ?_⟩; repeat' (first | exact True.intro | refine And.intro ?_ ?_ | exact RenO.none | exact RenO.cells (RenVs.plain rfl) | exact RenO.ro (RenVs.plain (cellsN_plain _)) | exact RenO.cells (RenVs.plain (cellsN_plain _)) | exact RenO.cells (RenVs.plain (cellsI_plain _)) | exact RenO.cells (RenVs.plain (cellsZ_plain _)) | exact RenO.cells (RenVs.cons (RenV.slice rfl) RenVs.nil) | exact RenO.iter | exact RenO.cells (RenVs.plain (rowN_plain _)))), by (repeat' (first | exact True.intro | refine And.intro ?_ ?_ | exact ⟨_, rfl, RenV.plain rfl⟩ | exact ⟨_, rfl, RenV.slice rfl⟩ | exact ⟨_, rfl, RenV.ptr rfl⟩ | exact ⟨_, rfl, RenV.nilslice⟩))⟩ ?round2
    rintro ⟨k, b⟩ ⟨hk, hb⟩
    simp only at hk hb
    by_cases hlk : k < set.length
    · obtain ⟨d, hd⟩ : ∃ d, set[k]? = some d := ⟨set[k], by rw [List.getElem?_eq_getElem]⟩
      have hd128 : d.toNat < 128 := ht d (List.mem_of_getElem? hd)
      have hsn := contains_take_succ (d := c) hd
      rw [hb] at hsn
      cases b with
      | true =>
        refine ⟨_, rfl, ?_⟩
        dsimp only [itH]
        repeat' (first
         | refine S0 ?_
         | ((with_reducible refine' RO.nextS exts_ok ?hw ?hx ?hg ?hb ?hlt ?hput ?hp ?_); (case hw => exact rfl); (case hx => exact rfl); (case hg => exact rfl); (case hb => first | exact hc0 | exact hd); (case hlt => first | exact hc128 | exact hd128); (case hput => exact rfl); (case hp => exact rfl))
         | ((with_reducible refine' RO.nextE exts_ok ?hw ?hx ?hg ?hb ?hp ?_); (case hw => exact rfl); (case hx => exact rfl); (case hg => exact rfl); (case hb => exact rfl); (case hp => exact rfl))
         | (refine S2 ?_ ?_) <;> intro hc <;> try (exfalso; first | omega | (simp at hc; done))
         | refine St ?_
         | fail)
        refine Rnd.n ⟨k + 1, true⟩ [0] ⟨by dsimp only; omega, by rw [hsn]; rfl⟩ (by dsimp only; omega) (by (refine ⟨rfl, rfl, rfl, ?_⟩; repeat' (first | exact True.intro | refine And.intro ?_ ?_ | exact RenO.none | exact RenO.cells (RenVs.plain rfl) | exact RenO.ro (RenVs.plain (cellsN_plain _)) | exact RenO.cells (RenVs.plain (cellsN_plain _)) | exact RenO.cells (RenVs.plain (cellsI_plain _)) | exact RenO.cells (RenVs.plain (cellsZ_plain _)) | exact RenO.cells (RenVs.cons (RenV.slice rfl) RenVs.nil) | exact RenO.iter | exact RenO.cells (RenVs.plain (rowN_plain _))))) ?_
        (repeat' (first | exact True.intro | refine And.intro ?_ ?_ | exact ⟨_, rfl, RenV.plain rfl⟩ | exact ⟨_, rfl, RenV.slice rfl⟩ | exact ⟨_, rfl, RenV.ptr rfl⟩ | exact ⟨_, rfl, RenV.nilslice⟩))
      | false =>
        refine ⟨_, rfl, ?_⟩
        dsimp only [itH]
        repeat' (first
         | refine S0 ?_
         | ((with_reducible refine' RO.nextS exts_ok ?hw ?hx ?hg ?hb ?hlt ?hput ?hp ?_); (case hw => exact rfl); (case hx => exact rfl); (case hg => exact rfl); (case hb => first | exact hc0 | exact hd); (case hlt => first | exact hc128 | exact hd128); (case hput => exact rfl); (case hp => exact rfl))
         | ((with_reducible refine' RO.nextE exts_ok ?hw ?hx ?hg ?hb ?hp ?_); (case hw => exact rfl); (case hx => exact rfl); (case hg => exact rfl); (case hb => exact rfl); (case hp => exact rfl))
         | (refine S2 ?_ ?_) <;> intro hc <;> try (exfalso; first | omega | (simp at hc; done))
         | refine St ?_
         | fail)
        · refine Rnd.n ⟨k + 1, true⟩ [0] ⟨by dsimp only; omega, by rw [hsn, u8_eq hc]; rfl⟩ (by dsimp only; omega) (by (refine ⟨rfl, rfl, rfl, ?_⟩; repeat' (first | exact True.intro | refine And.intro ?_ ?_ | exact RenO.none | exact RenO.cells (RenVs.plain rfl) | exact RenO.ro (RenVs.plain (cellsN_plain _)) | exact RenO.cells (RenVs.plain (cellsN_plain _)) | exact RenO.cells (RenVs.plain (cellsI_plain _)) | exact RenO.cells (RenVs.plain (cellsZ_plain _)) | exact RenO.cells (RenVs.cons (RenV.slice rfl) RenVs.nil) | exact RenO.iter | exact RenO.cells (RenVs.plain (rowN_plain _))))) ?_
          (repeat' (first | exact True.intro | refine And.intro ?_ ?_ | exact ⟨_, rfl, RenV.plain rfl⟩ | exact ⟨_, rfl, RenV.slice rfl⟩ | exact ⟨_, rfl, RenV.ptr rfl⟩ | exact ⟨_, rfl, RenV.nilslice⟩))
        · refine Rnd.n ⟨k + 1, false⟩ [0] ⟨by dsimp only; omega, by rw [hsn, u8_ne hc]; rfl⟩ (by dsimp only; omega) (by (refine ⟨rfl, rfl, rfl, ?_⟩; repeat' (first | exact True.intro | refine And.intro ?_ ?_ | exact RenO.none | exact RenO.cells (RenVs.plain rfl) | exact RenO.ro (RenVs.plain (cellsN_plain _)) | exact RenO.cells (RenVs.plain (cellsN_plain _)) | exact RenO.cells (RenVs.plain (cellsI_plain _)) | exact RenO.cells (RenVs.plain (cellsZ_plain _)) | exact RenO.cells (RenVs.cons (RenV.slice rfl) RenVs.nil) | exact RenO.iter | exact RenO.cells (RenVs.plain (rowN_plain _))))) ?_
          (repeat' (first | exact True.intro | refine And.intro ?_ ?_ | exact ⟨_, rfl, RenV.plain rfl⟩ | exact ⟨_, rfl, RenV.slice rfl⟩ | exact ⟨_, rfl, RenV.ptr rfl⟩ | exact ⟨_, rfl, RenV.nilslice⟩))
    · have hke : k = set.length := by omega
      subst hke
      rw [List.take_length] at hb
      cases b with
      | true =>
        rw [if_pos hb] at hR
        refine ⟨_, rfl, ?_⟩
        dsimp only [itH]
        repeat' (first
         | refine S0 ?_
         | ((with_reducible refine' RO.nextS exts_ok ?hw ?hx ?hg ?hb ?hlt ?hput ?hp ?_); (case hw => exact rfl); (case hx => exact rfl); (case hg => exact rfl); (case hb => first | exact hc0 | exact hd); (case hlt => first | exact hc128 | exact hd128); (case hput => exact rfl); (case hp => exact rfl))
         | ((with_reducible refine' RO.nextE exts_ok ?hw ?hx ?hg ?hb ?hp ?_); (case hw => exact rfl); (case hx => exact rfl); (case hg => exact rfl); (case hb => exact rfl); (case hp => exact rfl))
         | ((with_reducible refine' RO.subS (b := x.length - 1) exts_ok ?hw ?hx ?hl ?hu ?ht ?hb ?ha ?hp ?_); (case hw => exact rfl); (case hx => exact rfl); (case hl => exact rfl); (case hu => exact rfl); (case ht => exact rfl); (case hb => exact abound_le (by omega) (by omega)); (case ha => exact rfl); (case hp => rw [e2]; exact rfl))
         | (refine S2 ?_ ?_) <;> intro hc <;> try (exfalso; first | omega | (simp at hc; done))
         | refine St ?_
         | fail)
        refine Rnd.n y [] ⟨by omega, hys, hR⟩ hyl ⟨rfl, rfl, rfl, True.intro⟩ ?_
        (repeat' (first | exact True.intro | refine And.intro ?_ ?_ | exact ⟨_, rfl, RenV.plain rfl⟩ | exact ⟨_, rfl, RenV.slice rfl⟩ | exact ⟨_, rfl, RenV.ptr rfl⟩ | exact ⟨_, rfl, RenV.nilslice⟩))
      | false =>
        rw [if_neg (by rw [hb]; simp)] at hR
        rw [← hR]
        refine ⟨_, rfl, ?_⟩
        dsimp only [itH]
        repeat' (first
         | refine S0 ?_
         | ((with_reducible refine' RO.nextS exts_ok ?hw ?hx ?hg ?hb ?hlt ?hput ?hp ?_); (case hw => exact rfl); (case hx => exact rfl); (case hg => exact rfl); (case hb => first | exact hc0 | exact hd); (case hlt => first | exact hc128 | exact hd128); (case hput => exact rfl); (case hp => exact rfl))
         | ((with_reducible refine' RO.nextE exts_ok ?hw ?hx ?hg ?hb ?hp ?_); (case hw => exact rfl); (case hx => exact rfl); (case hg => exact rfl); (case hb => exact rfl); (case hp => exact rfl))
         | (refine S2 ?_ ?_) <;> intro hc <;> try (exfalso; first | omega | (simp at hc; done))
         | refine St ?_
         | fail)
        exact ⟨rfl, _, rfl, [], ⟨rfl, rfl, rfl, True.intro⟩, RenV.plain rfl⟩
end Go.Am
