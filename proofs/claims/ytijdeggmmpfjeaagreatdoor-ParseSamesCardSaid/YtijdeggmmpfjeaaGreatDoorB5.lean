/- Part of the proof: WkW, WkX. -/
import Derived.Test.YtijdeggmmpfjeaaGreatDoorB3
import Derived.Test.YtijdeggmmpfjeaaGreatDoorB4
set_option linter.unusedSimpArgs false
set_option linter.unusedVariables false
set_option linter.unusedSectionVars false
namespace Go.Am
open Go Go.Proofs Go.RowKit Go.Pu
set_option maxRecDepth 100000
set_option maxHeartbeats 2000000 in
theorem sem170 (r : Rule) (many : Nat) (hm : many ≤ 1000000) (hb : r.before.length ≤ 1000) (he : r.behind.length ≤ 1000) (h : Heap) : CSem Tryz.prog 170 [ruleV r, .int .i64 (many : Int)] h (.int .i64 ((many : Int) - r.before.length - r.behind.length)) h := by
  obtain ⟨before, manys, least, most, behind, named⟩ := r
  dsimp only at hb he
  dsimp only [ruleV]
  refine CSem.pure ?_ (RenVs.cons (RenV.agg (RenVs.plain rfl)) (RenVs.plain rfl)) (RenV.plain rfl) h
  refine CSem.into Tryz.func170 rfl (by decide) Tryz.ntmps170 rfl rfl rfl ?_
  dsimp only
  repeat' (first
   | with_reducible refine RS.seq ?_
   | with_reducible refine RS.goL ?_
   | with_reducible refine RO.nil ?_
   | with_reducible refine ThenS.n ?_
   | with_reducible refine RS.ret ?_
   | ((with_reducible refine' RO.subI exts_ok ?hw ?hx ?hy ?hi ?hp ?_); (case hw | hx | hy => exact rfl); (case hi => omega); (case hp => exact rfl))
   | ((with_reducible refine' RO.lenS exts_ok ?hw ?hx ?hu ?hp ?_); (case hw | hx | hu | hp => exact rfl))
   | ((with_reducible refine' RO.ld1 exts_ok ?hw ?hx ?hu ?hD ?hv ?hp ?_); (case hw | hx | hu | hD => exact rfl); (case hv => exact rfl); (case hp => exact rfl))
   | ((with_reducible refine' RO.step ?hw ?ho ?hp ?_); (case hw => exact rfl); (case ho => exact OSem.val exts_ok rfl); (case hp => exact rfl))
   | fail)
  exact ⟨rfl, _, rfl, [], ⟨rfl, rfl, rfl, True.intro⟩, RenV.plain rfl⟩
set_option maxHeartbeats 2000000 in
theorem sem107 (r : Rule) (many : Nat) (hm : many ≤ 1000000) (hb : r.before.length ≤ 1000) (he : r.behind.length ≤ 1000) (h : Heap) : CSem Tryz.prog 107 [ruleV r, .int .i64 (many : Int)] h (.bool (implSized r many)) h := by
  have hc := sem170 r many hm hb he
  obtain ⟨before, manys, least, most, behind, named⟩ := r
  dsimp only at hb he hc
  dsimp only [ruleV, implSized] at hc ⊢
  refine CSem.pure ?_ (RenVs.cons (RenV.agg (RenVs.plain rfl)) (RenVs.plain rfl)) (RenV.plain rfl) h
  generalize (many : Int) - before.length - behind.length = z at hc ⊢
  cases manys
  all_goals refine CSem.into Tryz.func107 rfl (by decide) Tryz.ntmps107 rfl rfl rfl ?_
  all_goals dsimp only
  all_goals
    repeat' (first
     | with_reducible refine RS.seq ?_
     | with_reducible refine RS.goL ?_
     | with_reducible refine RO.nil ?_
     | with_reducible refine ThenS.n ?_
     | with_reducible refine RS.ret ?_
     | ((with_reducible refine' RD.read ?hw ?ho ?hp (fun _ => ?_)); (case hw => exact rfl); (case ho => exact OSem.fn exts_ok rfl rfl rfl rfl (hc _)); (case hp => exact rfl))
     | ((with_reducible refine' RS.drawE mixed [none, none, none, none, none, none, none, none, none, none, none, none] ?hn ?hms ?hord ?hh ?_); (case hn => exact rfl); (case hms => exact rfl); (case hord => exact rfl); (case hh => exact rfl))
     | ((with_reducible refine RD.nil ?_); (refine' RDk.intro ?oks ?hl ?_); (case hl => exact rfl); (case oks => (repeat' (first | exact True.intro | refine And.intro ?_ ?_ | exact rfl | exact OSem.load1 exts_ok rfl rfl rfl rfl | exact OSem.loadN exts_ok rfl rfl rfl rfl | exact OSem.fn exts_ok rfl rfl rfl rfl (hc _)))))
     | ((with_reducible refine' RO.step ?hw ?ho ?hp ?_); (case hw => exact rfl); (case ho => exact OSem.val exts_ok rfl); (case hp => exact rfl))
     | ((with_reducible refine' RD.skip ?hw ?hp ?_); (case hw => exact rfl); (case hp => exact rfl))
     | ((with_reducible refine' RD.calm ?hw ?ho ?hp ?_); (case hw => exact rfl); (case ho => exact fun H => OSem.val exts_ok rfl); (case hp => exact rfl))
     | ((with_reducible refine' RD.read ?hw ?ho ?hp (fun _ => ?_)); (case hw => exact rfl); (case ho => (first | exact OSem.load1 exts_ok rfl rfl rfl rfl | exact OSem.loadN exts_ok rfl rfl rfl rfl)); (case hp => exact rfl))
     | fail)
  all_goals first | exact ⟨rfl, _, rfl, [], ⟨rfl, rfl, rfl, True.intro⟩, RenV.plain rfl⟩ | exact ⟨rfl, _, rfl, [], ⟨rfl, rfl, rfl, True.intro⟩, RenV.eq (congrArg AV.bool (not_ilt _ _)) rfl⟩
set_option maxHeartbeats 2000000 in
theorem sem108 (x : Nd) (hk : x.k < 256) (many : Nat) (h : Heap) : CSem Tryz.prog 108 [.agg (rowN x), .int .i64 (many : Int)] h (.bool (implNum x.k x.n many)) h := by
  refine CSem.pure ?_ (RenVs.cons (RenV.agg (RenVs.plain rfl)) (RenVs.plain rfl)) (RenV.plain rfl) h
  generalize hR : implNum x.k x.n many = R
  refine CSem.into Tryz.func108 rfl (by decide) Tryz.ntmps108 rfl rfl rfl ?_
  dsimp only [rowN]
  repeat' (first
   | with_reducible refine RS.seq ?_
   | with_reducible refine RS.goL ?_
   | with_reducible refine RO.nil ?_
   | with_reducible refine ThenS.n ?_
   | with_reducible refine RS.block ?_
   | with_reducible refine InB.n ?_
   | with_reducible refine InB.r ?_
   | with_reducible refine ThenS.r ?_
   | with_reducible refine RS.skip ?_
   | with_reducible refine RS.ret ?_
   | ((with_reducible refine RS.condT ?hb ?_); (case hb => exact rfl))
   | ((with_reducible refine RS.condF ?hb ?_); (case hb => exact rfl))
   | ((with_reducible refine' RO.skip ?hw ?hp ?_); (case hw => exact rfl); (case hp => exact rfl))
   | (((with_reducible refine' RO.leq exts_ok ?hw ?hx ?hy ?hk ?hT ?hF (fun hc => ?_) (fun hc => ?_)); (case hw | hx | hy | hk | hT | hF => exact rfl)) <;> try (exfalso; first | omega | (simp at hc; done)))
   | (((with_reducible refine' RO.geq exts_ok ?hw ?hx ?hy ?hk ?hT ?hF (fun hc => ?_) (fun hc => ?_)); (case hw | hx | hy | hk | hT | hF => exact rfl)) <;> try (exfalso; first | omega | (simp at hc; done)))
   | (((with_reducible refine' RO.eqi exts_ok ?hw ?hx ?hy ?hk ?hT ?hF (fun hc => ?_) (fun hc => ?_)); (case hw | hx | hy | hk | hT | hF => exact rfl)) <;> try (exfalso; first | omega | (simp at hc; done)))
   | ((with_reducible refine' RO.ld1 exts_ok ?hw ?hx ?hu ?hD ?hv ?hp ?_); (case hw | hx | hu | hD => exact rfl); (case hv => exact rfl); (case hp => exact rfl))
   | ((with_reducible refine' RO.step ?hw ?ho ?hp ?_); (case hw => exact rfl); (case ho => exact OSem.val exts_ok rfl); (case hp => exact rfl))
   | fail)
  all_goals refine ⟨rfl, _, rfl, [], ⟨rfl, rfl, rfl, True.intro⟩, RenV.eq ?_ rfl⟩
  all_goals
    rw [← hR]
    have k62 : ((x.k : Int) = 62) ↔ x.k = 62 := (by omega)
    have k5 : ((x.k : Int) = 5) ↔ x.k = 5 := (by omega)
    have k46 : ((x.k : Int) = 46) ↔ x.k = 46 := (by omega)
    clear hR
    unfold implNum
    simp_all [afinish]
  all_goals (intros; omega)
end Go.Am
namespace Go.Am
open Go Go.Proofs Go.RowKit Go.Pu
set_option maxRecDepth 100000
theorem ruleE_ren {s : List Nat} : RenVs s (ruleE.map Prod.snd) (ruleE.map Prod.snd) := fun M => plainAs_concs (by decide +kernel)
def fH (ns : List Nd) (x : Nd) (l : List Nat) (b : List AV) (o5 o6 : T AObj) (n : Nat) : Heap := ⟨.node (some (.ro 50 5 (cellsN ns))) (.node (some (.map ruleE)) (.node (some (.cells 140 2 b true)) .leaf .leaf) o5) (.node (some (.cells 50 5 (rowN x) true)) (.node (some (.cells 3 1 (cellsI l) false)) .leaf .leaf) o6), n⟩
def gH0 (ns : List Nd) (x : Nd) (r : Rule) : Heap := ⟨.node (some (.ro 50 5 (cellsN ns))) (.node (some (.map ruleE)) (.node (some (.cells 140 2 [.nilptr, .nilslice] true)) .leaf .leaf) .leaf) (.node (some (.cells 50 5 (rowN x) true)) (.node (some (.cells 145 6 [.str r.before, .str r.many, .int .i64 r.least, .int .i64 r.most, .str r.behind, .bool r.named] true)) .leaf .leaf) .leaf), 5⟩
def gH1 (ns : List Nd) (x : Nd) (l : List Nat) (k : Nat) (b : T AObj) (r : Rule) : Heap := fH ns x l [.ptr 3 0, .slice 5 0 k 1] b (.node (some (.cells 145 6 [.str r.before, .str r.many, .int .i64 r.least, .int .i64 r.most, .str r.behind, .bool r.named] true)) .leaf .leaf) 7
def bufT (w : List UInt8) : T AObj := .node (some (.cells 5 1 (cellsB w) false)) .leaf .leaf
set_option maxHeartbeats 2000000 in
theorem cc0 (ns : List Nd) (x : Nd) (l : List Nat) : CSem Tryz.prog 165 [.ptr 3 0] (fH ns x l [.nilptr, .nilslice] .leaf .leaf 5) (.tuple []) (fH ns x l [.ptr 3 0, .nilslice] .leaf .leaf 5) := by
  refine CSem.into Tryz.func165 rfl (by decide) Tryz.ntmps165 rfl rfl rfl ?_
  dsimp only [fH]
  repeat' (first
   | with_reducible refine RS.seq ?_
   | with_reducible refine RS.goL ?_
   | with_reducible refine RO.nil ?_
   | with_reducible refine ThenS.n ?_
   | ((with_reducible refine RS.condT ?hb ?_); (case hb => exact rfl))
   | ((with_reducible refine' RO.ld1 exts_ok ?hw ?hx ?hu ?hD ?hv ?hp ?_); (case hw | hx | hu | hD => exact rfl); (case hv => exact rfl); (case hp => exact rfl))
   | ((with_reducible refine' RO.step ?hw ?ho ?hp ?_); (case hw => exact rfl); (case ho => (first | exact OSem.val exts_ok rfl | exact OSem.skip exts_ok rfl)); (case hp => exact rfl))
   | fail)
  exact ⟨rfl, _, rfl, [0, 1, 2, 3, 4], by (refine ⟨rfl, rfl, rfl, ?_⟩; repeat' (first | exact True.intro | refine And.intro ?_ ?_ | exact RenO.none | exact RenO.cells (RenVs.plain rfl) | exact RenO.cells (RenVs.cons (RenV.ptr rfl) (RenVs.cons (RenV.slice rfl) RenVs.nil)) | exact RenO.cells (RenVs.cons (RenV.ptr rfl) (RenVs.cons (RenV.sliceL rfl (by simp)) RenVs.nil)) | exact RenO.cells (RenVs.cons (RenV.ptr rfl) (RenVs.cons RenV.nilslice RenVs.nil)) | exact RenO.ro (RenVs.plain (cellsN_plain _)) | exact RenO.cells (RenVs.plain (cellsI_plain _)) | exact RenO.cells (RenVs.plain (cellsB_plain _)) | exact RenO.cells (RenVs.eq (cellsB_snoc _ _).symm (by rw [← cellsB_snoc]; exact cellsB_plain _)) | exact RenO.cells (RenVs.plain (rowN_plain _)) | exact RenO.map (RenVs.plain (by decide +kernel)) ruleE_ren)), RenV.tuple RenVs.nil⟩
set_option maxHeartbeats 2000000 in
theorem cc1 (ns : List Nd) (x : Nd) (l : List Nat) (w : List UInt8) (k : Nat) : CSem Tryz.prog 165 [.ptr 3 0] (fH ns x l [.ptr 3 0, .slice 5 0 k 1] (bufT w) .leaf 6) (.tuple []) (fH ns x l [.ptr 3 0, .slice 5 0 k 1] (bufT w) .leaf 6) := by
  refine CSem.into Tryz.func165 rfl (by decide) Tryz.ntmps165 rfl rfl rfl ?_
  dsimp only [fH, bufT]
  repeat' (first
   | with_reducible refine RS.seq ?_
   | with_reducible refine RS.goL ?_
   | with_reducible refine RO.nil ?_
   | with_reducible refine ThenS.n ?_
   | with_reducible refine RS.skip ?_
   | ((with_reducible refine RS.condF ?hb ?_); (case hb => exact rfl))
   | ((with_reducible refine' RO.ld1 exts_ok ?hw ?hx ?hu ?hD ?hv ?hp ?_); (case hw | hx | hu | hD => exact rfl); (case hv => exact rfl); (case hp => exact rfl))
   | ((with_reducible refine' RO.step ?hw ?ho ?hp ?_); (case hw => exact rfl); (case ho => exact OSem.val exts_ok rfl); (case hp => exact rfl))
   | fail)
  exact ⟨rfl, _, rfl, [0, 1, 2, 3, 4, 5], by (refine ⟨rfl, rfl, rfl, ?_⟩; repeat' (first | exact True.intro | refine And.intro ?_ ?_ | exact RenO.none | exact RenO.cells (RenVs.plain rfl) | exact RenO.cells (RenVs.cons (RenV.ptr rfl) (RenVs.cons (RenV.slice rfl) RenVs.nil)) | exact RenO.cells (RenVs.cons (RenV.ptr rfl) (RenVs.cons (RenV.sliceL rfl (by simp)) RenVs.nil)) | exact RenO.cells (RenVs.cons (RenV.ptr rfl) (RenVs.cons RenV.nilslice RenVs.nil)) | exact RenO.ro (RenVs.plain (cellsN_plain _)) | exact RenO.cells (RenVs.plain (cellsI_plain _)) | exact RenO.cells (RenVs.plain (cellsB_plain _)) | exact RenO.cells (RenVs.eq (cellsB_snoc _ _).symm (by rw [← cellsB_snoc]; exact cellsB_plain _)) | exact RenO.cells (RenVs.plain (rowN_plain _)) | exact RenO.map (RenVs.plain (by decide +kernel)) ruleE_ren)), RenV.tuple RenVs.nil⟩
set_option maxHeartbeats 2000000 in
theorem wb0 (ns : List Nd) (x : Nd) (l : List Nat) (c : UInt8) : CSem Tryz.prog 102 [.ptr 3 0, .int .u8 (c.toNat : Int)] (fH ns x l [.nilptr, .nilslice] .leaf .leaf 5) .niliface (fH ns x l [.ptr 3 0, .slice 5 0 1 1] (bufT [c]) .leaf 6) := by
  refine CSem.into Tryz.func102 rfl (by decide) Tryz.ntmps102 rfl rfl rfl ?_
  dsimp only [fH, bufT]
  repeat' (first
   | with_reducible refine RS.seq ?_
   | with_reducible refine RS.goL ?_
   | with_reducible refine RO.nil ?_
   | with_reducible refine ThenS.n ?_
   | with_reducible refine RS.ret ?_
   | ((with_reducible refine' RO.fn (f := 165) exts_ok ?hw ?ha ?hf ?hs ?hp ?_); (case hw | ha | hf => exact rfl); (case hs => exact cc0 ns x l); (case hp => exact rfl))
   | ((with_reducible refine' RO.ld1 exts_ok ?hw ?hx ?hu ?hD ?hv ?hp ?_); (case hw | hx | hu | hD => exact rfl); (case hv => exact rfl); (case hp => exact rfl))
   | ((with_reducible refine' RO.step ?hw ?ho ?hp ?_); (case hw => exact rfl); (case ho => (first | exact OSem.val exts_ok rfl | exact OSem.skip exts_ok rfl)); (case hp => exact rfl))
   | fail)
  exact ⟨rfl, _, rfl, [0, 1, 2, 3, 4, 6], by (refine ⟨rfl, rfl, rfl, ?_⟩; repeat' (first | exact True.intro | refine And.intro ?_ ?_ | exact RenO.none | exact RenO.cells (RenVs.plain rfl) | exact RenO.cells (RenVs.cons (RenV.ptr rfl) (RenVs.cons (RenV.slice rfl) RenVs.nil)) | exact RenO.cells (RenVs.cons (RenV.ptr rfl) (RenVs.cons (RenV.sliceL rfl (by simp)) RenVs.nil)) | exact RenO.cells (RenVs.cons (RenV.ptr rfl) (RenVs.cons RenV.nilslice RenVs.nil)) | exact RenO.ro (RenVs.plain (cellsN_plain _)) | exact RenO.cells (RenVs.plain (cellsI_plain _)) | exact RenO.cells (RenVs.plain (cellsB_plain _)) | exact RenO.cells (RenVs.eq (cellsB_snoc _ _).symm (by rw [← cellsB_snoc]; exact cellsB_plain _)) | exact RenO.cells (RenVs.plain (rowN_plain _)) | exact RenO.map (RenVs.plain (by decide +kernel)) ruleE_ren)), RenV.plain rfl⟩
set_option maxHeartbeats 2000000 in
theorem wb1 (ns : List Nd) (x : Nd) (l : List Nat) (w : List UInt8) (k : Nat) (hk : w.length = k) (hk1 : 0 < k) (hl : k ≤ 1000) (c : UInt8) : CSem Tryz.prog 102 [.ptr 3 0, .int .u8 (c.toNat : Int)] (fH ns x l [.ptr 3 0, .slice 5 0 k 1] (bufT w) .leaf 6) .niliface (fH ns x l [.ptr 3 0, .slice 6 0 (k + 1) 1] .leaf (bufT (w ++ [c])) 7) := by
  refine CSem.into Tryz.func102 rfl (by decide) Tryz.ntmps102 rfl rfl rfl ?_
  dsimp only [fH, bufT]
  repeat' (first
   | with_reducible refine RS.seq ?_
   | with_reducible refine RS.goL ?_
   | with_reducible refine RO.nil ?_
   | with_reducible refine ThenS.n ?_
   | with_reducible refine RS.ret ?_
   | ((with_reducible refine' RO.fn (f := 165) exts_ok ?hw ?ha ?hf ?hs ?hp ?_); (case hw | ha | hf => exact rfl); (case hs => exact cc1 ns x l w k); (case hp => exact rfl))
   | ((with_reducible refine' RO.app1 exts_ok ?hw ?hx ?hy ?ht ?hu ?hi ?hz ?hzl ?hes ?he0 ?hn ?hone ?hg ?ho ?hb ?hb2 ?hq ?ha ?hp ?_); (case hw => exact rfl); (case hx => exact rfl); (case hy => exact rfl); (case ht => exact rfl); (case hu => exact rfl); (case hi => exact rfl); (case hz => exact rfl); (case hzl => exact rfl); (case hes => exact rfl); (case he0 => exact rfl); (case hn => exact rfl); (case hone => exact rfl); (case hg => exact rfl); (case ho => (first | exact takeN_all (by simp [cellsB_len, hk]) | exact takeN_pre (by simp [cellsB_len, hk] <;> omega))); (case hb => (first | omega | (simp; omega))); (case hb2 => (show (k + 1) * 1 ≤ _; omega)); (case hq => exact rfl); (case ha => exact rfl); (case hp => exact rfl))
   | ((with_reducible refine' RO.ld1 exts_ok ?hw ?hx ?hu ?hD ?hv ?hp ?_); (case hw | hx | hu | hD => exact rfl); (case hv => exact rfl); (case hp => exact rfl))
   | ((with_reducible refine' RO.step ?hw ?ho ?hp ?_); (case hw => exact rfl); (case ho => (first | exact OSem.val exts_ok rfl | exact OSem.skip exts_ok rfl)); (case hp => exact rfl))
   | fail)
  exact ⟨rfl, _, rfl, [0, 1, 2, 3, 4, 5, 7], by (refine ⟨rfl, rfl, rfl, ?_⟩; repeat' (first | exact True.intro | refine And.intro ?_ ?_ | exact RenO.none | exact RenO.cells (RenVs.plain rfl) | exact RenO.cells (RenVs.cons (RenV.ptr rfl) (RenVs.cons (RenV.slice rfl) RenVs.nil)) | exact RenO.cells (RenVs.cons (RenV.ptr rfl) (RenVs.cons (RenV.sliceL rfl (by simp)) RenVs.nil)) | exact RenO.cells (RenVs.cons (RenV.ptr rfl) (RenVs.cons RenV.nilslice RenVs.nil)) | exact RenO.ro (RenVs.plain (cellsN_plain _)) | exact RenO.cells (RenVs.plain (cellsI_plain _)) | exact RenO.cells (RenVs.plain (cellsB_plain _)) | exact RenO.cells (RenVs.eq (cellsB_snoc _ _).symm (by rw [← cellsB_snoc]; exact cellsB_plain _)) | exact RenO.cells (RenVs.plain (rowN_plain _)) | exact RenO.map (RenVs.plain (by decide +kernel)) ruleE_ren)), RenV.plain rfl⟩
theorem bytesOf_cells : ∀ (w : List UInt8), bytesOf (cellsB w) = some w
  | [] => rfl
  | c :: w => by
    have h : bytesOf (cellsB w) = some w := bytesOf_cells w
    have hc : c.toNat < 256 := c.toNat_lt
    show (match bytesOf (cellsB w) with | some r => bif Nat.blt c.toNat 256 then some (UInt8.ofNat c.toNat :: r) else none | none => none) = some (c :: w)
    rw [h]
    have : Nat.blt c.toNat 256 = true := by simpa [Nat.blt_eq] using hc
    simp only [this, cond_true, UInt8.ofNat_toNat]
theorem OSem.unsafeStr {P : Program} {ext : FuncId → Bool} (hext : ExtOk P ext) {d : Option Tmp} {ty : TypeId} {pos : String} {af : Array Edge} {gd : Option (Nat × Bool)} {g : Ev} {h h' : Heap} {t t' e : TypeId} {x y : Operand} {i k : Nat} {w : List UInt8} (hx : g x = some (.ptr i 0)) (hy : g y = some (.int .i64 (k : Int))) (ht : P.underlying t = some (.pointer e)) (hg : h.objs.get i = some (.cells e 1 (cellsB w) false)) (hd : Nat.blt 0 P.depth = true) (hk : w.length = k) (hk1 : 0 < k) (hl : k ≤ 1000000) (hput : h.put i none = some h') :
    OSem P ⟨d, .call ⟨.builtin .unsafeString, #[x, y], #[t, t']⟩, ty, pos, af, gd⟩ g h (.str w) h' := by
  refine OSem.val hext ?_
  have h1 : Nat.beq k 0 = false := by cases k with | zero => omega | succ k => rfl
  have h2 : Nat.ble k 1000000 = true := by simpa using hl
  have h3 : takeN k (cellsB w) = some (cellsB w) := takeN_all (by simp [cellsB_len, hk])
  have h0 : aunsafeString P h t (.ptr i 0) (.int .i64 (k : Int)) = some (.str w, h') := by
    simp only [aunsafeString, natOf, h1, cond_false, ht, hg, Nat.beq_refl, cond_true, hd, h2, h3, bytesOf_cells, hput]
  simp only [aop, aevals, hx, hy, abuiltin, h0, avalh]
set_option maxHeartbeats 2000000 in
theorem str0 (ns : List Nd) (x : Nd) (l : List Nat) (r : Rule) : CSem Tryz.prog 106 [.ptr 3 0] (gH0 ns x r) (.str []) (gH0 ns x r) := by
  refine CSem.into Tryz.func106 rfl (by decide) Tryz.ntmps106 rfl rfl rfl ?_
  dsimp only [gH0]
  repeat' (first
   | with_reducible refine RS.seq ?_
   | with_reducible refine RS.goL ?_
   | with_reducible refine RO.nil ?_
   | with_reducible refine ThenS.n ?_
   | with_reducible refine RS.ret ?_
   | ((with_reducible refine' RS.drawE mixed [none, none, none, none, none, none, none, none, none, none, none, none] ?hn ?hms ?hord ?hh ?_); (case hn => exact rfl); (case hms => exact rfl); (case hord => exact rfl); (case hh => exact rfl))
   | ((with_reducible refine' RO.step ?hw ?ho ?hp ?_); (case hw => exact rfl); (case ho => exact OSem.val exts_ok rfl); (case hp => exact rfl))
   | ((with_reducible refine RD.nil ?_); (refine' RDk.intro ?oks ?hl ?_); (case hl => exact rfl); (case oks => (repeat' (first | exact True.intro | refine And.intro ?_ ?_ | exact OSem.load1 exts_ok rfl rfl rfl rfl))))
   | ((with_reducible refine' RD.calm ?hw ?ho ?hp ?_); (case hw => exact rfl); (case ho => exact fun H => OSem.val exts_ok rfl); (case hp => exact rfl))
   | ((with_reducible refine' RD.read ?hw ?ho ?hp (fun _ => ?_)); (case hw => exact rfl); (case ho => exact OSem.load1 exts_ok rfl rfl rfl rfl); (case hp => exact rfl))
   | fail)
  exact ⟨rfl, _, rfl, [0, 1, 2, 3, 4], by (refine ⟨rfl, rfl, rfl, ?_⟩; repeat' (first | exact True.intro | refine And.intro ?_ ?_ | exact RenO.none | exact RenO.cells (RenVs.plain rfl) | exact RenO.cells (RenVs.cons (RenV.ptr rfl) (RenVs.cons (RenV.slice rfl) RenVs.nil)) | exact RenO.cells (RenVs.cons (RenV.ptr rfl) (RenVs.cons (RenV.sliceL rfl (by simp)) RenVs.nil)) | exact RenO.cells (RenVs.cons (RenV.ptr rfl) (RenVs.cons RenV.nilslice RenVs.nil)) | exact RenO.ro (RenVs.plain (cellsN_plain _)) | exact RenO.cells (RenVs.plain (cellsI_plain _)) | exact RenO.cells (RenVs.plain (cellsB_plain _)) | exact RenO.cells (RenVs.eq (cellsB_snoc _ _).symm (by rw [← cellsB_snoc]; exact cellsB_plain _)) | exact RenO.cells (RenVs.plain (rowN_plain _)) | exact RenO.map (RenVs.plain (by decide +kernel)) ruleE_ren)), RenV.plain rfl⟩
set_option maxHeartbeats 2000000 in
theorem str1 (ns : List Nd) (x : Nd) (l : List Nat) (w : List UInt8) (k : Nat) (hk : w.length = k + 1) (hl : k + 1 ≤ 1000) (r : Rule) : CSem Tryz.prog 106 [.ptr 3 0] (gH1 ns x l (k + 1) (bufT w) r) (.str w) (gH1 ns x l (k + 1) .leaf r) := by
  refine CSem.into Tryz.func106 rfl (by decide) Tryz.ntmps106 rfl rfl rfl ?_
  dsimp only [gH1, fH, bufT]
  repeat' (first
   | with_reducible refine RS.seq ?_
   | with_reducible refine RS.goL ?_
   | with_reducible refine RO.nil ?_
   | with_reducible refine ThenS.n ?_
   | with_reducible refine RS.ret ?_
   | ((with_reducible refine' RS.drawE mixed [none, none, none, none, none, none, none, none, none, none, none, none] ?hn ?hms ?hord ?hh ?_); (case hn => exact rfl); (case hms => exact rfl); (case hord => exact rfl); (case hh => exact rfl))
   | ((with_reducible refine' RD.eff ?hw ?ho ?hp ?_); (case hw => exact rfl); (case ho => exact OSem.unsafeStr exts_ok rfl rfl rfl rfl rfl hk (by omega) (by omega) rfl); (case hp => exact rfl))
   | ((with_reducible refine RD.nil ?_); (refine' RDk.intro ?oks ?hl ?_); (case hl => exact rfl); (case oks => (repeat' (first | exact True.intro | refine And.intro ?_ ?_ | exact rfl | exact OSem.load1 exts_ok rfl rfl rfl rfl | exact OSem.loadN exts_ok rfl rfl rfl rfl | exact OSem.unsafeStr exts_ok rfl rfl rfl rfl rfl hk (by omega) (by omega) rfl))))
   | ((with_reducible refine' RO.step ?hw ?ho ?hp ?_); (case hw => exact rfl); (case ho => exact OSem.val exts_ok rfl); (case hp => exact rfl))
   | ((with_reducible refine' RD.calm ?hw ?ho ?hp ?_); (case hw => exact rfl); (case ho => exact fun H => OSem.val exts_ok rfl); (case hp => exact rfl))
   | ((with_reducible refine' RD.read ?hw ?ho ?hp (fun _ => ?_)); (case hw => exact rfl); (case ho => exact OSem.load1 exts_ok rfl rfl rfl rfl); (case hp => exact rfl))
   | fail)
  exact ⟨rfl, _, rfl, [0, 1, 2, 3, 4, 5, 6], by (refine ⟨rfl, rfl, rfl, ?_⟩; repeat' (first | exact True.intro | refine And.intro ?_ ?_ | exact RenO.none | exact RenO.cells (RenVs.plain rfl) | exact RenO.cells (RenVs.cons (RenV.ptr rfl) (RenVs.cons (RenV.slice rfl) RenVs.nil)) | exact RenO.cells (RenVs.cons (RenV.ptr rfl) (RenVs.cons (RenV.sliceL rfl (by simp)) RenVs.nil)) | exact RenO.cells (RenVs.cons (RenV.ptr rfl) (RenVs.cons RenV.nilslice RenVs.nil)) | exact RenO.ro (RenVs.plain (cellsN_plain _)) | exact RenO.cells (RenVs.plain (cellsI_plain _)) | exact RenO.cells (RenVs.plain (cellsB_plain _)) | exact RenO.cells (RenVs.eq (cellsB_snoc _ _).symm (by rw [← cellsB_snoc]; exact cellsB_plain _)) | exact RenO.cells (RenVs.plain (rowN_plain _)) | exact RenO.map (RenVs.plain (by decide +kernel)) ruleE_ren)), RenV.plain rfl⟩
end Go.Am
