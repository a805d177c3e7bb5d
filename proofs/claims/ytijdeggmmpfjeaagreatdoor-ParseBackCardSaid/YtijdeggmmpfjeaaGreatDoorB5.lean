/- Part of the proof: WkW, WkX, WkY, AsWd. -/
import Derived.Test.YtijdeggmmpfjeaaGreatDoorB3
import Derived.Test.YtijdeggmmpfjeaaGreatDoorB4
import Derived.Test.YtijdeggmmpfjeaaGreatDoorA9
import Derived.Test.YtijdeggmmpfjeaaGreatDoorS3
set_option linter.unusedSimpArgs false
set_option linter.unusedVariables false
set_option linter.unusedSectionVars false
namespace Go.Am
open Go Go.Proofs Go.RowKit Go.Pu
set_option maxRecDepth 100000
set_option maxHeartbeats 2000000 in
theorem sem170 (r : Rule) (many : Nat) (hm : many ≤ 1000000) (hb : r.before.length ≤ 1000) (he : r.behind.length ≤ 1000) (h : Heap) : CSem Tryz.prog 170 [ruleV r, .int .i64 (many : Int)] h (.int .i64 ((many : Int) - r.before.length - r.behind.length)) h := by
  obtain ⟨before, manys, least, most, behind, named⟩ := r
  dsimp only at hb he
  dsimp only [ruleV]
  refine CSem.pure ?_ (RenVs.cons (RenV.agg (RenVs.plain rfl)) (RenVs.plain rfl)) (RenV.plain rfl) h
  refine CSem.into Tryz.func170 rfl (by decide) Tryz.ntmps170 rfl rfl rfl ?_
  dsimp only
  repeat' (first
   | refine S0 ?_
   | (refine S2 ?_ ?_) <;> intro hc <;> try (exfalso; first | omega | (simp at hc; done))
   | refine St ?_
   | fail)
  exact ⟨rfl, _, rfl, [], ⟨rfl, rfl, rfl, True.intro⟩, RenV.plain rfl⟩
set_option maxHeartbeats 2000000 in
theorem sem107 (r : Rule) (many : Nat) (hm : many ≤ 1000000) (hb : r.before.length ≤ 1000) (he : r.behind.length ≤ 1000) (h : Heap) : CSem Tryz.prog 107 [ruleV r, .int .i64 (many : Int)] h (.bool (implSized r many)) h := by
  have hc := sem170 r many hm hb he
  obtain ⟨before, manys, least, most, behind, named⟩ := r
  dsimp only at hb he hc
  dsimp only [ruleV, implSized] at hc ⊢
  refine CSem.pure ?_ (RenVs.cons (RenV.agg (RenVs.plain rfl)) (RenVs.plain rfl)) (RenV.plain rfl) h
  generalize (many : Int) - before.length - behind.length = z at hc ⊢
  cases manys
  all_goals refine CSem.into Tryz.func107 rfl (by decide) Tryz.ntmps107 rfl rfl rfl ?_
  all_goals dsimp only
  all_goals
    repeat' (first
     | refine S0 ?_
     | ((with_reducible refine' RD.read ?hw ?ho ?hp (fun _ => ?_)); (case hw => exact rfl); (case ho => exact OSem.fn exts_ok rfl rfl rfl rfl (hc _)); (case hp => exact rfl))
     | ((with_reducible refine' RS.drawE mixed [none, none, none, none, none, none, none, none, none, none, none, none] ?hn ?hms ?hord ?hh ?_); (case hn => exact rfl); (case hms => exact rfl); (case hord => exact rfl); (case hh => exact rfl))
     | ((with_reducible refine RD.nil ?_); (refine' RDk.intro ?oks ?hl ?_); (case hl => exact rfl); (case oks => (repeat' (first | exact True.intro | refine And.intro ?_ ?_ | exact rfl | exact OSem.load1 exts_ok rfl rfl rfl rfl | exact OSem.loadN exts_ok rfl rfl rfl rfl | exact OSem.fn exts_ok rfl rfl rfl rfl (hc _)))))
     | (refine S2 ?_ ?_) <;> intro hc <;> try (exfalso; first | omega | (simp at hc; done))
     | refine St ?_
     | ((with_reducible refine RD.nil ?_); (refine' RDk.intro ?oks ?hl ?_); (case hl => exact rfl); (case oks => (repeat' (first | exact True.intro | refine And.intro ?_ ?_ | exact rfl | exact OSem.load1 exts_ok rfl rfl rfl rfl | exact OSem.loadN exts_ok rfl rfl rfl rfl))))
     | ((with_reducible refine' RD.skip ?hw ?hp ?_); (case hw => exact rfl); (case hp => exact rfl))
     | ((with_reducible refine' RD.mem ?hw ?hk ?hp ?_); (case hw => exact rfl); (case hk => exact rfl); (case hp => exact rfl))
     | ((with_reducible refine' RD.eff ?hw ?ho ?hp ?_); (case hw => exact rfl); (case ho => exact OSem.skip exts_ok rfl); (case hp => exact rfl))
     | ((with_reducible refine' RD.calm ?hw ?ho ?hp ?_); (case hw => exact rfl); (case ho => exact fun H => OSem.val exts_ok rfl); (case hp => exact rfl))
     | ((with_reducible refine' RD.calm ?hw ?ho ?hp ?_); (case hw => exact rfl); (case ho => exact fun H => OSem.idxL exts_ok rfl rfl rfl rfl rfl rfl (by omega)); (case hp => exact rfl))
     | ((with_reducible refine' RD.read ?hw ?ho ?hp (fun _ => ?_)); (case hw => exact rfl); (case ho => (first | exact OSem.load1 exts_ok rfl rfl rfl rfl | exact OSem.loadN exts_ok rfl rfl rfl rfl)); (case hp => exact rfl))
     | fail)
  all_goals first | exact ⟨rfl, _, rfl, [], ⟨rfl, rfl, rfl, True.intro⟩, RenV.plain rfl⟩ | exact ⟨rfl, _, rfl, [], ⟨rfl, rfl, rfl, True.intro⟩, RenV.eq (congrArg AV.bool (not_ilt _ _)) rfl⟩
set_option maxHeartbeats 2000000 in
theorem sem108 (x : Nd) (hk : x.k < 256) (many : Nat) (h : Heap) : CSem Tryz.prog 108 [.agg (rowN x), .int .i64 (many : Int)] h (.bool (implNum x.k x.n many)) h := by
  refine CSem.pure ?_ (RenVs.cons (RenV.agg (RenVs.plain rfl)) (RenVs.plain rfl)) (RenV.plain rfl) h
  generalize hR : implNum x.k x.n many = R
  refine CSem.into Tryz.func108 rfl (by decide) Tryz.ntmps108 rfl rfl rfl ?_
  dsimp only [rowN]
  repeat' (first
   | refine S0 ?_
   | (refine S2 ?_ ?_) <;> intro hc <;> try (exfalso; first | omega | (simp at hc; done))
   | refine St ?_
   | fail)
  all_goals refine ⟨rfl, _, rfl, [], ⟨rfl, rfl, rfl, True.intro⟩, RenV.eq ?_ rfl⟩
  all_goals
    rw [← hR]
    have k62 : ((x.k : Int) = 62) ↔ x.k = 62 := (by omega)
    have k5 : ((x.k : Int) = 5) ↔ x.k = 5 := (by omega)
    have k46 : ((x.k : Int) = 46) ↔ x.k = 46 := (by omega)
    clear hR
    unfold implNum
    simp_all [afinish]
  all_goals (intros; omega)
end Go.Am
namespace Go.Am
open Go Go.Proofs Go.RowKit Go.Pu
set_option maxRecDepth 100000
theorem ruleE_ren {s : List Nat} : RenVs s (ruleE.map Prod.snd) (ruleE.map Prod.snd) := fun M => plainAs_concs (by decide +kernel)
def fH (ns : List Nd) (x : Nd) (l : List Nat) (b : List AV) (o5 o6 : T AObj) (n : Nat) : Heap := ⟨.node (some (.ro 50 5 (cellsN ns))) (.node (some (.map ruleE)) (.node (some (.cells 140 2 b true)) .leaf .leaf) o5) (.node (some (.cells 50 5 (rowN x) true)) (.node (some (.cells 3 1 (cellsI l) false)) .leaf .leaf) o6), n⟩
def gH0 (ns : List Nd) (x : Nd) (r : Rule) : Heap := ⟨.node (some (.ro 50 5 (cellsN ns))) (.node (some (.map ruleE)) (.node (some (.cells 140 2 [.nilptr, .nilslice] true)) .leaf .leaf) .leaf) (.node (some (.cells 50 5 (rowN x) true)) (.node (some (.cells 145 6 [.str r.before, .str r.many, .int .i64 r.least, .int .i64 r.most, .str r.behind, .bool r.named] true)) .leaf .leaf) .leaf), 5⟩
def gH1 (ns : List Nd) (x : Nd) (l : List Nat) (k : Nat) (b : T AObj) (r : Rule) : Heap := fH ns x l [.ptr 3 0, .slice 5 0 k 1] b (.node (some (.cells 145 6 [.str r.before, .str r.many, .int .i64 r.least, .int .i64 r.most, .str r.behind, .bool r.named] true)) .leaf .leaf) 7
def bufT (w : List UInt8) : T AObj := .node (some (.cells 5 1 (cellsB w) false)) .leaf .leaf
set_option maxHeartbeats 2000000 in
theorem cc0 (ns : List Nd) (x : Nd) (l : List Nat) : CSem Tryz.prog 165 [.ptr 3 0] (fH ns x l [.nilptr, .nilslice] .leaf .leaf 5) (.tuple []) (fH ns x l [.ptr 3 0, .nilslice] .leaf .leaf 5) := by
  refine CSem.into Tryz.func165 rfl (by decide) Tryz.ntmps165 rfl rfl rfl ?_
  dsimp only [fH]
  repeat' (first
   | refine S0 ?_
   | (refine S2 ?_ ?_) <;> intro hc <;> try (exfalso; first | omega | (simp at hc; done))
   | refine St ?_
   | fail)
  exact ⟨rfl, _, rfl, [0, 1, 2, 3, 4], by (refine ⟨rfl, rfl, rfl, ?_⟩; repeat' (first | exact True.intro | refine And.intro ?_ ?_ | exact RenO.none | exact RenO.cells (RenVs.plain rfl) | exact RenO.cells (RenVs.cons (RenV.ptr rfl) (RenVs.cons (RenV.slice rfl) RenVs.nil)) | exact RenO.cells (RenVs.cons (RenV.ptr rfl) (RenVs.cons (RenV.sliceL rfl (by simp)) RenVs.nil)) | exact RenO.cells (RenVs.cons (RenV.ptr rfl) (RenVs.cons RenV.nilslice RenVs.nil)) | exact RenO.ro (RenVs.plain (cellsN_plain _)) | exact RenO.cells (RenVs.plain (cellsI_plain _)) | exact RenO.cells (RenVs.plain (cellsB_plain _)) | exact RenO.cells (RenVs.eq (cellsB_snoc _ _).symm (by rw [← cellsB_snoc]; exact cellsB_plain _)) | exact RenO.cells (RenVs.plain (rowN_plain _)) | exact RenO.map (RenVs.plain (by decide +kernel)) ruleE_ren)), RenV.tuple RenVs.nil⟩
set_option maxHeartbeats 2000000 in
theorem cc1 (ns : List Nd) (x : Nd) (l : List Nat) (w : List UInt8) (k : Nat) : CSem Tryz.prog 165 [.ptr 3 0] (fH ns x l [.ptr 3 0, .slice 5 0 k 1] (bufT w) .leaf 6) (.tuple []) (fH ns x l [.ptr 3 0, .slice 5 0 k 1] (bufT w) .leaf 6) := by
  refine CSem.into Tryz.func165 rfl (by decide) Tryz.ntmps165 rfl rfl rfl ?_
  dsimp only [fH, bufT]
  repeat' (first
   | refine S0 ?_
   | (refine S2 ?_ ?_) <;> intro hc <;> try (exfalso; first | omega | (simp at hc; done))
   | refine St ?_
   | fail)
  exact ⟨rfl, _, rfl, [0, 1, 2, 3, 4, 5], by (refine ⟨rfl, rfl, rfl, ?_⟩; repeat' (first | exact True.intro | refine And.intro ?_ ?_ | exact RenO.none | exact RenO.cells (RenVs.plain rfl) | exact RenO.cells (RenVs.cons (RenV.ptr rfl) (RenVs.cons (RenV.slice rfl) RenVs.nil)) | exact RenO.cells (RenVs.cons (RenV.ptr rfl) (RenVs.cons (RenV.sliceL rfl (by simp)) RenVs.nil)) | exact RenO.cells (RenVs.cons (RenV.ptr rfl) (RenVs.cons RenV.nilslice RenVs.nil)) | exact RenO.ro (RenVs.plain (cellsN_plain _)) | exact RenO.cells (RenVs.plain (cellsI_plain _)) | exact RenO.cells (RenVs.plain (cellsB_plain _)) | exact RenO.cells (RenVs.eq (cellsB_snoc _ _).symm (by rw [← cellsB_snoc]; exact cellsB_plain _)) | exact RenO.cells (RenVs.plain (rowN_plain _)) | exact RenO.map (RenVs.plain (by decide +kernel)) ruleE_ren)), RenV.tuple RenVs.nil⟩
set_option maxHeartbeats 2000000 in
theorem wb0 (ns : List Nd) (x : Nd) (l : List Nat) (c : UInt8) : CSem Tryz.prog 102 [.ptr 3 0, .int .u8 (c.toNat : Int)] (fH ns x l [.nilptr, .nilslice] .leaf .leaf 5) .niliface (fH ns x l [.ptr 3 0, .slice 5 0 1 1] (bufT [c]) .leaf 6) := by
  refine CSem.into Tryz.func102 rfl (by decide) Tryz.ntmps102 rfl rfl rfl ?_
  dsimp only [fH, bufT]
  repeat' (first
   | refine S0 ?_
   | refine Sc (cc0 ns x l) ?_
   | (refine S2 ?_ ?_) <;> intro hc <;> try (exfalso; first | omega | (simp at hc; done))
   | refine St ?_
   | fail)
  exact ⟨rfl, _, rfl, [0, 1, 2, 3, 4, 6], by (refine ⟨rfl, rfl, rfl, ?_⟩; repeat' (first | exact True.intro | refine And.intro ?_ ?_ | exact RenO.none | exact RenO.cells (RenVs.plain rfl) | exact RenO.cells (RenVs.cons (RenV.ptr rfl) (RenVs.cons (RenV.slice rfl) RenVs.nil)) | exact RenO.cells (RenVs.cons (RenV.ptr rfl) (RenVs.cons (RenV.sliceL rfl (by simp)) RenVs.nil)) | exact RenO.cells (RenVs.cons (RenV.ptr rfl) (RenVs.cons RenV.nilslice RenVs.nil)) | exact RenO.ro (RenVs.plain (cellsN_plain _)) | exact RenO.cells (RenVs.plain (cellsI_plain _)) | exact RenO.cells (RenVs.plain (cellsB_plain _)) | exact RenO.cells (RenVs.eq (cellsB_snoc _ _).symm (by rw [← cellsB_snoc]; exact cellsB_plain _)) | exact RenO.cells (RenVs.plain (rowN_plain _)) | exact RenO.map (RenVs.plain (by decide +kernel)) ruleE_ren)), RenV.plain rfl⟩
set_option maxHeartbeats 2000000 in
theorem wb1 (ns : List Nd) (x : Nd) (l : List Nat) (w : List UInt8) (k : Nat) (hk : w.length = k) (hk1 : 0 < k) (hl : k ≤ 1000) (c : UInt8) : CSem Tryz.prog 102 [.ptr 3 0, .int .u8 (c.toNat : Int)] (fH ns x l [.ptr 3 0, .slice 5 0 k 1] (bufT w) .leaf 6) .niliface (fH ns x l [.ptr 3 0, .slice 6 0 (k + 1) 1] .leaf (bufT (w ++ [c])) 7) := by
  refine CSem.into Tryz.func102 rfl (by decide) Tryz.ntmps102 rfl rfl rfl ?_
  dsimp only [fH, bufT]
  repeat' (first
   | refine S0 ?_
   | refine Sc (cc1 ns x l w k) ?_
   | ((with_reducible refine' RO.app1 exts_ok ?hw ?hx ?hy ?ht ?hu ?hi ?hz ?hzl ?hes ?he0 ?hn ?hone ?hg ?ho ?hb ?hb2 ?hq ?ha ?hp ?_); (case hw => exact rfl); (case hx => exact rfl); (case hy => exact rfl); (case ht => exact rfl); (case hu => exact rfl); (case hi => exact rfl); (case hz => exact rfl); (case hzl => exact rfl); (case hes => exact rfl); (case he0 => exact rfl); (case hn => exact rfl); (case hone => exact rfl); (case hg => exact rfl); (case ho => (first | exact takeN_all (by simp [cellsB_len, hk]) | exact takeN_pre (by simp [cellsB_len, hk] <;> omega))); (case hb => (first | omega | (simp; omega))); (case hb2 => (show (k + 1) * 1 ≤ _; omega)); (case hq => exact rfl); (case ha => exact rfl); (case hp => exact rfl))
   | ((with_reducible refine' RO.app0 exts_ok ?hw ?hx ?hy ?ht ?hu ?hi ?hz ?hzl ?hes ?he0 ?hn ?hone ?hm ?hb ?hb2 ?ha ?hp ?_); (case hw => exact rfl); (case hx => exact rfl); (case hy => exact rfl); (case ht => exact rfl); (case hu => exact rfl); (case hi => exact rfl); (case hz => exact rfl); (case hzl => exact rfl); (case hes => exact rfl); (case he0 => exact rfl); (case hn => exact rfl); (case hone => exact rfl); (case hm => (first | decide | omega)); (case hb => (first | decide | omega)); (case hb2 => fail); (case ha => exact rfl); (case hp => exact rfl))
   | (refine S2 ?_ ?_) <;> intro hc <;> try (exfalso; first | omega | (simp at hc; done))
   | refine St ?_
   | fail)
  exact ⟨rfl, _, rfl, [0, 1, 2, 3, 4, 5, 7], by (refine ⟨rfl, rfl, rfl, ?_⟩; repeat' (first | exact True.intro | refine And.intro ?_ ?_ | exact RenO.none | exact RenO.cells (RenVs.plain rfl) | exact RenO.cells (RenVs.cons (RenV.ptr rfl) (RenVs.cons (RenV.slice rfl) RenVs.nil)) | exact RenO.cells (RenVs.cons (RenV.ptr rfl) (RenVs.cons (RenV.sliceL rfl (by simp)) RenVs.nil)) | exact RenO.cells (RenVs.cons (RenV.ptr rfl) (RenVs.cons RenV.nilslice RenVs.nil)) | exact RenO.ro (RenVs.plain (cellsN_plain _)) | exact RenO.cells (RenVs.plain (cellsI_plain _)) | exact RenO.cells (RenVs.plain (cellsB_plain _)) | exact RenO.cells (RenVs.eq (cellsB_snoc _ _).symm (by rw [← cellsB_snoc]; exact cellsB_plain _)) | exact RenO.cells (RenVs.plain (rowN_plain _)) | exact RenO.map (RenVs.plain (by decide +kernel)) ruleE_ren)), RenV.plain rfl⟩
theorem bytesOf_cells : ∀ (w : List UInt8), bytesOf (cellsB w) = some w
  | [] => rfl
  | c :: w => by
    have h : bytesOf (cellsB w) = some w := bytesOf_cells w
    have hc : c.toNat < 256 := c.toNat_lt
    show (match bytesOf (cellsB w) with | some r => bif Nat.blt c.toNat 256 then some (UInt8.ofNat c.toNat :: r) else none | none => none) = some (c :: w)
    rw [h]
    have : Nat.blt c.toNat 256 = true := by simpa [Nat.blt_eq] using hc
    simp only [this, cond_true, UInt8.ofNat_toNat]
theorem OSem.unsafeStr {P : Program} {ext : FuncId → Bool} (hext : ExtOk P ext) {d : Option Tmp} {ty : TypeId} {pos : String} {af : Array Edge} {gd : Option (Nat × Bool)} {g : Ev} {h h' : Heap} {t t' e : TypeId} {x y : Operand} {i k : Nat} {w : List UInt8} (hx : g x = some (.ptr i 0)) (hy : g y = some (.int .i64 (k : Int))) (ht : P.underlying t = some (.pointer e)) (hg : h.objs.get i = some (.cells e 1 (cellsB w) false)) (hd : Nat.blt 0 P.depth = true) (hk : w.length = k) (hk1 : 0 < k) (hl : k ≤ 1000000) (hput : h.put i none = some h') :
    OSem P ⟨d, .call ⟨.builtin .unsafeString, #[x, y], #[t, t']⟩, ty, pos, af, gd⟩ g h (.str w) h' := by
  refine OSem.val hext ?_
  have h1 : Nat.beq k 0 = false := by cases k with | zero => omega | succ k => rfl
  have h2 : Nat.ble k 1000000 = true := by simpa using hl
  have h3 : takeN k (cellsB w) = some (cellsB w) := takeN_all (by simp [cellsB_len, hk])
  have h0 : aunsafeString P h t (.ptr i 0) (.int .i64 (k : Int)) = some (.str w, h') := by
    simp only [aunsafeString, natOf, h1, cond_false, ht, hg, Nat.beq_refl, cond_true, hd, h2, h3, bytesOf_cells, hput]
  simp only [aop, aevals, hx, hy, abuiltin, h0, avalh]
set_option maxHeartbeats 2000000 in
theorem str0 (ns : List Nd) (x : Nd) (l : List Nat) (r : Rule) : CSem Tryz.prog 106 [.ptr 3 0] (gH0 ns x r) (.str []) (gH0 ns x r) := by
  refine CSem.into Tryz.func106 rfl (by decide) Tryz.ntmps106 rfl rfl rfl ?_
  dsimp only [gH0]
  repeat' (first
   | refine S0 ?_
   | ((with_reducible refine' RS.drawE mixed [none, none, none, none, none, none, none, none, none, none, none, none] ?hn ?hms ?hord ?hh ?_); (case hn => exact rfl); (case hms => exact rfl); (case hord => exact rfl); (case hh => exact rfl))
   | (refine S2 ?_ ?_) <;> intro hc <;> try (exfalso; first | omega | (simp at hc; done))
   | refine St ?_
   | ((with_reducible refine RD.nil ?_); (refine' RDk.intro ?oks ?hl ?_); (case hl => exact rfl); (case oks => (repeat' (first | exact True.intro | refine And.intro ?_ ?_ | exact rfl | exact OSem.load1 exts_ok rfl rfl rfl rfl | exact OSem.loadN exts_ok rfl rfl rfl rfl))))
   | ((with_reducible refine' RD.skip ?hw ?hp ?_); (case hw => exact rfl); (case hp => exact rfl))
   | ((with_reducible refine' RD.mem ?hw ?hk ?hp ?_); (case hw => exact rfl); (case hk => exact rfl); (case hp => exact rfl))
   | ((with_reducible refine' RD.eff ?hw ?ho ?hp ?_); (case hw => exact rfl); (case ho => exact OSem.skip exts_ok rfl); (case hp => exact rfl))
   | ((with_reducible refine' RD.calm ?hw ?ho ?hp ?_); (case hw => exact rfl); (case ho => exact fun H => OSem.val exts_ok rfl); (case hp => exact rfl))
   | ((with_reducible refine' RD.calm ?hw ?ho ?hp ?_); (case hw => exact rfl); (case ho => exact fun H => OSem.idxL exts_ok rfl rfl rfl rfl rfl rfl (by omega)); (case hp => exact rfl))
   | ((with_reducible refine' RD.read ?hw ?ho ?hp (fun _ => ?_)); (case hw => exact rfl); (case ho => (first | exact OSem.load1 exts_ok rfl rfl rfl rfl | exact OSem.loadN exts_ok rfl rfl rfl rfl)); (case hp => exact rfl))
   | fail)
  exact ⟨rfl, _, rfl, [0, 1, 2, 3, 4], by (refine ⟨rfl, rfl, rfl, ?_⟩; repeat' (first | exact True.intro | refine And.intro ?_ ?_ | exact RenO.none | exact RenO.cells (RenVs.plain rfl) | exact RenO.cells (RenVs.cons (RenV.ptr rfl) (RenVs.cons (RenV.slice rfl) RenVs.nil)) | exact RenO.cells (RenVs.cons (RenV.ptr rfl) (RenVs.cons (RenV.sliceL rfl (by simp)) RenVs.nil)) | exact RenO.cells (RenVs.cons (RenV.ptr rfl) (RenVs.cons RenV.nilslice RenVs.nil)) | exact RenO.ro (RenVs.plain (cellsN_plain _)) | exact RenO.cells (RenVs.plain (cellsI_plain _)) | exact RenO.cells (RenVs.plain (cellsB_plain _)) | exact RenO.cells (RenVs.eq (cellsB_snoc _ _).symm (by rw [← cellsB_snoc]; exact cellsB_plain _)) | exact RenO.cells (RenVs.plain (rowN_plain _)) | exact RenO.map (RenVs.plain (by decide +kernel)) ruleE_ren)), RenV.plain rfl⟩
set_option maxHeartbeats 2000000 in
theorem str1 (ns : List Nd) (x : Nd) (l : List Nat) (w : List UInt8) (k : Nat) (hk : w.length = k + 1) (hl : k + 1 ≤ 1000) (r : Rule) : CSem Tryz.prog 106 [.ptr 3 0] (gH1 ns x l (k + 1) (bufT w) r) (.str w) (gH1 ns x l (k + 1) .leaf r) := by
  refine CSem.into Tryz.func106 rfl (by decide) Tryz.ntmps106 rfl rfl rfl ?_
  dsimp only [gH1, fH, bufT]
  repeat' (first
   | refine S0 ?_
   | ((with_reducible refine' RS.drawE mixed [none, none, none, none, none, none, none, none, none, none, none, none] ?hn ?hms ?hord ?hh ?_); (case hn => exact rfl); (case hms => exact rfl); (case hord => exact rfl); (case hh => exact rfl))
   | ((with_reducible refine' RD.eff ?hw ?ho ?hp ?_); (case hw => exact rfl); (case ho => exact OSem.unsafeStr exts_ok rfl rfl rfl rfl rfl hk (by omega) (by omega) rfl); (case hp => exact rfl))
   | ((with_reducible refine RD.nil ?_); (refine' RDk.intro ?oks ?hl ?_); (case hl => exact rfl); (case oks => (repeat' (first | exact True.intro | refine And.intro ?_ ?_ | exact rfl | exact OSem.load1 exts_ok rfl rfl rfl rfl | exact OSem.loadN exts_ok rfl rfl rfl rfl | exact OSem.unsafeStr exts_ok rfl rfl rfl rfl rfl hk (by omega) (by omega) rfl))))
   | (refine S2 ?_ ?_) <;> intro hc <;> try (exfalso; first | omega | (simp at hc; done))
   | refine St ?_
   | ((with_reducible refine RD.nil ?_); (refine' RDk.intro ?oks ?hl ?_); (case hl => exact rfl); (case oks => (repeat' (first | exact True.intro | refine And.intro ?_ ?_ | exact rfl | exact OSem.load1 exts_ok rfl rfl rfl rfl | exact OSem.loadN exts_ok rfl rfl rfl rfl))))
   | ((with_reducible refine' RD.skip ?hw ?hp ?_); (case hw => exact rfl); (case hp => exact rfl))
   | ((with_reducible refine' RD.mem ?hw ?hk ?hp ?_); (case hw => exact rfl); (case hk => exact rfl); (case hp => exact rfl))
   | ((with_reducible refine' RD.eff ?hw ?ho ?hp ?_); (case hw => exact rfl); (case ho => exact OSem.skip exts_ok rfl); (case hp => exact rfl))
   | ((with_reducible refine' RD.calm ?hw ?ho ?hp ?_); (case hw => exact rfl); (case ho => exact fun H => OSem.val exts_ok rfl); (case hp => exact rfl))
   | ((with_reducible refine' RD.calm ?hw ?ho ?hp ?_); (case hw => exact rfl); (case ho => exact fun H => OSem.idxL exts_ok rfl rfl rfl rfl rfl rfl (by omega)); (case hp => exact rfl))
   | ((with_reducible refine' RD.read ?hw ?ho ?hp (fun _ => ?_)); (case hw => exact rfl); (case ho => (first | exact OSem.load1 exts_ok rfl rfl rfl rfl | exact OSem.loadN exts_ok rfl rfl rfl rfl)); (case hp => exact rfl))
   | fail)
  exact ⟨rfl, _, rfl, [0, 1, 2, 3, 4, 5, 6], by (refine ⟨rfl, rfl, rfl, ?_⟩; repeat' (first | exact True.intro | refine And.intro ?_ ?_ | exact RenO.none | exact RenO.cells (RenVs.plain rfl) | exact RenO.cells (RenVs.cons (RenV.ptr rfl) (RenVs.cons (RenV.slice rfl) RenVs.nil)) | exact RenO.cells (RenVs.cons (RenV.ptr rfl) (RenVs.cons (RenV.sliceL rfl (by simp)) RenVs.nil)) | exact RenO.cells (RenVs.cons (RenV.ptr rfl) (RenVs.cons RenV.nilslice RenVs.nil)) | exact RenO.ro (RenVs.plain (cellsN_plain _)) | exact RenO.cells (RenVs.plain (cellsI_plain _)) | exact RenO.cells (RenVs.plain (cellsB_plain _)) | exact RenO.cells (RenVs.eq (cellsB_snoc _ _).symm (by rw [← cellsB_snoc]; exact cellsB_plain _)) | exact RenO.cells (RenVs.plain (rowN_plain _)) | exact RenO.map (RenVs.plain (by decide +kernel)) ruleE_ren)), RenV.plain rfl⟩
end Go.Am
namespace Go.Am
open Go Go.Proofs Go.RowKit Go.Pu
set_option maxRecDepth 100000
def Mid {σ : Type} (N : Nat) (inv : σ → Prop) (st : σ → List (Nat × AV)) (hp : σ → Heap) : APost
  | .normal, env', h' => ∃ s, inv s ∧ ∃ ids, Lay N ids h' (hp s) ∧ HasR env' ids (st s)
  | _, _, _ => False
theorem Mid.n {σ : Type} {N : Nat} {inv : σ → Prop} {st : σ → List (Nat × AV)} {hp : σ → Heap} {env' : Env} {h' : Heap} (s : σ) (ids : List Nat) (i : inv s) (l : Lay N ids h' (hp s)) (r : HasR env' ids (st s)) : Mid N inv st hp .normal env' h' := ⟨s, i, ids, l, r⟩
theorem RO.mono {P : Program} {N n : Nat} {ops : Array Oper} {l : List Oper} {env : Env} {h : Heap} {Post Post' : APost} (r : RO P N n ops l env h Post) (hp : ∀ env' h', Post .normal env' h' → Post' .normal env' h') : RO P N n ops l env h Post' :=
  fun k hl B w0 M a w k1 kN k2 Q hq => r k hl B w0 M a w k1 kN k2 Q fun env' h' M' a' w' p => hq env' h' M' a' w' (hp _ _ p)
theorem RO.cut {P : Program} {σ : Type} {N n : Nat} {ops : Array Oper} {l : List Oper} {y : Code} {env : Env} {h : Heap} {Post : APost} (inv : σ → Prop) (st : σ → List (Nat × AV)) (hp : σ → Heap) (r1 : RO P N n ops l env h (Mid N inv st hp)) (r2 : ∀ s, inv s → ∃ env0, envOf (st s) .leaf = some env0 ∧ RS P N n y env0 (hp s) Post) : RO P N n ops l env h (ThenS P N n y Post) :=
  r1.mono fun env' h' ⟨s, i, ids, hl, hr⟩ => by
    obtain ⟨e0, he, r⟩ := r2 s i
    exact RS.lay ids (st s) (hp s) hl hr he r
theorem OSem.eqD {P : Program} {ext : FuncId → Bool} (hext : ExtOk P ext) {d : Option Tmp} {ty : TypeId} {pos : String} {af : Array Edge} {gd : Option (Nat × Bool)} {g : Ev} {h : Heap} {t t' : TypeId} {x y : Operand} {k : IntKind} {a b : Int} {r : Bool} (hx : g x = some (.int k a)) (hy : g y = some (.int k b)) (hk : ikeq k k = true) (hr : decide (a = b) = r) : OSem P ⟨d, .binOp .eql t x y t', ty, pos, af, gd⟩ g h (.bool r) h := hr ▸ OSem.eqi hext hx hy hk
theorem OSem.ltD {P : Program} {ext : FuncId → Bool} (hext : ExtOk P ext) {d : Option Tmp} {ty : TypeId} {pos : String} {af : Array Edge} {gd : Option (Nat × Bool)} {g : Ev} {h : Heap} {t t' : TypeId} {x y : Operand} {k : IntKind} {a b : Int} {r : Bool} (hx : g x = some (.int k a)) (hy : g y = some (.int k b)) (hk : ikeq k k = true) (hr : decide (a < b) = r) : OSem P ⟨d, .binOp .lss t x y t', ty, pos, af, gd⟩ g h (.bool r) h := hr ▸ OSem.lss hext hx hy hk
theorem OSem.gtD {P : Program} {ext : FuncId → Bool} (hext : ExtOk P ext) {d : Option Tmp} {ty : TypeId} {pos : String} {af : Array Edge} {gd : Option (Nat × Bool)} {g : Ev} {h : Heap} {t t' : TypeId} {x y : Operand} {k : IntKind} {a b : Int} {r : Bool} (hx : g x = some (.int k a)) (hy : g y = some (.int k b)) (hk : ikeq k k = true) (hr : decide (a > b) = r) : OSem P ⟨d, .binOp .gtr t x y t', ty, pos, af, gd⟩ g h (.bool r) h := hr ▸ OSem.gtr hext hx hy hk
theorem OSem.nbD {P : Program} {ext : FuncId → Bool} (hext : ExtOk P ext) {d : Option Tmp} {ty : TypeId} {pos : String} {af : Array Edge} {gd : Option (Nat × Bool)} {g : Ev} {h : Heap} {t t' : TypeId} {x y : Operand} {a b r : Bool} (hx : g x = some (.bool a)) (hy : g y = some (.bool b)) (hv : abin P .neq t x y (.bool a) (.bool b) = some (.bool (!(a == b)))) (hr : (!(a == b)) = r) : OSem P ⟨d, .binOp .neq t x y t', ty, pos, af, gd⟩ g h (.bool r) h := hr ▸ OSem.bin hext hx hy hv
def memb (t : Nat) : List Nat → Bool
  | [] => false
  | a :: l => bif Nat.beq t a then true else memb t l
theorem memb_iff (t : Nat) : ∀ l : List Nat, memb t l = decide (t ∈ l)
  | [] => rfl
  | a :: l => by
    unfold memb
    rw [memb_iff t l]
    by_cases h : t = a
    · subst h; simp
    · have : Nat.beq t a = false := by
        cases hb : Nat.beq t a with
        | false => rfl
        | true => exact absurd (Nat.eq_of_beq_eq_true hb) h
      simp [this, h]
def gfast (L : List Tmp) (env : Env) : Ev
  | .tmp t => bif memb t L then env.get t else none
  | x => aeval env x
theorem gfast_eq (L : List Tmp) (env : Env) : gfast L env = glim L env := by
  funext x
  cases x with
  | tmp t =>
    show (bif memb t L then env.get t else none) = if t ∈ L then env.get t else none
    rw [memb_iff]
    by_cases h : t ∈ L <;> simp [h]
  | _ => rfl
theorem RD.calmF {P : Program} {n : Nat} {ops : Array Oper} {o : Oper} {l : List Oper} {r0 : Option (Nat × TypeId × List AV)} {rs : List (Option (Nat × TypeId × List AV))} {env env1 : Env} {h : Heap} {v : AV} {K : List Rec → Env → List Heap → Prop} {L : List Tmp} (hL : o.looksAt ops = L)
    (hw : awanted ops (aeval env) o = some true) (ho : ∀ H, OSem P o (gfast L env) H v H) (hp : aput env n o.dst v = some env1) (rest : RD P n ops l rs env1 h fun recs e hs => K (⟨o, env, .calm, v⟩ :: recs) e hs) : RD P n ops (o :: l) (r0 :: rs) env h K :=
  RD.calm hw (fun H => by rw [hL, ← gfast_eq]; exact ho H) hp rest
theorem RD.readF {P : Program} {n : Nat} {ops : Array Oper} {o : Oper} {l : List Oper} {r0 : Option (Nat × TypeId × List AV)} {rs : List (Option (Nat × TypeId × List AV))} {env env1 : Env} {h : Heap} {v : AV} {K : List Rec → Env → List Heap → Prop} {L : List Tmp} (hL : o.looksAt ops = L)
    (hw : awanted ops (aeval env) o = some true) (ho : OSem P o (gfast L env) h v h) (hp : aput env n o.dst v = some env1) (rest : RD P n ops l rs env1 h fun recs e hs => K (⟨o, env, .read, v⟩ :: recs) e hs) : RD P n ops (o :: l) (r0 :: rs) env h K :=
  RD.read hw (by rw [hL, ← gfast_eq]; exact ho) hp fun _ => rest
theorem RD.effF {P : Program} {n : Nat} {ops : Array Oper} {o : Oper} {l : List Oper} {r0 : Option (Nat × TypeId × List AV)} {rs : List (Option (Nat × TypeId × List AV))} {env env1 : Env} {h h1 : Heap} {v : AV} {K : List Rec → Env → List Heap → Prop} {L : List Tmp} (hL : o.looksAt ops = L)
    (hw : awanted ops (aeval env) o = some true) (ho : OSem P o (gfast L env) h v h1) (hp : aput env n o.dst v = some env1) (rest : RD P n ops l rs env1 h1 fun recs e hs => K (⟨o, env, .eff, v⟩ :: recs) e (h :: hs)) : RD P n ops (o :: l) (r0 :: rs) env h K :=
  RD.eff hw (by rw [hL, ← gfast_eq]; exact ho) hp rest
theorem RD.opEq {P : Program} {ext : FuncId → Bool} {n : Nat} {ops : Array Oper} {l : List Oper} {r0 : Option (Nat × TypeId × List AV)} {rs : List (Option (Nat × TypeId × List AV))} {env env1 : Env} {h : Heap} {K : List Rec → Env → List Heap → Prop} {L : List Tmp} {d : Option Tmp} {ty : TypeId} {pos : String} {af : Array Edge} {gd : Option (Nat × Bool)} (hext : ExtOk P ext) {t t' : TypeId} {x y : Operand} {k : IntKind} {a b : Int} {r : Bool} (hL : (⟨d, .binOp .eql t x y t', ty, pos, af, gd⟩ : Oper).looksAt ops = L) (hw : awanted ops (aeval env) (⟨d, .binOp .eql t x y t', ty, pos, af, gd⟩ : Oper) = some true) (hx : gfast L env x = some (.int k a)) (hy : gfast L env y = some (.int k b)) (hk : ikeq k k = true) (hr : decide (a = b) = r) (hp : aput env n d (.bool r) = some env1) (rest : RD P n ops l rs env1 h fun recs e hs => K (⟨(⟨d, .binOp .eql t x y t', ty, pos, af, gd⟩ : Oper), env, .calm, (.bool r)⟩ :: recs) e hs) : RD P n ops ((⟨d, .binOp .eql t x y t', ty, pos, af, gd⟩ : Oper) :: l) (r0 :: rs) env h K :=
  RD.calmF hL hw (fun _ => OSem.eqD hext hx hy hk hr) hp rest
theorem RD.opLt {P : Program} {ext : FuncId → Bool} {n : Nat} {ops : Array Oper} {l : List Oper} {r0 : Option (Nat × TypeId × List AV)} {rs : List (Option (Nat × TypeId × List AV))} {env env1 : Env} {h : Heap} {K : List Rec → Env → List Heap → Prop} {L : List Tmp} {d : Option Tmp} {ty : TypeId} {pos : String} {af : Array Edge} {gd : Option (Nat × Bool)} (hext : ExtOk P ext) {t t' : TypeId} {x y : Operand} {k : IntKind} {a b : Int} {r : Bool} (hL : (⟨d, .binOp .lss t x y t', ty, pos, af, gd⟩ : Oper).looksAt ops = L) (hw : awanted ops (aeval env) (⟨d, .binOp .lss t x y t', ty, pos, af, gd⟩ : Oper) = some true) (hx : gfast L env x = some (.int k a)) (hy : gfast L env y = some (.int k b)) (hk : ikeq k k = true) (hr : decide (a < b) = r) (hp : aput env n d (.bool r) = some env1) (rest : RD P n ops l rs env1 h fun recs e hs => K (⟨(⟨d, .binOp .lss t x y t', ty, pos, af, gd⟩ : Oper), env, .calm, (.bool r)⟩ :: recs) e hs) : RD P n ops ((⟨d, .binOp .lss t x y t', ty, pos, af, gd⟩ : Oper) :: l) (r0 :: rs) env h K :=
  RD.calmF hL hw (fun _ => OSem.ltD hext hx hy hk hr) hp rest
theorem RD.opGt {P : Program} {ext : FuncId → Bool} {n : Nat} {ops : Array Oper} {l : List Oper} {r0 : Option (Nat × TypeId × List AV)} {rs : List (Option (Nat × TypeId × List AV))} {env env1 : Env} {h : Heap} {K : List Rec → Env → List Heap → Prop} {L : List Tmp} {d : Option Tmp} {ty : TypeId} {pos : String} {af : Array Edge} {gd : Option (Nat × Bool)} (hext : ExtOk P ext) {t t' : TypeId} {x y : Operand} {k : IntKind} {a b : Int} {r : Bool} (hL : (⟨d, .binOp .gtr t x y t', ty, pos, af, gd⟩ : Oper).looksAt ops = L) (hw : awanted ops (aeval env) (⟨d, .binOp .gtr t x y t', ty, pos, af, gd⟩ : Oper) = some true) (hx : gfast L env x = some (.int k a)) (hy : gfast L env y = some (.int k b)) (hk : ikeq k k = true) (hr : decide (a > b) = r) (hp : aput env n d (.bool r) = some env1) (rest : RD P n ops l rs env1 h fun recs e hs => K (⟨(⟨d, .binOp .gtr t x y t', ty, pos, af, gd⟩ : Oper), env, .calm, (.bool r)⟩ :: recs) e hs) : RD P n ops ((⟨d, .binOp .gtr t x y t', ty, pos, af, gd⟩ : Oper) :: l) (r0 :: rs) env h K :=
  RD.calmF hL hw (fun _ => OSem.gtD hext hx hy hk hr) hp rest
theorem RD.opNe {P : Program} {ext : FuncId → Bool} {n : Nat} {ops : Array Oper} {l : List Oper} {r0 : Option (Nat × TypeId × List AV)} {rs : List (Option (Nat × TypeId × List AV))} {env env1 : Env} {h : Heap} {K : List Rec → Env → List Heap → Prop} {L : List Tmp} {d : Option Tmp} {ty : TypeId} {pos : String} {af : Array Edge} {gd : Option (Nat × Bool)} (hext : ExtOk P ext) {t t' : TypeId} {x y : Operand} {a b r : Bool} (hL : (⟨d, .binOp .neq t x y t', ty, pos, af, gd⟩ : Oper).looksAt ops = L) (hw : awanted ops (aeval env) (⟨d, .binOp .neq t x y t', ty, pos, af, gd⟩ : Oper) = some true) (hx : gfast L env x = some (.bool a)) (hy : gfast L env y = some (.bool b)) (hv : abin P .neq t x y (.bool a) (.bool b) = some (.bool (!(a == b)))) (hr : (!(a == b)) = r) (hp : aput env n d (.bool r) = some env1) (rest : RD P n ops l rs env1 h fun recs e hs => K (⟨(⟨d, .binOp .neq t x y t', ty, pos, af, gd⟩ : Oper), env, .calm, (.bool r)⟩ :: recs) e hs) : RD P n ops ((⟨d, .binOp .neq t x y t', ty, pos, af, gd⟩ : Oper) :: l) (r0 :: rs) env h K :=
  RD.calmF hL hw (fun _ => OSem.nbD hext hx hy hv hr) hp rest
theorem RD.opLd1 {P : Program} {ext : FuncId → Bool} {n : Nat} {ops : Array Oper} {l : List Oper} {r0 : Option (Nat × TypeId × List AV)} {rs : List (Option (Nat × TypeId × List AV))} {env env1 : Env} {h : Heap} {K : List Rec → Env → List Heap → Prop} {L : List Tmp} {d : Option Tmp} {ty : TypeId} {pos : String} {af : Array Edge} {gd : Option (Nat × Bool)} (hext : ExtOk P ext) {t : TypeId} {x : Operand} {i off : Nat} {D : TypeDesc} {v : AV} (hL : (⟨d, .load t x, ty, pos, af, gd⟩ : Oper).looksAt ops = L) (hw : awanted ops (aeval env) (⟨d, .load t x, ty, pos, af, gd⟩ : Oper) = some true) (hx : gfast L env x = some (.ptr i off)) (hu : P.underlying t = some D) (hD : isAggB D = false) (hv : acells h i off 1 = some [v]) (hp : aput env n d v = some env1) (rest : RD P n ops l rs env1 h fun recs e hs => K (⟨(⟨d, .load t x, ty, pos, af, gd⟩ : Oper), env, .read, v⟩ :: recs) e hs) : RD P n ops ((⟨d, .load t x, ty, pos, af, gd⟩ : Oper) :: l) (r0 :: rs) env h K :=
  RD.readF hL hw (OSem.load1 hext hx hu hD hv) hp rest
theorem RD.opLdN {P : Program} {ext : FuncId → Bool} {n : Nat} {ops : Array Oper} {l : List Oper} {r0 : Option (Nat × TypeId × List AV)} {rs : List (Option (Nat × TypeId × List AV))} {env env1 : Env} {h : Heap} {K : List Rec → Env → List Heap → Prop} {L : List Tmp} {d : Option Tmp} {ty : TypeId} {pos : String} {af : Array Edge} {gd : Option (Nat × Bool)} (hext : ExtOk P ext) {t : TypeId} {x : Operand} {i off : Nat} {D : TypeDesc} {vs : List AV} (hL : (⟨d, .load t x, ty, pos, af, gd⟩ : Oper).looksAt ops = L) (hw : awanted ops (aeval env) (⟨d, .load t x, ty, pos, af, gd⟩ : Oper) = some true) (hx : gfast L env x = some (.ptr i off)) (hu : P.underlying t = some D) (hD : isAggB D = true) (hv : acells h i off (P.cellsOf t) = some vs) (hp : aput env n d (.agg vs) = some env1) (rest : RD P n ops l rs env1 h fun recs e hs => K (⟨(⟨d, .load t x, ty, pos, af, gd⟩ : Oper), env, .read, (.agg vs)⟩ :: recs) e hs) : RD P n ops ((⟨d, .load t x, ty, pos, af, gd⟩ : Oper) :: l) (r0 :: rs) env h K :=
  RD.readF hL hw (OSem.loadN hext hx hu hD hv) hp rest
theorem RD.opFn {P : Program} {ext : FuncId → Bool} {n : Nat} {ops : Array Oper} {l : List Oper} {r0 : Option (Nat × TypeId × List AV)} {rs : List (Option (Nat × TypeId × List AV))} {env env1 : Env} {h : Heap} {K : List Rec → Env → List Heap → Prop} {L : List Tmp} {d : Option Tmp} {ty : TypeId} {pos : String} {af : Array Edge} {gd : Option (Nat × Bool)} (hext : ExtOk P ext) (f : FuncId) {xs : Array Operand} {ats : Array TypeId} {args : List AV} {v : AV} {fi : FInfo} (hL : (⟨d, .call ⟨.value (.func f), xs, ats⟩, ty, pos, af, gd⟩ : Oper).looksAt ops = L) (hw : awanted ops (aeval env) (⟨d, .call ⟨.value (.func f), xs, ats⟩, ty, pos, af, gd⟩ : Oper) = some true) (ha : aevals (gfast L env) xs.toList = some args) (hf : finfo P f = some fi) (hs : CSem P f args h v h) (hp : aput env n d v = some env1) (rest : RD P n ops l rs env1 h fun recs e hs => K (⟨(⟨d, .call ⟨.value (.func f), xs, ats⟩, ty, pos, af, gd⟩ : Oper), env, .read, v⟩ :: recs) e hs) : RD P n ops ((⟨d, .call ⟨.value (.func f), xs, ats⟩, ty, pos, af, gd⟩ : Oper) :: l) (r0 :: rs) env h K :=
  RD.readF hL hw (OSem.fn hext rfl ha rfl hf hs) hp rest
theorem RD.opFnE {P : Program} {ext : FuncId → Bool} {n : Nat} {ops : Array Oper} {l : List Oper} {r0 : Option (Nat × TypeId × List AV)} {rs : List (Option (Nat × TypeId × List AV))} {env env1 : Env} {h h1 : Heap} {K : List Rec → Env → List Heap → Prop} {L : List Tmp} {d : Option Tmp} {ty : TypeId} {pos : String} {af : Array Edge} {gd : Option (Nat × Bool)} (hext : ExtOk P ext) (f : FuncId) {xs : Array Operand} {ats : Array TypeId} {args : List AV} {v : AV} {fi : FInfo} (hL : (⟨d, .call ⟨.value (.func f), xs, ats⟩, ty, pos, af, gd⟩ : Oper).looksAt ops = L) (hw : awanted ops (aeval env) (⟨d, .call ⟨.value (.func f), xs, ats⟩, ty, pos, af, gd⟩ : Oper) = some true) (ha : aevals (gfast L env) xs.toList = some args) (hf : finfo P f = some fi) (hs : CSem P f args h v h1) (hp : aput env n d v = some env1) (rest : RD P n ops l rs env1 h1 fun recs e hs => K (⟨(⟨d, .call ⟨.value (.func f), xs, ats⟩, ty, pos, af, gd⟩ : Oper), env, .eff, v⟩ :: recs) e (h :: hs)) : RD P n ops ((⟨d, .call ⟨.value (.func f), xs, ats⟩, ty, pos, af, gd⟩ : Oper) :: l) (r0 :: rs) env h K :=
  RD.effF hL hw (OSem.fn hext rfl ha rfl hf hs) hp rest
theorem ruleE_keys : plains (ruleE.map Prod.fst) = true := by decide +kernel
def implAll (ns : List Nd) : Nat → Nat → Bool
  | 0, _ => true
  | f + 1, i => match ns[i]? with
    | some x => implOk isNm ns i x && implAll ns f (i + 1)
    | none => true
def implFormB (ns : List Nd) : Bool := sizedB ns && ((match ns[0]? with | some x => decide (x.k = 1) | none => false) && implAll ns ns.length 0)
theorem implAll_iff {ns : List Nd} : ∀ (f i : Nat), ns.length ≤ i + f → (implAll ns f i = true ↔ ∀ j x, i ≤ j → ns[j]? = some x → implOk isNm ns j x = true)
  | 0, i, hf => by
    refine ⟨fun _ j x hj hx => ?_, fun _ => rfl⟩
    have := (List.getElem?_eq_some_iff.1 hx).1
    omega
  | f + 1, i, hf => by
    unfold implAll
    cases hx : ns[i]? with
    | none =>
      refine ⟨fun _ j y hj hy => ?_, fun _ => rfl⟩
      have h1 := (List.getElem?_eq_some_iff.1 hy).1
      rw [List.getElem?_eq_none_iff] at hx
      omega
    | some x =>
      simp only [Bool.and_eq_true]
      rw [implAll_iff f (i + 1) (by omega)]
      constructor
      · rintro ⟨h1, h2⟩ j y hj hy
        by_cases he : j = i
        · subst he; rw [hx] at hy; simp only [Option.some.injEq] at hy; subst hy; exact h1
        · exact h2 j y (by omega) hy
      · intro h
        exact ⟨h i x (Nat.le_refl _) hx, fun j y hj hy => h j y (by omega) hy⟩
theorem sizedB_iff {ns : List Nd} : sizedB ns = true ↔ (∃ x, ns[0]? = some x ∧ x.s = (ns.length : Int)) ∧ Lam (sizes ns) := by
  unfold sizedB
  have hz : (sizes ns).length = ns.length := by simp [sizes]
  cases hx : ns[0]? with
  | none => simp
  | some x =>
    have := areSz_Lam (sizes ns)
    rw [hz] at this
    simp [this]
theorem implFormB_iff (ns : List Nd) : implFormB ns = true ↔ ImplForm isNm ns := by
  unfold implFormB
  rw [Bool.and_eq_true, Bool.and_eq_true, sizedB_iff, implAll_iff ns.length 0 (by omega)]
  constructor
  · rintro ⟨⟨⟨x, hx, hs⟩, hl⟩, hk, ha⟩
    rw [hx] at hk
    exact ⟨hl, ⟨x, hx, by simpa using hk, hs⟩, fun i y hy => ha i y (Nat.zero_le _) hy⟩
  · rintro ⟨hl, ⟨x, hx, hk, hs⟩, he⟩
    refine ⟨⟨⟨x, hx, hs⟩, hl⟩, ?_, fun j y _ hy => he j y hy⟩
    rw [hx]; simpa using hk
theorem form_same (ns : List Nd) (o : NdOk ns) : implFormB ns = refFormB ns := by
  rw [Bool.eq_iff_iff, implFormB_iff, refFormB_iff]
  exact form_eq o.k
theorem lk_R (k : Nat) (h : letK k ≠ 32) : ruleR k = (ruleS k).map := by unfold ruleR; rw [if_neg h]
theorem implSized_map (r : Rule) (m : Int) : implSized r.map m = implSized r m := by
  unfold implSized Rule.map
  simp
theorem implOk_eq {ns : List Nd} {i : Nat} {x : Nd} {w : List UInt8} (hw : lettersOf letK ns (kidsOf (sizes ns) i) = w) {bL b1 b2 b12 bK bS bN bM bA bB : Bool} (hL : decide (((letK x.k).toNat : Int) = 32) = bL) (h1 : decide ((x.k : Int) = 1) = b1) (h2 : decide ((i : Int) = 0) = b2) (h12 : (!(b1 == b2)) = b12) (hK : lk (ruleR x.k) w = bK) (hS : implSized (ruleR x.k) w.length = bS) (hN : textOk isNm (ruleR x.k).named x.t = bN) (hM : implNum x.k x.n w.length = bM) (hA : decide (x.a < 0) = bA) (hB : decide (x.a > 2500) = bB) :
    implOk isNm ns i x = (!bL && (!b12 && (bK && (bS && (bN && (bM && (!bA && !bB))))))) := by
  have e1 : decide ((x.k : Int) = 1) = decide (x.k = 1) := by simp; omega
  have e2 : decide ((i : Int) = 0) = decide (i = 0) := by simp
  have eL : decide (((letK x.k).toNat : Int) = 32) = decide (letK x.k = 32) := by
    have := u8l (letK x.k) 32 (by decide)
    rw [decide_eq_decide]
    exact this
  have e3 : (decide (0 ≤ x.a) && decide (x.a ≤ 2500)) = (!decide (x.a < 0) && !decide (x.a > 2500)) := by
    rw [Bool.eq_iff_iff]; simp
  unfold implOk
  dsimp only
  rw [hw, e3, hA, hB, hM, ← e1, h1, ← e2, h2]
  have hLL : decide (letK x.k ≠ 32) = !bL := by rw [← hL, eL]; simp
  rw [hLL]
  cases bL with
  | true => rfl
  | false =>
    have hne : letK x.k ≠ 32 := by simpa using hLL
    rw [lk_R _ hne] at hK hS hN
    rw [implSized_map] at hS
    rw [hK, hS, ← hN, ← h12]
    cases b1 <;> cases b2 <;> rfl
end Go.Am
namespace Go.Am
open Go Go.Proofs Go.RowKit Go.Pu
set_option maxRecDepth 100000
set_option linter.unusedVariables false
theorem Sd {p q : Prop} (k : q) (h : q → p := by
  first
    | ((with_reducible refine' RD.skip ?hw ?hp); (case hw | hp => exact rfl))
    | ((with_reducible refine' RD.mem ?hw ?hk ?hp); (case hw | hk | hp => exact rfl))
    | ((with_reducible refine' RD.effF ?hL ?hw ?ho ?hp); (case hL | hw => exact rfl); (case ho => exact OSem.skip exts_ok rfl); (case hp => exact rfl))
    | ((with_reducible refine' RD.calmF ?hL ?hw ?ho ?hp); (case hL | hw => exact rfl); (case ho => exact fun H => OSem.val exts_ok rfl); (case hp => exact rfl))
    | ((with_reducible refine' RD.calmF ?hL ?hw ?ho ?hp); (case hL | hw => exact rfl); (case ho => exact fun H => OSem.idxL exts_ok rfl rfl rfl rfl rfl rfl (by omega)); (case hp => exact rfl))
    | ((with_reducible refine' RD.readF ?hL ?hw ?ho ?hp); (case hL | hw => exact rfl); (case ho => (first | exact OSem.load1 exts_ok rfl rfl rfl rfl | exact OSem.loadN exts_ok rfl rfl rfl rfl)); (case hp => exact rfl))
    | fail) : p := h k
theorem Sr {F p q : Prop} (f : F) (k : q) (h : F → q → p := by
  intro f
  first
    | ((with_reducible refine' RD.readF ?hL ?hw ?ho ?hp); (case hL | hw => exact rfl); (case ho => (first | exact OSem.load1 exts_ok rfl rfl rfl (cellsN_one f rfl) | exact OSem.loadN exts_ok rfl rfl rfl (cellsN_row f) | exact OSem.load1 exts_ok rfl rfl rfl (cellsI_one f) | exact OSem.load1 exts_ok rfl rfl rfl (cellsZ_one f) | exact OSem.load1 exts_ok rfl rfl rfl (cellsS_one f))); (case hp => exact rfl))
    | fail) : p := h f k
end Go.Am
