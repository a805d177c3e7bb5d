/- Part of the proof: WkZ. -/
import Derived.Test.YtijdeggmmpfjeaaGreatDoorB5
set_option linter.unusedSimpArgs false
set_option linter.unusedVariables false
set_option linter.unusedSectionVars false
namespace Go.Am
open Go Go.Proofs Go.RowKit Go.Pu
set_option maxRecDepth 100000
def lpH (ns : List Nd) : Heap := ⟨.node (some (.ro 50 5 (cellsN ns))) (.node (some (.map ruleE)) .leaf .leaf) .leaf, 2⟩
def inN (ns : List Nd) (x : Nd) : Heap := ⟨.node (some (.ro 50 5 (cellsN ns))) (.node (some (.map ruleE)) (.node (some (.cells 140 2 [.nilptr, .nilslice] true)) .leaf .leaf) .leaf) (.node (some (.cells 50 5 (rowN x) true)) .leaf .leaf), 4⟩
def inH (ns : List Nd) (x : Nd) (l : List Nat) (w : List UInt8) : Nat → Heap
  | 0 => fH ns x l [.nilptr, .nilslice] .leaf .leaf 5
  | k + 1 => fH ns x l [.ptr 3 0, .slice 5 0 (k + 1) 1] (bufT (w.take (k + 1))) .leaf 6
theorem nine (a b c d e f g h : Bool) : a = true ∨ (a = false ∧ b = true) ∨ (a = false ∧ b = false ∧ c = false) ∨ (a = false ∧ b = false ∧ c = true ∧ d = false) ∨ (a = false ∧ b = false ∧ c = true ∧ d = true ∧ e = false) ∨ (a = false ∧ b = false ∧ c = true ∧ d = true ∧ e = true ∧ f = false) ∨ (a = false ∧ b = false ∧ c = true ∧ d = true ∧ e = true ∧ f = true ∧ g = true) ∨ (a = false ∧ b = false ∧ c = true ∧ d = true ∧ e = true ∧ f = true ∧ g = false ∧ h = true) ∨ (a = false ∧ b = false ∧ c = true ∧ d = true ∧ e = true ∧ f = true ∧ g = false ∧ h = false) := by
  cases a <;> cases b <;> cases c <;> cases d <;> cases e <;> cases f <;> cases g <;> cases h <;> decide
theorem rbound (k : Nat) (hk : k < 256) : (ruleR k).before.length ≤ 1000 ∧ (ruleR k).many.length ≤ 1000 ∧ (ruleR k).behind.length ≤ 1000 ∧ (∀ c ∈ (ruleR k).many, c.toNat < 128) := by
  have := ball (p := fun k => decide ((ruleR k).before.length ≤ 1000 ∧ (ruleR k).many.length ≤ 1000 ∧ (ruleR k).behind.length ≤ 1000 ∧ (∀ c ∈ (ruleR k).many, c.toNat < 128))) 256 (by decide +kernel) k hk
  simpa only [decide_eq_true_eq] using this
theorem letK_low (k : Nat) (hk : k < 256) : (letK k).toNat < 128 := by
  have := ball (p := fun k => decide ((letK k).toNat < 128)) 256 (by decide +kernel) k hk
  simpa using this
theorem letters_low {ns : List Nd} (hk : ∀ x ∈ ns, x.k < 256) (l : List Nat) : Low (lettersOf letK ns l) := by
  intro c hc
  unfold lettersOf at hc
  obtain ⟨j, _, rfl⟩ := List.mem_map.1 hc
  exact letK_low _ (kindAt_lt hk j)
set_option maxHeartbeats 20000000 in
theorem sem62 (ns : List Nd) (o : NdOk ns) : CSem Tryz.prog 62 [.slice 0 0 ns.length 5] (nodesH ns) (.bool (implFormB ns)) (nodesH ns) := by
  have hn := o.len
  have hcS : CSem Tryz.prog 100 [.slice 0 0 ns.length 5] (nodesH ns) (.bool (sizedB ns)) (nodesH ns) := sem100 ns o
  by_cases hB : sizedB ns = true
  · obtain ⟨⟨x0, hx0, hs0⟩, hLam⟩ := sizedB_iff.1 hB
    rw [hB] at hcS
    have hp : 0 < ns.length := (List.getElem?_eq_some_iff.1 hx0).1
    by_cases hk1 : (x0.k : Int) = 1
    · have hF : implFormB ns = implAll ns ns.length 0 := by
        unfold implFormB
        rw [hB, hx0]
        have : x0.k = 1 := by omega
        simp [this]
      generalize hR0 : implFormB ns = R at hF ⊢
      refine CSem.into Tryz.func62 rfl (by decide) Tryz.ntmps62 rfl rfl rfl ?_
      dsimp only [nodesH]
      repeat' (first
       | refine S0 ?_
       | refine Sc hcS ?_
       | ((with_reducible refine' RO.fn (f := 101) exts_ok ?hw ?ha ?hf ?hs ?hp ?_); (case hw => exact rfl); (case ha => exact rfl); (case hf => exact rfl); (case hs => exact sem101 rfl); (case hp => exact rfl))
       | ((with_reducible refine' RO.idxL (m := 0) exts_ok ?hw ?hx ?hy ?hu ?hi ?hes ?hz ?hlt ?hp ?_); (case hw => exact rfl); (case hx => exact rfl); (case hy => exact rfl); (case hu => exact rfl); (case hi => exact rfl); (case hes => exact rfl); (case hz => exact rfl); (case hlt => exact hp); (case hp => exact rfl))
       | (refine S2 ?_ ?_) <;> intro hc <;> try (exfalso; first | omega | (simp at hc; done))
       | refine Sf hx0 ?_
       | refine St ?_
       | ((with_reducible refine RD.nil ?_); (refine' RDk.intro ?oks ?hl ?_); (case hl => exact rfl); (case oks => (repeat' (first | exact True.intro | refine And.intro ?_ ?_ | exact rfl | exact OSem.load1 exts_ok rfl rfl rfl rfl | exact OSem.loadN exts_ok rfl rfl rfl rfl | exact OSem.load1 exts_ok rfl rfl rfl (cellsN_one hx0 rfl) | exact OSem.load1 exts_ok rfl rfl rfl (cellsN_row hx0) | exact OSem.load1 exts_ok rfl rfl rfl (cellsI_one hx0) | exact OSem.load1 exts_ok rfl rfl rfl (cellsZ_one hx0) | exact OSem.load1 exts_ok rfl rfl rfl (cellsS_one hx0) | exact OSem.loadN exts_ok rfl rfl rfl (cellsN_one hx0 rfl) | exact OSem.loadN exts_ok rfl rfl rfl (cellsN_row hx0) | exact OSem.loadN exts_ok rfl rfl rfl (cellsI_one hx0) | exact OSem.loadN exts_ok rfl rfl rfl (cellsZ_one hx0) | exact OSem.loadN exts_ok rfl rfl rfl (cellsS_one hx0)))))
       | refine Sd ?_
       | refine Sr hx0 ?_
       | fail)
      refine RS.loop (σ := Nat) (fun i => i ≤ ns.length ∧ implAll ns (ns.length - i) i = R) (fun i => [(0, .slice 0 0 ns.length 5), (3, .map 1), (23, .slice 0 0 ns.length 5), (24, .int .i64 (ns.length : Int)), (25, .int .i64 (i : Int))]) (fun _ => lpH ns) (fun i => ns.length - i) 0 ⟨Nat.zero_le _, hF.symm⟩ ⟨[0, 1], by (refine ⟨rfl, rfl, rfl, ?_⟩; repeat' (first | exact True.intro | refine And.intro ?_ ?_ | exact RenO.none | exact RenO.cells (RenVs.plain rfl) | exact RenO.cells (RenVs.cons (RenV.ptr rfl) (RenVs.cons (RenV.slice rfl) RenVs.nil)) | exact RenO.cells (RenVs.cons (RenV.ptr rfl) (RenVs.cons (RenV.sliceL rfl (by simp)) RenVs.nil)) | exact RenO.cells (RenVs.cons (RenV.ptr rfl) (RenVs.cons RenV.nilslice RenVs.nil)) | exact RenO.ro (RenVs.plain (cellsN_plain _)) | exact RenO.cells (RenVs.plain (cellsI_plain _)) | exact RenO.cells (RenVs.plain (cellsB_plain _)) | exact RenO.cells (RenVs.eq (cellsB_snoc _ _).symm (by rw [← cellsB_snoc]; exact cellsB_plain _)) | exact RenO.cells (RenVs.plain (rowN_plain _)) | exact RenO.map (RenVs.plain ruleE_keys) ruleE_ren)), by (repeat' (first | exact True.intro | refine And.intro ?_ ?_ | exact ⟨_, rfl, RenV.plain rfl⟩ | exact ⟨_, rfl, RenV.slice rfl⟩ | exact ⟨_, rfl, RenV.ptr rfl⟩ | exact ⟨_, rfl, RenV.nilslice⟩ | exact ⟨_, rfl, RenV.map rfl⟩ | exact ⟨_, rfl, RenV.eq (congrArg (AV.int .i64) (by omega)) rfl⟩))⟩ ?round
      rintro i ⟨hi, hR⟩
      refine ⟨_, rfl, ?_⟩
      dsimp only [lpH]
      by_cases hlt : i < ns.length
      · obtain ⟨x, hx⟩ : ∃ x, ns[i]? = some x := ⟨ns[i], by rw [List.getElem?_eq_getElem]⟩
        obtain ⟨f, hf⟩ : ∃ f, ns.length - i = f + 1 := ⟨ns.length - i - 1, by omega⟩
        rw [hf, implAll, hx] at hR
        simp only at hR
        have hkx : x.k < 256 := o.k x (List.mem_of_getElem? hx)
        have htx : x.t.length ≤ 1000000 := o.t x (List.mem_of_getElem? hx)
        obtain ⟨hrb, hrm, hre, hrl⟩ := rbound x.k hkx
        obtain ⟨l, hl⟩ : ∃ l, kidsOf (sizes ns) i = l := ⟨_, rfl⟩
        have hrk := rkOf_facts (rkOf_lam hLam (i := i) (by simp [sizes]; exact hlt))
        rw [hl] at hrk
        have hll : l.length ≤ 700 := by have := hrk.1; omega
        have hlm : ∀ j ∈ l, j < ns.length := hrk.2
        clear hrk
        obtain ⟨w, hw⟩ : ∃ w, lettersOf letK ns l = w := ⟨_, rfl⟩
        have hwl : w.length = l.length := by rw [← hw]; simp [lettersOf]
        have hwlow : Low w := hw ▸ letters_low o.k l
        obtain ⟨bL, hL⟩ : ∃ b, decide (((letK x.k).toNat : Int) = 32) = b := ⟨_, rfl⟩
        obtain ⟨b1, h1⟩ : ∃ b, decide ((x.k : Int) = 1) = b := ⟨_, rfl⟩
        obtain ⟨b2, h2⟩ : ∃ b, decide ((i : Int) = 0) = b := ⟨_, rfl⟩
        obtain ⟨b12, h12⟩ : ∃ b, (!(b1 == b2)) = b := ⟨_, rfl⟩
        obtain ⟨bA, hA⟩ : ∃ b, decide (x.a < 0) = b := ⟨_, rfl⟩
        obtain ⟨bB, hB⟩ : ∃ b, decide (x.a > 2500) = b := ⟨_, rfl⟩
        have hc105 := sem105 (ruleR x.k) w (by omega) hwlow hre hrm hrl
        have hc107 := sem107 (ruleR x.k) w.length (by omega) hrb hre
        have hc108 := sem108 x hkx w.length
        obtain ⟨bK, hK⟩ : ∃ b, lk (ruleR x.k) w = b := ⟨_, rfl⟩
        obtain ⟨bS, hS⟩ : ∃ b, implSized (ruleR x.k) w.length = b := ⟨_, rfl⟩
        obtain ⟨bM, hM⟩ : ∃ b, implNum x.k x.n w.length = b := ⟨_, rfl⟩
        have hok := fun (bN : Bool) hN => implOk_eq (hl.symm ▸ hw) (bN := bN) hL h1 h2 h12 hK hS hN hM hA hB
        rw [hK] at hc105
        rw [hS] at hc107
        rw [hM] at hc108
        clear hK hS hM hrb hrm hre hrl
        obtain ⟨r, hr⟩ : ∃ r, ruleR x.k = r := ⟨_, rfl⟩
        have hlook : ∀ {g : Ev} {h : Heap} {y z : Operand} {d : Option Tmp} {ty : TypeId} {pos : String} {af : Array Edge} {gd : Option (Nat × Bool)} {i : Nat}, g y = some (.map i) → g z = some (.int .u8 (x.k : Int)) → h.objs.get i = some (.map ruleE) → OSem Tryz.prog ⟨d, .lookup 136 y z false, ty, pos, af, gd⟩ g h (ruleV r) h := fun {g h y z d ty pos af gd i} a b c => by
          have := OSem.lookupR (d := d) (ty := ty) (pos := pos) (af := af) (gd := gd) (P := Tryz.prog) (t := 136) exts_ok a b rfl rfl c rfl hkx
          rwa [hr] at this
        rw [hr] at hc105 hc107 hok
        clear hr
        cases l with
        | nil =>
          have hw0 : w = [] := by rw [← hw]; rfl
          subst hw0
          repeat' (first
           | refine S0 ?_
           | refine Sc (at93 hLam hn hlt hl 4) ?_
           | (refine S2 ?_ ?_) <;> intro hc <;> try (exfalso; first | omega | (simp at hc; done))
           | refine Sf hx ?_
           | refine St ?_
           | ((with_reducible refine RD.nil ?_); (refine' RDk.intro ?oks ?hl ?_); (case hl => exact rfl); (case oks => (repeat' (first | exact True.intro | refine And.intro ?_ ?_ | exact rfl | exact OSem.load1 exts_ok rfl rfl rfl rfl | exact OSem.loadN exts_ok rfl rfl rfl rfl | exact OSem.load1 exts_ok rfl rfl rfl (cellsN_one hx rfl) | exact OSem.load1 exts_ok rfl rfl rfl (cellsN_row hx) | exact OSem.load1 exts_ok rfl rfl rfl (cellsI_one hx) | exact OSem.load1 exts_ok rfl rfl rfl (cellsZ_one hx) | exact OSem.load1 exts_ok rfl rfl rfl (cellsS_one hx) | exact OSem.loadN exts_ok rfl rfl rfl (cellsN_one hx rfl) | exact OSem.loadN exts_ok rfl rfl rfl (cellsN_row hx) | exact OSem.loadN exts_ok rfl rfl rfl (cellsI_one hx) | exact OSem.loadN exts_ok rfl rfl rfl (cellsZ_one hx) | exact OSem.loadN exts_ok rfl rfl rfl (cellsS_one hx)))))
           | refine Sd ?_
           | refine Sr hx ?_
           | fail)
          refine RS.loop (σ := Unit) (fun _ => True) (fun _ => [(0, .slice 0 0 ns.length 5), (3, .map 1), (4, .int .i64 (i : Int)), (5, .ptr 2 0), (6, .ptr 3 0), (7, .nilslice), (23, .slice 0 0 ns.length 5), (24, .int .i64 (ns.length : Int)), (25, .int .i64 (i : Int)), (33, .nilslice), (34, .int .i64 0), (35, .int .i64 0)]) (fun _ => inN ns x) (fun _ => 0) () True.intro ⟨[0, 1, 2, 3], by (refine ⟨rfl, rfl, rfl, ?_⟩; repeat' (first | exact True.intro | refine And.intro ?_ ?_ | exact RenO.none | exact RenO.cells (RenVs.plain rfl) | exact RenO.cells (RenVs.cons (RenV.ptr rfl) (RenVs.cons (RenV.slice rfl) RenVs.nil)) | exact RenO.cells (RenVs.cons (RenV.ptr rfl) (RenVs.cons (RenV.sliceL rfl (by simp)) RenVs.nil)) | exact RenO.cells (RenVs.cons (RenV.ptr rfl) (RenVs.cons RenV.nilslice RenVs.nil)) | exact RenO.ro (RenVs.plain (cellsN_plain _)) | exact RenO.cells (RenVs.plain (cellsI_plain _)) | exact RenO.cells (RenVs.plain (cellsB_plain _)) | exact RenO.cells (RenVs.eq (cellsB_snoc _ _).symm (by rw [← cellsB_snoc]; exact cellsB_plain _)) | exact RenO.cells (RenVs.plain (rowN_plain _)) | exact RenO.map (RenVs.plain ruleE_keys) ruleE_ren)), by (repeat' (first | exact True.intro | refine And.intro ?_ ?_ | exact ⟨_, rfl, RenV.plain rfl⟩ | exact ⟨_, rfl, RenV.slice rfl⟩ | exact ⟨_, rfl, RenV.ptr rfl⟩ | exact ⟨_, rfl, RenV.nilslice⟩ | exact ⟨_, rfl, RenV.map rfl⟩ | exact ⟨_, rfl, RenV.eq (congrArg (AV.int .i64) (by omega)) rfl⟩))⟩ ?round2
          rintro _ _
          refine ⟨_, rfl, ?_⟩
          dsimp only [inN]
          repeat' (first
           | refine S0 ?_
           | ((with_reducible refine' RO.step ?hw ?ho ?hp ?_); (case hw => exact rfl); (case ho => exact hlook rfl rfl rfl); (case hp => exact rfl))
           | (refine S2 ?_ ?_) <;> intro hc <;> try (exfalso; first | omega | (simp at hc; done))
           | refine St ?_
           | ((with_reducible refine RD.nil ?_); (refine' RDk.intro ?oks ?hl ?_); (case hl => exact rfl); (case oks => (repeat' (first | exact True.intro | refine And.intro ?_ ?_ | exact rfl | exact OSem.load1 exts_ok rfl rfl rfl rfl | exact OSem.loadN exts_ok rfl rfl rfl rfl))))
           | refine Sd ?_
           | fail)
          refine RO.cut (σ := Bool) (fun b => textOk isNm r.named x.t = b) (fun b => [(0, .slice 0 0 ns.length 5), (3, .map 1), (4, .int .i64 (i : Int)), (5, .ptr 2 0), (6, .ptr 3 0), (7, .nilslice), (10, .ptr 4 0), (11, .bool b), (23, .slice 0 0 ns.length 5), (24, .int .i64 (ns.length : Int)), (25, .int .i64 (i : Int))]) (fun _ => gH0 ns x r) ?cut ?rest
          case cut =>
            obtain ⟨rb, rm, rl, rt, re, rn⟩ := r
            dsimp only [gH0]
            cases rn with
            | true =>
              repeat' (first
               | refine S0 ?_
               | (refine Sb (sem104 _ htx _) ?_ ?_) <;> intro hc
               | (refine S2 ?_ ?_) <;> intro hc <;> try (exfalso; first | omega | (simp at hc; done))
               | refine St ?_
               | ((with_reducible refine RD.nil ?_); (refine' RDk.intro ?oks ?hl ?_); (case hl => exact rfl); (case oks => (repeat' (first | exact True.intro | refine And.intro ?_ ?_ | exact rfl | exact OSem.load1 exts_ok rfl rfl rfl rfl | exact OSem.loadN exts_ok rfl rfl rfl rfl))))
               | refine Sd ?_
               | fail)
              · exact Mid.n true [0, 1, 2, 3, 4] (by show textOk _ _ _ = _; unfold textOk; rw [hc]; rfl) (by (refine ⟨rfl, rfl, rfl, ?_⟩; repeat' (first | exact True.intro | refine And.intro ?_ ?_ | exact RenO.none | exact RenO.cells (RenVs.plain rfl) | exact RenO.cells (RenVs.cons (RenV.ptr rfl) (RenVs.cons (RenV.slice rfl) RenVs.nil)) | exact RenO.cells (RenVs.cons (RenV.ptr rfl) (RenVs.cons (RenV.sliceL rfl (by simp)) RenVs.nil)) | exact RenO.cells (RenVs.cons (RenV.ptr rfl) (RenVs.cons RenV.nilslice RenVs.nil)) | exact RenO.ro (RenVs.plain (cellsN_plain _)) | exact RenO.cells (RenVs.plain (cellsI_plain _)) | exact RenO.cells (RenVs.plain (cellsB_plain _)) | exact RenO.cells (RenVs.eq (cellsB_snoc _ _).symm (by rw [← cellsB_snoc]; exact cellsB_plain _)) | exact RenO.cells (RenVs.plain (rowN_plain _)) | exact RenO.map (RenVs.plain ruleE_keys) ruleE_ren))) (by (repeat' (first | exact True.intro | refine And.intro ?_ ?_ | exact ⟨_, rfl, RenV.plain rfl⟩ | exact ⟨_, rfl, RenV.slice rfl⟩ | exact ⟨_, rfl, RenV.ptr rfl⟩ | exact ⟨_, rfl, RenV.nilslice⟩ | exact ⟨_, rfl, RenV.map rfl⟩ | exact ⟨_, rfl, RenV.eq (congrArg (AV.int .i64) (by omega)) rfl⟩)))
              · exact Mid.n false [0, 1, 2, 3, 4] (by show textOk _ _ _ = _; unfold textOk; rw [hc]; rfl) (by (refine ⟨rfl, rfl, rfl, ?_⟩; repeat' (first | exact True.intro | refine And.intro ?_ ?_ | exact RenO.none | exact RenO.cells (RenVs.plain rfl) | exact RenO.cells (RenVs.cons (RenV.ptr rfl) (RenVs.cons (RenV.slice rfl) RenVs.nil)) | exact RenO.cells (RenVs.cons (RenV.ptr rfl) (RenVs.cons (RenV.sliceL rfl (by simp)) RenVs.nil)) | exact RenO.cells (RenVs.cons (RenV.ptr rfl) (RenVs.cons RenV.nilslice RenVs.nil)) | exact RenO.ro (RenVs.plain (cellsN_plain _)) | exact RenO.cells (RenVs.plain (cellsI_plain _)) | exact RenO.cells (RenVs.plain (cellsB_plain _)) | exact RenO.cells (RenVs.eq (cellsB_snoc _ _).symm (by rw [← cellsB_snoc]; exact cellsB_plain _)) | exact RenO.cells (RenVs.plain (rowN_plain _)) | exact RenO.map (RenVs.plain ruleE_keys) ruleE_ren))) (by (repeat' (first | exact True.intro | refine And.intro ?_ ?_ | exact ⟨_, rfl, RenV.plain rfl⟩ | exact ⟨_, rfl, RenV.slice rfl⟩ | exact ⟨_, rfl, RenV.ptr rfl⟩ | exact ⟨_, rfl, RenV.nilslice⟩ | exact ⟨_, rfl, RenV.map rfl⟩ | exact ⟨_, rfl, RenV.eq (congrArg (AV.int .i64) (by omega)) rfl⟩)))
            | false =>
              repeat' (first
               | refine S0 ?_
               | (refine S2 ?_ ?_) <;> intro hc <;> try (exfalso; first | omega | (simp at hc; done))
               | refine St ?_
               | ((with_reducible refine RD.nil ?_); (refine' RDk.intro ?oks ?hl ?_); (case hl => exact rfl); (case oks => (repeat' (first | exact True.intro | refine And.intro ?_ ?_ | exact rfl | exact OSem.load1 exts_ok rfl rfl rfl rfl | exact OSem.loadN exts_ok rfl rfl rfl rfl))))
               | refine Sd ?_
               | fail)
              · exact Mid.n true [0, 1, 2, 3, 4] (by show textOk _ _ _ = _; unfold textOk; rw [decide_eq_true hc]; rfl) (by (refine ⟨rfl, rfl, rfl, ?_⟩; repeat' (first | exact True.intro | refine And.intro ?_ ?_ | exact RenO.none | exact RenO.cells (RenVs.plain rfl) | exact RenO.cells (RenVs.cons (RenV.ptr rfl) (RenVs.cons (RenV.slice rfl) RenVs.nil)) | exact RenO.cells (RenVs.cons (RenV.ptr rfl) (RenVs.cons (RenV.sliceL rfl (by simp)) RenVs.nil)) | exact RenO.cells (RenVs.cons (RenV.ptr rfl) (RenVs.cons RenV.nilslice RenVs.nil)) | exact RenO.ro (RenVs.plain (cellsN_plain _)) | exact RenO.cells (RenVs.plain (cellsI_plain _)) | exact RenO.cells (RenVs.plain (cellsB_plain _)) | exact RenO.cells (RenVs.eq (cellsB_snoc _ _).symm (by rw [← cellsB_snoc]; exact cellsB_plain _)) | exact RenO.cells (RenVs.plain (rowN_plain _)) | exact RenO.map (RenVs.plain ruleE_keys) ruleE_ren))) (by (repeat' (first | exact True.intro | refine And.intro ?_ ?_ | exact ⟨_, rfl, RenV.plain rfl⟩ | exact ⟨_, rfl, RenV.slice rfl⟩ | exact ⟨_, rfl, RenV.ptr rfl⟩ | exact ⟨_, rfl, RenV.nilslice⟩ | exact ⟨_, rfl, RenV.map rfl⟩ | exact ⟨_, rfl, RenV.eq (congrArg (AV.int .i64) (by omega)) rfl⟩)))
              · exact Mid.n false [0, 1, 2, 3, 4] (by show textOk _ _ _ = _; unfold textOk; rw [decide_eq_false hc]; rfl) (by (refine ⟨rfl, rfl, rfl, ?_⟩; repeat' (first | exact True.intro | refine And.intro ?_ ?_ | exact RenO.none | exact RenO.cells (RenVs.plain rfl) | exact RenO.cells (RenVs.cons (RenV.ptr rfl) (RenVs.cons (RenV.slice rfl) RenVs.nil)) | exact RenO.cells (RenVs.cons (RenV.ptr rfl) (RenVs.cons (RenV.sliceL rfl (by simp)) RenVs.nil)) | exact RenO.cells (RenVs.cons (RenV.ptr rfl) (RenVs.cons RenV.nilslice RenVs.nil)) | exact RenO.ro (RenVs.plain (cellsN_plain _)) | exact RenO.cells (RenVs.plain (cellsI_plain _)) | exact RenO.cells (RenVs.plain (cellsB_plain _)) | exact RenO.cells (RenVs.eq (cellsB_snoc _ _).symm (by rw [← cellsB_snoc]; exact cellsB_plain _)) | exact RenO.cells (RenVs.plain (rowN_plain _)) | exact RenO.map (RenVs.plain ruleE_keys) ruleE_ren))) (by (repeat' (first | exact True.intro | refine And.intro ?_ ?_ | exact ⟨_, rfl, RenV.plain rfl⟩ | exact ⟨_, rfl, RenV.slice rfl⟩ | exact ⟨_, rfl, RenV.ptr rfl⟩ | exact ⟨_, rfl, RenV.nilslice⟩ | exact ⟨_, rfl, RenV.map rfl⟩ | exact ⟨_, rfl, RenV.eq (congrArg (AV.int .i64) (by omega)) rfl⟩)))
          case rest =>
            rintro bN hbN
            rw [hok bN hbN] at hR
            clear hok hlook hbN
            rcases nine bL b12 bK bS bN bM bA bB with rfl | ⟨rfl, rfl⟩ | ⟨rfl, rfl, rfl⟩ | ⟨rfl, rfl, rfl, rfl⟩ | ⟨rfl, rfl, rfl, rfl, rfl⟩ | ⟨rfl, rfl, rfl, rfl, rfl, rfl⟩ | ⟨rfl, rfl, rfl, rfl, rfl, rfl, rfl⟩ | ⟨rfl, rfl, rfl, rfl, rfl, rfl, rfl, rfl⟩ | ⟨rfl, rfl, rfl, rfl, rfl, rfl, rfl, rfl⟩
            all_goals refine ⟨_, rfl, ?_⟩
            all_goals dsimp only [gH0]
            all_goals
              repeat' (first
               | refine S0 ?_
               | ((with_reducible refine' RD.opEq exts_ok ?hLL ?hw ?hx ?hy ?hk ?hr ?hp ?_); (case hLL => exact rfl); (case hw => exact rfl); (case hx => exact rfl); (case hy => exact rfl); (case hk => exact rfl); (case hr => first | exact hL | exact h1 | exact h2); (case hp => exact rfl))
               | ((with_reducible refine' RD.opLt exts_ok ?hLL ?hw ?hx ?hy ?hk ?hr ?hp ?_); (case hLL => exact rfl); (case hw => exact rfl); (case hx => exact rfl); (case hy => exact rfl); (case hk => exact rfl); (case hr => exact hA); (case hp => exact rfl))
               | ((with_reducible refine' RD.opGt exts_ok ?hLL ?hw ?hx ?hy ?hk ?hr ?hp ?_); (case hLL => exact rfl); (case hw => exact rfl); (case hx => exact rfl); (case hy => exact rfl); (case hk => exact rfl); (case hr => exact hB); (case hp => exact rfl))
               | ((with_reducible refine' RD.opNe exts_ok ?hLL ?hw ?hx ?hy ?hv ?hr ?hp ?_); (case hLL => exact rfl); (case hw => exact rfl); (case hx => exact rfl); (case hy => exact rfl); (case hv => exact rfl); (case hr => exact h12); (case hp => exact rfl))
               | ((with_reducible refine' RD.opLd1 exts_ok ?hLL ?hw ?hx ?hu ?hD ?hv ?hp ?_); (case hLL => exact rfl); (case hw => exact rfl); (case hx => exact rfl); (case hu => exact rfl); (case hD => exact rfl); (case hv => exact rfl); (case hp => exact rfl))
               | ((with_reducible refine' RD.opLdN exts_ok ?hLL ?hw ?hx ?hu ?hD ?hv ?hp ?_); (case hLL => exact rfl); (case hw => exact rfl); (case hx => exact rfl); (case hu => exact rfl); (case hD => exact rfl); (case hv => exact rfl); (case hp => exact rfl))
               | ((with_reducible refine' RD.opFn exts_ok 103 ?hLL ?hw ?ha ?hf ?hs ?hp ?_); (case hLL => exact rfl); (case hw => exact rfl); (case ha => exact rfl); (case hf => exact rfl); (case hs => exact fn103 hkx _); (case hp => exact rfl))
               | ((with_reducible refine' RD.opFn exts_ok 105 ?hLL ?hw ?ha ?hf ?hs ?hp ?_); (case hLL => exact rfl); (case hw => exact rfl); (case ha => exact rfl); (case hf => exact rfl); (case hs => exact hc105 _); (case hp => exact rfl))
               | ((with_reducible refine' RD.opFn exts_ok 107 ?hLL ?hw ?ha ?hf ?hs ?hp ?_); (case hLL => exact rfl); (case hw => exact rfl); (case ha => exact rfl); (case hf => exact rfl); (case hs => exact hc107 _); (case hp => exact rfl))
               | ((with_reducible refine' RD.opFn exts_ok 108 ?hLL ?hw ?ha ?hf ?hs ?hp ?_); (case hLL => exact rfl); (case hw => exact rfl); (case ha => exact rfl); (case hf => exact rfl); (case hs => exact hc108 _); (case hp => exact rfl))
               | ((with_reducible refine' RD.opFnE exts_ok 106 ?hLL ?hw ?ha ?hf ?hs ?hp ?_); (case hLL => exact rfl); (case hw => exact rfl); (case ha => exact rfl); (case hf => exact rfl); (case hs => exact str0 ns x [] r); (case hp => exact rfl))
               | ((with_reducible refine' RD.skip ?hw ?hp ?_); (case hw => exact rfl); (case hp => exact rfl))
               | ((with_reducible refine' RS.drawE mixed [none, none, none, none, none, none, none, none, none, none, none, none, none, none, none, none, none, none, none, none, none, none, none, none, none, none, none, none, none, none, none, none, none, none, none, none, none, none, none, none, none, none, none, none, none, none] ?hn ?hms ?hord ?hh ?_); (case hn => exact rfl); (case hms => exact rfl); (case hord => exact rfl); (case hh => exact rfl))
               | ((with_reducible refine RD.nil ?_); (refine' RDk.intro ?oks ?hl ?_); (case hl => exact rfl); (case oks => (repeat' (first | exact True.intro | refine And.intro ?_ ?_ | exact rfl | exact OSem.load1 exts_ok rfl rfl rfl rfl | exact OSem.loadN exts_ok rfl rfl rfl rfl | (first | exact OSem.fn exts_ok rfl rfl rfl rfl (fn103 hkx _) | exact OSem.fn exts_ok rfl rfl rfl rfl (hc105 _) | exact OSem.fn exts_ok rfl rfl rfl rfl (hc107 _) | exact OSem.fn exts_ok rfl rfl rfl rfl (hc108 _)) | exact OSem.fn exts_ok rfl rfl rfl rfl (str0 ns x [] r)))))
               | (refine S2 ?_ ?_) <;> intro hc <;> try (exfalso; first | omega | (simp at hc; done))
               | refine St ?_
               | ((with_reducible refine RD.nil ?_); (refine' RDk.intro ?oks ?hl ?_); (case hl => exact rfl); (case oks => (repeat' (first | exact True.intro | refine And.intro ?_ ?_ | exact rfl | exact OSem.load1 exts_ok rfl rfl rfl rfl | exact OSem.loadN exts_ok rfl rfl rfl rfl))))
               | refine Sd ?_
               | fail)
            all_goals first
              | (have hR' : false = R := hR
                 subst hR'
                 exact ⟨rfl, _, rfl, [0], by (refine ⟨rfl, rfl, rfl, ?_⟩; repeat' (first | exact True.intro | refine And.intro ?_ ?_ | exact RenO.none | exact RenO.cells (RenVs.plain rfl) | exact RenO.cells (RenVs.cons (RenV.ptr rfl) (RenVs.cons (RenV.slice rfl) RenVs.nil)) | exact RenO.cells (RenVs.cons (RenV.ptr rfl) (RenVs.cons (RenV.sliceL rfl (by simp)) RenVs.nil)) | exact RenO.cells (RenVs.cons (RenV.ptr rfl) (RenVs.cons RenV.nilslice RenVs.nil)) | exact RenO.ro (RenVs.plain (cellsN_plain _)) | exact RenO.cells (RenVs.plain (cellsI_plain _)) | exact RenO.cells (RenVs.plain (cellsB_plain _)) | exact RenO.cells (RenVs.eq (cellsB_snoc _ _).symm (by rw [← cellsB_snoc]; exact cellsB_plain _)) | exact RenO.cells (RenVs.plain (rowN_plain _)) | exact RenO.map (RenVs.plain ruleE_keys) ruleE_ren)), RenV.plain rfl⟩)
              | (refine Rnd.n (i + 1) [0, 1] ⟨by omega, by rw [show ns.length - (i + 1) = f by omega]; exact hR⟩ (by omega) (by (refine ⟨rfl, rfl, rfl, ?_⟩; repeat' (first | exact True.intro | refine And.intro ?_ ?_ | exact RenO.none | exact RenO.cells (RenVs.plain rfl) | exact RenO.cells (RenVs.cons (RenV.ptr rfl) (RenVs.cons (RenV.slice rfl) RenVs.nil)) | exact RenO.cells (RenVs.cons (RenV.ptr rfl) (RenVs.cons (RenV.sliceL rfl (by simp)) RenVs.nil)) | exact RenO.cells (RenVs.cons (RenV.ptr rfl) (RenVs.cons RenV.nilslice RenVs.nil)) | exact RenO.ro (RenVs.plain (cellsN_plain _)) | exact RenO.cells (RenVs.plain (cellsI_plain _)) | exact RenO.cells (RenVs.plain (cellsB_plain _)) | exact RenO.cells (RenVs.eq (cellsB_snoc _ _).symm (by rw [← cellsB_snoc]; exact cellsB_plain _)) | exact RenO.cells (RenVs.plain (rowN_plain _)) | exact RenO.map (RenVs.plain ruleE_keys) ruleE_ren))) ?_
                 (repeat' (first | exact True.intro | refine And.intro ?_ ?_ | exact ⟨_, rfl, RenV.plain rfl⟩ | exact ⟨_, rfl, RenV.slice rfl⟩ | exact ⟨_, rfl, RenV.ptr rfl⟩ | exact ⟨_, rfl, RenV.nilslice⟩ | exact ⟨_, rfl, RenV.map rfl⟩ | exact ⟨_, rfl, RenV.eq (congrArg (AV.int .i64) (by omega)) rfl⟩)))
        | cons k0 ks =>
          rw [hwl] at hc107 hc108
          have hin : (k0 :: ks).length ≤ 700 := hll
          repeat' (first
           | refine S0 ?_
           | refine Sc (at93 hLam hn hlt hl 4) ?_
           | (refine S2 ?_ ?_) <;> intro hc <;> try (exfalso; first | omega | (simp at hc; done))
           | refine Sf hx ?_
           | refine St ?_
           | ((with_reducible refine RD.nil ?_); (refine' RDk.intro ?oks ?hl ?_); (case hl => exact rfl); (case oks => (repeat' (first | exact True.intro | refine And.intro ?_ ?_ | exact rfl | exact OSem.load1 exts_ok rfl rfl rfl rfl | exact OSem.loadN exts_ok rfl rfl rfl rfl | exact OSem.load1 exts_ok rfl rfl rfl (cellsN_one hx rfl) | exact OSem.load1 exts_ok rfl rfl rfl (cellsN_row hx) | exact OSem.load1 exts_ok rfl rfl rfl (cellsI_one hx) | exact OSem.load1 exts_ok rfl rfl rfl (cellsZ_one hx) | exact OSem.load1 exts_ok rfl rfl rfl (cellsS_one hx) | exact OSem.loadN exts_ok rfl rfl rfl (cellsN_one hx rfl) | exact OSem.loadN exts_ok rfl rfl rfl (cellsN_row hx) | exact OSem.loadN exts_ok rfl rfl rfl (cellsI_one hx) | exact OSem.loadN exts_ok rfl rfl rfl (cellsZ_one hx) | exact OSem.loadN exts_ok rfl rfl rfl (cellsS_one hx)))))
           | refine Sd ?_
           | refine Sr hx ?_
           | fail)
          refine RS.loop (σ := Nat) (fun k => k ≤ (k0 :: ks).length) (fun k => [(0, .slice 0 0 ns.length 5), (3, .map 1), (4, .int .i64 (i : Int)), (5, .ptr 2 0), (6, .ptr 3 0), (7, .slice 4 0 (k0 :: ks).length 1), (23, .slice 0 0 ns.length 5), (24, .int .i64 (ns.length : Int)), (25, .int .i64 (i : Int)), (33, .slice 4 0 (k0 :: ks).length 1), (34, .int .i64 ((k0 :: ks).length : Int)), (35, .int .i64 (k : Int))]) (fun k => inH ns x (k0 :: ks) w k) (fun k => (k0 :: ks).length - k) 0 (Nat.zero_le _) ⟨[0, 1, 2, 3, 4], by (refine ⟨rfl, rfl, rfl, ?_⟩; repeat' (first | exact True.intro | refine And.intro ?_ ?_ | exact RenO.none | exact RenO.cells (RenVs.plain rfl) | exact RenO.cells (RenVs.cons (RenV.ptr rfl) (RenVs.cons (RenV.slice rfl) RenVs.nil)) | exact RenO.cells (RenVs.cons (RenV.ptr rfl) (RenVs.cons (RenV.sliceL rfl (by simp)) RenVs.nil)) | exact RenO.cells (RenVs.cons (RenV.ptr rfl) (RenVs.cons RenV.nilslice RenVs.nil)) | exact RenO.ro (RenVs.plain (cellsN_plain _)) | exact RenO.cells (RenVs.plain (cellsI_plain _)) | exact RenO.cells (RenVs.plain (cellsB_plain _)) | exact RenO.cells (RenVs.eq (cellsB_snoc _ _).symm (by rw [← cellsB_snoc]; exact cellsB_plain _)) | exact RenO.cells (RenVs.plain (rowN_plain _)) | exact RenO.map (RenVs.plain ruleE_keys) ruleE_ren)), by (repeat' (first | exact True.intro | refine And.intro ?_ ?_ | exact ⟨_, rfl, RenV.plain rfl⟩ | exact ⟨_, rfl, RenV.slice rfl⟩ | exact ⟨_, rfl, RenV.ptr rfl⟩ | exact ⟨_, rfl, RenV.nilslice⟩ | exact ⟨_, rfl, RenV.map rfl⟩ | exact ⟨_, rfl, RenV.eq (congrArg (AV.int .i64) (by omega)) rfl⟩))⟩ ?round3
          rintro k hk
          by_cases hlk : k < (k0 :: ks).length
          · obtain ⟨j, hj⟩ : ∃ j, (k0 :: ks)[k]? = some j := ⟨(k0 :: ks)[k], by rw [List.getElem?_eq_getElem]⟩
            have hjn := hlm j (List.mem_of_getElem? hj)
            obtain ⟨y, hy⟩ : ∃ y, ns[j]? = some y := ⟨ns[j], by rw [List.getElem?_eq_getElem]⟩
            have hky : y.k < 256 := o.k y (List.mem_of_getElem? hy)
            have hwk : w[k]? = some (letK y.k) := by rw [← hw]; unfold lettersOf; rw [List.getElem?_map, hj]; simp [kindAt, hy]
            have ht : w.take (k + 1) = w.take k ++ [letK y.k] := by
              obtain ⟨q1, q2⟩ := List.getElem?_eq_some_iff.1 hwk
              rw [List.take_succ_eq_append_getElem q1, q2]
            cases k with
            | zero =>
              obtain rfl : k0 = j := by simpa using hj
              refine ⟨_, rfl, ?_⟩
              dsimp only [inH, fH]
              repeat' (first
               | refine S0 ?_
               | refine Sc (fn103 hky _) ?_
               | refine Sc (wb0 ns x (k0 :: ks) (letK y.k)) ?_
               | (refine S2 ?_ ?_) <;> intro hc <;> try (exfalso; first | omega | (simp at hc; done))
               | refine Sf hj ?_
               | refine Sf hy ?_
               | refine St ?_
               | ((with_reducible refine RD.nil ?_); (refine' RDk.intro ?oks ?hl ?_); (case hl => exact rfl); (case oks => (repeat' (first | exact True.intro | refine And.intro ?_ ?_ | exact rfl | exact OSem.load1 exts_ok rfl rfl rfl rfl | exact OSem.loadN exts_ok rfl rfl rfl rfl | exact OSem.load1 exts_ok rfl rfl rfl (cellsN_one hj rfl) | exact OSem.load1 exts_ok rfl rfl rfl (cellsN_row hj) | exact OSem.load1 exts_ok rfl rfl rfl (cellsI_one hj) | exact OSem.load1 exts_ok rfl rfl rfl (cellsZ_one hj) | exact OSem.load1 exts_ok rfl rfl rfl (cellsS_one hj) | exact OSem.load1 exts_ok rfl rfl rfl (cellsN_one hy rfl) | exact OSem.load1 exts_ok rfl rfl rfl (cellsN_row hy) | exact OSem.load1 exts_ok rfl rfl rfl (cellsI_one hy) | exact OSem.load1 exts_ok rfl rfl rfl (cellsZ_one hy) | exact OSem.load1 exts_ok rfl rfl rfl (cellsS_one hy) | exact OSem.loadN exts_ok rfl rfl rfl (cellsN_one hj rfl) | exact OSem.loadN exts_ok rfl rfl rfl (cellsN_row hj) | exact OSem.loadN exts_ok rfl rfl rfl (cellsI_one hj) | exact OSem.loadN exts_ok rfl rfl rfl (cellsZ_one hj) | exact OSem.loadN exts_ok rfl rfl rfl (cellsS_one hj) | exact OSem.loadN exts_ok rfl rfl rfl (cellsN_one hy rfl) | exact OSem.loadN exts_ok rfl rfl rfl (cellsN_row hy) | exact OSem.loadN exts_ok rfl rfl rfl (cellsI_one hy) | exact OSem.loadN exts_ok rfl rfl rfl (cellsZ_one hy) | exact OSem.loadN exts_ok rfl rfl rfl (cellsS_one hy)))))
               | refine Sd ?_
               | refine Sr hj ?_
               | refine Sr hy ?_
               | fail)
              refine Rnd.n 1 [0, 1, 2, 3, 4, 5] (by show 1 ≤ (k0 :: ks).length; simp) (by show (k0 :: ks).length - 1 < (k0 :: ks).length - 0; simp) ?_ ?_
              · show Lay _ _ _ (fH ns x (k0 :: ks) [.ptr 3 0, .slice 5 0 (0 + 1) 1] (bufT (w.take (0 + 1))) .leaf 6)
                rw [ht]
                dsimp only [fH, bufT, List.take_zero, List.nil_append]
                (refine ⟨rfl, rfl, rfl, ?_⟩; repeat' (first | exact True.intro | refine And.intro ?_ ?_ | exact RenO.none | exact RenO.cells (RenVs.plain rfl) | exact RenO.cells (RenVs.cons (RenV.ptr rfl) (RenVs.cons (RenV.slice rfl) RenVs.nil)) | exact RenO.cells (RenVs.cons (RenV.ptr rfl) (RenVs.cons (RenV.sliceL rfl (by simp)) RenVs.nil)) | exact RenO.cells (RenVs.cons (RenV.ptr rfl) (RenVs.cons RenV.nilslice RenVs.nil)) | exact RenO.ro (RenVs.plain (cellsN_plain _)) | exact RenO.cells (RenVs.plain (cellsI_plain _)) | exact RenO.cells (RenVs.plain (cellsB_plain _)) | exact RenO.cells (RenVs.eq (cellsB_snoc _ _).symm (by rw [← cellsB_snoc]; exact cellsB_plain _)) | exact RenO.cells (RenVs.plain (rowN_plain _)) | exact RenO.map (RenVs.plain ruleE_keys) ruleE_ren))
              · (repeat' (first | exact True.intro | refine And.intro ?_ ?_ | exact ⟨_, rfl, RenV.plain rfl⟩ | exact ⟨_, rfl, RenV.slice rfl⟩ | exact ⟨_, rfl, RenV.ptr rfl⟩ | exact ⟨_, rfl, RenV.nilslice⟩ | exact ⟨_, rfl, RenV.map rfl⟩ | exact ⟨_, rfl, RenV.eq (congrArg (AV.int .i64) (by omega)) rfl⟩))
            | succ k =>
              refine ⟨_, rfl, ?_⟩
              dsimp only [inH]
              repeat' (first
               | refine S0 ?_
               | refine Sc (fn103 hky _) ?_
               | ((with_reducible refine' RO.fn (f := 102) exts_ok ?hw ?ha ?hf ?hs ?hp ?_); (case hw | ha | hf => exact rfl); (case hs => exact wb1 ns x (k0 :: ks) (w.take (k + 1)) (k + 1) (by rw [List.length_take]; omega) (by omega) (by omega) (letK y.k)); (case hp => exact rfl))
               | ((with_reducible refine' RQ.fn (f := 102) exts_ok ?hw ?ha ?hf ?hs ?hp ?_); (case hw | ha | hf => exact rfl); (case hs => exact wb1 ns x (k0 :: ks) (w.take (k + 1)) (k + 1) (by rw [List.length_take]; omega) (by omega) (by omega) (letK y.k)); (case hp => exact rfl))
               | (refine S2 ?_ ?_) <;> intro hc <;> try (exfalso; first | omega | (simp at hc; done))
               | refine Sf hj ?_
               | refine Sf hy ?_
               | refine St ?_
               | ((with_reducible refine RD.nil ?_); (refine' RDk.intro ?oks ?hl ?_); (case hl => exact rfl); (case oks => (repeat' (first | exact True.intro | refine And.intro ?_ ?_ | exact rfl | exact OSem.load1 exts_ok rfl rfl rfl rfl | exact OSem.loadN exts_ok rfl rfl rfl rfl | exact OSem.load1 exts_ok rfl rfl rfl (cellsN_one hj rfl) | exact OSem.load1 exts_ok rfl rfl rfl (cellsN_row hj) | exact OSem.load1 exts_ok rfl rfl rfl (cellsI_one hj) | exact OSem.load1 exts_ok rfl rfl rfl (cellsZ_one hj) | exact OSem.load1 exts_ok rfl rfl rfl (cellsS_one hj) | exact OSem.load1 exts_ok rfl rfl rfl (cellsN_one hy rfl) | exact OSem.load1 exts_ok rfl rfl rfl (cellsN_row hy) | exact OSem.load1 exts_ok rfl rfl rfl (cellsI_one hy) | exact OSem.load1 exts_ok rfl rfl rfl (cellsZ_one hy) | exact OSem.load1 exts_ok rfl rfl rfl (cellsS_one hy) | exact OSem.loadN exts_ok rfl rfl rfl (cellsN_one hj rfl) | exact OSem.loadN exts_ok rfl rfl rfl (cellsN_row hj) | exact OSem.loadN exts_ok rfl rfl rfl (cellsI_one hj) | exact OSem.loadN exts_ok rfl rfl rfl (cellsZ_one hj) | exact OSem.loadN exts_ok rfl rfl rfl (cellsS_one hj) | exact OSem.loadN exts_ok rfl rfl rfl (cellsN_one hy rfl) | exact OSem.loadN exts_ok rfl rfl rfl (cellsN_row hy) | exact OSem.loadN exts_ok rfl rfl rfl (cellsI_one hy) | exact OSem.loadN exts_ok rfl rfl rfl (cellsZ_one hy) | exact OSem.loadN exts_ok rfl rfl rfl (cellsS_one hy)))))
               | refine Sd ?_
               | refine Sr hj ?_
               | refine Sr hy ?_
               | fail)
              refine Rnd.n (k + 1 + 1) [0, 1, 2, 3, 4, 6] (by omega) (by show (k0 :: ks).length - (k + 1 + 1) < (k0 :: ks).length - (k + 1); omega) ?_ ?_
              · show Lay _ _ _ (fH ns x (k0 :: ks) [.ptr 3 0, .slice 5 0 (k + 1 + 1) 1] (bufT (w.take (k + 1 + 1))) .leaf 6)
                rw [ht]
                dsimp only [fH, bufT]
                (refine ⟨rfl, rfl, rfl, ?_⟩; repeat' (first | exact True.intro | refine And.intro ?_ ?_ | exact RenO.none | exact RenO.cells (RenVs.plain rfl) | exact RenO.cells (RenVs.cons (RenV.ptr rfl) (RenVs.cons (RenV.slice rfl) RenVs.nil)) | exact RenO.cells (RenVs.cons (RenV.ptr rfl) (RenVs.cons (RenV.sliceL rfl (by simp)) RenVs.nil)) | exact RenO.cells (RenVs.cons (RenV.ptr rfl) (RenVs.cons RenV.nilslice RenVs.nil)) | exact RenO.ro (RenVs.plain (cellsN_plain _)) | exact RenO.cells (RenVs.plain (cellsI_plain _)) | exact RenO.cells (RenVs.plain (cellsB_plain _)) | exact RenO.cells (RenVs.eq (cellsB_snoc _ _).symm (by rw [← cellsB_snoc]; exact cellsB_plain _)) | exact RenO.cells (RenVs.plain (rowN_plain _)) | exact RenO.map (RenVs.plain ruleE_keys) ruleE_ren))
              · (repeat' (first | exact True.intro | refine And.intro ?_ ?_ | exact ⟨_, rfl, RenV.plain rfl⟩ | exact ⟨_, rfl, RenV.slice rfl⟩ | exact ⟨_, rfl, RenV.ptr rfl⟩ | exact ⟨_, rfl, RenV.nilslice⟩ | exact ⟨_, rfl, RenV.map rfl⟩ | exact ⟨_, rfl, RenV.eq (congrArg (AV.int .i64) (by omega)) rfl⟩))
          · cases k with
            | zero => exact absurd (by simp) hlk
            | succ k =>
              have hk' : k + 1 = (k0 :: ks).length := by omega
              have hwk : w.length = k + 1 := by omega
              have hwt : w.take (k + 1) = w := List.take_of_length_le (by omega)
              refine ⟨_, rfl, ?_⟩
              dsimp only [inH, fH]
              rw [hwt]
              repeat' (first
               | refine S0 ?_
               | ((with_reducible refine' RO.step ?hw ?ho ?hp ?_); (case hw => exact rfl); (case ho => exact hlook rfl rfl rfl); (case hp => exact rfl))
               | (refine S2 ?_ ?_) <;> intro hc <;> try (exfalso; first | omega | (simp at hc; done))
               | refine St ?_
               | ((with_reducible refine RD.nil ?_); (refine' RDk.intro ?oks ?hl ?_); (case hl => exact rfl); (case oks => (repeat' (first | exact True.intro | refine And.intro ?_ ?_ | exact rfl | exact OSem.load1 exts_ok rfl rfl rfl rfl | exact OSem.loadN exts_ok rfl rfl rfl rfl))))
               | refine Sd ?_
               | fail)
              refine RO.cut (σ := Bool) (fun b => textOk isNm r.named x.t = b) (fun b => [(0, .slice 0 0 ns.length 5), (3, .map 1), (4, .int .i64 (i : Int)), (5, .ptr 2 0), (6, .ptr 3 0), (7, .slice 4 0 (k0 :: ks).length 1), (10, .ptr 6 0), (11, .bool b), (23, .slice 0 0 ns.length 5), (24, .int .i64 (ns.length : Int)), (25, .int .i64 (i : Int))]) (fun _ => gH1 ns x (k0 :: ks) (k + 1) (bufT w) r) ?cut ?rest
              case cut =>
                obtain ⟨rb, rm, rl, rt, re, rn⟩ := r
                dsimp only [gH1, fH, bufT]
                cases rn with
                | true =>
                  repeat' (first
                   | refine S0 ?_
                   | (refine Sb (sem104 _ htx _) ?_ ?_) <;> intro hc
                   | (refine S2 ?_ ?_) <;> intro hc <;> try (exfalso; first | omega | (simp at hc; done))
                   | refine St ?_
                   | ((with_reducible refine RD.nil ?_); (refine' RDk.intro ?oks ?hl ?_); (case hl => exact rfl); (case oks => (repeat' (first | exact True.intro | refine And.intro ?_ ?_ | exact rfl | exact OSem.load1 exts_ok rfl rfl rfl rfl | exact OSem.loadN exts_ok rfl rfl rfl rfl))))
                   | refine Sd ?_
                   | fail)
                  · exact Mid.n true [0, 1, 2, 3, 4, 5, 6] (by show textOk _ _ _ = _; unfold textOk; rw [hc]; rfl) (by (refine ⟨rfl, rfl, rfl, ?_⟩; repeat' (first | exact True.intro | refine And.intro ?_ ?_ | exact RenO.none | exact RenO.cells (RenVs.plain rfl) | exact RenO.cells (RenVs.cons (RenV.ptr rfl) (RenVs.cons (RenV.slice rfl) RenVs.nil)) | exact RenO.cells (RenVs.cons (RenV.ptr rfl) (RenVs.cons (RenV.sliceL rfl (by simp)) RenVs.nil)) | exact RenO.cells (RenVs.cons (RenV.ptr rfl) (RenVs.cons RenV.nilslice RenVs.nil)) | exact RenO.ro (RenVs.plain (cellsN_plain _)) | exact RenO.cells (RenVs.plain (cellsI_plain _)) | exact RenO.cells (RenVs.plain (cellsB_plain _)) | exact RenO.cells (RenVs.eq (cellsB_snoc _ _).symm (by rw [← cellsB_snoc]; exact cellsB_plain _)) | exact RenO.cells (RenVs.plain (rowN_plain _)) | exact RenO.map (RenVs.plain ruleE_keys) ruleE_ren))) (by (repeat' (first | exact True.intro | refine And.intro ?_ ?_ | exact ⟨_, rfl, RenV.plain rfl⟩ | exact ⟨_, rfl, RenV.slice rfl⟩ | exact ⟨_, rfl, RenV.ptr rfl⟩ | exact ⟨_, rfl, RenV.nilslice⟩ | exact ⟨_, rfl, RenV.map rfl⟩ | exact ⟨_, rfl, RenV.eq (congrArg (AV.int .i64) (by omega)) rfl⟩)))
                  · exact Mid.n false [0, 1, 2, 3, 4, 5, 6] (by show textOk _ _ _ = _; unfold textOk; rw [hc]; rfl) (by (refine ⟨rfl, rfl, rfl, ?_⟩; repeat' (first | exact True.intro | refine And.intro ?_ ?_ | exact RenO.none | exact RenO.cells (RenVs.plain rfl) | exact RenO.cells (RenVs.cons (RenV.ptr rfl) (RenVs.cons (RenV.slice rfl) RenVs.nil)) | exact RenO.cells (RenVs.cons (RenV.ptr rfl) (RenVs.cons (RenV.sliceL rfl (by simp)) RenVs.nil)) | exact RenO.cells (RenVs.cons (RenV.ptr rfl) (RenVs.cons RenV.nilslice RenVs.nil)) | exact RenO.ro (RenVs.plain (cellsN_plain _)) | exact RenO.cells (RenVs.plain (cellsI_plain _)) | exact RenO.cells (RenVs.plain (cellsB_plain _)) | exact RenO.cells (RenVs.eq (cellsB_snoc _ _).symm (by rw [← cellsB_snoc]; exact cellsB_plain _)) | exact RenO.cells (RenVs.plain (rowN_plain _)) | exact RenO.map (RenVs.plain ruleE_keys) ruleE_ren))) (by (repeat' (first | exact True.intro | refine And.intro ?_ ?_ | exact ⟨_, rfl, RenV.plain rfl⟩ | exact ⟨_, rfl, RenV.slice rfl⟩ | exact ⟨_, rfl, RenV.ptr rfl⟩ | exact ⟨_, rfl, RenV.nilslice⟩ | exact ⟨_, rfl, RenV.map rfl⟩ | exact ⟨_, rfl, RenV.eq (congrArg (AV.int .i64) (by omega)) rfl⟩)))
                | false =>
                  repeat' (first
                   | refine S0 ?_
                   | (refine S2 ?_ ?_) <;> intro hc <;> try (exfalso; first | omega | (simp at hc; done))
                   | refine St ?_
                   | ((with_reducible refine RD.nil ?_); (refine' RDk.intro ?oks ?hl ?_); (case hl => exact rfl); (case oks => (repeat' (first | exact True.intro | refine And.intro ?_ ?_ | exact rfl | exact OSem.load1 exts_ok rfl rfl rfl rfl | exact OSem.loadN exts_ok rfl rfl rfl rfl))))
                   | refine Sd ?_
                   | fail)
                  · exact Mid.n true [0, 1, 2, 3, 4, 5, 6] (by show textOk _ _ _ = _; unfold textOk; rw [decide_eq_true hc]; rfl) (by (refine ⟨rfl, rfl, rfl, ?_⟩; repeat' (first | exact True.intro | refine And.intro ?_ ?_ | exact RenO.none | exact RenO.cells (RenVs.plain rfl) | exact RenO.cells (RenVs.cons (RenV.ptr rfl) (RenVs.cons (RenV.slice rfl) RenVs.nil)) | exact RenO.cells (RenVs.cons (RenV.ptr rfl) (RenVs.cons (RenV.sliceL rfl (by simp)) RenVs.nil)) | exact RenO.cells (RenVs.cons (RenV.ptr rfl) (RenVs.cons RenV.nilslice RenVs.nil)) | exact RenO.ro (RenVs.plain (cellsN_plain _)) | exact RenO.cells (RenVs.plain (cellsI_plain _)) | exact RenO.cells (RenVs.plain (cellsB_plain _)) | exact RenO.cells (RenVs.eq (cellsB_snoc _ _).symm (by rw [← cellsB_snoc]; exact cellsB_plain _)) | exact RenO.cells (RenVs.plain (rowN_plain _)) | exact RenO.map (RenVs.plain ruleE_keys) ruleE_ren))) (by (repeat' (first | exact True.intro | refine And.intro ?_ ?_ | exact ⟨_, rfl, RenV.plain rfl⟩ | exact ⟨_, rfl, RenV.slice rfl⟩ | exact ⟨_, rfl, RenV.ptr rfl⟩ | exact ⟨_, rfl, RenV.nilslice⟩ | exact ⟨_, rfl, RenV.map rfl⟩ | exact ⟨_, rfl, RenV.eq (congrArg (AV.int .i64) (by omega)) rfl⟩)))
                  · exact Mid.n false [0, 1, 2, 3, 4, 5, 6] (by show textOk _ _ _ = _; unfold textOk; rw [decide_eq_false hc]; rfl) (by (refine ⟨rfl, rfl, rfl, ?_⟩; repeat' (first | exact True.intro | refine And.intro ?_ ?_ | exact RenO.none | exact RenO.cells (RenVs.plain rfl) | exact RenO.cells (RenVs.cons (RenV.ptr rfl) (RenVs.cons (RenV.slice rfl) RenVs.nil)) | exact RenO.cells (RenVs.cons (RenV.ptr rfl) (RenVs.cons (RenV.sliceL rfl (by simp)) RenVs.nil)) | exact RenO.cells (RenVs.cons (RenV.ptr rfl) (RenVs.cons RenV.nilslice RenVs.nil)) | exact RenO.ro (RenVs.plain (cellsN_plain _)) | exact RenO.cells (RenVs.plain (cellsI_plain _)) | exact RenO.cells (RenVs.plain (cellsB_plain _)) | exact RenO.cells (RenVs.eq (cellsB_snoc _ _).symm (by rw [← cellsB_snoc]; exact cellsB_plain _)) | exact RenO.cells (RenVs.plain (rowN_plain _)) | exact RenO.map (RenVs.plain ruleE_keys) ruleE_ren))) (by (repeat' (first | exact True.intro | refine And.intro ?_ ?_ | exact ⟨_, rfl, RenV.plain rfl⟩ | exact ⟨_, rfl, RenV.slice rfl⟩ | exact ⟨_, rfl, RenV.ptr rfl⟩ | exact ⟨_, rfl, RenV.nilslice⟩ | exact ⟨_, rfl, RenV.map rfl⟩ | exact ⟨_, rfl, RenV.eq (congrArg (AV.int .i64) (by omega)) rfl⟩)))
              case rest =>
                rintro bN hbN
                rw [hok bN hbN] at hR
                clear hok hlook hbN
                rcases nine bL b12 bK bS bN bM bA bB with rfl | ⟨rfl, rfl⟩ | ⟨rfl, rfl, rfl⟩ | ⟨rfl, rfl, rfl, rfl⟩ | ⟨rfl, rfl, rfl, rfl, rfl⟩ | ⟨rfl, rfl, rfl, rfl, rfl, rfl⟩ | ⟨rfl, rfl, rfl, rfl, rfl, rfl, rfl⟩ | ⟨rfl, rfl, rfl, rfl, rfl, rfl, rfl, rfl⟩ | ⟨rfl, rfl, rfl, rfl, rfl, rfl, rfl, rfl⟩
                all_goals refine ⟨_, rfl, ?_⟩
                all_goals dsimp only [gH1, fH, bufT]
                all_goals
                  repeat' (first
                   | refine S0 ?_
                   | ((with_reducible refine' RD.opEq exts_ok ?hLL ?hw ?hx ?hy ?hk ?hr ?hp ?_); (case hLL => exact rfl); (case hw => exact rfl); (case hx => exact rfl); (case hy => exact rfl); (case hk => exact rfl); (case hr => first | exact hL | exact h1 | exact h2); (case hp => exact rfl))
                   | ((with_reducible refine' RD.opLt exts_ok ?hLL ?hw ?hx ?hy ?hk ?hr ?hp ?_); (case hLL => exact rfl); (case hw => exact rfl); (case hx => exact rfl); (case hy => exact rfl); (case hk => exact rfl); (case hr => exact hA); (case hp => exact rfl))
                   | ((with_reducible refine' RD.opGt exts_ok ?hLL ?hw ?hx ?hy ?hk ?hr ?hp ?_); (case hLL => exact rfl); (case hw => exact rfl); (case hx => exact rfl); (case hy => exact rfl); (case hk => exact rfl); (case hr => exact hB); (case hp => exact rfl))
                   | ((with_reducible refine' RD.opNe exts_ok ?hLL ?hw ?hx ?hy ?hv ?hr ?hp ?_); (case hLL => exact rfl); (case hw => exact rfl); (case hx => exact rfl); (case hy => exact rfl); (case hv => exact rfl); (case hr => exact h12); (case hp => exact rfl))
                   | ((with_reducible refine' RD.opLd1 exts_ok ?hLL ?hw ?hx ?hu ?hD ?hv ?hp ?_); (case hLL => exact rfl); (case hw => exact rfl); (case hx => exact rfl); (case hu => exact rfl); (case hD => exact rfl); (case hv => exact rfl); (case hp => exact rfl))
                   | ((with_reducible refine' RD.opLdN exts_ok ?hLL ?hw ?hx ?hu ?hD ?hv ?hp ?_); (case hLL => exact rfl); (case hw => exact rfl); (case hx => exact rfl); (case hu => exact rfl); (case hD => exact rfl); (case hv => exact rfl); (case hp => exact rfl))
                   | ((with_reducible refine' RD.opFn exts_ok 103 ?hLL ?hw ?ha ?hf ?hs ?hp ?_); (case hLL => exact rfl); (case hw => exact rfl); (case ha => exact rfl); (case hf => exact rfl); (case hs => exact fn103 hkx _); (case hp => exact rfl))
                   | ((with_reducible refine' RD.opFn exts_ok 105 ?hLL ?hw ?ha ?hf ?hs ?hp ?_); (case hLL => exact rfl); (case hw => exact rfl); (case ha => exact rfl); (case hf => exact rfl); (case hs => exact hc105 _); (case hp => exact rfl))
                   | ((with_reducible refine' RD.opFn exts_ok 107 ?hLL ?hw ?ha ?hf ?hs ?hp ?_); (case hLL => exact rfl); (case hw => exact rfl); (case ha => exact rfl); (case hf => exact rfl); (case hs => exact hc107 _); (case hp => exact rfl))
                   | ((with_reducible refine' RD.opFn exts_ok 108 ?hLL ?hw ?ha ?hf ?hs ?hp ?_); (case hLL => exact rfl); (case hw => exact rfl); (case ha => exact rfl); (case hf => exact rfl); (case hs => exact hc108 _); (case hp => exact rfl))
                   | ((with_reducible refine' RD.opFnE exts_ok 106 ?hLL ?hw ?ha ?hf ?hs ?hp ?_); (case hLL => exact rfl); (case hw => exact rfl); (case ha => exact rfl); (case hf => exact rfl); (case hs => exact str1 ns x (k0 :: ks) w k hwk (by omega) r); (case hp => exact rfl))
                   | ((with_reducible refine' RD.skip ?hw ?hp ?_); (case hw => exact rfl); (case hp => exact rfl))
                   | ((with_reducible refine' RS.drawE mixed [none, none, none, none, none, none, none, none, none, none, none, none, none, none, none, none, none, none, none, none, none, none, none, none, none, none, none, none, none, none, none, none, none, none, none, none, none, none, none, none, none, none, none, none, none, none] ?hn ?hms ?hord ?hh ?_); (case hn => exact rfl); (case hms => exact rfl); (case hord => exact rfl); (case hh => exact rfl))
                   | ((with_reducible refine RD.nil ?_); (refine' RDk.intro ?oks ?hl ?_); (case hl => exact rfl); (case oks => (repeat' (first | exact True.intro | refine And.intro ?_ ?_ | exact rfl | exact OSem.load1 exts_ok rfl rfl rfl rfl | exact OSem.loadN exts_ok rfl rfl rfl rfl | (first | exact OSem.fn exts_ok rfl rfl rfl rfl (fn103 hkx _) | exact OSem.fn exts_ok rfl rfl rfl rfl (hc105 _) | exact OSem.fn exts_ok rfl rfl rfl rfl (hc107 _) | exact OSem.fn exts_ok rfl rfl rfl rfl (hc108 _)) | exact OSem.fn exts_ok rfl rfl rfl rfl (str1 ns x (k0 :: ks) w k hwk (by omega) r)))))
                   | (refine S2 ?_ ?_) <;> intro hc <;> try (exfalso; first | omega | (simp at hc; done))
                   | refine St ?_
                   | ((with_reducible refine RD.nil ?_); (refine' RDk.intro ?oks ?hl ?_); (case hl => exact rfl); (case oks => (repeat' (first | exact True.intro | refine And.intro ?_ ?_ | exact rfl | exact OSem.load1 exts_ok rfl rfl rfl rfl | exact OSem.loadN exts_ok rfl rfl rfl rfl))))
                   | refine Sd ?_
                   | fail)
                all_goals first
                  | (have hR' : false = R := hR
                     subst hR'
                     exact ⟨rfl, _, rfl, [0], by (refine ⟨rfl, rfl, rfl, ?_⟩; repeat' (first | exact True.intro | refine And.intro ?_ ?_ | exact RenO.none | exact RenO.cells (RenVs.plain rfl) | exact RenO.cells (RenVs.cons (RenV.ptr rfl) (RenVs.cons (RenV.slice rfl) RenVs.nil)) | exact RenO.cells (RenVs.cons (RenV.ptr rfl) (RenVs.cons (RenV.sliceL rfl (by simp)) RenVs.nil)) | exact RenO.cells (RenVs.cons (RenV.ptr rfl) (RenVs.cons RenV.nilslice RenVs.nil)) | exact RenO.ro (RenVs.plain (cellsN_plain _)) | exact RenO.cells (RenVs.plain (cellsI_plain _)) | exact RenO.cells (RenVs.plain (cellsB_plain _)) | exact RenO.cells (RenVs.eq (cellsB_snoc _ _).symm (by rw [← cellsB_snoc]; exact cellsB_plain _)) | exact RenO.cells (RenVs.plain (rowN_plain _)) | exact RenO.map (RenVs.plain ruleE_keys) ruleE_ren)), RenV.plain rfl⟩)
                  | (refine Rnd.n (i + 1) [0, 1] ⟨by omega, by rw [show ns.length - (i + 1) = f by omega]; exact hR⟩ (by omega) (by (refine ⟨rfl, rfl, rfl, ?_⟩; repeat' (first | exact True.intro | refine And.intro ?_ ?_ | exact RenO.none | exact RenO.cells (RenVs.plain rfl) | exact RenO.cells (RenVs.cons (RenV.ptr rfl) (RenVs.cons (RenV.slice rfl) RenVs.nil)) | exact RenO.cells (RenVs.cons (RenV.ptr rfl) (RenVs.cons (RenV.sliceL rfl (by simp)) RenVs.nil)) | exact RenO.cells (RenVs.cons (RenV.ptr rfl) (RenVs.cons RenV.nilslice RenVs.nil)) | exact RenO.ro (RenVs.plain (cellsN_plain _)) | exact RenO.cells (RenVs.plain (cellsI_plain _)) | exact RenO.cells (RenVs.plain (cellsB_plain _)) | exact RenO.cells (RenVs.eq (cellsB_snoc _ _).symm (by rw [← cellsB_snoc]; exact cellsB_plain _)) | exact RenO.cells (RenVs.plain (rowN_plain _)) | exact RenO.map (RenVs.plain ruleE_keys) ruleE_ren))) ?_
                     (repeat' (first | exact True.intro | refine And.intro ?_ ?_ | exact ⟨_, rfl, RenV.plain rfl⟩ | exact ⟨_, rfl, RenV.slice rfl⟩ | exact ⟨_, rfl, RenV.ptr rfl⟩ | exact ⟨_, rfl, RenV.nilslice⟩ | exact ⟨_, rfl, RenV.map rfl⟩ | exact ⟨_, rfl, RenV.eq (congrArg (AV.int .i64) (by omega)) rfl⟩)))
      · have e0 : ns.length - i = 0 := by omega
        rw [e0, implAll] at hR
        subst hR
        repeat' (first
         | refine S0 ?_
         | (refine S2 ?_ ?_) <;> intro hc <;> try (exfalso; first | omega | (simp at hc; done))
         | refine St ?_
         | ((with_reducible refine RD.nil ?_); (refine' RDk.intro ?oks ?hl ?_); (case hl => exact rfl); (case oks => (repeat' (first | exact True.intro | refine And.intro ?_ ?_ | exact rfl | exact OSem.load1 exts_ok rfl rfl rfl rfl | exact OSem.loadN exts_ok rfl rfl rfl rfl))))
         | refine Sd ?_
         | fail)
        exact ⟨rfl, _, rfl, [0], by (refine ⟨rfl, rfl, rfl, ?_⟩; repeat' (first | exact True.intro | refine And.intro ?_ ?_ | exact RenO.none | exact RenO.cells (RenVs.plain rfl) | exact RenO.cells (RenVs.cons (RenV.ptr rfl) (RenVs.cons (RenV.slice rfl) RenVs.nil)) | exact RenO.cells (RenVs.cons (RenV.ptr rfl) (RenVs.cons (RenV.sliceL rfl (by simp)) RenVs.nil)) | exact RenO.cells (RenVs.cons (RenV.ptr rfl) (RenVs.cons RenV.nilslice RenVs.nil)) | exact RenO.ro (RenVs.plain (cellsN_plain _)) | exact RenO.cells (RenVs.plain (cellsI_plain _)) | exact RenO.cells (RenVs.plain (cellsB_plain _)) | exact RenO.cells (RenVs.eq (cellsB_snoc _ _).symm (by rw [← cellsB_snoc]; exact cellsB_plain _)) | exact RenO.cells (RenVs.plain (rowN_plain _)) | exact RenO.map (RenVs.plain ruleE_keys) ruleE_ren)), RenV.plain rfl⟩
    · have hF : implFormB ns = false := by
        unfold implFormB
        rw [hB, hx0]
        have : x0.k ≠ 1 := by omega
        simp [this]
      rw [hF]
      refine CSem.into Tryz.func62 rfl (by decide) Tryz.ntmps62 rfl rfl rfl ?_
      dsimp only [nodesH]
      repeat' (first
       | refine S0 ?_
       | refine Sc hcS ?_
       | ((with_reducible refine' RO.idxL (m := 0) exts_ok ?hw ?hx ?hy ?hu ?hi ?hes ?hz ?hlt ?hp ?_); (case hw => exact rfl); (case hx => exact rfl); (case hy => exact rfl); (case hu => exact rfl); (case hi => exact rfl); (case hes => exact rfl); (case hz => exact rfl); (case hlt => exact hp); (case hp => exact rfl))
       | (refine S2 ?_ ?_) <;> intro hc <;> try (exfalso; first | omega | (simp at hc; done))
       | refine Sf hx0 ?_
       | refine St ?_
       | ((with_reducible refine RD.nil ?_); (refine' RDk.intro ?oks ?hl ?_); (case hl => exact rfl); (case oks => (repeat' (first | exact True.intro | refine And.intro ?_ ?_ | exact rfl | exact OSem.load1 exts_ok rfl rfl rfl rfl | exact OSem.loadN exts_ok rfl rfl rfl rfl | exact OSem.load1 exts_ok rfl rfl rfl (cellsN_one hx0 rfl) | exact OSem.load1 exts_ok rfl rfl rfl (cellsN_row hx0) | exact OSem.load1 exts_ok rfl rfl rfl (cellsI_one hx0) | exact OSem.load1 exts_ok rfl rfl rfl (cellsZ_one hx0) | exact OSem.load1 exts_ok rfl rfl rfl (cellsS_one hx0) | exact OSem.loadN exts_ok rfl rfl rfl (cellsN_one hx0 rfl) | exact OSem.loadN exts_ok rfl rfl rfl (cellsN_row hx0) | exact OSem.loadN exts_ok rfl rfl rfl (cellsI_one hx0) | exact OSem.loadN exts_ok rfl rfl rfl (cellsZ_one hx0) | exact OSem.loadN exts_ok rfl rfl rfl (cellsS_one hx0)))))
       | refine Sd ?_
       | refine Sr hx0 ?_
       | fail)
      exact ⟨rfl, _, rfl, [0], by (refine ⟨rfl, rfl, rfl, ?_⟩; repeat' (first | exact True.intro | refine And.intro ?_ ?_ | exact RenO.none | exact RenO.cells (RenVs.plain rfl) | exact RenO.cells (RenVs.cons (RenV.ptr rfl) (RenVs.cons (RenV.slice rfl) RenVs.nil)) | exact RenO.cells (RenVs.cons (RenV.ptr rfl) (RenVs.cons (RenV.sliceL rfl (by simp)) RenVs.nil)) | exact RenO.cells (RenVs.cons (RenV.ptr rfl) (RenVs.cons RenV.nilslice RenVs.nil)) | exact RenO.ro (RenVs.plain (cellsN_plain _)) | exact RenO.cells (RenVs.plain (cellsI_plain _)) | exact RenO.cells (RenVs.plain (cellsB_plain _)) | exact RenO.cells (RenVs.eq (cellsB_snoc _ _).symm (by rw [← cellsB_snoc]; exact cellsB_plain _)) | exact RenO.cells (RenVs.plain (rowN_plain _)) | exact RenO.map (RenVs.plain ruleE_keys) ruleE_ren)), RenV.plain rfl⟩
  · have hs : sizedB ns = false := by simpa using hB
    have hF : implFormB ns = false := by unfold implFormB; rw [hs]; rfl
    rw [hF]
    rw [hs] at hcS
    refine CSem.into Tryz.func62 rfl (by decide) Tryz.ntmps62 rfl rfl rfl ?_
    dsimp only [nodesH]
    repeat' (first
     | refine S0 ?_
     | refine Sc hcS ?_
     | (refine S2 ?_ ?_) <;> intro hc <;> try (exfalso; first | omega | (simp at hc; done))
     | refine St ?_
     | ((with_reducible refine RD.nil ?_); (refine' RDk.intro ?oks ?hl ?_); (case hl => exact rfl); (case oks => (repeat' (first | exact True.intro | refine And.intro ?_ ?_ | exact rfl | exact OSem.load1 exts_ok rfl rfl rfl rfl | exact OSem.loadN exts_ok rfl rfl rfl rfl))))
     | refine Sd ?_
     | fail)
    exact ⟨rfl, _, rfl, [0], by (refine ⟨rfl, rfl, rfl, ?_⟩; repeat' (first | exact True.intro | refine And.intro ?_ ?_ | exact RenO.none | exact RenO.cells (RenVs.plain rfl) | exact RenO.cells (RenVs.cons (RenV.ptr rfl) (RenVs.cons (RenV.slice rfl) RenVs.nil)) | exact RenO.cells (RenVs.cons (RenV.ptr rfl) (RenVs.cons (RenV.sliceL rfl (by simp)) RenVs.nil)) | exact RenO.cells (RenVs.cons (RenV.ptr rfl) (RenVs.cons RenV.nilslice RenVs.nil)) | exact RenO.ro (RenVs.plain (cellsN_plain _)) | exact RenO.cells (RenVs.plain (cellsI_plain _)) | exact RenO.cells (RenVs.plain (cellsB_plain _)) | exact RenO.cells (RenVs.eq (cellsB_snoc _ _).symm (by rw [← cellsB_snoc]; exact cellsB_plain _)) | exact RenO.cells (RenVs.plain (rowN_plain _)) | exact RenO.map (RenVs.plain ruleE_keys) ruleE_ren)), RenV.plain rfl⟩
end Go.Am
