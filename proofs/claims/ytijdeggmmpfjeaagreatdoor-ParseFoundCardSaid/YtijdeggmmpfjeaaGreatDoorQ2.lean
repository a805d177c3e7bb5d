/- Part of the proof: WqC, WqD. -/
import Derived.Test.YtijdeggmmpfjeaaGreatDoorQ1
import Derived.Test.YtijdeggmmpfjeaaGreatDoorP3
set_option linter.unusedSimpArgs false
set_option linter.unusedVariables false
set_option linter.unusedSectionVars false
namespace Go.Am
open Go Go.Proofs Go.RowKit Go.Pu
set_option maxRecDepth 1000000
theorem splice_one {α : Type} (v : α) : ∀ (c : List α) (k : Nat), k < c.length → splice c k [v] = some (c.set k v)
  | [], _, h => by simp at h
  | x :: c, 0, _ => by
    cases c <;> rfl
  | x :: c, k + 1, h => by
    have := splice_one v c k (by simpa using h)
    simp [splice, this]
theorem OSem.st1 {P : Program} {ext : FuncId → Bool} (hext : ExtOk P ext) {d : Option Tmp} {ty : TypeId} {pos : String} {af : Array Edge} {gd : Option (Nat × Bool)} {g : Ev} {h h' : Heap} {t : TypeId} {x y : Operand} {i off e es : Nat} {v : AV} {c c' : List AV} {ex : Bool} (hx : g x = some (.ptr i off)) (hy : g y = some v) (hv : v.cells = [v]) (hone : allOne [v] = true) (hi : (P.info? t).isSome = true) (h1 : Nat.beq 1 (P.cellsOf t) = true) (hg : h.objs.get i = some (.cells e es c ex)) (hlt : off < c.length) (hc : c.set off v = c') (hput : h.put i (some (.cells e es c' ex)) = some h') :
    OSem P ⟨d, .store t x y, ty, pos, af, gd⟩ g h (.tuple []) h' := by
  subst hc
  refine OSem.skip hext ?_
  simp [aop, b1, hx, hy, askip, astore, hi, hv, h1, awrite, hg, hone, splice_one v c off hlt, hput]
theorem RD.opSt {P : Program} {ext : FuncId → Bool} {n : Nat} {ops : Array Oper} {l : List Oper} {r0 : Option (Nat × TypeId × List AV)} {rs : List (Option (Nat × TypeId × List AV))} {env env1 : Env} {h h1 : Heap} {K : List Rec → Env → List Heap → Prop} {L : List Tmp} {d : Option Tmp} {ty : TypeId} {pos : String} {af : Array Edge} {gd : Option (Nat × Bool)} (hext : ExtOk P ext) {t : TypeId} {x y : Operand} {i off e es : Nat} {v : AV} {c : List AV} (c' : List AV) {ex : Bool} (hL : (⟨d, .store t x y, ty, pos, af, gd⟩ : Oper).looksAt ops = L) (hw : awanted ops (aeval env) (⟨d, .store t x y, ty, pos, af, gd⟩ : Oper) = some true) (hx : gfast L env x = some (.ptr i off)) (hy : gfast L env y = some v) (hv : v.cells = [v]) (hone : allOne [v] = true) (hi : (P.info? t).isSome = true) (hk : Nat.beq 1 (P.cellsOf t) = true) (hg : h.objs.get i = some (.cells e es c ex)) (hlt : off < c.length) (hc : c.set off v = c') (hput : h.put i (some (.cells e es c' ex)) = some h1) (hp : aput env n d (.tuple []) = some env1) (rest : RD P n ops l rs env1 h1 fun recs e hs => K (⟨(⟨d, .store t x y, ty, pos, af, gd⟩ : Oper), env, .eff, .tuple []⟩ :: recs) e (h :: hs)) : RD P n ops ((⟨d, .store t x y, ty, pos, af, gd⟩ : Oper) :: l) (r0 :: rs) env h K :=
  RD.effF hL hw (OSem.st1 hext hx hy hv hone hi hk hg hlt hc hput) hp rest
theorem kidZ_eq (x : Nat) : ∀ (l : List Nat) (i : Nat), idxZ (x : Int) (l.map fun n : Nat => (n : Int)) i = if x ∈ l then ((i + l.idxOf x : Nat) : Int) else -1
  | [], i => by simp [idxZ]
  | y :: l, i => by
    simp only [List.map_cons, idxZ]
    by_cases h : x = y
    · subst h; simp
    · rw [if_neg (by omega), kidZ_eq x l (i + 1)]
      by_cases hm : x ∈ l
      · rw [if_pos hm, if_pos (by simp [hm])]
        rw [List.idxOf_cons, beq_false_of_ne (fun e => h e.symm), cond_false]
        omega
      · rw [if_neg hm, if_neg (by simp [h, hm])]
theorem cellsI_Z (l : List Nat) : cellsZ (l.map fun n : Nat => (n : Int)) = cellsI l := by
  unfold cellsZ cellsI
  rw [List.map_map]
  rfl
theorem at96 {l : List Nat} (hl : l.length ≤ 1000) (x : Nat) {h : Heap} {i : Nat} (hi : Nat.blt i h.next = true) (ht : tells (h.objs.get i) (cellsI l)) : CSem Tryz.prog 96 [.slice i 0 l.length 1, .int .i64 (x : Int)] h (.int .i64 (kidZ l x)) h := by
  have e : idxZ (x : Int) (l.map fun n : Nat => (n : Int)) 0 = kidZ l x := by rw [kidZ_eq]; unfold kidZ; simp
  rw [← e]
  exact upI (by simp) (sem96 (l.map fun n : Nat => (n : Int)) (by simpa using hl) x) rfl rfl hi (by rw [cellsI_Z]; exact ht)
theorem at96n (x : Int) (h : Heap) : CSem Tryz.prog 96 [.nilslice, .int .i64 x] h (.int .i64 (-1)) h := by
  refine CSem.pure ?_ (RenVs.plain rfl) (RenV.plain rfl) h
  refine CSem.into Tryz.func96 rfl (by decide) Tryz.ntmps96 rfl rfl rfl ?_
  dsimp only
  repeat' (first
   | refine S0 ?_
   | (refine S2 ?_ ?_) <;> intro hc <;> try (exfalso; first | omega | (simp at hc; done))
   | refine St ?_
   | fail)
  refine RS.loop (σ := Unit) (fun _ => True) (fun _ => [(7, .int .i64 0), (8, .int .i64 0)]) (fun _ => ⟨.leaf, 0⟩) (fun _ => 0) () trivial ⟨[], ⟨rfl, rfl, rfl, True.intro⟩, by (repeat' (first | exact True.intro | refine And.intro ?_ ?_ | exact ⟨_, rfl, RenV.plain rfl⟩ | exact ⟨_, rfl, RenV.slice rfl⟩ | exact ⟨_, rfl, RenV.ptr rfl⟩ | exact ⟨_, rfl, RenV.nilslice⟩))⟩ ?round
  rintro _ _
  refine ⟨_, rfl, ?_⟩
  repeat' (first
   | refine S0 ?_
   | (refine S2 ?_ ?_) <;> intro hc <;> try (exfalso; first | omega | (simp at hc; done))
   | refine St ?_
   | fail)
  all_goals first
    | (exfalso; omega)
    | exact ⟨rfl, _, rfl, [], ⟨rfl, rfl, rfl, True.intro⟩, RenV.plain rfl⟩
def pathZ (ns : List Nd) (node cur : Nat) (l : List Int) : Heap := ⟨.node (some (.ro 50 5 (cellsN ns))) (.node (some (.cells 26 1 [.slice 0 0 ns.length 5] true)) (.node (some (.cells 47 1 [.slice 6 0 l.length 1] true)) .leaf .leaf) (.node (some (.cells 3 1 [.int .i64 (node : Int)] true)) .leaf .leaf)) (.node (some (.cells 3 1 [.int .i64 (cur : Int)] true)) (.node (some (.cells 24 1 [.slice 0 0 ns.length 5] true)) .leaf .leaf) (.node (some (.cells 3 1 (cellsZ l) false)) .leaf .leaf)), 7⟩
def pathH (ns : List Nd) (node cur : Nat) (l : List Int) : Heap := match l with
  | [] => ⟨.node (some (.ro 50 5 (cellsN ns))) (.node (some (.cells 26 1 [.slice 0 0 ns.length 5] true)) (.node (some (.cells 47 1 [.nilslice] true)) .leaf .leaf) (.node (some (.cells 3 1 [.int .i64 (node : Int)] true)) .leaf .leaf)) (.node (some (.cells 3 1 [.int .i64 (cur : Int)] true)) (.node (some (.cells 24 1 [.slice 0 0 ns.length 5] true)) .leaf .leaf) .leaf), 6⟩
  | a :: l => pathZ ns node cur (a :: l)
def madeZ (j : Nat) (l : List Int) : AV := match l with
  | [] => .nilslice
  | _ :: _ => .slice j 0 l.length 1
def outZ (ns : List Nd) (l : List Int) : Heap := match l with
  | [] => nodesH ns
  | _ :: _ => ⟨.node (some (.ro 50 5 (cellsN ns))) (.node (some (.cells 3 1 (cellsZ l) false)) .leaf .leaf) .leaf, 2⟩
structure RV where
  i : Nat
  c : List Int
def revd (l : List Int) (s : RV) : Prop := s.c.length = l.length ∧ 2 * s.i ≤ l.length ∧ ∀ k, k < l.length → s.c[k]? = if k < s.i ∨ l.length - s.i ≤ k then l[l.length - 1 - k]? else l[k]?
theorem revd_done {l : List Int} {s : RV} (h : revd l s) (hd : (l.length : Int) - 1 - s.i ≤ s.i) : s.c = l.reverse := by
  obtain ⟨h1, h2, h3⟩ := h
  refine List.ext_getElem? fun k => ?_
  by_cases hk : k < l.length
  · rw [h3 k hk, List.getElem?_reverse hk]
    split
    · rfl
    · have : k = l.length - 1 - k := by omega
      rw [← this]
  · rw [List.getElem?_eq_none (by omega), List.getElem?_eq_none (by simp; omega)]
theorem revd_step {l : List Int} {i : Nat} {c : List Int} (h : revd l ⟨i, c⟩) (hlt : (i : Int) < (l.length : Int) - 1 - i) {a b : Int} (ha : c[i]? = some a) (hb : c[l.length - 1 - i]? = some b) : revd l ⟨i + 1, (c.set i b).set (l.length - 1 - i) a⟩ := by
  obtain ⟨h1, h2, h3⟩ := h
  simp only at h1 h2 h3
  refine ⟨by simp [h1], by simp only; omega, fun k hk => ?_⟩
  simp only [List.getElem?_set, List.length_set]
  have hi := h3 i (by omega)
  have hj := h3 (l.length - 1 - i) (by omega)
  rw [if_neg (by omega), ha] at hi
  rw [if_neg (by omega), hb] at hj
  by_cases e1 : l.length - 1 - i = k
  · subst e1
    rw [if_pos rfl, if_pos (by omega), if_pos (by omega)]
    rw [show l.length - 1 - (l.length - 1 - i) = i by omega]
    exact hi
  · rw [if_neg e1]
    by_cases e2 : i = k
    · subst e2
      rw [if_pos rfl, if_pos (by omega), if_pos (by omega)]
      exact hj
    · rw [if_neg e2, h3 k hk]
      by_cases e3 : k < i ∨ l.length - i ≤ k
      · rw [if_pos e3, if_pos (by omega)]
      · rw [if_neg e3, if_neg (by omega)]
theorem cellsZ_set (l : List Int) (k : Nat) (x : Int) : (cellsZ l).set k (.int .i64 x) = cellsZ (l.set k x) := by simp [cellsZ, intZ, List.map_set]
set_option maxHeartbeats 4000000 in
theorem sem97 (ns : List Nd) (node cur : Nat) (l : List Int) (hl : l.length ≤ 1000) : CSem Tryz.prog 97 [.slice 6 0 l.length 1] (pathZ ns node cur l) (.tuple []) (pathZ ns node cur l.reverse) := by
  refine CSem.into Tryz.func97 rfl (by decide) Tryz.ntmps97 rfl rfl rfl ?_
  dsimp only [pathZ]
  repeat' (first
   | refine S0 ?_
   | (refine S2 ?_ ?_) <;> intro hc <;> try (exfalso; first | omega | (simp at hc; done))
   | refine St ?_
   | fail)
  refine RS.loop (σ := RV) (revd l) (fun s => [(0, .slice 6 0 l.length 1), (2, .int .i64 (s.i : Int)), (3, .int .i64 ((l.length : Int) - 1 - s.i))]) (fun s => pathZ ns node cur s.c) (fun s => l.length - s.i) ⟨0, l⟩ ⟨rfl, by simp, fun k hk => (by rw [if_neg (by simp only; omega)])⟩ ⟨[0, 1, 2, 3, 4, 5, 6], by (refine ⟨rfl, rfl, rfl, ?_⟩; repeat' (first | exact True.intro | refine And.intro ?_ ?_ | exact RenO.none | exact RenO.cells (RenVs.plain rfl) | exact RenO.ro (RenVs.plain (cellsN_plain _)) | exact RenO.cells (RenVs.plain (cellsN_plain _)) | exact RenO.cells (RenVs.plain (cellsI_plain _)) | exact RenO.cells (RenVs.plain (cellsZ_plain _)) | exact RenO.cells (RenVs.cons (RenV.slice rfl) RenVs.nil) | exact RenO.iter | exact RenO.cells (RenVs.plain (rowN_plain _)))), ⟨⟨_, rfl, RenV.slice rfl⟩, ⟨_, rfl, RenV.plain rfl⟩, ⟨_, rfl, RenV.eq (by simp) rfl⟩, True.intro⟩⟩ ?round
  rintro ⟨i, c⟩ hinv
  refine ⟨_, rfl, ?_⟩
  dsimp only [pathZ]
  have h1 : c.length = l.length := hinv.1
  have h2 : 2 * i ≤ l.length := hinv.2.1
  by_cases hlt : (i : Int) < (l.length : Int) - 1 - i
  · obtain ⟨a, ha⟩ : ∃ a, c[i]? = some a := ⟨c[i]'(by omega), by rw [List.getElem?_eq_getElem]⟩
    obtain ⟨b, hb⟩ : ∃ b, c[l.length - 1 - i]? = some b := ⟨c[l.length - 1 - i]'(by omega), by rw [List.getElem?_eq_getElem]⟩
    have hstep := revd_step hinv hlt ha hb
    have hb2 : acells (pathZ ns node cur c) 6 (l.length - 1 - i) 1 = some [.int .i64 b] := by have := cellsZ_one hb; rw [Nat.mul_one] at this; exact this
    have ha2 : acells (pathZ ns node cur c) 6 i 1 = some [.int .i64 a] := by have := cellsZ_one ha; rw [Nat.mul_one] at this; exact this
    repeat' (first
     | refine S0 ?_
     | ((with_reducible refine' RS.drawE mixed [none, none, none, none, none, none, none, none, none, none, none, none, none, none, none, none] ?hn ?hms ?hord ?hh ?_); (case hn | hms | hord | hh => exact rfl))
     | ((with_reducible refine' RD.calm ?hw ?ho ?hp ?_); (case hw => exact rfl); (case ho => exact fun H => OSem.idxL (m := i) exts_ok rfl rfl rfl rfl rfl rfl (by omega)); (case hp => exact rfl))
     | ((with_reducible refine' RD.calm ?hw ?ho ?hp ?_); (case hw => exact rfl); (case ho => exact fun H => OSem.idxL (m := l.length - 1 - i) exts_ok rfl rfl rfl rfl rfl (by omega) (by omega)); (case hp => exact rfl))
     | ((with_reducible refine' RD.opSt exts_ok _ ?hLL ?hw ?hx ?hy ?hv ?hone ?hi ?hk ?hg ?hlt ?hc ?hput ?hp ?_); (case hLL | hw | hx | hy | hv | hone | hi | hk | hg => exact rfl); (case hlt => (simp [cellsZ_len]; omega)); (case hc => exact cellsZ_set _ _ _); (case hput | hp => exact rfl))
     | (refine S2 ?_ ?_) <;> intro hc <;> try (exfalso; first | omega | (simp at hc; done))
     | refine Sf ha ?_
     | refine Sf hb ?_
     | refine St ?_
     | ((with_reducible refine RD.nil ?_); (refine' RDk.intro ?oks ?hl ?_); (case hl => exact rfl); (case oks => (repeat' (first | exact True.intro | refine And.intro ?_ ?_ | exact rfl | exact OSem.load1 exts_ok rfl rfl rfl rfl | exact OSem.loadN exts_ok rfl rfl rfl rfl | exact OSem.load1 exts_ok rfl rfl rfl (cellsN_one ha rfl) | exact OSem.load1 exts_ok rfl rfl rfl (cellsN_row ha) | exact OSem.load1 exts_ok rfl rfl rfl (cellsI_one ha) | exact OSem.load1 exts_ok rfl rfl rfl (cellsZ_one ha) | exact OSem.load1 exts_ok rfl rfl rfl (cellsS_one ha) | exact OSem.load1 exts_ok rfl rfl rfl (cellsN_one hb rfl) | exact OSem.load1 exts_ok rfl rfl rfl (cellsN_row hb) | exact OSem.load1 exts_ok rfl rfl rfl (cellsI_one hb) | exact OSem.load1 exts_ok rfl rfl rfl (cellsZ_one hb) | exact OSem.load1 exts_ok rfl rfl rfl (cellsS_one hb) | exact OSem.loadN exts_ok rfl rfl rfl (cellsN_one ha rfl) | exact OSem.loadN exts_ok rfl rfl rfl (cellsN_row ha) | exact OSem.loadN exts_ok rfl rfl rfl (cellsI_one ha) | exact OSem.loadN exts_ok rfl rfl rfl (cellsZ_one ha) | exact OSem.loadN exts_ok rfl rfl rfl (cellsS_one ha) | exact OSem.loadN exts_ok rfl rfl rfl (cellsN_one hb rfl) | exact OSem.loadN exts_ok rfl rfl rfl (cellsN_row hb) | exact OSem.loadN exts_ok rfl rfl rfl (cellsI_one hb) | exact OSem.loadN exts_ok rfl rfl rfl (cellsZ_one hb) | exact OSem.loadN exts_ok rfl rfl rfl (cellsS_one hb)))))
     | refine Sd ?_
     | refine Sr ha ?_
     | refine Sr hb ?_
     | fail)
    refine Rnd.n ⟨i + 1, (c.set i b).set (l.length - 1 - i) a⟩ [0, 1, 2, 3, 4, 5, 6] hstep (by dsimp only; omega) ⟨rfl, rfl, rfl, RenO.ro (RenVs.plain (cellsN_plain _)), RenO.cells (RenVs.cons (RenV.slice rfl) RenVs.nil), RenO.cells (RenVs.plain rfl), RenO.cells (RenVs.cons (RenV.sliceL rfl (by simp)) RenVs.nil), RenO.cells (RenVs.cons (RenV.slice rfl) RenVs.nil), RenO.cells (RenVs.plain rfl), RenO.cells (RenVs.eq (by simp only [Nat.mul_one]) (cellsZ_plain _)), True.intro⟩ ?_
    exact ⟨⟨_, rfl, RenV.slice rfl⟩, ⟨_, rfl, RenV.eq (by simp) rfl⟩, ⟨_, rfl, RenV.eq (by show AV.int .i64 _ = AV.int .i64 ((l.length : Int) - 1 - ((i + 1 : Nat) : Int)); congr 1; omega) rfl⟩, True.intro⟩
  · have e := revd_done hinv (by simp only; omega)
    simp only at e
    rw [← e]
    repeat' (first
     | refine S0 ?_
     | (refine S2 ?_ ?_) <;> intro hc <;> try (exfalso; first | omega | (simp at hc; done))
     | refine St ?_
     | fail)
    all_goals first
      | (exfalso; omega)
      | exact ⟨rfl, _, rfl, [0, 1, 2, 3, 4, 5, 6], by (refine ⟨rfl, rfl, rfl, ?_⟩; repeat' (first | exact True.intro | refine And.intro ?_ ?_ | exact RenO.none | exact RenO.cells (RenVs.plain rfl) | exact RenO.ro (RenVs.plain (cellsN_plain _)) | exact RenO.cells (RenVs.plain (cellsN_plain _)) | exact RenO.cells (RenVs.plain (cellsI_plain _)) | exact RenO.cells (RenVs.plain (cellsZ_plain _)) | exact RenO.cells (RenVs.cons (RenV.slice rfl) RenVs.nil) | exact RenO.iter | exact RenO.cells (RenVs.plain (rowN_plain _)))), RenV.tuple RenVs.nil⟩
theorem at97n (h : Heap) : CSem Tryz.prog 97 [.nilslice] h (.tuple []) h := by
  refine CSem.pure ?_ (RenVs.plain rfl) (RenV.tuple RenVs.nil) h
  refine CSem.into Tryz.func97 rfl (by decide) Tryz.ntmps97 rfl rfl rfl ?_
  dsimp only
  repeat' (first
   | refine S0 ?_
   | (refine S2 ?_ ?_) <;> intro hc <;> try (exfalso; first | omega | (simp at hc; done))
   | refine St ?_
   | fail)
  refine RS.loop (σ := Unit) (fun _ => True) (fun _ => [(2, .int .i64 0), (3, .int .i64 (-1))]) (fun _ => ⟨.leaf, 0⟩) (fun _ => 0) () trivial ⟨[], ⟨rfl, rfl, rfl, True.intro⟩, by (repeat' (first | exact True.intro | refine And.intro ?_ ?_ | exact ⟨_, rfl, RenV.plain rfl⟩ | exact ⟨_, rfl, RenV.slice rfl⟩ | exact ⟨_, rfl, RenV.ptr rfl⟩ | exact ⟨_, rfl, RenV.nilslice⟩))⟩ ?round
  rintro _ _
  refine ⟨_, rfl, ?_⟩
  repeat' (first
   | refine S0 ?_
   | (refine S2 ?_ ?_) <;> intro hc <;> try (exfalso; first | omega | (simp at hc; done))
   | refine St ?_
   | fail)
  all_goals first
    | (exfalso; omega)
    | exact ⟨rfl, _, rfl, [], ⟨rfl, rfl, rfl, True.intro⟩, RenV.tuple RenVs.nil⟩
end Go.Am
namespace Go.Am
open Go Go.Proofs Go.RowKit Go.Pu
set_option maxRecDepth 1000000
theorem RD.app1 {P : Program} {ext : FuncId → Bool} {n : Nat} {ops : Array Oper} {l : List Oper} {r0 : Option (Nat × TypeId × List AV)} {rs : List (Option (Nat × TypeId × List AV))} {env env1 : Env} {h h1 h2 : Heap} {K : List Rec → Env → List Heap → Prop} {L : List Tmp} {d : Option Tmp} {ty : TypeId} {pos : String} {af : Array Edge} {gd : Option (Nat × Bool)} (hext : ExtOk P ext) {t u e : TypeId} {x y : Operand} {inf : TypeInfo} {z : AV} {es j m q : Nat} {c olds news : List AV} {ex : Bool} {j' : Nat}
    (hL : (⟨d, .call ⟨.builtin .append, #[x, y], #[t, u]⟩, ty, pos, af, gd⟩ : Oper).looksAt ops = L) (hw : awanted ops (aeval env) (⟨d, .call ⟨.builtin .append, #[x, y], #[t, u]⟩, ty, pos, af, gd⟩ : Oper) = some true) (hx : gfast L env x = some (.slice j 0 m es)) (hy : gfast L env y = some (.slice q 0 1 es)) (ht : P.underlying t = some (.slice e)) (hu : P.underlying u = some (.slice e)) (hi : P.info? e = some inf) (hz : azero P e = some z) (hzl : Nat.beq z.cells.length es = true) (hes : P.cellsOf e = es) (he0 : Nat.blt 0 es = true) (hn : acells h q 0 (1 * es) = some news) (hone : allOne news = true) (hg : h.objs.get j = some (.cells e es c ex)) (ho : acells h j 0 (m * es) = some olds) (hb : m + 1 ≤ 1000000) (hb2 : (m + 1) * inf.bytes ≤ 1000000000) (hq : h.put j none = some h2) (ha : h2.add (.cells e es (olds ++ news) false) = some (j', h1)) (hp : aput env n d (.slice j' 0 (m + 1) es) = some env1)
    (rest : RD P n ops l rs env1 h1 fun recs e hs => K (⟨(⟨d, .call ⟨.builtin .append, #[x, y], #[t, u]⟩, ty, pos, af, gd⟩ : Oper), env, .eff, .slice j' 0 (m + 1) es⟩ :: recs) e (h :: hs)) : RD P n ops ((⟨d, .call ⟨.builtin .append, #[x, y], #[t, u]⟩, ty, pos, af, gd⟩ : Oper) :: l) (r0 :: rs) env h K :=
  RD.effF hL hw (OSem.app hext rfl rfl rfl hx hy (aappend_one ht hu hi hz hzl hes he0 hn hone hg ho hb hb2 hq ha)) hp rest
theorem RD.app0 {P : Program} {ext : FuncId → Bool} {n : Nat} {ops : Array Oper} {l : List Oper} {r0 : Option (Nat × TypeId × List AV)} {rs : List (Option (Nat × TypeId × List AV))} {env env1 : Env} {h h1 : Heap} {K : List Rec → Env → List Heap → Prop} {L : List Tmp} {d : Option Tmp} {ty : TypeId} {pos : String} {af : Array Edge} {gd : Option (Nat × Bool)} (hext : ExtOk P ext) {t u e : TypeId} {x y : Operand} {inf : TypeInfo} {z : AV} {es m k q : Nat} {news : List AV} {j' : Nat}
    (hL : (⟨d, .call ⟨.builtin .append, #[x, y], #[t, u]⟩, ty, pos, af, gd⟩ : Oper).looksAt ops = L) (hw : awanted ops (aeval env) (⟨d, .call ⟨.builtin .append, #[x, y], #[t, u]⟩, ty, pos, af, gd⟩ : Oper) = some true) (hx : gfast L env x = some .nilslice) (hy : gfast L env y = some (.slice q k m es)) (ht : P.underlying t = some (.slice e)) (hu : P.underlying u = some (.slice e)) (hi : P.info? e = some inf) (hz : azero P e = some z) (hzl : Nat.beq z.cells.length es = true) (hes : P.cellsOf e = es) (he0 : Nat.blt 0 es = true) (hn : acells h q (k * es) (m * es) = some news) (hone : allOne news = true) (hm : m ≠ 0) (hb : m ≤ 1000000) (hb2 : m * inf.bytes ≤ 1000000000) (ha : h.add (.cells e es news false) = some (j', h1)) (hp : aput env n d (.slice j' 0 m es) = some env1)
    (rest : RD P n ops l rs env1 h1 fun recs e hs => K (⟨(⟨d, .call ⟨.builtin .append, #[x, y], #[t, u]⟩, ty, pos, af, gd⟩ : Oper), env, .eff, .slice j' 0 m es⟩ :: recs) e (h :: hs)) : RD P n ops ((⟨d, .call ⟨.builtin .append, #[x, y], #[t, u]⟩, ty, pos, af, gd⟩ : Oper) :: l) (r0 :: rs) env h K :=
  RD.effF hL hw (OSem.app hext rfl rfl rfl hx hy (aappend_nil ht hu hi hz hzl hes he0 hn hone hm hb hb2 ha)) hp rest
theorem RD.opBS {P : Program} {n : Nat} {ops : Array Oper} {l : List Oper} {r0 : Option (Nat × TypeId × List AV)} {rs : List (Option (Nat × TypeId × List AV))} {env env1 : Env} {h h1 : Heap} {v : AV} {K : List Rec → Env → List Heap → Prop} {L : List Tmp} {d : Option Tmp} {ty : TypeId} {pos : String} {af : Array Edge} {gd : Option (Nat × Bool)} {t : TypeId} {len : Nat} {ps : Array (Nat × Operand)} (hL : (⟨d, .buildSlice t len ps, ty, pos, af, gd⟩ : Oper).looksAt ops = L)
    (hw : awanted ops (aeval env) (⟨d, .buildSlice t len ps, ty, pos, af, gd⟩ : Oper) = some true) (ho : OSem P ⟨d, .buildSlice t len ps, ty, pos, af, gd⟩ (gfast L env) h v h1) (hp : aput env n d v = some env1) (rest : RD P n ops l rs env1 h1 fun recs e hs => K (⟨(⟨d, .buildSlice t len ps, ty, pos, af, gd⟩ : Oper), env, .eff, v⟩ :: recs) e (h :: hs)) : RD P n ops ((⟨d, .buildSlice t len ps, ty, pos, af, gd⟩ : Oper) :: l) (r0 :: rs) env h K :=
  RD.effF hL hw ho hp rest
def flatT : T AObj → Bool
  | .leaf => true
  | .node v l r => flatO v && (flatT l && flatT r)
theorem flatT_get : ∀ (t : T AObj), flatT t = true → ∀ i, flatO (t.get i) = true
  | .leaf, _, i => rfl
  | .node v l r, h, i => by
    simp only [flatT, Bool.and_eq_true] at h
    unfold T.get
    cases Nat.beq i 0 with
    | true => exact h.1
    | false =>
      cases Nat.beq (i % 2) 1 with
      | true => exact flatT_get l h.2.1 _
      | false => exact flatT_get r h.2.2 _
theorem kidsF_len (S : List Int) : ∀ (f k : Nat) (e : Int), (kidsF S f k e).length ≤ f
  | 0, _, _ => Nat.le_refl _
  | f + 1, k, e => by
    unfold kidsF
    split
    · have := kidsF_len S f (k + ((S[k]?).getD 0).toNat) e
      simp; omega
    · simp
theorem kidsOf_len (S : List Int) (i : Nat) : (kidsOf S i).length ≤ S.length := kidsF_len S _ _ _
theorem pathH_flat (ns : List Nd) (node cur : Nat) (l : List Int) (i : Nat) : flatO ((pathH ns node cur l).objs.get i) = true := by
  cases l with
  | nil => exact flatT_get _ rfl i
  | cons a l => exact flatT_get _ rfl i
theorem pathH_next (ns : List Nd) (node cur : Nat) (l : List Int) : 6 ≤ (pathH ns node cur l).next := by
  cases l with
  | nil => exact Nat.le_refl 6
  | cons a l => exact Nat.le_succ 6
theorem pathH_box (ns : List Nd) (node cur : Nat) (l : List Int) : IterH ns node 5 4 0 (pathH ns node cur l) := by
  cases l with
  | nil => exact ⟨⟨true, rfl⟩, ⟨true, rfl⟩, rfl⟩
  | cons a l => exact ⟨⟨true, rfl⟩, ⟨true, rfl⟩, rfl⟩
set_option maxHeartbeats 8000000 in
theorem sem48k (ns : List Nd) (o : NdOk ns) (h0 : checkR ns = 0) (node : Nat) (hi : node < ns.length) : CSem Tryz.prog 48 [.agg [.slice 0 0 ns.length 5], .int .i64 (node : Int)] (nodesH ns) (.tuple [madeZ 1 (stepsF (sizes ns) node (ancF (sizeAt ns) node node)).reverse, .int .i64 0]) (outZ ns (stepsF (sizes ns) node (ancF (sizeAt ns) node node)).reverse) := by
  have hl := check_lam o h0
  have hn := o.len
  have cf : ∀ {h : Heap}, Nat.blt 0 h.next = true → tells (h.objs.get 0) (cellsN ns) → CSem Tryz.prog 66 [.agg [.slice 0 0 ns.length 5], .int .i64 (node : Int)] h (.int .i64 0) h := fun hi' ht => by
    have := tf66 o (node := (node : Int)) (by omega) (TF.sl (i := 0)) hi' ht
    rwa [findR_z h0 (by omega)] at this
  refine CSem.intoM Tryz.func48 rfl Tryz.ntmps48 rfl rfl rfl ?_
  dsimp only [nodesH]
  refine RM.seqS ?_
  repeat' (first
   | refine S0 ?_
   | refine Sm ?_
   | (refine S2 ?_ ?_) <;> intro hc <;> try (exfalso; first | omega | (simp at hc; done))
   | refine St ?_
   | fail)
  refine ThenM.n ?_
  refine RM.seqS ?_
  repeat' (first
   | refine S0 ?_
   | refine Sm ?_
   | refine Sc cf ?_
   | (refine S2 ?_ ?_) <;> intro hc <;> try (exfalso; first | omega | (simp at hc; done))
   | refine St ?_
   | fail)
  refine ThenM.n ?_
  refine RM.seq (RM.seqS ?_)
  repeat' (first
   | refine S0 ?_
   | refine Sm ?_
   | refine Sc sem95 ?_
   | (refine S2 ?_ ?_) <;> intro hc <;> try (exfalso; first | omega | (simp at hc; done))
   | refine St ?_
   | fail)
  refine ThenM.n (RM.block ?_)
  refine RM.aboveE (K := 6) (node := node) (ns := ns) (ib := 5) (is := 4) (i0 := 0) rfl (by decide) hi hl hn ?box rfl (by decide) (fun pre => pathH ns node (lastF node pre) (stepsF (sizes ns) node pre)) rfl (fun pre _ i => pathH_flat _ _ _ _ i) (fun pre => pathH_next _ _ _ _) (fun pre => pathH_box _ _ _ _) ?round ?post
  case box => exact ⟨⟨true, rfl⟩, ⟨true, rfl⟩, rfl⟩
  case round =>
    intro pre x hlt hpl hx
    have hxn : x < ns.length := by omega
    refine ⟨_, rfl, _, rfl, ?_⟩
    try dsimp only
    rw [stepsF_snoc, lastF_snoc]
    have hout : (stepsF (sizes ns) node pre).length ≤ 700 := by rw [stepsF_len]; omega
    generalize stepsF (sizes ns) node pre = out at hout
    generalize lastF node pre = cur
    have hkl : (kidsOf (sizes ns) x).length ≤ 1000 := by
      have := kidsOf_len (sizes ns) x
      have hz : (sizes ns).length = ns.length := by simp [sizes]
      omega
    cases hk : kidsOf (sizes ns) x with
    | nil =>
      have ek : kidZ [] cur = -1 := rfl
      rw [ek]
      cases out with
      | nil =>
        dsimp only [pathH]
        repeat' (first
         | refine S0 ?_
         | refine Sm ?_
         | ((with_reducible refine' RSI.drawE mixed [none, none, none, none, none, none, none, none, none, none] ?hn ?hd ?hms ?hord ?hh ?_); (case hn | hd | hms | hord | hh => exact rfl))
         | ((with_reducible refine' RD.opFnE exts_ok 93 ?hLL ?hw ?ha ?hf ?hs ?hp ?_); (case hLL | hw | ha | hf => exact rfl); (case hs => first | exact at93 hl hn hxn hk 6 rfl rfl rfl rfl | exact at93 hl hn hxn hk 7 rfl rfl rfl rfl); (case hp => exact rfl))
         | ((with_reducible refine' RD.opFnE exts_ok 96 ?hLL ?hw ?ha ?hf ?hs ?hp ?_); (case hLL | hw | ha | hf => exact rfl); (case hs => exact cix rfl rfl); (case hp => exact rfl))
         | ((with_reducible refine' RD.opFnE exts_ok 96 ?hLL ?hw ?ha ?hf ?hs ?hp ?_); (case hLL | hw | ha | hf => exact rfl); (case hs => exact at96n _ _); (case hp => exact rfl))
         | ((with_reducible refine' RD.opBS ?hLL ?hw ?ho ?hp ?_); (case hLL | hw => exact rfl); (case ho => exact OSem.val exts_ok rfl); (case hp => exact rfl))
         | ((with_reducible refine' RD.app0 exts_ok ?hLL ?hw ?hx ?hy ?ht ?hu ?hi ?hz ?hzl ?hes ?he0 ?hn ?hone ?hm ?hb ?hb2 ?ha ?hp ?_); (case hLL | hw | hx | hy | ht | hu | hi | hz | hzl | hes | he0 | hn | hone => exact rfl); (case hm | hb | hb2 => decide); (case ha | hp => exact rfl))
         | ((with_reducible refine' RD.app1 exts_ok ?hLL ?hw ?hx ?hy ?ht ?hu ?hi ?hz ?hzl ?hes ?he0 ?hn ?hone ?hg ?ho ?hb ?hb2 ?hq ?ha ?hp ?_); (case hLL | hw | hx | hy | ht | hu | hi | hz | hzl | hes | he0 | hn | hone | hg => exact rfl); (case ho => exact takeN_all (by simp [cellsZ_len])); (case hb => (simp; omega)); (case hb2 => (show _ * 8 ≤ _; (simp; omega))); (case hq | ha | hp => exact rfl))
         | (refine S2 ?_ ?_) <;> intro hc <;> try (exfalso; first | omega | (simp at hc; done))
         | refine St ?_
         | ((with_reducible refine RD.nil ?_); (refine' RDk.intro ?oks ?hl ?_); (case hl => exact rfl); (case oks => (repeat' (first | exact True.intro | refine And.intro ?_ ?_ | exact rfl | exact OSem.load1 exts_ok rfl rfl rfl rfl | exact OSem.loadN exts_ok rfl rfl rfl rfl))))
         | refine Sd ?_
         | fail)
        exact ⟨rfl, [0, 1, 2, 3, 4, 5, 7], ⟨rfl, rfl, rfl, RenO.ro (RenVs.plain (cellsN_plain _)), RenO.cells (RenVs.cons (RenV.slice rfl) RenVs.nil), RenO.cells (RenVs.plain rfl), RenO.cells (RenVs.cons (RenV.slice rfl) RenVs.nil), RenO.cells (RenVs.cons (RenV.slice rfl) RenVs.nil), RenO.cells (RenVs.plain rfl), RenO.cells (RenVs.plain rfl), True.intro⟩⟩
      | cons a l =>
        dsimp only [pathH, pathZ]
        simp only [List.length_cons] at hout
        repeat' (first
         | refine S0 ?_
         | refine Sm ?_
         | ((with_reducible refine' RSI.drawE mixed [none, none, none, none, none, none, none, none, none, none] ?hn ?hd ?hms ?hord ?hh ?_); (case hn | hd | hms | hord | hh => exact rfl))
         | ((with_reducible refine' RD.opFnE exts_ok 93 ?hLL ?hw ?ha ?hf ?hs ?hp ?_); (case hLL | hw | ha | hf => exact rfl); (case hs => first | exact at93 hl hn hxn hk 6 rfl rfl rfl rfl | exact at93 hl hn hxn hk 7 rfl rfl rfl rfl); (case hp => exact rfl))
         | ((with_reducible refine' RD.opFnE exts_ok 96 ?hLL ?hw ?ha ?hf ?hs ?hp ?_); (case hLL | hw | ha | hf => exact rfl); (case hs => exact cix rfl rfl); (case hp => exact rfl))
         | ((with_reducible refine' RD.opFnE exts_ok 96 ?hLL ?hw ?ha ?hf ?hs ?hp ?_); (case hLL | hw | ha | hf => exact rfl); (case hs => exact at96n _ _); (case hp => exact rfl))
         | ((with_reducible refine' RD.opBS ?hLL ?hw ?ho ?hp ?_); (case hLL | hw => exact rfl); (case ho => exact OSem.val exts_ok rfl); (case hp => exact rfl))
         | ((with_reducible refine' RD.app0 exts_ok ?hLL ?hw ?hx ?hy ?ht ?hu ?hi ?hz ?hzl ?hes ?he0 ?hn ?hone ?hm ?hb ?hb2 ?ha ?hp ?_); (case hLL | hw | hx | hy | ht | hu | hi | hz | hzl | hes | he0 | hn | hone => exact rfl); (case hm | hb | hb2 => decide); (case ha | hp => exact rfl))
         | ((with_reducible refine' RD.app1 exts_ok ?hLL ?hw ?hx ?hy ?ht ?hu ?hi ?hz ?hzl ?hes ?he0 ?hn ?hone ?hg ?ho ?hb ?hb2 ?hq ?ha ?hp ?_); (case hLL | hw | hx | hy | ht | hu | hi | hz | hzl | hes | he0 | hn | hone | hg => exact rfl); (case ho => exact takeN_all (by simp [cellsZ_len])); (case hb => (simp; omega)); (case hb2 => (show _ * 8 ≤ _; (simp; omega))); (case hq | ha | hp => exact rfl))
         | (refine S2 ?_ ?_) <;> intro hc <;> try (exfalso; first | omega | (simp at hc; done))
         | refine St ?_
         | ((with_reducible refine RD.nil ?_); (refine' RDk.intro ?oks ?hl ?_); (case hl => exact rfl); (case oks => (repeat' (first | exact True.intro | refine And.intro ?_ ?_ | exact rfl | exact OSem.load1 exts_ok rfl rfl rfl rfl | exact OSem.loadN exts_ok rfl rfl rfl rfl))))
         | refine Sd ?_
         | fail)
        exact ⟨rfl, [0, 1, 2, 3, 4, 5, 8], ⟨rfl, rfl, rfl, RenO.ro (RenVs.plain (cellsN_plain _)), RenO.cells (RenVs.cons (RenV.slice rfl) RenVs.nil), RenO.cells (RenVs.plain rfl), RenO.cells (RenVs.cons (RenV.sliceL rfl (by simp)) RenVs.nil), RenO.cells (RenVs.cons (RenV.slice rfl) RenVs.nil), RenO.cells (RenVs.plain rfl), RenO.cells (RenVs.eq (cellsZ_snoc _ _).symm (by rw [← cellsZ_snoc]; exact cellsZ_plain _)), True.intro⟩⟩
    | cons b bs =>
      rw [hk] at hkl
      have cix : ∀ {h : Heap} {i : Nat}, Nat.blt i h.next = true → tells (h.objs.get i) (cellsI (b :: bs)) → CSem Tryz.prog 96 [.slice i 0 (b :: bs).length 1, .int .i64 (cur : Int)] h (.int .i64 (kidZ (b :: bs) cur)) h := fun hi ht => at96 hkl cur hi ht
      generalize kidZ (b :: bs) cur = z at cix ⊢
      cases out with
      | nil =>
        dsimp only [pathH]
        repeat' (first
         | refine S0 ?_
         | refine Sm ?_
         | ((with_reducible refine' RSI.drawE mixed [none, none, none, none, none, none, none, none, none, none] ?hn ?hd ?hms ?hord ?hh ?_); (case hn | hd | hms | hord | hh => exact rfl))
         | ((with_reducible refine' RD.opFnE exts_ok 93 ?hLL ?hw ?ha ?hf ?hs ?hp ?_); (case hLL | hw | ha | hf => exact rfl); (case hs => first | exact at93 hl hn hxn hk 6 rfl rfl rfl rfl | exact at93 hl hn hxn hk 7 rfl rfl rfl rfl); (case hp => exact rfl))
         | ((with_reducible refine' RD.opFnE exts_ok 96 ?hLL ?hw ?ha ?hf ?hs ?hp ?_); (case hLL | hw | ha | hf => exact rfl); (case hs => exact cix rfl rfl); (case hp => exact rfl))
         | ((with_reducible refine' RD.opFnE exts_ok 96 ?hLL ?hw ?ha ?hf ?hs ?hp ?_); (case hLL | hw | ha | hf => exact rfl); (case hs => exact at96n _ _); (case hp => exact rfl))
         | ((with_reducible refine' RD.opBS ?hLL ?hw ?ho ?hp ?_); (case hLL | hw => exact rfl); (case ho => exact OSem.val exts_ok rfl); (case hp => exact rfl))
         | ((with_reducible refine' RD.app0 exts_ok ?hLL ?hw ?hx ?hy ?ht ?hu ?hi ?hz ?hzl ?hes ?he0 ?hn ?hone ?hm ?hb ?hb2 ?ha ?hp ?_); (case hLL | hw | hx | hy | ht | hu | hi | hz | hzl | hes | he0 | hn | hone => exact rfl); (case hm | hb | hb2 => decide); (case ha | hp => exact rfl))
         | ((with_reducible refine' RD.app1 exts_ok ?hLL ?hw ?hx ?hy ?ht ?hu ?hi ?hz ?hzl ?hes ?he0 ?hn ?hone ?hg ?ho ?hb ?hb2 ?hq ?ha ?hp ?_); (case hLL | hw | hx | hy | ht | hu | hi | hz | hzl | hes | he0 | hn | hone | hg => exact rfl); (case ho => exact takeN_all (by simp [cellsZ_len])); (case hb => (simp; omega)); (case hb2 => (show _ * 8 ≤ _; (simp; omega))); (case hq | ha | hp => exact rfl))
         | (refine S2 ?_ ?_) <;> intro hc <;> try (exfalso; first | omega | (simp at hc; done))
         | refine St ?_
         | ((with_reducible refine RD.nil ?_); (refine' RDk.intro ?oks ?hl ?_); (case hl => exact rfl); (case oks => (repeat' (first | exact True.intro | refine And.intro ?_ ?_ | exact rfl | exact OSem.load1 exts_ok rfl rfl rfl rfl | exact OSem.loadN exts_ok rfl rfl rfl rfl))))
         | refine Sd ?_
         | fail)
        exact ⟨rfl, [0, 1, 2, 3, 4, 5, 8], ⟨rfl, rfl, rfl, RenO.ro (RenVs.plain (cellsN_plain _)), RenO.cells (RenVs.cons (RenV.slice rfl) RenVs.nil), RenO.cells (RenVs.plain rfl), RenO.cells (RenVs.cons (RenV.slice rfl) RenVs.nil), RenO.cells (RenVs.cons (RenV.slice rfl) RenVs.nil), RenO.cells (RenVs.plain rfl), RenO.cells (RenVs.plain rfl), True.intro⟩⟩
      | cons a l =>
        dsimp only [pathH, pathZ]
        simp only [List.length_cons] at hout
        repeat' (first
         | refine S0 ?_
         | refine Sm ?_
         | ((with_reducible refine' RSI.drawE mixed [none, none, none, none, none, none, none, none, none, none] ?hn ?hd ?hms ?hord ?hh ?_); (case hn | hd | hms | hord | hh => exact rfl))
         | ((with_reducible refine' RD.opFnE exts_ok 93 ?hLL ?hw ?ha ?hf ?hs ?hp ?_); (case hLL | hw | ha | hf => exact rfl); (case hs => first | exact at93 hl hn hxn hk 6 rfl rfl rfl rfl | exact at93 hl hn hxn hk 7 rfl rfl rfl rfl); (case hp => exact rfl))
         | ((with_reducible refine' RD.opFnE exts_ok 96 ?hLL ?hw ?ha ?hf ?hs ?hp ?_); (case hLL | hw | ha | hf => exact rfl); (case hs => exact cix rfl rfl); (case hp => exact rfl))
         | ((with_reducible refine' RD.opFnE exts_ok 96 ?hLL ?hw ?ha ?hf ?hs ?hp ?_); (case hLL | hw | ha | hf => exact rfl); (case hs => exact at96n _ _); (case hp => exact rfl))
         | ((with_reducible refine' RD.opBS ?hLL ?hw ?ho ?hp ?_); (case hLL | hw => exact rfl); (case ho => exact OSem.val exts_ok rfl); (case hp => exact rfl))
         | ((with_reducible refine' RD.app0 exts_ok ?hLL ?hw ?hx ?hy ?ht ?hu ?hi ?hz ?hzl ?hes ?he0 ?hn ?hone ?hm ?hb ?hb2 ?ha ?hp ?_); (case hLL | hw | hx | hy | ht | hu | hi | hz | hzl | hes | he0 | hn | hone => exact rfl); (case hm | hb | hb2 => decide); (case ha | hp => exact rfl))
         | ((with_reducible refine' RD.app1 exts_ok ?hLL ?hw ?hx ?hy ?ht ?hu ?hi ?hz ?hzl ?hes ?he0 ?hn ?hone ?hg ?ho ?hb ?hb2 ?hq ?ha ?hp ?_); (case hLL | hw | hx | hy | ht | hu | hi | hz | hzl | hes | he0 | hn | hone | hg => exact rfl); (case ho => exact takeN_all (by simp [cellsZ_len])); (case hb => (simp; omega)); (case hb2 => (show _ * 8 ≤ _; (simp; omega))); (case hq | ha | hp => exact rfl))
         | (refine S2 ?_ ?_) <;> intro hc <;> try (exfalso; first | omega | (simp at hc; done))
         | refine St ?_
         | ((with_reducible refine RD.nil ?_); (refine' RDk.intro ?oks ?hl ?_); (case hl => exact rfl); (case oks => (repeat' (first | exact True.intro | refine And.intro ?_ ?_ | exact rfl | exact OSem.load1 exts_ok rfl rfl rfl rfl | exact OSem.loadN exts_ok rfl rfl rfl rfl))))
         | refine Sd ?_
         | fail)
        exact ⟨rfl, [0, 1, 2, 3, 4, 5, 9], ⟨rfl, rfl, rfl, RenO.ro (RenVs.plain (cellsN_plain _)), RenO.cells (RenVs.cons (RenV.slice rfl) RenVs.nil), RenO.cells (RenVs.plain rfl), RenO.cells (RenVs.cons (RenV.sliceL rfl (by simp)) RenVs.nil), RenO.cells (RenVs.cons (RenV.slice rfl) RenVs.nil), RenO.cells (RenVs.plain rfl), RenO.cells (RenVs.eq (cellsZ_snoc _ _).symm (by rw [← cellsZ_snoc]; exact cellsZ_plain _)), True.intro⟩⟩
  case post =>
    have hout : (stepsF (sizes ns) node (ancF (sizeAt ns) node node)).length ≤ 1000 := by rw [stepsF_len]; have := ancF_len (sizeAt ns) node node; omega
    generalize stepsF (sizes ns) node (ancF (sizeAt ns) node node) = out at hout
    generalize lastF node (ancF (sizeAt ns) node node) = cur
    cases out with
    | nil =>
      dsimp only [pathH]
      repeat' (first
       | refine S0 ?_
       | refine Sm ?_
       | refine Sc (at97n _) ?_
       | (refine S2 ?_ ?_) <;> intro hc <;> try (exfalso; first | omega | (simp at hc; done))
       | refine St ?_
       | fail)
      exact ⟨rfl, _, rfl, [0], ⟨rfl, rfl, rfl, RenO.ro (RenVs.plain (cellsN_plain _)), True.intro⟩, RenV.tuple (RenVs.cons RenV.nilslice (RenVs.plain rfl))⟩
    | cons a l =>
      dsimp only [pathH]
      have c97 := sem97 ns node cur (a :: l) hout
      generalize hrv : (a :: l).reverse = rv at c97
      dsimp only [pathZ] at c97
      dsimp only [pathZ]
      repeat' (first
       | refine S0 ?_
       | refine Sm ?_
       | refine Sc c97 ?_
       | (refine S2 ?_ ?_) <;> intro hc <;> try (exfalso; first | omega | (simp at hc; done))
       | refine St ?_
       | fail)
      cases rv with
      | nil => simp at hrv
      | cons b bs =>
        have hbl : (b :: bs).length = (a :: l).length := by rw [← hrv]; simp
        exact ⟨rfl, _, rfl, [0, 6], ⟨rfl, rfl, rfl, RenO.ro (RenVs.plain (cellsN_plain _)), RenO.cells (RenVs.plain (cellsZ_plain _)), True.intro⟩, RenV.tuple (RenVs.cons (RenV.sliceL rfl rfl) (RenVs.plain rfl))⟩
set_option maxHeartbeats 4000000 in
theorem sem48e (ns : List Nd) (o : NdOk ns) (node : Int) (hr : -9223372036854775808 ≤ node ∧ node < 9223372036854775808) (he : findR ns node ≠ 0) (u : AV) (tu : TF 0 ns u) : CSem Tryz.prog 48 [.agg [u], .int .i64 node] (nodesH ns) (.tuple [.nilslice, .int .i64 (findR ns node)]) (nodesH ns) := by
  refine CSem.into Tryz.func48 rfl (by decide) Tryz.ntmps48 rfl rfl rfl ?_
  dsimp only [nodesH]
  repeat' (first
   | refine S0 ?_
   | refine Sm ?_
   | refine Sc (tf66 o hr tu) ?_
   | (refine S2 ?_ ?_) <;> intro hc <;> try (exfalso; first | omega | (simp at hc; done))
   | refine St ?_
   | fail)
  all_goals first
    | (exfalso; omega)
    | exact ⟨rfl, _, rfl, [0], ⟨rfl, rfl, rfl, RenO.ro (RenVs.plain (cellsN_plain _)), True.intro⟩, RenV.tuple (RenVs.plain rfl)⟩
end Go.Am
