/- Part of the proof: ArCore, ArGc, ArTab, ArFn, ArOps, ArLift, ArSeq. -/
import Derived.Test.YtijdeggmmpfjeaaGreatDoorM6
set_option linter.unusedSimpArgs false
set_option linter.unusedVariables false
set_option linter.unusedSectionVars false
namespace Go.Am
open Go Go.RowKit
def CSem (P : Program) (f : FuncId) (args : List AV) (h : Heap) (v : AV) (h' : Heap) : Prop := ∀ B w0 M w, HRel P B w0 M h w → ∀ cargs, concs M args = some cargs →
  Calls P f cargs.toArray w fun e w' => ∃ M' c, Grow h h' M M' ∧ e = .returned c ∧ conc M' v = some c ∧ HRel P B w0 M' h' w'
theorem CSem.of {P : Program} {K : CallK} (hK : CallOk P K) {f : FuncId} {args : List AV} {h h' : Heap} {v : AV} (e : K f args h = some (v, h')) : CSem P f args h v h' := hK f args h v h' e
def OSem (P : Program) (o : Oper) (g : Ev) (h : Heap) (v : AV) (h' : Heap) : Prop := ∀ B w0 M w a, HRel P B w0 M h w → GRel M g a → ∀ (next : Act → World → Prop) (Q : Exit → Act → World → Prop),
  (∀ M' c w', Grow h h' M M' → conc M' v = some c → HRel P B w0 M' h' w' → next (a.put o.dst c) w') → o.wp P a w next Q
theorem OSem.val {P : Program} {ext : FuncId → Bool} (hext : ExtOk P ext) {o : Oper} {g : Ev} {h h' : Heap} {v : AV} (e : aop P ext o g h = some (.val v, h')) : OSem P o g h v h' := by
  intro B w0 M w a r re next Q hn
  exact aopK_sound (K := fun _ _ _ => none) hext (fun _ _ _ _ _ h => nomatch h) (by simp [aopK, e]) r re hn
theorem OSem.skip {P : Program} {ext : FuncId → Bool} (hext : ExtOk P ext) {o : Oper} {g : Ev} {h h' : Heap} (e : aop P ext o g h = some (.skip, h')) : OSem P o g h (.tuple []) h' := by
  intro B w0 M w a r re next Q hn
  exact aopK_sound (K := fun _ _ _ => none) hext (fun _ _ _ _ _ h => nomatch h) (by simp [aopK, e]) r re hn
theorem OSem.x {P : Program} {o : Oper} {g : Ev} {h h' : Heap} {v : AV} (e : aopX P o g h = some (v, h')) : OSem P o g h v h' := by
  intro B w0 M w a r re next Q hn
  obtain ⟨n', w', M', k1, k2, ⟨c, k3, rfl⟩, k4⟩ := aopX_sound e r re
  unfold Oper.wp
  rw [k1]
  exact hn M' c w' k2 k3 k4
theorem OSem.call {P : Program} {ext : FuncId → Bool} (hext : ExtOk P ext) {o : Oper} {g : Ev} {h h1 h' : Heap} {f : FuncId} {args : List AV} {v : AV} (e : aop P ext o g h = some (.enter f args, h1)) (hc : CSem P f args h1 v h') : OSem P o g h v h' := by
  intro B w0 M w a r re next Q hn
  unfold Oper.wp
  obtain ⟨n', w', M', k1, k2, ⟨c, k3, rfl⟩, k4⟩ := aop_sound hext e r re
  rw [k1]
  refine (hc B w0 M' w' k4 c k3).mono ?_
  rintro e w'' ⟨M'', cv, j1, rfl, j2, j3⟩
  exact hn M'' cv w'' (k2.trans j1) j2 j3
end Go.Am
namespace Go.Am
open Go Go.RowKit
def AExit.ends : AExit → Bool
  | .exit _ => false
  | _ => true
end Go.Am
namespace Go.Am
open Go Go.RowKit
theorem CSem.frame {P : Program} {f : FuncId} {args : List AV} {v : AV} {h1 : Heap} (hc : CSem P f args ⟨.leaf, 0⟩ v h1) (ha : plains args = true) (hv : plain1 v = true) (h : Heap) : CSem P f args h v h := by
  intro B w0 M w r cargs hca
  have hc0 : concs (fun _ => none) args = some cargs := by rw [plains_concs (M' := M) ha]; exact hca
  refine (hc w.heap.size w (fun _ => none) w (HRel.none w r.known) cargs hc0).mono ?_
  rintro e w' ⟨M1, c, g1, rfl, hcv, r1⟩
  exact ⟨M, c, Grow.refl _ M, rfl, by rw [plain1_conc hv M M1]; exact hcv, r.after r1.below⟩
def isV (o : Option (AV × Heap)) (v : AV) : Bool :=
  match o with
  | some (u, _) => plain1 u && veq1 u v
  | none => false
def tabOk (K : CallK) (f : FuncId) : List AV → Nat → Bool
  | [], _ => true
  | v :: vs, k => isV (K f [.int .u8 (.ofNat k)] ⟨.leaf, 0⟩) v && tabOk K f vs (k + 1)
theorem tabOk_get {K : CallK} {f : FuncId} : ∀ {l : List AV} {k : Nat}, tabOk K f l k = true → ∀ (j : Nat) (v : AV), l[j]? = some v → isV (K f [.int .u8 (.ofNat (k + j))] ⟨.leaf, 0⟩) v = true
  | [], _, _, j, v, hj => by simp at hj
  | x :: l, k, h, j, v, hj => by
    simp only [tabOk, Bool.and_eq_true] at h
    cases j with
    | zero => simp only [List.getElem?_cons_zero, Option.some.injEq] at hj; subst hj; exact h.1
    | succ j =>
      simp only [List.getElem?_cons_succ] at hj
      rw [show k + (j + 1) = k + 1 + j by omega]
      exact tabOk_get h.2 j v hj
theorem CSem.tab {P : Program} {K : CallK} (hK : CallOk P K) {f : FuncId} {tab : List AV} (ht : tabOk K f tab 0 = true) {k : Nat} {v : AV} (hv : tab[k]? = some v) (h : Heap) : CSem P f [.int .u8 (.ofNat k)] h v h := by
  have := tabOk_get ht k v hv
  rw [Nat.zero_add] at this
  unfold isV at this
  split at this
  · rename_i u h1 he
    simp only [Bool.and_eq_true] at this
    have hu := veq1_eq this.2
    subst hu
    exact (CSem.of hK he).frame (by rfl) this.1 h
  · cases this
end Go.Am
namespace Go.Am
open Go Go.RowKit
theorem inI_i64 {x : Int} (h0 : -9223372036854775808 ≤ x) (h1 : x < 9223372036854775808) : inI .i64 x = true := by
  cases x with
  | ofNat n =>
    simp only [inI, blt_iff, decide_eq_true_eq]
    have : (Int.ofNat n : Int) = (n : Int) := rfl
    omega
  | negSucc n =>
    simp only [inI, blt_iff, decide_eq_true_eq]
    omega
end Go.Am
namespace Go.Am
open Go Go.RowKit
variable {P : Program} {ext : FuncId → Bool} {d : Option Tmp} {ty : TypeId} {pos : String} {af : Array Edge} {gd : Option (Nat × Bool)} {g : Ev} {h : Heap}
theorem abin_add {t : TypeId} {x y : Operand} (a b : Int) : abin P .add t x y (.int .i64 a) (.int .i64 b) = bif inI .i64 (a + b) then some (.int .i64 (a + b)) else none := rfl
theorem abin_sub {t : TypeId} {x y : Operand} (a b : Int) : abin P .sub t x y (.int .i64 a) (.int .i64 b) = bif inI .i64 (a - b) then some (.int .i64 (a - b)) else none := rfl
theorem abin_str {op : BinOp} {t : TypeId} {x y : Operand} (a b : List UInt8) : abin P op t x y (.str a) (.str b) = aStr op a b := rfl
theorem OSem.add (hext : ExtOk P ext) {t t' : TypeId} {x y : Operand} {a b : Int} (hx : g x = some (.int .i64 a)) (hy : g y = some (.int .i64 b)) (hi : inI .i64 (a + b) = true) :
    OSem P ⟨d, .binOp .add t x y t', ty, pos, af, gd⟩ g h (.int .i64 (a + b)) h :=
  OSem.val hext (by simp [aop, b1, hx, hy, abin_add, abin_sub, hi, aval])
theorem OSem.sub (hext : ExtOk P ext) {t t' : TypeId} {x y : Operand} {a b : Int} (hx : g x = some (.int .i64 a)) (hy : g y = some (.int .i64 b)) (hi : inI .i64 (a - b) = true) :
    OSem P ⟨d, .binOp .sub t x y t', ty, pos, af, gd⟩ g h (.int .i64 (a - b)) h :=
  OSem.val hext (by simp [aop, b1, hx, hy, abin_add, abin_sub, hi, aval])
theorem OSem.cat (hext : ExtOk P ext) {t t' : TypeId} {x y : Operand} {v : AV} {a b : List UInt8} (hx : g x = some (.str a)) (hy : g y = some (.str b)) (hv : aStr .add a b = some v) :
    OSem P ⟨d, .binOp .add t x y t', ty, pos, af, gd⟩ g h v h :=
  OSem.val hext (by simp [aop, b1, hx, hy, abin_str, hv, aval])
theorem OSem.indexAddr (hext : ExtOk P ext) {t e : TypeId} {x y : Operand} {i k len es : Nat} {m : Nat} {kd : IntKind} {n : Int} (hx : g x = some (.slice i k len es)) (hy : g y = some (.int kd n)) (hu : P.underlying t = some (.slice e)) (hi : (P.info? e).isSome = true) (hes : Nat.beq (P.cellsOf e) es = true)
    (hn : n = .ofNat m) (hlt : m < len) : OSem P ⟨d, .indexAddr t x y, ty, pos, af, gd⟩ g h (.ptr i (k * es + m * es)) h := by
  subst hn
  have hb : Nat.blt m len = true := by rw [blt_iff]; simp [hlt]
  exact OSem.val hext (by simp [aop, b1, hx, hy, aindexAddr, natOf, hu, hi, hes, hb, aval])
theorem OSem.load1 (hext : ExtOk P ext) {t : TypeId} {x : Operand} {i off : Nat} {D : TypeDesc} {v : AV} (hx : g x = some (.ptr i off)) (hu : P.underlying t = some D) (hD : isAggB D = false) (hv : acells h i off 1 = some [v]) : OSem P ⟨d, .load t x, ty, pos, af, gd⟩ g h v h :=
  OSem.val hext (by simp [aop, b1, hx, aload, hu, hD, hv, aval])
theorem OSem.loadN (hext : ExtOk P ext) {t : TypeId} {x : Operand} {i off : Nat} {D : TypeDesc} {l : List AV} (hx : g x = some (.ptr i off)) (hu : P.underlying t = some D) (hD : isAggB D = true) (hv : acells h i off (P.cellsOf t) = some l) : OSem P ⟨d, .load t x, ty, pos, af, gd⟩ g h (.agg l) h :=
  OSem.val hext (by simp [aop, b1, hx, aload, hu, hD, hv, aval])
theorem takeN_of {α : Type} : ∀ {n : Nat} {l : List α}, n ≤ l.length → takeN n l = some (l.take n)
  | 0, l, _ => by cases l <;> rfl
  | n + 1, [], h => by simp at h
  | n + 1, x :: l, h => by
    have : n ≤ l.length := by simpa using h
    simp [takeN, takeN_of this]
theorem flat_drop {α : Type} {es : Nat} {row : α → List AV} (hrow : ∀ x, (row x).length = es) : ∀ (L : List α) (x : Nat), (L.flatMap row).drop (x * es) = (L.drop x).flatMap row
  | [], x => by simp
  | a :: L, 0 => by simp
  | a :: L, x + 1 => by
    have hl : (row a).length = es := hrow a
    rw [List.flatMap_cons, show (x + 1) * es = (row a).length + x * es by rw [Nat.add_mul, hl]; omega, ← List.drop_drop, List.drop_left, flat_drop hrow L x]
    simp
theorem flat_take {α : Type} {es : Nat} {row : α → List AV} (hrow : ∀ x, (row x).length = es) {L : List α} {x : Nat} {a : α} (hx : L[x]? = some a) {j n : Nat} (hj : j + n ≤ es) : takeN n ((L.flatMap row).drop (x * es + j)) = some (((row a).drop j).take n) := by
  have hlt := (List.getElem?_eq_some_iff.1 hx).1
  have ha : L.drop x = a :: L.drop (x + 1) := by
    rw [List.drop_eq_getElem_cons hlt, (List.getElem?_eq_some_iff.1 hx).2]
  rw [← List.drop_drop, flat_drop hrow, ha, List.flatMap_cons, List.drop_append_of_le_length (by rw [hrow]; omega)]
  rw [takeN_of (by simp [hrow]; omega), List.take_append_of_le_length (by simp [hrow]; omega)]
end Go.Am
namespace Go.Am
open Go Go.RowKit
def tells (o : Option AObj) (c : List AV) : Prop :=
  match o with
  | some (.cells _ _ c' _) => c' = c
  | some (.ro _ _ c') => c' = c
  | _ => False
def Map.via (M : Map) (s : List Nat) : Map := fun j => (s[j]?).bind M
theorem via_ok {P : Program} {B : Nat} {w0 w : World} {M : Map} {h h0 : Heap} (r : HRel P B w0 M h w) {s : List Nat} (hn : h0.next = s.length)
    (ho : ∀ (j i : Nat), s[j]? = some i → ∃ e es c, h0.objs.get j = some (.ro e es c) ∧ plains c = true ∧ tells (h.objs.get i) c) : HRel P w.heap.size w (M.via s) h0 w := by
  refine ⟨BelowM.refl _ _, ⟨Nat.le_refl _, r.known⟩, fun i hi => ?_, fun j p hp => ?_, fun j k p q hp hq hpq lj lk => ?_⟩
  · simp only [Map.via]
    rw [List.getElem?_eq_none (by omega)]
    rfl
  · simp only [Map.via, Option.bind_eq_some_iff] at hp
    obtain ⟨i, hi, hp⟩ := hp
    obtain ⟨e, es, c, h1, h2, h3⟩ := ho j i hi
    obtain ⟨k1, k2, k3⟩ := r.obj i p hp
    refine ⟨fun o hh hr => ?_, k2, ?_⟩
    · rw [h1] at hh
      simp only [Option.some.injEq] at hh
      subst hh
      cases hr
    · rw [h1]
      unfold tells at h3
      split at h3
      · rename_i e' es' c' ex hg
        subst h3
        rw [hg] at k3
        obtain ⟨p0, p1, p2, p3, p4, arr, p5, p6, p7, p8, p9⟩ := k3
        intro x a ha
        obtain ⟨y, y1, y2⟩ := p9 x a ha
        exact ⟨y, by rw [plains_conc h2 x a ha (M' := M)]; exact y1, by rw [p5, p0, Nat.zero_add]; exact y2⟩
      · rename_i e' es' c' hg
        subst h3
        rw [hg] at k3
        intro x a ha
        obtain ⟨y, y1, y2⟩ := k3 x a ha
        exact ⟨y, by rw [plains_conc h2 x a ha (M' := M)]; exact y1, y2⟩
      · cases h3
  · simp only [Map.via, Option.bind_eq_some_iff] at hp
    obtain ⟨i, hi, hp⟩ := hp
    obtain ⟨e, es, c, h1, h2, h3⟩ := ho j i hi
    obtain ⟨o, ho', hr⟩ := lj
    rw [h1] at ho'
    simp only [Option.some.injEq] at ho'
    subst ho'
    cases hr
end Go.Am
namespace Go.Am
open Go Go.RowKit
end Go.Am
